/-
  DevLives.
-/
import Derived.Test.YteeamlidmkpohaaSe
import Derived.Test.YteeamlidmkpohaaAr
set_option linter.unusedVariables false
set_option linter.unusedSimpArgs false
namespace Go.Proofs.Yteeamlidmkpohaa
open Go.RowKit Go.Sort

theorem DosAt.below {w w' : World} {A : Option Addr} {l : List Do8} (h : DosAt w A l) (hb : Below w.heap.size w w') : DosAt w' A l := fun i x hx => by
  obtain ⟨ad, e, h1⟩ := h i x hx
  exact ⟨ad, e, h1.below hb⟩
theorem DosIs.below {w w' : World} {v : Value} {l : List Do8} (h : DosIs w v l) (hb : Below w.heap.size w w') : DosIs w' v l := by
  obtain ⟨A, c, e, h1, h2, h3⟩ := h
  exact ⟨A, c, e, h1, h2, h3.below hb⟩
theorem DosAt.take {w : World} {A : Option Addr} {l : List Do8} (h : DosAt w A l) (n : Nat) : DosAt w A (l.take n) := fun i x hx => by
  rcases Nat.lt_or_ge i n with h1 | h1
  · rw [List.getElem?_take_of_lt h1] at hx
    exact h i x hx
  · rw [List.getElem?_eq_none (by simp; omega)] at hx; cases hx
theorem DoAt.okk {w0 w : World} {ad : Addr} {x : Do8} (h0 : DoAt w0 ad x) (h : DoAt w ad x) (hl : x.fs.length ≤ 1000) : DoOk w0 w x :=
  ⟨h.i0, h.i1, h.i2, h.i3, h.ints, fun hn => h0.ints.lt hn, hl⟩

set_option maxRecDepth 100000
/-- the ends of the law: nobody is there -/
theorem devLives_none (w : World) (n : Int) (v : Value) (l : List Do8) (hl : DosIs w v l) (hn : n < 1 ∨ 262144 < n) :
    Calls Try.prog 11 #[.int .i64 n, v] w fun e w' => e = .returned (.bool true) ∧ Below w.heap.size w w' := by
  obtain ⟨A, c, rfl, hlc, hcm, hA⟩ := hl
  have hd := dnew_none w n hn
  have hr := rnew_none w n hn
  have HD := Lib.hid hd
  have HR := Lib.hid hr
  clear hd hr hn
  by_cases h80 : 80 < l.length
  all_goals
    go_enter Try.func11, Try.ntmps11
    go_wp2_with
      (first
        | (go_at_call 50; refine HD.out.mono ?_; rintro e w1 ⟨rfl, rfl⟩)
        | (go_at_call 70; refine HR.out.mono ?_; rintro e w1 ⟨rfl, rfl⟩)
        | (go_at_call 49; refine (awake08 _).mono ?_; rintro e w1 ⟨rfl, hb⟩))
    go_ret
    exact ⟨rfl, hb⟩
set_option maxHeartbeats 4000000 in
theorem devLives_some (w : World) (n : Int) (v : Value) (l : List Do8) (hl : DosIs w v l) (h1 : 1 ≤ n) (h2 : n ≤ 262144) :
    Calls Try.prog 11 #[.int .i64 n, v] w fun e w' => e = .returned (.bool true) ∧ Below w.heap.size w w' := by
  obtain ⟨A, c, rfl, hlc, hcm, hA0⟩ := hl
  have hB := Below.refl w.heap.size w
  by_cases h80 : 80 < l.length
  · have hm : 80 = (l.take 80).length := by simp; omega
    have hA := hA0.take 80
    generalize l.take 80 = l' at hm hA
    have hlc' : l'.length ≤ c := by omega
    have hl8 : l'.length ≤ 80 := by omega
    have HM := Lib.hid hm
    clear hm
    go_enter Try.func11, Try.ntmps11
    go_wp2_with
      (first
        | (go_at_call 50; refine (Dev.new_ _ hB n h1 h2).mono ?_; rintro e w1 ⟨rfl, hD, hb1⟩; have hB1 := below_trans' hB hb1)
        | (go_at_call 70; refine (Ref.new _ _ hB1 n h1 h2).mono ?_; rintro e w2 ⟨rfl, hR, hb2⟩; have hD2 := hD.below hb2))
    have hP : Pair w w2 (w.heap.size + 2) w.heap.size (w.heap.size + 1) w1.heap.size (.slice none 0 0) [] (fun _ => False) (Dk.new n) := by
      refine ⟨hD2, hR, fun b e e2 => ?_, fun b e e2 => e2⟩
      have h9 := hD.lt b e
      rcases e2 with e2 | e2
      · omega
      · cases e2
    clear hD hR hD2 hb1 hb2 hB1 hB
    generalize w.heap.size + 2 = p at hP ⊢
    generalize w.heap.size + 1 = mo at hP ⊢
    generalize hms : w.heap.size = ms at hP ⊢
    generalize w1.heap.size = r at hP ⊢
    have HMS := Lib.hid hms
    clear hms
    go_loopw [7] (fun t wr => ∃ k : Nat, k ≤ 80 ∧ t = .int .i64 k ∧ ∃ (D : Dk) (lv : Value) (L : List RS) (Y : Nat → Prop), Pair w wr p ms mo r lv L Y D) (fun t _ => 80 - (intOf t).toNat)
    case atStart => exact ⟨0, by omega, rfl, _, _, _, _, hP⟩
    case round =>
      obtain ⟨k, hk, rfl, D, lv, L, Y, hPr⟩ := hrel
      clear hP
      have hbr := hPr.dv.be
      by_cases hlt : k < 80
      · obtain ⟨ad, x, rfl, hx, hdo0⟩ := hA.at_ k (by have := HM.out; omega)
        have hdo := hdo0.below hbr
        have c0 := hdo.c0
        have c1 := hdo.c1
        have c2 := hdo.c2
        have c3 := hdo.c3
        have c4 := hdo.c4
        have HOK := Lib.hid (fun hl => DoAt.okk hdo0 hdo hl)
        obtain ⟨Af, cf, hfv, hf1, hf2, _⟩ := hdo.ints
        have hfl : x.fs.length ≤ 9223372036854775807 := by simp only [maxLen] at hf2; omega
        have hval : x.val = .agg #[.int .i64 x.op, .int .i64 x.sec, .int .i64 x.n, .int .u8 x.byte, .slice Af x.fs.length cf] := by unfold Do8.val; rw [hfv]
        rw [hfv] at c4
        have HX := Lib.hid hx
        have HBR := Lib.hid hbr
        have HV := Lib.hid hval
        clear hx hdo hdo0 hbr hfv hval hf1 hf2
        by_cases hbig : 1000 < x.fs.length
        · go_wp2_with
            (first
              | (go_at_call 49; refine (awake08 _).mono ?_; rintro e w5 ⟨rfl, hb5⟩))
          go_ret
          exact ⟨rfl, below_trans' HBR.out hb5⟩
        · have hst := step_any hPr x (HOK.out (by omega))
          rw [HV.out] at hst
          have HST := Lib.hid hst
          clear hst
          go_wp2_with
            (first
              | (go_at_call 71; refine HST.out.mono ?_; rintro e w5 ⟨rfl, hsp⟩; obtain ⟨lv5, L5, Y5, hP5, _, _, _⟩ := hsp; have hneq : ((x.does D).down != (x.does D).down) = false := (by simp))
              | (go_at_call 59; refine (hP5.dv.isDown rfl).mono ?_; rintro e w6 ⟨rfl, rfl⟩)
              | (go_at_call 72; refine hP5.rf.isDown.mono ?_; rintro e w6 ⟨rfl, rfl⟩))
          go_roundw
          case rel => exact ⟨k + 1, by omega, by go_num, _, _, _, _, hP5⟩
          case measure => simp [intOf]; omega
      · obtain rfl : k = 80 := by omega
        have hls : DosIs wr (.slice A 80 c) l' := ⟨A, c, by first | rfl | rw [← HM.out], hlc', hcm, hA.below hbr⟩
        have HLS := Lib.hid hls
        have HBR := Lib.hid hbr
        clear hls hbr hlt
        go_wp2_with
          (first
            | (go_at_call 73; refine (like_any hPr _ _ HLS.out).mono ?_; rintro e w5 ⟨rfl, hb5⟩; have hP5 := hPr.below hb5; have HLS5 := Lib.hid (HLS.out.below hb5); clear HLS hPr)
            | (go_at_call 54; refine (hP5.dv.wake (IntsIs.nil _) (fun h => absurd rfl h)).mono ?_; rintro e w6 ⟨rfl, hD6, hc6⟩; have hmid := hP5.mid hc6)
            | (go_at_call 74; refine (hmid.wake (IntsIs.nil _) (fun h => absurd rfl h)).mono ?_; rintro e w7 ⟨L7, rfl, hR7, hc7⟩; have hst := hP5.step hD6 hc6 hR7 hc7 (Fresh.refl _ _) (Fresh.refl _ _); have hP7 := hst.1; have HLS7 : Hid (DosIs w7 (.slice A 80 c) l') := Lib.hid (⟨A, c, by first | rfl | rw [← HM.out], hlc', hcm, hA.below hP7.dv.be⟩); clear hP5 HLS5 hst hmid hD6 hR7)
            | (go_at_call 73; refine (like_any hP7 _ _ HLS7.out).mono ?_; rintro e w8 ⟨rfl, hb8⟩; have hB8 := below_trans' hP7.dv.be hb8)
            | (go_at_call 49; refine (awake08 _).mono ?_; rintro e w9 ⟨rfl, hb9⟩))
        go_ret
        exact ⟨rfl, below_trans' hB8 hb9⟩
  · have hA := hA0
    have hlc' := hlc
    have hl8 : l.length ≤ 80 := by omega
    have HM : Hid (l.length = l.length) := Lib.hid rfl
    go_enter Try.func11, Try.ntmps11
    go_wp2_with
      (first
        | (go_at_call 50; refine (Dev.new_ _ hB n h1 h2).mono ?_; rintro e w1 ⟨rfl, hD, hb1⟩; have hB1 := below_trans' hB hb1)
        | (go_at_call 70; refine (Ref.new _ _ hB1 n h1 h2).mono ?_; rintro e w2 ⟨rfl, hR, hb2⟩; have hD2 := hD.below hb2))
    have hP : Pair w w2 (w.heap.size + 2) w.heap.size (w.heap.size + 1) w1.heap.size (.slice none 0 0) [] (fun _ => False) (Dk.new n) := by
      refine ⟨hD2, hR, fun b e e2 => ?_, fun b e e2 => e2⟩
      have h9 := hD.lt b e
      rcases e2 with e2 | e2
      · omega
      · cases e2
    clear hD hR hD2 hb1 hb2 hB1 hB
    generalize w.heap.size + 2 = p at hP ⊢
    generalize w.heap.size + 1 = mo at hP ⊢
    generalize hms : w.heap.size = ms at hP ⊢
    generalize w1.heap.size = r at hP ⊢
    have HMS := Lib.hid hms
    clear hms
    go_loopw [7] (fun t wr => ∃ k : Nat, k ≤ l.length ∧ t = .int .i64 k ∧ ∃ (D : Dk) (lv : Value) (L : List RS) (Y : Nat → Prop), Pair w wr p ms mo r lv L Y D) (fun t _ => l.length - (intOf t).toNat)
    case atStart => exact ⟨0, by omega, rfl, _, _, _, _, hP⟩
    case round =>
      obtain ⟨k, hk, rfl, D, lv, L, Y, hPr⟩ := hrel
      clear hP
      have hbr := hPr.dv.be
      by_cases hlt : k < l.length
      · obtain ⟨ad, x, rfl, hx, hdo0⟩ := hA.at_ k (by have := HM.out; omega)
        have hdo := hdo0.below hbr
        have c0 := hdo.c0
        have c1 := hdo.c1
        have c2 := hdo.c2
        have c3 := hdo.c3
        have c4 := hdo.c4
        have HOK := Lib.hid (fun hl => DoAt.okk hdo0 hdo hl)
        obtain ⟨Af, cf, hfv, hf1, hf2, _⟩ := hdo.ints
        have hfl : x.fs.length ≤ 9223372036854775807 := by simp only [maxLen] at hf2; omega
        have hval : x.val = .agg #[.int .i64 x.op, .int .i64 x.sec, .int .i64 x.n, .int .u8 x.byte, .slice Af x.fs.length cf] := by unfold Do8.val; rw [hfv]
        rw [hfv] at c4
        have HX := Lib.hid hx
        have HBR := Lib.hid hbr
        have HV := Lib.hid hval
        clear hx hdo hdo0 hbr hfv hval hf1 hf2
        by_cases hbig : 1000 < x.fs.length
        · go_wp2_with
            (first
              | (go_at_call 49; refine (awake08 _).mono ?_; rintro e w5 ⟨rfl, hb5⟩))
          go_ret
          exact ⟨rfl, below_trans' HBR.out hb5⟩
        · have hst := step_any hPr x (HOK.out (by omega))
          rw [HV.out] at hst
          have HST := Lib.hid hst
          clear hst
          go_wp2_with
            (first
              | (go_at_call 71; refine HST.out.mono ?_; rintro e w5 ⟨rfl, hsp⟩; obtain ⟨lv5, L5, Y5, hP5, _, _, _⟩ := hsp; have hneq : ((x.does D).down != (x.does D).down) = false := (by simp))
              | (go_at_call 59; refine (hP5.dv.isDown rfl).mono ?_; rintro e w6 ⟨rfl, rfl⟩)
              | (go_at_call 72; refine hP5.rf.isDown.mono ?_; rintro e w6 ⟨rfl, rfl⟩))
          go_roundw
          case rel => exact ⟨k + 1, by omega, by go_num, _, _, _, _, hP5⟩
          case measure => simp [intOf]; omega
      · obtain rfl : k = l.length := by omega
        have hls : DosIs wr (.slice A l.length c) l := ⟨A, c, by first | rfl | rw [← HM.out], hlc', hcm, hA.below hbr⟩
        have HLS := Lib.hid hls
        have HBR := Lib.hid hbr
        clear hls hbr hlt
        go_wp2_with
          (first
            | (go_at_call 73; refine (like_any hPr _ _ HLS.out).mono ?_; rintro e w5 ⟨rfl, hb5⟩; have hP5 := hPr.below hb5; have HLS5 := Lib.hid (HLS.out.below hb5); clear HLS hPr)
            | (go_at_call 54; refine (hP5.dv.wake (IntsIs.nil _) (fun h => absurd rfl h)).mono ?_; rintro e w6 ⟨rfl, hD6, hc6⟩; have hmid := hP5.mid hc6)
            | (go_at_call 74; refine (hmid.wake (IntsIs.nil _) (fun h => absurd rfl h)).mono ?_; rintro e w7 ⟨L7, rfl, hR7, hc7⟩; have hst := hP5.step hD6 hc6 hR7 hc7 (Fresh.refl _ _) (Fresh.refl _ _); have hP7 := hst.1; have HLS7 : Hid (DosIs w7 (.slice A l.length c) l) := Lib.hid (⟨A, c, by first | rfl | rw [← HM.out], hlc', hcm, hA.below hP7.dv.be⟩); clear hP5 HLS5 hst hmid hD6 hR7)
            | (go_at_call 73; refine (like_any hP7 _ _ HLS7.out).mono ?_; rintro e w8 ⟨rfl, hb8⟩; have hB8 := below_trans' hP7.dv.be hb8)
            | (go_at_call 49; refine (awake08 _).mono ?_; rintro e w9 ⟨rfl, hb9⟩))
        go_ret
        exact ⟨rfl, below_trans' hB8 hb9⟩
theorem devLives_row (w : World) {v0 v1 : Value} {a : Int} {l : List Do8} (A0 : ArgInt v0 a) (A1 : DosIs w v1 l) :
    Calls Try.prog 11 #[v0, v1] w fun e w' => e = .returned (.bool true) ∧ Below w.heap.size w w' := by
  obtain ⟨rfl, _⟩ := A0
  by_cases h : 1 ≤ a ∧ a ≤ 262144
  · exact devLives_some w a v1 l A1 h.1 h.2
  · exact devLives_none w a v1 l A1 (by omega)
end Go.Proofs.Yteeamlidmkpohaa
