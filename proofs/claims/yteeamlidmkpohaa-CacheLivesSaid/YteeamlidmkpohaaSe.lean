/-
  like: both disks have the same bytes.
-/
import Derived.Test.YteeamlidmkpohaaSd
set_option linter.unusedVariables false
set_option linter.unusedSimpArgs false
namespace Go.Proofs.Yteeamlidmkpohaa
open Go.RowKit Go.Sort

section
variable {w0 w w' : World} {p ms mo r : Nat} {lv : Value} {L : List RS} {Y : Nat → Prop} {D : Dk}
theorem rowC_bytes {w : World} {g n : Nat} {l : List Int} (h : RowC w g 5 (bytesV l)) (hn : l.length = n) (hm : n ≤ maxLen) : BytesIs w (.slice (some ⟨g, 0, none⟩) n n) l := by
  have := RowC.vals (n := n) (c := n) h (by rw [bytesV_len]; omega) (by omega) hm
  rw [List.take_of_length_le (by rw [bytesV_len]; omega)] at this
  exact this.bytes
theorem Dev.bytes (h : Dev w0 w p ms mo D) (N : Nat) (hN : D.n = N) :
    Calls Try.prog 79 #[.pointer (some ⟨p, 0, none⟩)] w fun e w' => ∃ v, e = .returned v ∧ BytesIs w' v (D.all N) ∧ (∀ b, v.ownBlock = some b → w.heap.size ≤ b) ∧ Below w.heap.size w w' := by
  have hn2 := h.ok.n2
  refine (dbytes_any w p ms mo D h.at_ N hN).mono ?_
  rintro e w' ⟨rfl, hr, hb⟩
  exact ⟨_, rfl, rowC_bytes hr (Dk.all_len h.ok N) (by simp only [maxLen]; omega), fun b e => by simp [Value.ownBlock] at e; omega, hb⟩
theorem Ref.bytes' (h : Ref w0 w r lv L Y D) (N : Nat) (hN : D.n = N) :
    Calls Try.prog 81 #[.pointer (some ⟨r, 0, none⟩)] w fun e w' => ∃ v, e = .returned v ∧ BytesIs w' v (D.all N) ∧ (∀ b, v.ownBlock = some b → w.heap.size ≤ b) ∧ Below w.heap.size w w' := by
  refine (h.bytes N hN).mono ?_
  rintro e w' ⟨v, rfl, ho, hb⟩
  exact ⟨v, rfl, BytesIs.of_own (Dk.all_len h.ok N) ho, own_fresh ho, hb⟩

set_option maxRecDepth 100000
set_option maxHeartbeats 2000000 in
theorem like_any (h : Pair w0 w p ms mo r lv L Y D) (v : Value) (l : List Do8) (hl : DosIs w v l) :
    Calls Try.prog 73 #[.pointer (some ⟨p, 0, none⟩), .pointer (some ⟨r, 0, none⟩), v] w fun e w' => e = .returned (.bool true) ∧ Below w.heap.size w w' := by
  obtain ⟨A, c, rfl, hlc, hcm, hA⟩ := hl
  have hn1 := h.dv.ok.n1
  obtain ⟨N, hN⟩ : ∃ N : Nat, D.n = N := ⟨D.n.toNat, by omega⟩
  have hlen : l.length ≤ 9223372036854775807 := by simp only [maxLen] at hcm; omega
  have hB := Below.refl w.heap.size w
  have hneq : (D.down != D.down) = false := by simp
  have hN1 : 1 ≤ N := by omega
  have HN := Lib.hid hN
  have H := Lib.hid h
  clear hN hn1
  by_cases h9 : N < 9
  · go_enter Try.func73, Try.ntmps73
    go_wp2_with
      (first
        | (go_at_call 59; refine (h.dv.isDown (d := D.down) rfl).mono ?_; rintro e w1 ⟨rfl, rfl⟩)
        | (go_at_call 72; refine h.rf.isDown.mono ?_; rintro e w1 ⟨rfl, rfl⟩)
        | (go_at_call 56; refine (h.dv.sectors (n := (N : Int)) HN.out).mono ?_; rintro e w1 ⟨rfl, rfl⟩)
        | (go_at_call 112; refine (HN.out ▸ h.rf.sectors).mono ?_; rintro e w1 ⟨rfl, rfl⟩)
        | (go_at_call 79; refine (h.dv.bytes N HN.out).mono ?_; rintro e w1 ⟨va, rfl, hva, hfa, hb1⟩; replace hB := below_trans' hB hb1; have h1 := h.below hb1; clear hb1)
        | (go_at_call 81; refine (h1.rf.bytes' N HN.out).mono ?_; rintro e w1 ⟨vb, rfl, hvb, hfb, hb1⟩; replace hB := below_trans' hB hb1; replace hva := hva.below hb1; have h2 := h1.below hb1; clear hb1)
        | (go_at_call 58; refine (sameBytes_eq _ _ _ _ hva hvb).mono ?_; rintro e w1 ⟨rfl, hb1⟩; replace hB := below_trans' hB hb1; have h3 := h2.below hb1; clear hb1))
    clear hva hvb hfa hfb h1 h2 h3
    clear h
    go_loopw [7] (fun t wr => ∃ k : Nat, k ≤ l.length ∧ t = .int .i64 k ∧ Below w.heap.size w wr) (fun t _ => l.length - (intOf t).toNat)
    case atStart => exact ⟨0, by omega, rfl, hB⟩
    case round =>
      obtain ⟨k, hk, rfl, hbr⟩ := hrel
      clear hB
      by_cases hlt : k < l.length
      · obtain ⟨ad, x, rfl, hx, hdo0⟩ := hA.at_ k hlt
        have hdo := hdo0.below hbr
        have c1 := hdo.c1
        have hPr := H.out.below hbr
        have hmm : (D.may x.sec != D.may x.sec) = false := by simp
        have HX := Lib.hid hx
        have HBR := Lib.hid hbr
        clear hx hdo hdo0 hbr
        go_wp2_with
          (first
            | (go_at_call 55; refine (hPr.dv.reads _).mono ?_; rintro e w5 ⟨va, rfl, hva, hfa, hb5⟩; have hP5 := hPr.below hb5; have c1' := (hb5.cell (p := ⟨(ad.add (k * 5)).block, (ad.add (k * 5)).off + 1, none⟩) (cell_lt c1)).trans c1; have HB5 := Lib.hid hb5; clear hb5)
            | (go_at_call 141; refine (hP5.rf.reads _).mono ?_; rintro e w6 ⟨vb, rfl, hvb, hfb, hb6⟩; have hva6 := hva.below hb6; have HB6 := Lib.hid hb6; clear hb6)
            | (go_at_call 58; refine (sameBytes_eq _ _ _ _ hva6 hvb).mono ?_; rintro e w7 ⟨rfl, hb7⟩; have HB7 := Lib.hid hb7; clear hb7))
        go_roundw
        case rel => exact ⟨k + 1, by omega, by go_num, below_trans' (below_trans' (below_trans' HBR.out HB5.out) HB6.out) HB7.out⟩
        case measure => simp [intOf]; omega
      · obtain rfl : k = l.length := by omega
        have HBR := Lib.hid hbr
        clear hbr
        go_wp2_with fail
        go_ret
        exact ⟨rfl, HBR.out⟩
  · have h9' : decide ((N : Int) < 9) = false := by simp; omega
    go_enter Try.func73, Try.ntmps73
    go_wp2_with
      (first
        | (go_at_call 59; refine (h.dv.isDown (d := D.down) rfl).mono ?_; rintro e w1 ⟨rfl, rfl⟩)
        | (go_at_call 72; refine h.rf.isDown.mono ?_; rintro e w1 ⟨rfl, rfl⟩)
        | (go_at_call 56; refine (h.dv.sectors (n := (N : Int)) HN.out).mono ?_; rintro e w1 ⟨rfl, rfl⟩)
        | (go_at_call 112; refine (HN.out ▸ h.rf.sectors).mono ?_; rintro e w1 ⟨rfl, rfl⟩))
    clear h
    go_loopw [7] (fun t wr => ∃ k : Nat, k ≤ l.length ∧ t = .int .i64 k ∧ Below w.heap.size w wr) (fun t _ => l.length - (intOf t).toNat)
    case atStart => exact ⟨0, by omega, rfl, hB⟩
    case round =>
      obtain ⟨k, hk, rfl, hbr⟩ := hrel
      clear hB
      by_cases hlt : k < l.length
      · obtain ⟨ad, x, rfl, hx, hdo0⟩ := hA.at_ k hlt
        have hdo := hdo0.below hbr
        have c1 := hdo.c1
        have hPr := H.out.below hbr
        have hmm : (D.may x.sec != D.may x.sec) = false := by simp
        have HX := Lib.hid hx
        have HBR := Lib.hid hbr
        clear hx hdo hdo0 hbr
        go_wp2_with
          (first
            | (go_at_call 55; refine (hPr.dv.reads _).mono ?_; rintro e w5 ⟨va, rfl, hva, hfa, hb5⟩; have hP5 := hPr.below hb5; have c1' := (hb5.cell (p := ⟨(ad.add (k * 5)).block, (ad.add (k * 5)).off + 1, none⟩) (cell_lt c1)).trans c1; have HB5 := Lib.hid hb5; clear hb5)
            | (go_at_call 141; refine (hP5.rf.reads _).mono ?_; rintro e w6 ⟨vb, rfl, hvb, hfb, hb6⟩; have hva6 := hva.below hb6; have HB6 := Lib.hid hb6; clear hb6)
            | (go_at_call 58; refine (sameBytes_eq _ _ _ _ hva6 hvb).mono ?_; rintro e w7 ⟨rfl, hb7⟩; have HB7 := Lib.hid hb7; clear hb7))
        go_roundw
        case rel => exact ⟨k + 1, by omega, by go_num, below_trans' (below_trans' (below_trans' HBR.out HB5.out) HB6.out) HB7.out⟩
        case measure => simp [intOf]; omega
      · obtain rfl : k = l.length := by omega
        have HBR := Lib.hid hbr
        clear hbr
        go_wp2_with fail
        go_ret
        exact ⟨rfl, HBR.out⟩
end
end Go.Proofs.Yteeamlidmkpohaa
