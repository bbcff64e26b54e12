/-
  The reference's disk: Wake.
-/
import Derived.Test.YteeamlidmkpohaaRe
set_option linter.unusedVariables false
set_option linter.unusedSimpArgs false
namespace Go.Proofs.Yteeamlidmkpohaa
open Go.RowKit Go.Sort

theorem set_same {α : Type} {l : List α} {i : Nat} {x : α} (h : l[i]? = some x) : l.set i x = l := by
  apply List.ext_getElem?
  intro j
  rw [List.getElem?_set]
  by_cases e : i = j
  · subst e
    rw [if_pos rfl, if_pos (List.getElem?_eq_some_iff.1 h).1, h]
  · rw [if_neg e]
theorem flat_setC : ∀ (L : List RS) (i : Nat) (x : RS) (l : List Int) (v : Value) (b : Bool), L[i]? = some x → ((flat L).set (i * 4 + 1) v).set (i * 4 + 3) (.bool b) = flat (L.set i { x with la := l, vl := v, op := b }) := fun L i x l v b h => flat_setA L i x l v b h

theorem Dk.wake_ok {D : Dk} (h : D.Ok) (fs : List Int) : (D.wake fs).Ok := by
  refine ⟨h.n1, h.n2, fun k l e => ?_, (fun k l e => by cases e), by simp [Dk.wake], by simp [Dk.wake]⟩
  have e : (if (fs.contains k && (D.opn k).isSome) = true then D.opn k else D.safe k) = some l := e
  split at e
  · exact h.o k l e
  · exact h.s k l e
section
variable {w0 w w' : World} {r : Nat} {lv : Value} {L : List RS} {Y : Nat → Prop} {D : Dk}
theorem wake_skip {fs : List Int} {x : RS} (h : x.op = false) : x.wake fs = x := by simp [RS.wake, h]
theorem wake_kept {fs : List Int} {x : RS} (h : x.op = true) (hk : fs.contains x.n = true) : x.wake fs = { x with sa := x.la, op := false, vs := x.vl } := by simp only [RS.wake, h, hk, if_true]
theorem wake_lost {fs : List Int} {x : RS} (h : x.op = true) (hk : fs.contains x.n = false) : x.wake fs = { x with la := x.sa, op := false, vl := x.vs } := by simp only [RS.wake, h, hk, if_true, Bool.false_eq_true, if_false]

set_option maxRecDepth 100000
set_option maxHeartbeats 4000000 in
theorem Ref.wake (h : Ref w0 w r lv L Y D) {v : Value} {fs : List Int} (hf : IntsIs w v fs) (hne0 : fs ≠ [] → ∀ k, v.ownBlock = some k → ¬ MF r lv k) :
    Calls Try.prog 74 #[.pointer (some ⟨r, 0, none⟩), v] w fun e w' => ∃ L', e = .returned (.tuple #[]) ∧ Ref w0 w' r lv L' Y (D.wake fs) ∧ Chg (MF r lv) w w' := by
  obtain ⟨Fa, Fc, rfl, hFc, hFm, hFA⟩ := hf
  obtain ⟨c0, c1, c2, c3⟩ := h.cells
  have f2 := h.free 2
  have f3 := h.free 3
  have hlen := h.len
  have hfl : fs.length ≤ 9223372036854775807 := by simp only [maxLen] at hFm; omega
  obtain ⟨A, c, rfl⟩ := h.form
  have hD1 : Ref w0 ((w.setCell ⟨r, 3, none⟩ (.bool false)).setCell ⟨r, 2, none⟩ (.int .i64 0)) r (.slice A L.length c) L Y D.calm := (h.setDown false).setArmed 0 (by omega) (by omega)
  have hc1 : Chg (MF r (.slice A L.length c)) w ((w.setCell ⟨r, 3, none⟩ (.bool false)).setCell ⟨r, 2, none⟩ (.int .i64 0)) := ((chg_setCell w r 3 _).trans (chg_setCell _ r 2 _)).mono (fun _ _ e => .inl e)
  have HD := Lib.hid hD1
  have HC := Lib.hid hc1
  clear hD1 hc1
  go_enter Try.func74, Try.ntmps74
  go_wp2_with fail
  have hD1 := HD.out
  have hc1 := HC.out
  clear HD HC c0 c2 c3 f2 f3 c1
  generalize (w.setCell ⟨r, 3, none⟩ (.bool false)).setCell ⟨r, 2, none⟩ (.int .i64 0) = wa at hD1 hc1 ⊢
  go_loopw [4] (fun t wr => ∃ k : Nat, k ≤ L.length ∧ t = .int .i64 k ∧ RefR w0 wr r (.slice A L.length c) (upd (RS.wake fs) k L) Y D.calm ∧ Chg (MF r (.slice A L.length c)) w wr) (fun t _ => L.length - (intOf t).toNat)
  case atStart => exact ⟨0, by omega, rfl, by rw [upd_zero]; exact hD1.toRefR, hc1⟩
  case round =>
    obtain ⟨k, hk, rfl, hRr, hcr⟩ := hrel
    obtain ⟨e0, e1, e2, e3⟩ := hRr.cells
    by_cases hlt : k < L.length
    · obtain ⟨g, c', y, hv, hy, d0, d1, d2, d3⟩ := hRr.row (i := k) (by rw [upd_len]; exact hlt)
      rw [upd_len] at hv
      cases hv
      have hx : L[k]? = some L[k] := List.getElem?_eq_getElem hlt
      have hyx : y = L[k] := by
        have := upd_at (f := RS.wake fs) hx
        rw [this] at hy
        cases hy
        rfl
      have hus : (upd (RS.wake fs) k L).set k (y.wake fs) = upd (RS.wake fs) (k + 1) L := by rw [hyx]; exact upd_succ (f := RS.wake fs) hx
      have HU := Lib.hid hus
      have HCR := Lib.hid hcr
      have HRR := Lib.hid hRr
      have HY := Lib.hid hy
      clear hus hyx hx hcr hRr hy
      cases hop : y.op with
      | false =>
        rw [hop] at d3
        have HO := Lib.hid hop
        clear hop
        go_wp2_with fail
        go_roundw
        case rel =>
          refine ⟨k + 1, by omega, by go_num, ?_, HCR.out⟩
          have := HU.out
          rw [wake_skip HO.out] at this
          rw [← this, set_same HY.out]
          exact HRR.out
        case measure => simp [intOf]; omega
      | true =>
        rw [hop] at d3
        have HO := Lib.hid hop
        clear hop
        go_wp2_with fail
        obtain ⟨wo, rfl⟩ : ∃ wo : World, wo = wr := ⟨_, rfl⟩
        go_loopw [6, 7] (fun s t wi => ∃ j : Nat, j ≤ fs.length ∧ s = .bool ((fs.take j).contains y.n) ∧ t = .int .i64 j ∧ Below wo.heap.size wo wi) (fun _ t _ => fs.length - (intOf t).toNat)
        case atStart => exact ⟨0, by omega, by simp, rfl, Below.refl _ _⟩
        case round =>
          obtain ⟨j, hj, rfl, rfl, hbi⟩ := hrel
          have b0 := (hbi.cell (p := ⟨g, k * 4, none⟩) (cell_lt d0)).trans d0
          by_cases hjl : j < fs.length
          · have hne := hne0 (by rintro rfl; simp at hjl)
            obtain ⟨ad, rfl, hxa⟩ := IntsIs.at_ ((hFA.chg HCR.out (fun a e => by subst e; exact hne a.block rfl)).below hbi) j hjl
            have htc : (fs.take (j + 1)).contains y.n = ((fs.take j).contains y.n || y.n == fs.getD j 0) := take_contains hjl rfl y.n
            generalize fs.getD j 0 = z at hxa htc
            have HTC := Lib.hid htc
            clear htc hne
            have hbi' := hbi
            cases hkb : (fs.take j).contains y.n with
            | true =>
              have HKB := Lib.hid hkb
              clear hkb
              go_wp2_with fail
              repeat (go_quiet (fail); try go_wp2_with fail)
              go_roundw
              case rel => exact ⟨j + 1, by omega, by rw [HTC.out, HKB.out]; rfl, by go_num, drewN_below hbi' _⟩
              case measure => simp [intOf]; omega
            | false =>
              have HKB := Lib.hid hkb
              clear hkb
              by_cases hz : z = y.n
              · have hz1 : (z == y.n) = true := by simpa using hz
                have HZ := Lib.hid hz
                clear hz
                go_wp2_with fail
                repeat (go_quiet (fail); try go_wp2_with fail)
                go_roundw
                case rel => exact ⟨j + 1, by omega, by rw [HTC.out, HKB.out, HZ.out]; simp, by go_num, drewN_below hbi' _⟩
                case measure => simp [intOf]; omega
              · have hz1 : (z == y.n) = false := by simpa using hz
                have hz2 : Hid ((y.n == z) = false) := Lib.hid (by simpa using fun e => hz e.symm)
                clear hz
                go_wp2_with fail
                repeat (go_quiet (fail); try go_wp2_with fail)
                go_roundw
                case rel => exact ⟨j + 1, by omega, by rw [HTC.out, HKB.out, hz2.out]; rfl, by go_num, drewN_below hbi' _⟩
                case measure => simp [intOf]; omega
          · obtain rfl : j = fs.length := by omega
            rw [List.take_length]
            have hRi := HRR.out.below hbi
            obtain ⟨q0, q1, q2, q3⟩ := hRi.cells
            have hRi2 : RefR w0 wr r (.slice (some ⟨g, 0, none⟩) (upd (RS.wake fs) k L).length c) (upd (RS.wake fs) k L) Y D.calm := by rw [upd_len]; exact hRi
            have hrow := hRi.rows k y HY.out
            have p1 := (hbi.cell (p := ⟨g, k * 4 + 1, none⟩) (cell_lt d1)).trans d1
            have p2 := (hbi.cell (p := ⟨g, k * 4 + 2, none⟩) (cell_lt d2)).trans d2
            have p3 := (hbi.cell (p := ⟨g, k * 4 + 3, none⟩) (cell_lt d3)).trans d3
            have f1 : wr.frozen? ⟨g, k * 4 + 1, none⟩ = false := hRi2.own.frozenAt _
            have f2 : wr.frozen? ⟨g, k * 4 + 2, none⟩ = false := hRi2.own.frozenAt _
            have f3 : wr.frozen? ⟨g, k * 4 + 3, none⟩ = false := hRi2.own.frozenAt _
            obtain ⟨Bl, cl, hvl, _, _, _⟩ := hrow.la
            obtain ⟨Bs, cs, hvs, _, _, _⟩ := hrow.sa
            cases hkb : fs.contains y.n with
            | true =>
              have hturn := hRi2.turn (A := none) HY.out (k * 4 + 2) (k * 4 + 3) y.vl (.bool false) (flat_setB _ k y y.la y.vl false HY.out) ⟨hrow.la, hrow.la, hrow.yl, hrow.yl⟩
              have hw := HU.out
              rw [wake_kept HO.out hkb] at hw
              rw [upd_len, hw, hvl] at hturn
              rw [hvl] at p1
              rw [hvs] at p2
              generalize y.la.length = ml at hturn p1 hvl
              generalize y.sa.length = ms at p2 hvs
              have HT := Lib.hid hturn
              have HKB := Lib.hid hkb
              have HB := Lib.hid hbi
              clear hturn hw hkb hrow hRi hRi2 hvl hvs hjl d0 d1 d2 d3 b0
              go_wp2_with fail
              go_roundw
              case rel => exact ⟨k + 1, by omega, by go_num, HT.out.1, (HCR.out.trans (Chg.of_below HB.out)).trans (HT.out.2.mono (fun b _ e => Or.inr (by rw [e]; rfl)))⟩
              case measure => simp [intOf]; omega
            | false =>
              have hturn := hRi2.turn (A := none) HY.out (k * 4 + 1) (k * 4 + 3) y.vs (.bool false) (flat_setA _ k y y.sa y.vs false HY.out) ⟨hrow.sa, hrow.sa, hrow.ys, hrow.ys⟩
              have hw := HU.out
              rw [wake_lost HO.out hkb] at hw
              rw [upd_len, hw, hvs] at hturn
              rw [hvl] at p1
              rw [hvs] at p2
              generalize y.la.length = ml at p1 hvl
              generalize y.sa.length = ms at hturn p2 hvs
              have HT := Lib.hid hturn
              have HKB := Lib.hid hkb
              have HB := Lib.hid hbi
              clear hturn hw hkb hrow hRi hRi2 hvl hvs hjl d0 d1 d2 d3 b0
              go_wp2_with fail
              go_roundw
              case rel => exact ⟨k + 1, by omega, by go_num, HT.out.1, (HCR.out.trans (Chg.of_below HB.out)).trans (HT.out.2.mono (fun b _ e => Or.inr (by rw [e]; rfl)))⟩
              case measure => simp [intOf]; omega
    · obtain rfl : k = L.length := by omega
      rw [upd_all] at hRr
      clear hlt
      go_wp2_with fail
      go_end0
      refine ⟨_, rfl, ⟨⟨hRr.blk, hRr.own, hRr.rows, hRr.gr, hRr.y, hRr.sz⟩, Dk.wake_ok h.ok fs, h.rel.wake fs⟩, hcr⟩
end
end Go.Proofs.Yteeamlidmkpohaa
