/-
  The reference's disk: Sync, Wake.
-/
import Derived.Test.YteeamlidmkpohaaRd
set_option linter.unusedVariables false
set_option linter.unusedSimpArgs false
namespace Go.Proofs.Yteeamlidmkpohaa
open Go.RowKit Go.Sort

section
variable {w0 w w' : World} {r : Nat} {lv : Value} {L : List RS} {Y : Nat → Prop} {D : Dk}

/-- two cells of a row are turned -/
theorem RefR.turn {A : Option Addr} {g c : Nat} (h : RefR w0 w r (.slice (some ⟨g, 0, none⟩) L.length c) L Y D) {i : Nat} {x y : RS} (hx : L[i]? = some x) (j j' : Nat) (v v' : Value) (hf : ((flat L).set j v).set j' v' = flat (L.set i y)) (hy : RowAt w Y y) :
    RefR w0 ((w.setCell ⟨g, j, none⟩ v).setCell ⟨g, j', none⟩ v') r (.slice (some ⟨g, 0, none⟩) L.length c) (L.set i y) Y D ∧ Chg (fun k => k = g) w ((w.setCell ⟨g, j, none⟩ v).setCell ⟨g, j', none⟩ v') := by
  have hi : i < L.length := (List.getElem?_eq_some_iff.1 hx).1
  have hgr : r ≠ g := fun e => h.ne (by rw [e]; rfl)
  have hc : Chg (fun k => k = g) w ((w.setCell ⟨g, j, none⟩ v).setCell ⟨g, j', none⟩ v') := (chg_setCell w g _ v).trans (chg_setCell _ g _ _)
  have h1 := (h.own.stored j v).1
  have h2 := (h1.stored j' v').1
  rw [hf] at h2
  have hYg : ∀ k, Y k → ¬ k = g := fun k e e2 => (h.y k e).2.2.2 (by rw [e2]; rfl)
  refine ⟨⟨(hc.block r h.lt hgr).trans h.blk, by rw [List.length_set]; exact h2, fun m z hz => ?_, h.gr, fun k e => ?_, Nat.le_trans h.sz hc.size⟩, hc⟩
  · by_cases e : i = m
    · subst e
      rw [List.getElem?_set_self hi] at hz
      cases hz
      exact hy.chg hc hYg
    · rw [List.getElem?_set_ne e] at hz
      exact (h.rows m z hz).chg hc hYg
  · have hs := hc.size
    exact ⟨(h.y k e).1, Nat.lt_of_lt_of_le (h.y k e).2.1 hs, (h.y k e).2.2⟩

set_option maxRecDepth 100000
set_option maxHeartbeats 400000 in
theorem Ref.syncNo (h : Ref w0 w r lv L Y D) (hd : D.down = true) :
    Calls Try.prog 139 #[.pointer (some ⟨r, 0, none⟩)] w fun e w' => e = .returned (.int .i64 9) ∧ w = w' := by
  obtain ⟨c0, c1, c2, c3⟩ := h.cells
  rw [hd] at c3
  go_enter Try.func139, Try.ntmps139
  go_wp2_with fail
  go_ret
  exact ⟨rfl, rfl⟩
set_option maxHeartbeats 2000000 in
theorem Ref.sync (h : Ref w0 w r lv L Y D) (hd : D.down = false) :
    Calls Try.prog 139 #[.pointer (some ⟨r, 0, none⟩)] w fun e w' => ∃ L', e = .returned (.int .i64 (errOf D.sync.down)) ∧ Ref w0 w' r lv L' Y D.sync ∧ Chg (MF r lv) w w' := by
  obtain ⟨c0, c1, c2, c3⟩ := h.cells
  rw [hd] at c3
  have hlen := h.len
  cases hcr : D.crash.down with
  | true =>
    have hsy : D.sync = D.crash := by simp [Dk.sync, hcr]
    rw [hsy, hcr]
    have hcall := h.crashes hd
    rw [hcr] at hcall
    clear hsy
    go_enter Try.func139, Try.ntmps139
    go_wp2_with (first | (go_at_call 176; refine hcall.mono ?_; rintro e w1 ⟨rfl, hR, hc⟩))
    go_ret
    exact ⟨_, rfl, hR, hc.mono (fun _ _ e => .inl e)⟩
  | false =>
    have hsy : D.sync = D.crash.flush := by simp [Dk.sync, hcr]
    rw [hsy]
    have hcall := h.crashes hd
    rw [hcr] at hcall
    clear hsy
    have hfd : D.crash.flush.down = false := hcr
    rw [hfd]
    obtain ⟨A, c, rfl⟩ := h.form
    clear hcr hfd c0 c2
    go_enter Try.func139, Try.ntmps139
    go_wp2_with (first | (go_at_call 176; refine hcall.mono ?_; rintro e w1 ⟨rfl, hR, hc⟩; have HH := Lib.hid hcall; clear hcall))
    go_loopw [3] (fun t wr => ∃ k : Nat, k ≤ L.length ∧ t = .int .i64 k ∧ RefR w0 wr r (.slice A L.length c) (upd RS.flush k L) Y D.crash ∧ Chg (MF r (.slice A L.length c)) w wr) (fun t _ => L.length - (intOf t).toNat)
    case atStart => exact ⟨0, by omega, rfl, by rw [upd_zero]; exact hR.toRefR, hc.mono (fun _ _ e => .inl e)⟩
    case round =>
      obtain ⟨k, hk, rfl, hRr, hcr⟩ := hrel
      obtain ⟨e0, e1, e2, e3⟩ := hRr.cells
      by_cases hlt : k < L.length
      · obtain ⟨g, c', y, hv, hy, d0, d1, d2, d3⟩ := hRr.row (i := k) (by rw [upd_len]; exact hlt)
        rw [upd_len] at hv
        cases hv
        have hx : L[k]? = some L[k] := List.getElem?_eq_getElem hlt
        have hyx : y = L[k] := by
          have := upd_at (f := RS.flush) hx
          rw [this] at hy
          cases hy
          rfl
        have hR2 : RefR w0 wr r (.slice (some ⟨g, 0, none⟩) (upd RS.flush k L).length c) (upd RS.flush k L) Y D.crash := by rw [upd_len]; exact hRr
        have hrow := hRr.rows k y hy
        have hturn := hR2.turn (A := none) hy (k * 4 + 2) (k * 4 + 3) y.vl (.bool false) (flat_setB _ k y y.la y.vl false hy) ⟨hrow.la, hrow.la, hrow.yl, hrow.yl⟩
        rw [upd_len] at hturn
        have hus : (upd RS.flush k L).set k { y with sa := y.la, op := false, vs := y.vl } = upd RS.flush (k + 1) L := by rw [hyx]; exact upd_succ (f := RS.flush) hx
        rw [hus] at hturn
        obtain ⟨B, cb, hvl, _, _, _⟩ := hrow.la
        generalize y.la.length = m at hvl
        rw [hvl] at hturn d1
        have f2 : wr.frozen? ⟨g, k * 4 + 2, none⟩ = false := hR2.own.frozenAt _
        have f3 : wr.frozen? ⟨g, k * 4 + 3, none⟩ = false := hR2.own.frozenAt _
        have hgr : g ≠ r := fun e => hRr.ne (by rw [← e]; rfl)
        have HT := Lib.hid hturn
        have HC := Lib.hid hcr
        clear hturn hus hyx hx hrow hR2 hy hRr hcr hR hvl
        have t1 : (wr.setCell ⟨g, k * 4 + 2, none⟩ (.slice B m cb)).cell? ⟨r, 1, none⟩ = some (.slice (some ⟨g, 0, none⟩) L.length c) := (World.cell?_setCell_other _ _ _ _ (by simp [hgr])).trans e1
        have t2 : (wr.setCell ⟨g, k * 4 + 2, none⟩ (.slice B m cb)).cell? ⟨g, k * 4 + 1, none⟩ = some (.slice B m cb) := (World.cell?_setCell_other _ _ _ _ (by simp)).trans d1
        have t3 : (wr.setCell ⟨g, k * 4 + 2, none⟩ (.slice B m cb)).cell? ⟨g, k * 4 + 3, none⟩ = some (.bool y.op) := (World.cell?_setCell_other _ _ _ _ (by simp)).trans d3
        go_wp2_with fail
        go_region_held3 (fun w' => w'.cell? ⟨r, 1, none⟩ = some (.slice (some ⟨g, 0, none⟩) L.length c) ∧ w'.cell? ⟨g, k * 4 + 1, none⟩ = some (.slice B m cb)) (first | exact ⟨e1, d1⟩ | exact ⟨t1, t2⟩) (fail)
        go_wp2_with fail
        go_roundw
        case rel => exact ⟨k + 1, by omega, by go_num, HT.out.1.drew, (HC.out.trans (HT.out.2.mono (fun b _ e => Or.inr (by rw [e]; rfl)))).drew⟩
        case measure => simp [intOf]; omega
      · obtain rfl : k = L.length := by omega
        rw [upd_all] at hRr
        clear hlt
        go_wp2_with fail
        go_ret
        refine ⟨_, rfl, ⟨⟨hRr.blk, ?_, hRr.rows, hRr.gr, hRr.y, hRr.sz⟩, Dk.flush_ok (Dk.crash_ok h.ok), hR.rel.flush⟩, hcr⟩
        exact hRr.own
end
end Go.Proofs.Yteeamlidmkpohaa
