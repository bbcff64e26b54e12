/-
  The reference's disk: Write.
-/
import Derived.Test.YteeamlidmkpohaaRc
import Derived.Deep.RegionHeld3
import Derived.Deep.RegionLaw
import Derived.Deep.DeepCutAuto
import Derived.Deep.AppendLies
set_option linter.unusedVariables false
set_option linter.unusedSimpArgs false
namespace Go.Proofs.Yteeamlidmkpohaa
open Go.RowKit Go.Sort

/-- new blocks alone have come to A -/
def Fresh (w : World) (A A' : Nat → Prop) : Prop := ∀ k, A' k → A k ∨ w.heap.size ≤ k
theorem Fresh.refl (w : World) (A : Nat → Prop) : Fresh w A A := fun _ h => .inl h
theorem Fresh.trans {w w' : World} {A B C : Nat → Prop} (h : Fresh w A B) (k : Fresh w' B C) (hs : w.heap.size ≤ w'.heap.size) : Fresh w A C := fun i hi => by
  rcases k i hi with h1 | h1
  · exact h i h1
  · exact .inr (by omega)

theorem grown_chg {w w' : World} {row : Option Nat} (h : w.grownBy w' row) : Chg (fun k => row = some k) w w' :=
  ⟨h.os, h.tape, h.output, h.size, fun k hk hF => h.block k hk (fun e => hF e.symm)⟩

section
variable {w0 w w' : World} {r : Nat} {lv : Value} {L : List RS} {Y : Nat → Prop} {D : Dk}

/-- a row's latest bytes are turned, and it is open -/
theorem RefR.stored {g c : Nat} (h : RefR w0 w r (.slice (some ⟨g, 0, none⟩) L.length c) L Y D) {i : Nat} {x : RS} (hx : L[i]? = some x) {v : Value} {l : List Int} (hv : BytesIs w v l) (hb : ∀ k, v.ownBlock = some k → w0.heap.size ≤ k ∧ k < w.heap.size ∧ k ≠ r ∧ k ≠ g) :
    RefR w0 ((w.setCell ⟨g, i * 4 + 1, none⟩ v).setCell ⟨g, i * 4 + 3, none⟩ (.bool true)) r (.slice (some ⟨g, 0, none⟩) L.length c) (L.set i { x with la := l, op := true, vl := v }) (fun k => Y k ∨ v.ownBlock = some k) D := by
  have hi : i < L.length := (List.getElem?_eq_some_iff.1 hx).1
  have hgr : r ≠ g := fun e => h.ne (by rw [e]; rfl)
  have hc : Chg (fun k => k = g) w ((w.setCell ⟨g, i * 4 + 1, none⟩ v).setCell ⟨g, i * 4 + 3, none⟩ (.bool true)) := (chg_setCell w g _ v).trans (chg_setCell _ g _ _)
  have h1 := (h.own.stored (i * 4 + 1) v).1
  have h2 := (h1.stored (i * 4 + 3) (.bool true)).1
  rw [flat_setA L i x l v true hx] at h2
  refine ⟨(hc.block r h.lt hgr).trans h.blk, by rw [List.length_set]; exact h2, fun j y hy => ?_, h.gr, fun k e => ?_, Nat.le_trans h.sz hc.size⟩
  · by_cases e : i = j
    · subst e
      rw [List.getElem?_set_self hi] at hy
      cases hy
      have hr := (h.rows i x hx).chg hc (fun k e => fun e2 => (h.y k e).2.2.2 (by rw [e2]; rfl))
      exact ⟨hv.chg hc (fun k e => (hb k e).2.2.2), hr.sa, fun k e => .inr e, fun k e => .inl (hr.ys k e)⟩
    · rw [List.getElem?_set_ne e] at hy
      exact ((h.rows j y hy).chg hc (fun k e => fun e2 => (h.y k e).2.2.2 (by rw [e2]; rfl))).more (fun k e => .inl e)
  · have hs := hc.size
    rcases e with e | e
    · exact ⟨(h.y k e).1, Nat.lt_of_lt_of_le (h.y k e).2.1 hs, (h.y k e).2.2⟩
    · obtain ⟨b1, b2, b3, b4⟩ := hb k e
      exact ⟨b1, Nat.lt_of_lt_of_le b2 hs, b3, fun e2 => b4 (by cases e2; rfl)⟩

/-- what is found of a number -/
def FindRes (L : List RS) (k j : Int) : Prop := (∃ (i : Nat) (x : RS), j = i ∧ L[i]? = some x ∧ x.n = k) ∨ (j = -1 ∧ ∀ (i : Nat) (x : RS), L[i]? = some x → x.n ≠ k)
theorem Ref.find (h : Ref w0 w r lv L Y D) (k : Int) : Calls Try.prog 145 #[.pointer (some ⟨r, 0, none⟩), .int .i64 k] w fun e w' => ∃ j, e = .returned (.int .i64 j) ∧ w = w' ∧ FindRes L k j := by
  by_cases hex : ∃ (i : Nat) (x : RS), L[i]? = some x ∧ x.n = k
  · obtain ⟨i, x, hx, rfl⟩ := hex
    exact (h.find_at i x hx).mono fun e w' ⟨h1, h2⟩ => ⟨_, h1, h2, .inl ⟨i, x, rfl, hx, rfl⟩⟩
  · have hno : ∀ (i : Nat) (x : RS), L[i]? = some x → x.n ≠ k := fun i x hx e => hex ⟨i, x, hx, e⟩
    exact (h.find_no k hno).mono fun e w' ⟨h1, h2⟩ => ⟨_, h1, h2, .inr ⟨rfl, hno⟩⟩

/-- a row has come to the list -/
theorem wr_new {A : Option Addr} {c : Nat} (h : Ref w0 w r (.slice A L.length c) L Y D) (k : Int) {g2 cap2 : Nat} {w2 : World}
    (hgr2 : ((w.alloc (.cells (madeCells #[.int .u8 0] 512) 5)).alloc (.cells #[.int .i64 k, .slice none 0 0, .slice (some ⟨w.heap.size, 0, none⟩) 512 512, .bool false] 179)).drew.grownBy w2 (Value.slice A L.length c).ownBlock)
    (hat2 : (Value.slice A L.length c).ownBlock = some g2 ∨ g2 = w.heap.size + 2) (hlt2 : g2 < w2.heap.size)
    (hown2 : w2.ownsRow w0.heap.size 179 4 (.slice (some ⟨g2, 0, none⟩) (L.length + 1) cap2) (L.length + 1) (flat L ++ [.int .i64 k, .slice none 0 0, .slice (some ⟨w.heap.size, 0, none⟩) 512 512, .bool false])) :
    RefR w0 (w2.setCell ⟨r, 1, none⟩ (.slice (some ⟨g2, 0, none⟩) (L.length + 1) cap2)) r (.slice (some ⟨g2, 0, none⟩) (L.length + 1) cap2) (L ++ [⟨k, [], noughts, false, .slice none 0 0, .slice (some ⟨w.heap.size, 0, none⟩) 512 512⟩]) (fun b => Y b ∨ b = w.heap.size) D ∧
      Chg (MF r (.slice A L.length c)) w (w2.setCell ⟨r, 1, none⟩ (.slice (some ⟨g2, 0, none⟩) (L.length + 1) cap2)) ∧ Fresh w (MF r (.slice A L.length c)) (MF r (.slice (some ⟨g2, 0, none⟩) (L.length + 1) cap2)) := by
  have hrl := h.lt
  have hsz := h.sz
  have hg2 : g2 ≠ r := fun e => by
    rcases hat2 with e2 | e2
    · exact h.ne (by rw [e2, e])
    · omega
  have hW2 : ((w.alloc (.cells (madeCells #[.int .u8 0] 512) 5)).alloc (.cells #[.int .i64 k, .slice none 0 0, .slice (some ⟨w.heap.size, 0, none⟩) 512 512, .bool false] 179)).drew.heap.size = w.heap.size + 2 := by simp
  have hcA : Chg (fun b => (Value.slice A L.length c).ownBlock = some b) w w2 := ((((Chg.refl (fun b => (Value.slice A L.length c).ownBlock = some b) w).alloc _).alloc _).drew).trans (grown_chg hgr2)
  have hs2 := hgr2.size
  rw [hW2] at hs2
  have hcB := chg_setCell w2 r 1 (.slice (some ⟨g2, 0, none⟩) (L.length + 1) cap2)
  have hC : Chg (MF r (.slice A L.length c)) w (w2.setCell ⟨r, 1, none⟩ (.slice (some ⟨g2, 0, none⟩) (L.length + 1) cap2)) := (hcA.mono (fun _ _ e => .inr e)).trans (hcB.mono (fun _ _ e => .inl e))
  have hYn : ∀ b, Y b → ¬ MF r (.slice A L.length c) b := fun b e e2 => by
    obtain ⟨y1, y2, y3, y4⟩ := h.y b e
    rcases e2 with e2 | e2
    · exact y3 e2
    · exact y4 e2
  have hfr : Fresh w (MF r (.slice A L.length c)) (MF r (.slice (some ⟨g2, 0, none⟩) (L.length + 1) cap2)) := fun b e => by
    rcases e with rfl | e
    · exact .inl (.inl rfl)
    · cases e
      rcases hat2 with e2 | e2
      · exact .inl (.inr e2)
      · exact .inr (by simp; omega)
  refine ⟨⟨?_, ?_, fun j y hy => ?_, h.gr, fun b e => ?_, ?_⟩, hC, hfr⟩
  · have hb := (hcA.block r h.lt (fun e => h.ne e)).trans h.blk
    exact heap_setCell w2 r 1 _ _ _ _ hb
  · have := rowOwn_chg hown2 hcB (fun b e => by cases e; exact hg2)
    rw [flat_append]
    simpa [flat, RS.cells] using this
  · by_cases e : j < L.length
    · rw [List.getElem?_append_left e] at hy
      exact ((h.rows j y hy).chg hC hYn).more (fun _ e => .inl e)
    · rw [List.getElem?_append_right (by omega)] at hy
      by_cases e2 : j = L.length
      · subst e2
        simp at hy
        subst hy
        refine ⟨⟨none, 0, rfl, Nat.le_refl _, by simp [maxLen], fun j u hu => by simp [bytesV] at hu⟩, ?_, (fun b e => by cases e), (fun b e => .inr (by cases e; rfl))⟩
        have hno : BytesIs (w.alloc (.cells (madeCells #[.int .u8 0] 512) 5)) (.slice (some ⟨w.heap.size, 0, none⟩) 512 512) noughts := BytesIs.of_own (base := 0) List.length_replicate ((rowB_made w 512).own (Nat.zero_le _) List.length_replicate (by decide))
        have hno2 := (hno.below (below_alloc' (Below.refl _ _) (.cells #[.int .i64 k, .slice none 0 0, .slice (some ⟨w.heap.size, 0, none⟩) 512 512, .bool false] 179))).drew
        refine (hno2.chg (grown_chg hgr2) (fun b e e2 => ?_)).chg hcB (fun b e e2 => ?_)
        · obtain rfl : w.heap.size = b := by simpa [Value.ownBlock] using e
          have := (h.own.lt _ e2).2
          omega
        · obtain rfl : w.heap.size = b := by simpa [Value.ownBlock] using e
          omega
      · rw [List.getElem?_eq_none (by simp; omega)] at hy
        cases hy
  · have hs3 := hcB.size
    rcases e with e | rfl
    · obtain ⟨y1, y2, y3, y4⟩ := h.y b e
      refine ⟨y1, by omega, y3, fun e2 => ?_⟩
      obtain rfl : g2 = b := by simpa [Value.ownBlock] using e2
      rcases hat2 with e3 | e3
      · exact y4 e3
      · omega
    · refine ⟨hsz, by omega, by omega, fun e2 => ?_⟩
      obtain rfl : g2 = w.heap.size := by simpa [Value.ownBlock] using e2
      rcases hat2 with e3 | e3
      · have := (h.own.lt _ e3).2; omega
      · omega
  · have := hcB.size; omega

/-- what stands where the ways of Write meet -/
def WrCut (w0 w : World) (r : Nat) (lv : Value) (Y : Nat → Prop) (D : Dk) (k : Int) (l : List Int) (v : Value) (s : Value) (wx : World) : Prop :=
  ∃ (lv1 : Value) (L1 : List RS) (Y1 : Nat → Prop) (i : Nat) (x1 : RS), s = .int .i64 i ∧ RefR w0 wx r lv1 L1 Y1 D ∧ L1[i]? = some x1 ∧ L1.length ≤ 262145 ∧ (∀ v', Rel (L1.set i { x1 with la := l, op := true, vl := v' }) (D.put k l)) ∧
    Chg (MF r lv) w wx ∧ Fresh w (MF r lv) (MF r lv1) ∧ Fresh w Y Y1 ∧ BytesIs wx v l

set_option maxRecDepth 100000
set_option maxHeartbeats 2000000 in
theorem Ref.write (h : Ref w0 w r lv L Y D) (k : Int) (hk : D.may k = 0) {v : Value} {l : List Int} (hv : BytesIs w v l) (hs : IsSec l) (hvm : ∀ b, v.ownBlock = some b → ¬ MF r lv b) :
    Calls Try.prog 138 #[.pointer (some ⟨r, 0, none⟩), .int .i64 k, v] w fun e w' => ∃ lv' L' Y', e = .returned (.int .i64 (errOf (D.write k l).down)) ∧ Ref w0 w' r lv' L' Y' (D.write k l) ∧ Chg (MF r lv) w w' ∧ Fresh w (MF r lv) (MF r lv') ∧ Fresh w Y Y' := by
  obtain ⟨hd, k0, k1⟩ := may_zero hk
  obtain ⟨c0, c1, c2, c3⟩ := h.cells
  rw [hd] at c3
  have hlen := h.len
  have hvv := hv
  obtain ⟨B, cb, rfl, hcb, hmb, hB⟩ := hv
  rw [hs.1] at hcb hvv hvm ⊢
  obtain ⟨A, c, rfl⟩ := h.form
  have HK := Lib.hid hk
  clear hk
  obtain ⟨ie, hi, hz, hsize, hby⟩ := info_parts (P := Try.prog) (e := 5) (z := .int .u8 0) (size := 1) (bytes := 1) (by kernel_rfl)
  have HV := Lib.hid hvv
  have HVM := Lib.hid hvm
  clear hvv hvm
  have fin : ∀ (i : Nat) (x : RS), L[i]? = some x → x.n = k → WrCut w0 w r (.slice A L.length c) Y D k l (.slice B 512 cb) (.int .i64 i) w := fun i x hx hn =>
    ⟨_, L, Y, i, x, rfl, h.toRefR, hx, by omega, fun v' => by rw [← hn]; exact h.rel.put hx hs v', Chg.refl _ _, Fresh.refl _ _, Fresh.refl _ _, HV.out⟩
  have HFIN := Lib.hid fin
  clear fin
  have hfind := h.find k
  have hown := h.own
  have hrl := h.lt
  have hsz := h.sz
  have hl2 : L.length ≤ 262145 := by omega
  obtain ⟨je, ji, jz, jsize, jby⟩ := info_parts (P := Try.prog) (e := 179) (z := .agg #[.int .i64 0, .slice none 0 0, .slice none 0 0, .bool false]) (size := 4) (bytes := 64) (by kernel_rfl)
  have hmk := mk512
  have hal : Below w.heap.size w ((w.alloc (.cells (madeCells #[.int .u8 0] 512) 5)).alloc (.cells #[.int .i64 k, .slice none 0 0, .slice (some ⟨w.heap.size, 0, none⟩) 512 512, .bool false] 179)) := below_alloc' (below_alloc' (Below.refl _ w) _) _
  have hO := Lib.hid (rowOwn_below hown hal)
  have hNW := Lib.hid (World.news_of_block (heap_alloc2_new w (.cells (madeCells #[.int .u8 0] 512) 5) (.cells #[.int .i64 k, .slice none 0 0, .slice (some ⟨w.heap.size, 0, none⟩) 512 512, .bool false] 179)))
  have a0 : ∀ o, (w.alloc o).cell? ⟨r, 1, none⟩ = some (.slice A L.length c) := fun o => ((below_alloc' (Below.refl _ w) o).cell (p := ⟨r, 1, none⟩) h.lt).trans c1
  have a00 : ∀ o o', ((w.alloc o).alloc o').cell? ⟨r, 1, none⟩ = some (.slice A L.length c) := fun o o' => ((below_alloc' (below_alloc' (Below.refl _ w) o) o').cell (p := ⟨r, 1, none⟩) h.lt).trans c1
  have a1 := Lib.hid ((hal.cell (p := ⟨r, 1, none⟩) h.lt).trans c1)
  have f1 := Lib.hid ((hal.frozen (p := ⟨r, 1, none⟩) h.lt).trans (h.free 1))
  have hNE := Lib.hid h.ne
  have hone : ∀ u ∈ [Value.int .i64 k, .slice none 0 0, .slice (some ⟨w.heap.size, 0, none⟩) 512 512, .bool false], u.oneCell' = true := by
    intro u hu
    simp only [List.mem_cons, List.not_mem_nil, or_false] at hu
    rcases hu with rfl | rfl | rfl | rfl <;> rfl
  have hONE := Lib.hid hone
  have HAL := Lib.hid hal
  clear hown hone hal
  go_enter Try.func138, Try.ntmps138
  go_upto_if 29 with (first | (go_at_call 145; refine hfind.mono ?_; rintro e w1 ⟨j, rfl, rfl, hj⟩; have HJ := Lib.hid hj; clear hj hfind))
  go_cut [7] (fun s7 wx => WrCut w0 w r (.slice A L.length c) Y D k l (.slice B 512 cb) s7 wx)
  case first =>
    rcases HJ.out with ⟨i, x, rfl, hx, hn⟩ | ⟨rfl, hno⟩
    · have HX := Lib.hid hx
      have HN := Lib.hid hn
      clear hx hn HJ
      go_wp2_with fail
      go_meet
      exact HFIN.out i x HX.out HN.out
    · have HN := Lib.hid hno
      clear hno HJ HFIN
      go_wp2_with fail
      go_region_law
        (first
          | (refine step_append_lies _ (by rfl) _ _ 172 (by rfl) w0.heap.size 179 je (.agg #[.int .i64 0, .slice none 0 0, .slice none 0 0, .bool false]) 4 64 Try.underlying172 ji jz jsize jby (by rfl) (by decide) (.slice A L.length c) L.length (flat L) (by rfl) hO.out ⟨w.heap.size + 1, 0, none⟩ 1 1 [.int .i64 k, .slice none 0 0, .slice (some ⟨w.heap.size, 0, none⟩) 512 512, .bool false] (by rfl) (by rfl) hNW.out hONE.out (by decide) (by simp only [maxLen]; omega) (by omega) (by simp; omega) (w.heap.size + 2) (by simp) ?_
             intro g2 cap2 w2 hown2 hgr2 hat2 hlt2
             have d1 : w2.cell? ⟨r, 1, none⟩ = some (.slice A L.length c) := (hgr2.cell_far ⟨r, 1, none⟩ (by simp; omega) (fun e => hNE.out e.symm)).trans a1.out
             have e1 : w2.frozen? ⟨r, 1, none⟩ = false := (hgr2.frozen_far ⟨r, 1, none⟩ (by simp; omega) (fun e => hNE.out e.symm)).trans f1.out))
      all_goals
        have HR := Lib.hid (wr_new h k hgr2 hat2 hlt2 hown2)
        clear hown2 hgr2 hat2 hlt2 d1 e1 a0 a00
        have c1' : (w2.setCell ⟨r, 1, none⟩ (.slice (some ⟨g2, 0, none⟩) (L.length + 1) cap2)).cell? ⟨r, 1, none⟩ = some (.slice (some ⟨g2, 0, none⟩) (L.length + 1) cap2) := HR.out.1.cells.2.1
        generalize w2.setCell ⟨r, 1, none⟩ (.slice (some ⟨g2, 0, none⟩) (L.length + 1) cap2) = w3 at HR c1' ⊢
        go_wp2_with fail
        go_meet
        obtain ⟨hRR, hC, hFm⟩ := HR.out
        refine ⟨_, _, _, L.length, ⟨k, [], noughts, false, .slice none 0 0, .slice (some ⟨w.heap.size, 0, none⟩) 512 512⟩, (by go_num), hRR, (by simp), (by simp; omega), fun v' => ?_, hC, hFm, fun b e => e.imp id (fun e => by omega), HV.out.chg hC HVM.out⟩
        rw [List.set_append_right _ _ (Nat.le_refl _)]
        simpa using h.rel.add k0 k1 HN.out hs v' _
  case rest =>
    obtain ⟨lv1, L1, Y1, i, x1, rfl, hR, hx1, hl1, hrel, hC, hF1, hF2, hvw⟩ := hcut
    have hi1 : i < L1.length := (List.getElem?_eq_some_iff.1 hx1).1
    obtain ⟨e0, e1, e2, e3⟩ := hR.cells
    obtain ⟨g, c', y, rfl, hy, d0, d1, d2, d3⟩ := hR.row hi1
    rw [hx1] at hy
    cases hy
    obtain ⟨B', cb', e, hcb', hmb', hB'⟩ := hvw
    simp only [Value.slice.injEq] at e
    obtain ⟨rfl, e9, rfl⟩ := e
    clear e9
    obtain ⟨ad, rfl⟩ : ∃ ad, B = some ad := by
      obtain ⟨ad, e, _⟩ := hB' 0 (.int .u8 (l.getD 0 0)) (by simp [bytesV, hs.1])
      exact ⟨ad, e⟩
    have hgr : g ≠ r := fun e => hR.ne (by rw [← e]; rfl)
    have hgl : g < wc.heap.size := (hR.own.lt g rfl).2
    have hrl1 := hR.lt
    have hem := run_empty47
    have hal1 : Below wc.heap.size wc (wc.alloc (.cells #[] 5)) := below_alloc' (Below.refl _ wc) _
    have b0 : ∀ o, (wc.alloc o).cell? ⟨r, 1, none⟩ = some (.slice (some ⟨g, 0, none⟩) L1.length c') := fun o => ((below_alloc' (Below.refl _ wc) o).cell (p := ⟨r, 1, none⟩) hrl1).trans e1
    have hO1 := Lib.hid (ownsRow_empty (size := 1) (Nat.le_refl wc.heap.size) (heap_alloc_new wc (.cells #[] 5)))
    have hNW1 : Hid (∀ j u, (bytesV l)[j]? = some u → (wc.alloc (.cells #[] 5)).cell? (ad.add j) = some u) := Lib.hid (fun j u hj => by
      obtain ⟨ad', e, h1⟩ := hB' j u hj
      cases e
      exact (hal1.cell (cell_lt h1)).trans h1)
    have hlen5 : Hid ((bytesV l).length = 512 * 1) := Lib.hid (by rw [bytesV_len, hs.1])
    have HR1 := Lib.hid hR
    have HRel := Lib.hid hrel
    have HX1 := Lib.hid hx1
    have HF1 := Lib.hid hF1
    have HF2 := Lib.hid hF2
    have HD1 := Lib.hid d1
    have HD3 := Lib.hid d3
    clear hR hrel hx1 hF1 hF2 d0 d1 d2 d3 HJ hO hNW a0 a00 a1 f1 HAL hONE HFIN hNE
    go_wp2_with fail
    go_region_held3 (fun w' => w'.cell? ⟨r, 1, none⟩ = some (.slice (some ⟨g, 0, none⟩) L1.length c')) (first | exact e1 | exact b0 _ | exact u1 | exact u2)
      (first
        | (refine step_append_lies _ (by rfl) _ _ 47 (by rfl) wc.heap.size 5 ie (.int .u8 0) 1 1 Try.underlying47 hi hz hsize hby (by rfl) (by decide) (.slice (some ⟨wc.heap.size, 0, none⟩) 0 0) 0 [] (by rfl) hO1.out ad 512 cb (bytesV l) (by rfl) hlen5.out hNW1.out (bytesV_one l) (by decide) (by decide) (by decide) (by simp) (wc.heap.size + 1) (by simp) ?_
           intro g3 cap3 w3 hown3 hgr3 hat3 hlt3
           have u1 : w3.cell? ⟨r, 1, none⟩ = some (.slice (some ⟨g, 0, none⟩) L1.length c') := (hgr3.cell_far ⟨r, 1, none⟩ (by simp; omega) (fun e => by simp [Value.ownBlock] at e; omega)).trans (b0 _)
           have u3 : w3.cell? ⟨g, i * 4 + 1, none⟩ = some x1.vl := (hgr3.cell_far ⟨g, i * 4 + 1, none⟩ (by simp; omega) (fun e => by simp [Value.ownBlock] at e; omega)).trans ((hal1.cell (p := ⟨g, i * 4 + 1, none⟩) hgl).trans HD1.out)
           have u4 : w3.frozen? ⟨g, i * 4 + 1, none⟩ = false := (hgr3.frozen_far ⟨g, i * 4 + 1, none⟩ (by simp; omega) (fun e => by simp [Value.ownBlock] at e; omega)).trans ((hal1.frozen (p := ⟨g, i * 4 + 1, none⟩) hgl).trans (HR1.out.own.frozenAt _))
           have u2 : (w3.setCell ⟨g, i * 4 + 1, none⟩ (.slice (some ⟨g3, 0, none⟩) (0 + 512) cap3)).cell? ⟨r, 1, none⟩ = some (.slice (some ⟨g, 0, none⟩) L1.length c') := ((chg_setCell w3 g (i * 4 + 1) _).cell (p := ⟨r, 1, none⟩) (cell_lt u1) (fun e => hgr e.symm)).trans u1))
    have hb3 : Below wc.heap.size wc w3 := below_grown (hal1.drew) hgr3 (by intro k e; simp [Value.ownBlock] at e; omega)
    have hg3 : wc.heap.size ≤ g3 := by
      rcases hat3 with e | e
      · simp [Value.ownBlock] at e; omega
      · omega
    have hv3 : BytesIs w3 (.slice (some ⟨g3, 0, none⟩) (0 + 512) cap3) l := BytesIs.of_own hs.1 (by simpa using hown3)
    have hR3 := HR1.out.below hb3
    have hszc := HR1.out.sz
    have hR4 := hR3.stored HX1.out hv3 (fun b e => by
      obtain rfl : g3 = b := by simpa [Value.ownBlock] using e
      exact ⟨by omega, hlt3, by omega, by omega⟩)
    have hRef : Ref w0 ((w3.setCell ⟨g, i * 4 + 1, none⟩ (.slice (some ⟨g3, 0, none⟩) (0 + 512) cap3)).setCell ⟨g, i * 4 + 3, none⟩ (.bool true)) r (.slice (some ⟨g, 0, none⟩) L1.length c') (L1.set i { x1 with la := l, op := true, vl := .slice (some ⟨g3, 0, none⟩) (0 + 512) cap3 }) (fun b => Y1 b ∨ (Value.slice (some ⟨g3, 0, none⟩) (0 + 512) cap3).ownBlock = some b) (D.put k l) :=
      ⟨⟨hR4.blk, hR4.own, hR4.rows, hR4.gr, hR4.y, hR4.sz⟩, Dk.put_ok h.ok k l hs, HRel.out _⟩
    have hC5 : Chg (MF r (.slice A L.length c)) w ((w3.setCell ⟨g, i * 4 + 1, none⟩ (.slice (some ⟨g3, 0, none⟩) (0 + 512) cap3)).setCell ⟨g, i * 4 + 3, none⟩ (.bool true)) :=
      (hC.trans (Chg.of_below hb3)).then ((chg_setCell w3 g _ _).trans (chg_setCell _ g _ _)) (fun b hb e => by
        rcases HF1.out b (.inr (by rw [e]; rfl)) with e2 | e2
        · exact e2
        · omega)
    have u5 : (w3.setCell ⟨g, i * 4 + 1, none⟩ (.slice (some ⟨g3, 0, none⟩) (0 + 512) cap3)).cell? ⟨g, i * 4 + 3, none⟩ = some (.bool x1.op) := by
      rw [World.cell?_setCell_other _ _ _ _ (by simp)]
      exact (hb3.cell (p := ⟨g, i * 4 + 3, none⟩) hgl).trans HD3.out
    have u6 : (w3.setCell ⟨g, i * 4 + 1, none⟩ (.slice (some ⟨g3, 0, none⟩) (0 + 512) cap3)).frozen? ⟨g, i * 4 + 3, none⟩ = false := by
      rw [World.frozen?_setCell]
      exact hR3.own.frozenAt _
    have HRef := Lib.hid hRef
    have HC5 := Lib.hid hC5
    clear hRef hC5 hR4 hR3 hv3 hb3 hown3 hgr3 hat3 u1 u3 u4
    simp only [Nat.zero_add] at u2 u5 u6
    go_wp2_with
      (first
        | (go_at_call 176; refine (HRef.out.crashes hd).mono ?_; rintro e w9 ⟨rfl, hR9, hc9⟩))
    all_goals
      go_ret
    · have hcr : (D.write k l).down = true := by assumption
      refine ⟨_, _, _, by rw [hcr]; rfl, hR9, HC5.out.then hc9 (fun b _ e => .inl e), HF1.out, fun b e => ?_⟩
      rcases e with e | e
      · exact HF2.out b e
      · obtain rfl : g3 = b := by simpa [Value.ownBlock] using e
        have := hC.size
        exact .inr (by omega)
    · have hcr : (D.write k l).down = false := by assumption
      refine ⟨_, _, _, by rw [hcr]; rfl, hR9, HC5.out.then hc9 (fun b _ e => .inl e), HF1.out, fun b e => ?_⟩
      rcases e with e | e
      · exact HF2.out b e
      · obtain rfl : g3 = b := by simpa [Value.ownBlock] using e
        have := hC.size
        exact .inr (by omega)
set_option maxHeartbeats 1000000 in
theorem Ref.writeNo (h : Ref w0 w r lv L Y D) (k : Int) {c : Int} (hk : D.may k = c) (hc : c ≠ 0) (v : Value) :
    Calls Try.prog 138 #[.pointer (some ⟨r, 0, none⟩), .int .i64 k, v] w fun e w' => e = .returned (.int .i64 c) ∧ w = w' := by
  obtain ⟨c0, c1, c2, c3⟩ := h.cells
  cases hd : D.down with
  | true =>
    obtain rfl : c = 9 := by rw [← hk]; simp [Dk.may, hd]
    rw [hd] at c3
    clear hk
    go_enter Try.func138, Try.ntmps138
    go_wp2
    go_ret
    exact ⟨rfl, rfl⟩
  | false =>
    rw [hd] at c3
    by_cases h1 : k < 0
    · obtain rfl : c = 6 := by rw [← hk]; simp [Dk.may, hd, h1]
      clear hk
      go_enter Try.func138, Try.ntmps138
      go_wp2
      go_ret
      exact ⟨rfl, rfl⟩
    · by_cases h2 : D.n ≤ k
      · obtain rfl : c = 6 := by rw [← hk]; simp [Dk.may, hd, h2]
        clear hk
        go_enter Try.func138, Try.ntmps138
        go_wp2
        go_ret
        exact ⟨rfl, rfl⟩
      · exact absurd (by rw [← hk, Dk.may, hd, if_neg (by simp), if_neg (by omega), if_neg (by omega)]) hc
set_option maxHeartbeats 1000000 in
theorem Ref.writeArg (h : Ref w0 w r lv L Y D) (k : Int) (hk : D.may k = 0) (A : Option Addr) (n c : Nat) (hn : n ≠ 512) (hm : n ≤ maxLen) :
    Calls Try.prog 138 #[.pointer (some ⟨r, 0, none⟩), .int .i64 k, .slice A n c] w fun e w' => e = .returned (.int .i64 2) ∧ w = w' := by
  obtain ⟨hd, k0, k1⟩ := may_zero hk
  obtain ⟨c0, c1, c2, c3⟩ := h.cells
  rw [hd] at c3
  have h1 : ((n : Int) == 512) = false := by simp; omega
  have h2 : ((n : Int) != 512) = true := by simp; omega
  clear hn hk
  go_enter Try.func138, Try.ntmps138
  go_wp2
  go_ret
  exact ⟨rfl, rfl⟩
end
end Go.Proofs.Yteeamlidmkpohaa
