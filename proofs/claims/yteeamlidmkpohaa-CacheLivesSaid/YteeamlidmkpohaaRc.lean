/-
  The reference's disk: Read.
-/
import Derived.Test.YteeamlidmkpohaaRb
set_option linter.unusedVariables false
set_option linter.unusedSimpArgs false
namespace Go.Proofs.Yteeamlidmkpohaa
open Go.RowKit Go.Sort

theorem may_zero {D : Dk} {k : Int} (h : D.may k = 0) : D.down = false ∧ 0 ≤ k ∧ k < D.n := by
  unfold Dk.may at h
  split at h
  · cases h
  · split at h
    · cases h
    · split at h
      · cases h
      · exact ⟨by simpa using ‹¬D.down = true›, by omega, by omega⟩
theorem mk512 (W : World) : (Instr.makeSlice 47 (.int .i64 512) (.int .i64 512)).run Try.prog W = .ok (.slice (some ⟨W.heap.size, 0, none⟩) 512 512) (W.alloc (.cells (madeCells #[.int .u8 0] 512) 5)) := Go.run_make_row' (P := Try.prog) 47 5 (.int .u8 0) 1 Try.underlying47 (by kernel_rfl) rfl .i64 .i64 512 (by omega) (by omega) W

section
variable {w0 w : World} {r : Nat} {lv : Value} {L : List RS} {Y : Nat → Prop} {D : Dk}
set_option maxRecDepth 100000
set_option maxHeartbeats 1000000 in
theorem Ref.readNo (h : Ref w0 w r lv L Y D) (k : Int) {c : Int} (hk : D.may k = c) (hc : c ≠ 0) :
    Calls Try.prog 141 #[.pointer (some ⟨r, 0, none⟩), .int .i64 k] w fun e w' => e = .returned (.tuple #[.slice none 0 0, .int .i64 c]) ∧ w = w' := by
  obtain ⟨c0, c1, c2, c3⟩ := h.cells
  cases hd : D.down with
  | true =>
    obtain rfl : c = 9 := by rw [← hk]; simp [Dk.may, hd]
    rw [hd] at c3
    clear hk
    go_enter Try.func141, Try.ntmps141
    go_wp2
    exact bodyPost_ret (v := .tuple #[.slice none 0 0, .int .i64 9]) (by simp [results, Try.results141, go_sem]) rfl ⟨rfl, rfl⟩
  | false =>
    rw [hd] at c3
    by_cases h1 : k < 0
    · obtain rfl : c = 6 := by rw [← hk]; simp [Dk.may, hd, h1]
      clear hk
      go_enter Try.func141, Try.ntmps141
      go_wp2
      exact bodyPost_ret (v := .tuple #[.slice none 0 0, .int .i64 6]) (by simp [results, Try.results141, go_sem]) rfl ⟨rfl, rfl⟩
    · by_cases h2 : D.n ≤ k
      · obtain rfl : c = 6 := by rw [← hk]; simp [Dk.may, hd, h2]
        clear hk
        go_enter Try.func141, Try.ntmps141
        go_wp2
        exact bodyPost_ret (v := .tuple #[.slice none 0 0, .int .i64 6]) (by simp [results, Try.results141, go_sem]) rfl ⟨rfl, rfl⟩
      · exact absurd (by rw [← hk, Dk.may, hd, if_neg (by simp), if_neg (by omega), if_neg (by omega)]) hc
set_option maxHeartbeats 1000000 in
theorem Ref.read (h : Ref w0 w r lv L Y D) (k : Int) (hk : D.may k = 0) :
    Calls Try.prog 141 #[.pointer (some ⟨r, 0, none⟩), .int .i64 k] w fun e w' => ∃ v, e = .returned (.tuple #[v, .int .i64 0]) ∧ BytesIs w' v (D.latest k) ∧ (∀ b, v.ownBlock = some b → w.heap.size ≤ b) ∧ Below w.heap.size w w' := by
  obtain ⟨hd, k0, k1⟩ := may_zero hk
  obtain ⟨c0, c1, c2, c3⟩ := h.cells
  rw [hd] at c3
  have hsec := Dk.latest_sec h.ok k
  obtain ⟨ie, hi, hz, hsize, hby⟩ := info_parts (P := Try.prog) (e := 5) (z := .int .u8 0) (size := 1) (bytes := 1) (by kernel_rfl)
  have hmk := mk512
  by_cases hex : ∃ (i : Nat) (x : RS), L[i]? = some x ∧ x.n = k
  · obtain ⟨i, x, hx, rfl⟩ := hex
    have hlt : i < L.length := (List.getElem?_eq_some_iff.1 hx).1
    have hfind := h.find_at i x hx
    obtain ⟨g, c, y, rfl, hy, d0, d1, d2, d3⟩ := h.row hlt
    rw [hx] at hy
    cases hy
    have hlat := h.rel.lat i x hx
    rw [hlat] at hsec ⊢
    obtain ⟨A, cl, hvl, hcl, hcm, hA⟩ := (h.rows i x hx).la
    rw [hsec.1] at hvl hcl
    rw [hvl] at d1
    have hlen := h.len
    have HF := Lib.hid hfind
    have HX := Lib.hid hx
    have HV := Lib.hid hvl
    have HH := Lib.hid hlat
    clear hfind hx hvl hlat hk
    obtain ⟨ad, rfl⟩ : ∃ ad, A = some ad := by
      obtain ⟨ad, e, _⟩ := hA 0 (.int .u8 (x.la.getD 0 0)) (by simp [bytesV, hsec.1])
      exact ⟨ad, e⟩
    have hal := below_alloc' (Below.refl _ w) (.cells #[] 5)
    have a1 := (hal.cell (p := ⟨r, 1, none⟩) h.lt).trans c1
    have a2 := (hal.cell (p := ⟨g, i * 4 + 1, none⟩) (cell_lt d1)).trans d1
    go_enter Try.func141, Try.ntmps141
    go_wp2_with
      (first
        | (go_at_call 145; refine HF.out.mono ?_; rintro e w1 ⟨rfl, rfl⟩)
        | (refine wpList_val rfl (run_empty47 _) ?_)
        | (refine wpList_append_own _ rfl _ _ 47 rfl w.heap.size 5 ie (.int .u8 0) 1 1 Try.underlying47 hi hz hsize hby rfl (by decide) (.slice (some ⟨w.heap.size, 0, none⟩) 0 0) 0 [] ?_ ?_ ad 512 cl (bytesV x.la) ?_ ?_ ?_ (bytesV_one _) (by decide) (by decide) ?_ ?_
           · rfl
           · exact ownsRow_empty (Nat.le_refl _) (heap_alloc_new w _)
           · rfl
           · rw [bytesV_len, hsec.1]
           · intro j u hj
             obtain ⟨ad', e, h1⟩ := hA j u hj
             cases e
             exact ((below_alloc' (Below.refl _ w) (.cells #[] 5)).cell (cell_lt h1)).trans h1
           · simp
           intro v' w2 hown hgr _))
    refine bodyPost_ret (v := .tuple #[v', .int .i64 0]) (by simp [results, Try.results141, go_sem]) rfl ⟨v', rfl, BytesIs.of_own hsec.1 (by simpa using hown), fun b e => (hown.lt b e).1, ?_⟩
    exact below_grown (below_alloc' (Below.refl _ _) _) hgr (by intro k e; simp [Value.ownBlock] at e; omega)
  · have hno : ∀ (i : Nat) (x : RS), L[i]? = some x → x.n ≠ k := fun i x hx e => hex ⟨i, x, hx, e⟩
    have hfind := h.find_no k hno
    obtain ⟨e1, e2⟩ := h.rel.no k hno
    have hlat : D.latest k = noughts := by simp [Dk.latest, e1, e2]
    rw [hlat]
    have HF := Lib.hid hfind
    clear hfind hno hex hlat e1 e2 hk hsec
    go_enter Try.func141, Try.ntmps141
    go_wp2_with
      (first
        | (go_at_call 145; refine HF.out.mono ?_; rintro e w1 ⟨rfl, rfl⟩))
    refine bodyPost_ret (v := .tuple #[.slice (some ⟨w.heap.size, 0, none⟩) 512 512, .int .i64 0]) (by simp [results, Try.results141, go_sem]) rfl ⟨_, rfl, ?_, fun b e => by simp [Value.ownBlock] at e; omega, below_alloc' (Below.refl _ _) _⟩
    exact BytesIs.of_own (base := 0) List.length_replicate ((rowB_made w 512).own (Nat.zero_le _) List.length_replicate (by decide))
end
end Go.Proofs.Yteeamlidmkpohaa
