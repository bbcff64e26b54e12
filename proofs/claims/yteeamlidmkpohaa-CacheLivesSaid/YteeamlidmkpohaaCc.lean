/-
  The cache: New, known, Sectors, Clone, Counts, Sync, Drop.
-/
import Derived.Test.YteeamlidmkpohaaCb
import Derived.WalkSpells
set_option linter.unusedVariables false
set_option linter.unusedSimpArgs false
namespace Go.Proofs.Yteeamlidmkpohaa
open Go.RowKit Go.Sort

section
variable {w0 w w' : World} {c mk p ms mo : Nat} {K : Ck} {Y : Nat → Prop} {D : Dk}
set_option maxRecDepth 100000

theorem CacheAt.known (h : CacheAt w0 w c mk p K Y) : Calls Try.prog 159 #[.pointer (some ⟨c, 0, none⟩)] w fun e w' => e = .returned (.bool true) ∧ w = w' := by
  obtain ⟨c0, c1, c2, c3, c4, c5⟩ := h.cells
  have hm1 := h.m1
  have hp : 0 < K.most := by omega
  go_enter Try.func159, Try.ntmps159
  go_wp2
  go_ret
  exact ⟨rfl, rfl⟩
theorem CacheAt.sectors (h : CacheAt w0 w c mk p K Y) (hd : Dev w0 w p ms mo D) : Calls Try.prog 110 #[.pointer (some ⟨c, 0, none⟩)] w fun e w' => e = .returned (.int .i64 D.n) ∧ w = w' := by
  obtain ⟨c0, c1, c2, c3, c4, c5⟩ := h.cells
  have hk := h.known
  go_enter Try.func110, Try.ntmps110
  go_wp2_with
    (first
      | (go_at_call 159; refine hk.mono ?_; rintro e w1 ⟨rfl, rfl⟩)
      | (go_at_call 56; refine (hd.sectors rfl).mono ?_; rintro e w1 ⟨rfl, rfl⟩))
  go_ret
  exact ⟨rfl, rfl⟩
theorem CacheAt.sync (h : CacheAt w0 w c mk p K Y) (hd : Dev w0 w p ms mo D) : Calls Try.prog 109 #[.pointer (some ⟨c, 0, none⟩)] w fun e w' => e = .returned (.int .i64 D.scode) ∧ Dev w0 w' p ms mo D.syncs ∧ Chg (DF p ms mo) w w' := by
  obtain ⟨c0, c1, c2, c3, c4, c5⟩ := h.cells
  have hk := h.known
  go_enter Try.func109, Try.ntmps109
  go_wp2_with
    (first
      | (go_at_call 159; refine hk.mono ?_; rintro e w1 ⟨rfl, rfl⟩)
      | (go_at_call 51; refine hd.syncs.mono ?_; rintro e w1 ⟨rfl, h1, h2⟩))
  go_ret
  exact ⟨rfl, h1, h2⟩
theorem CacheAt.counts (h : CacheAt w0 w c mk p K Y) : Calls Try.prog 106 #[.pointer (some ⟨c, 0, none⟩)] w fun e w' => e = .returned (.tuple #[.int .i64 K.hits, .int .i64 K.misses]) ∧ Below w.heap.size w w' := by
  obtain ⟨c0, c1, c2, c3, c4, c5⟩ := h.cells
  have hk := h.known
  have hl4 := fun W (e : W = w) => load_any W c 4 K.hits (by rw [e]; exact c4)
  have h4 : ∀ n, (w.drewN n).cell? ⟨c, 4, none⟩ = some (.int .i64 K.hits) := fun n => c4
  have h5 : ∀ n, (w.drewN n).cell? ⟨c, 5, none⟩ = some (.int .i64 K.misses) := fun n => c5
  have H4 := Lib.hid h4
  have H5 := Lib.hid h5
  clear h4 h5 hl4
  go_enter Try.func106, Try.ntmps106
  go_wp2_with
    (first
      | (go_at_call 159; refine hk.mono ?_; rintro e w1 ⟨rfl, rfl⟩))
  go_quiet ((first | (go_at_call 163; exact Calls.quiet_of_same (load_any _ c 4 K.hits (H4.out _))) | (go_at_call 163; exact Calls.quiet_of_same (load_any _ c 5 K.misses (H5.out _)))))
  go_wp2_with fail
  exact bodyPost_ret (v := .tuple #[.int .i64 K.hits, .int .i64 K.misses]) (by simp [results, Try.results106, go_sem]) rfl ⟨rfl, drewN_below (Below.refl _ _) _⟩
theorem CacheAt.drop (h : CacheAt w0 w c mk p K Y) : Calls Try.prog 104 #[.pointer (some ⟨c, 0, none⟩)] w fun e w' => e = .returned (.tuple #[]) ∧ CacheAt w0 w' c mk p { K with C := [] } Y ∧ Chg (CF c mk) w w' := by
  obtain ⟨c0, c1, c2, c3, c4, c5⟩ := h.cells
  have hk := h.known
  have hm := h.mp
  have hcm := h.ne
  go_enter Try.func104, Try.ntmps104
  go_wp2_with
    (first
      | (go_at_call 159; refine hk.mono ?_; rintro e w1 ⟨rfl, rfl⟩)
      | (refine wpList_clear Try.underlying119 Try.underlying3 rfl _ rfl mk rfl _ hm ?_; intro w6 hm6 hc6))
  go_end0
  refine ⟨rfl, ⟨(hc6.block c h.lt hcm).trans h.blk, ?_, KeptOk.nil _, ?_, h.m1, h.m2, h.n0, h.h0, h.s0, (fun e he => by cases he), h.gc, h.gm, fun b e => ⟨(h.y b e).1, Nat.lt_of_lt_of_le (h.y b e).2.1 hc6.size, (h.y b e).2.2⟩⟩, hc6.mono (fun b _ e => .inr e)⟩
  · exact hm6.congr (fun k => by simp [mapOf])
  · have := h.m1; simp; omega
theorem cnew_some (w : World) (hb : Below w0.heap.size w0 w) (hd : Dev w0 w p ms mo D) (n : Int) (h1 : 1 ≤ n) (h2 : n ≤ 9223372036854775807) :
    Calls Try.prog 65 #[.pointer (some ⟨p, 0, none⟩), .int .i64 n] w fun e w' => e = .returned (.pointer (some ⟨w.heap.size + 1, 0, none⟩)) ∧ CacheAt w0 w' (w.heap.size + 1) w.heap.size p ⟨n, 0, 0, 0, []⟩ (fun _ => False) ∧ Below w.heap.size w w' := by
  have hmm := @run_makeMap Try.prog
  have hn1 := hd.ok.n1
  have hz : (D.n == 0) = false := by simp; omega
  have hsz := hb.size
  go_enter Try.func65, Try.ntmps65
  go_wp2_with
    (first
      | (go_at_call 56; refine (hd.sectors rfl).mono ?_; rintro e w1 ⟨rfl, rfl⟩))
  go_ret
  refine ⟨rfl, ⟨?_, ?_, KeptOk.nil _, by simp; omega, h1, h2, by simp, by simp, by simp, (fun e he => by cases he), by omega, by omega, fun b e => e.elim⟩, below_alloc' (below_alloc' (Below.refl _ _) _) _⟩
  · have := heap_alloc_new (w.alloc (.map #[] 0)) (.cells #[.pointer (some ⟨p, 0, none⟩), .int .i64 n, .int .i64 0, .map (some w.heap.size), .int .i64 0, .int .i64 0] 126)
    simpa using this
  · refine (MapIs.new w).of_block ?_ |>.congr (fun k => by simp [mapOf])
    rw [Below.heap_alloc _ _ _ (by simp)]
theorem cnew_none (hd : Dev w0 w p ms mo D) (n : Int) (h1 : n < 1) :
    Calls Try.prog 65 #[.pointer (some ⟨p, 0, none⟩), .int .i64 n] w fun e w' => e = .returned (.pointer none) ∧ w = w' := by
  have hn1 := hd.ok.n1
  have hz : (D.n == 0) = false := by simp; omega
  go_enter Try.func65, Try.ntmps65
  go_wp2_with
    (first
      | (go_at_call 56; refine (hd.sectors rfl).mono ?_; rintro e w1 ⟨rfl, rfl⟩))
  go_ret
  exact ⟨rfl, rfl⟩
theorem cnew_nil (w : World) (n : Int) :
    Calls Try.prog 65 #[.pointer none, .int .i64 n] w fun e w' => e = .returned (.pointer none) ∧ w = w' := by
  go_enter Try.func65, Try.ntmps65
  go_wp2_with
    (first
      | (go_at_call 56; refine (dsectors_nil _).mono ?_; rintro e w1 ⟨rfl, rfl⟩))
  go_ret
  exact ⟨rfl, rfl⟩
set_option maxHeartbeats 1000000 in
theorem clone_own (w : World) (v : Value) (l : List Int) (hv : BytesIs w v l) (hl : l.length = 512) :
    Calls Try.prog 162 #[v] w fun e w' => ∃ v', e = .returned v' ∧ w'.ownsRow w.heap.size 5 1 v' 512 (bytesV l) ∧ Below w.heap.size w w' := by
  obtain ⟨A, cl, rfl, hcl, hcm, hA⟩ := hv
  rw [hl] at hcl ⊢
  obtain ⟨ad, rfl⟩ : ∃ ad, A = some ad := by
    obtain ⟨ad, e, _⟩ := hA 0 (.int .u8 (l.getD 0 0)) (by simp [bytesV, hl])
    exact ⟨ad, e⟩
  obtain ⟨ie, hi, hz, hsize, hby⟩ := info_parts (P := Try.prog) (e := 5) (z := .int .u8 0) (size := 1) (bytes := 1) (by kernel_rfl)
  have hal := below_alloc' (Below.refl _ w) (.cells #[] 5)
  have hlx : Hid ((bytesV l).length = 512 * 1) := Lib.hid (by rw [bytesV_len, hl])
  have hnil : ∀ W : World, (binOp .eql 47 (.slice (some ad) 512 cl) (.slice none 0 0)).run Try.prog W = .ok (.bool false) W := fun W => Lib.run_eql_slice_nil W 47 5 ad 512 cl 0 0 Try.underlying47
  have HA := Lib.hid hA
  have HL := Lib.hid hl
  clear hl hA
  go_enter Try.func162, Try.ntmps162
  go_wp2_with
    (first
      | (refine wpList_val (by rfl) (run_empty47 _) ?_)
      | (refine wpList_append_own _ (by rfl) _ _ 47 (by rfl) w.heap.size 5 ie (.int .u8 0) 1 1 Try.underlying47 hi hz hsize hby (by rfl) (by decide) (.slice (some ⟨w.heap.size, 0, none⟩) 0 0) 0 [] (by rfl) (ownsRow_empty (Nat.le_refl _) (heap_alloc_new w _)) ad 512 cl (bytesV l) (by rfl) hlx.out (fun j u hj => by obtain ⟨ad', e, h1⟩ := HA.out j u hj; cases e; exact (hal.cell (cell_lt h1)).trans h1) (bytesV_one _) (by decide) (by decide) (by simp) ?_
         intro v' w2 hown hgr _))
  go_ret
  exact ⟨_, rfl, by simpa using hown, below_grown (below_alloc' (Below.refl _ _) _) hgr (by intro k e; simp [Value.ownBlock] at e; omega)⟩
theorem clone_any (w : World) (v : Value) (l : List Int) (hv : BytesIs w v l) (hl : l.length = 512) :
    Calls Try.prog 162 #[v] w fun e w' => ∃ v', e = .returned v' ∧ BytesIs w' v' l ∧ (∀ b, v'.ownBlock = some b → w.heap.size ≤ b) ∧ Below w.heap.size w w' :=
  (clone_own w v l hv hl).mono fun e w' ⟨v', h1, h2, h3⟩ => ⟨v', h1, BytesIs.of_own hl h2, own_fresh h2, h3⟩
end
end Go.Proofs.Yteeamlidmkpohaa
