/-
  The device: New, latest, Read.
-/
import Derived.Test.YteeamlidmkpohaaDa
import Derived.Deep.AppendSrc
set_option linter.unusedVariables false
set_option linter.unusedSimpArgs false
namespace Go.Proofs.Yteeamlidmkpohaa
open Go.RowKit Go.Sort

def Dk.new (n : Int) : Dk := { n := n, safe := fun _ => none, opn := fun _ => none, armed := 0, down := false }

set_option maxRecDepth 100000 in
set_option maxHeartbeats 1000000 in
theorem dnew_none (w : World) (n : Int) (h : n < 1 ∨ 262144 < n) :
    Calls Try.prog 50 #[.int .i64 n] w fun e w' => e = .returned (.pointer none) ∧ w = w' := by
  rcases h with h | h
  · go_enter Try.func50, Try.ntmps50
    go_wp2
    go_ret
    exact ⟨rfl, rfl⟩
  · have h2 : ¬ n < 1 := by omega
    go_enter Try.func50, Try.ntmps50
    go_wp2
    go_ret
    exact ⟨rfl, rfl⟩

set_option maxRecDepth 100000 in
set_option maxHeartbeats 1000000 in
theorem dnew_some (w : World) (n : Int) (h1 : 1 ≤ n) (h2 : n ≤ 262144) :
    Calls Try.prog 50 #[.int .i64 n] w fun e w' => e = .returned (.pointer (some ⟨w.heap.size + 2, 0, none⟩)) ∧ DiskAt w' (w.heap.size + 2) w.heap.size (w.heap.size + 1) (Dk.new n) ∧ Below w.heap.size w w' := by
  have hmm := @run_makeMap Try.prog
  go_enter Try.func50, Try.ntmps50
  go_wp2
  go_ret
  refine ⟨rfl, ?_, below_alloc' (below_alloc' (below_alloc' (Below.refl _ _) _) _) _⟩
  refine ⟨⟨h1, h2, (by intro k l h; simp [Dk.new] at h), (by intro k l h; simp [Dk.new] at h), (by simp [Dk.new]), (by simp [Dk.new])⟩, ?_, ?_, ?_, by omega⟩
  · have := heap_alloc_new ((w.alloc (.map #[] 0)).alloc (.map #[] 0)) (.cells #[.int .i64 n, .map (some w.heap.size), .map (some (w.heap.size + 1)), .int .i64 0, .bool false] 86)
    simpa [Dk.new] using this
  · refine (MapIs.new w).of_block ?_ |>.congr (fun k => rfl)
    rw [Below.heap_alloc _ _ _ (by simp; omega), Below.heap_alloc _ _ _ (by simp)]
  · have h := MapIs.new (w.alloc (.map #[] 0))
    simp only [World.size_alloc] at h
    refine h.of_block ?_ |>.congr (fun k => rfl)
    rw [Below.heap_alloc _ _ _ (by simp)]

theorem DiskAt.alloc {w : World} {p ms mo : Nat} {D : Dk} (h : DiskAt w p ms mo D) (ob : Obj) : DiskAt (w.alloc ob) p ms mo D := h.below (below_alloc' (Below.refl _ _) ob)

set_option maxRecDepth 100000 in
set_option maxHeartbeats 1000000 in
theorem latest_any (w : World) (p ms mo : Nat) (D : Dk) (h : DiskAt w p ms mo D) (k : Int) :
    Calls Try.prog 132 #[.pointer (some ⟨p, 0, none⟩), .int .i64 k] w fun e w' => e = .returned (secV (D.latest k)) ∧ Below w.heap.size w w' := by
  have hl := h.lt
  have h1 := h.alloc (.cells (secA noughts) 162)
  obtain ⟨c0, c1, c2, c3, c4⟩ := h1.cells
  have hn512 : (secA noughts).size = 512 := by rw [secA_size, noughts_sec.1]
  cases ho : D.opn k with
  | some l =>
    have hsec := h.ok.o k l ho
    have hW := heap_alloc2_new w (.cells (secA noughts) 162) (.cells (secA l) 162)
    have hW0 := heap_alloc2_old w (.cells (secA noughts) 162) (.cells (secA l) 162)
    have e : D.latest k = l := by simp [Dk.latest, ho]
    rw [e]
    go_enter Try.func132, Try.ntmps132
    go_wp2_with (first | (refine wpList_alloc_arr rfl 162 rfl (secA noughts) (zero162 _) ?_) | (refine wpList_lookup_ok Try.underlying84 Try.underlying3 rfl _ _ rfl mo k rfl rfl _ h1.om _ (zero162 _) ?_; simp only [ho, Option.map_some, Option.getD_some, Option.isSome_some]) | (refine wpList_store_new rfl 162 _ _ rfl (secA l) (secA noughts) 162 rfl rfl (size162' hsec.1) (by rw [hn512, secA_size, hsec.1]) (secA_one l) ?_) | (refine wpList_load_row rfl 162 _ rfl (w.heap.size + 1) rfl 162 (secA l) (0, 0) _ hW Try.underlying162 rfl (size162' hsec.1) ?_) | (refine wpList_store_arr rfl 162 _ _ rfl w.heap.size (secA l) rfl rfl 162 (secA noughts) hW0 (size162' hsec.1) (by rw [hn512, secA_size, hsec.1]) (secA_one l) ?_; intro W1 hb1 hc1))
    refine bodyPost_ret (v := secV l) (results_cell_row rfl _ _ w.heap.size 162 (secA l) (0, 0) _ rfl hb1 Try.underlying162 rfl (size162' hsec.1)) rfl ⟨rfl, ?_⟩
    exact (hc1.then (Chg.refl _ _) (fun _ _ h => h)).below (B := w.heap.size) (by simp; omega) (by intro k _ e; omega) |> fun hb => (below_alloc' (below_alloc' (Below.refl _ _) _) _).trans hb
  | none =>
    have e : D.latest k = ((D.safe k).getD noughts) := by simp [Dk.latest, ho]
    have hsec : IsSec ((D.safe k).getD noughts) := by rw [← e]; exact Dk.latest_sec h.ok k
    rw [e]
    have h2 := h1.alloc (.cells (secA noughts) 162)
    obtain ⟨d0, d1, d2, d3, d4⟩ := h2.cells
    have hW0 := heap_alloc2_old w (.cells (secA noughts) 162) (.cells (secA noughts) 162)
    have eg : ((D.safe k).map secV).getD (secV noughts) = secV ((D.safe k).getD noughts) := by cases D.safe k <;> rfl
    go_enter Try.func132, Try.ntmps132
    go_wp2_with (first | (refine wpList_alloc_arr rfl 162 rfl (secA noughts) (zero162 _) ?_) | (refine wpList_lookup_ok Try.underlying84 Try.underlying3 rfl _ _ rfl mo k rfl rfl _ h1.om _ (zero162 _) ?_; simp only [ho, Option.map_none, Option.getD_none, Option.isSome_none]) | (refine wpList_store_new rfl 162 _ _ rfl (secA noughts) (secA noughts) 162 rfl rfl (size162' noughts_sec.1) rfl (secA_one noughts) ?_) | (refine wpList_lookup_1 Try.underlying84 Try.underlying3 rfl _ _ rfl ms k rfl rfl _ h2.sm _ (zero162 _) ?_; simp only [eg]) | (refine wpList_store_arr rfl 162 _ _ rfl w.heap.size (secA ((D.safe k).getD noughts)) rfl rfl 162 (secA noughts) hW0 (size162' hsec.1) (by rw [hn512, secA_size, hsec.1]) (secA_one _) ?_; intro W1 hb1 hc1))
    refine bodyPost_ret (v := secV ((D.safe k).getD noughts)) (results_cell_row rfl _ _ w.heap.size 162 (secA ((D.safe k).getD noughts)) (0, 0) _ rfl hb1 Try.underlying162 rfl (size162' hsec.1)) rfl ⟨rfl, ?_⟩
    exact (below_alloc' (below_alloc' (Below.refl _ _) _) _).trans (hc1.below (B := w.heap.size) (by simp; omega) (by intro k _ e; omega))
end Go.Proofs.Yteeamlidmkpohaa
