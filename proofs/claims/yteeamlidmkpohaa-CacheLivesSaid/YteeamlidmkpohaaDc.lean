/-
  The device: Read.
-/
import Derived.Test.YteeamlidmkpohaaDb
import Derived.Test.YteeamlidmkpohaaBu
set_option linter.unusedVariables false
set_option linter.unusedSimpArgs false
namespace Go.Proofs.Yteeamlidmkpohaa
open Go.RowKit Go.Sort

set_option maxRecDepth 100000 in
theorem run_empty47 (w : World) : (Instr.buildSlice 47 0 #[]).run Try.prog w = .ok (.slice (some ⟨w.heap.size, 0, none⟩) 0 0) (w.alloc (.cells #[] 5)) := by
  have hu : Try.prog.underlying 47 = some (.slice 5) := Try.underlying47
  obtain ⟨ie, hi, hz, hsize, hby⟩ := info_parts (P := Try.prog) (e := 5) (z := .int .u8 0) (size := 1) (bytes := 1) (by kernel_rfl)
  simp [Instr.buildSlice, run_underlying hu, sizeOf, typeInfo, hi, newRow, newObj, Sem.run, Result.andThen, Instr.fill]
  simp [Array.range]

set_option maxRecDepth 100000 in
set_option maxHeartbeats 1000000 in
theorem dread_ok (w : World) (p ms mo : Nat) (D : Dk) (h : DiskAt w p ms mo D) (k : Int) (hk : D.may k = 0) :
    Calls Try.prog 55 #[.pointer (some ⟨p, 0, none⟩), .int .i64 k] w fun e w' => ∃ v, e = .returned (.tuple #[v, .int .i64 0]) ∧ w'.ownsRow w.heap.size 5 1 v 512 (bytesV (D.latest k)) ∧ Below w.heap.size w w' := by
  have hsec := Dk.latest_sec h.ok k
  have hm := may_any w p ms mo D h k
  rw [hk] at hm
  have hn512 : (secA noughts).size = (secA (D.latest k)).size := by rw [secA_size, noughts_sec.1, secA_size, hsec.1]
  obtain ⟨ie, hi, hz, hsize, hby⟩ := info_parts (P := Try.prog) (e := 5) (z := .int .u8 0) (size := 1) (bytes := 1) (by kernel_rfl)
  go_enter Try.func55, Try.ntmps55
  go_wp2_with
    (first
      | (go_at_call 130; refine hm.mono ?_; rintro e w1 ⟨rfl, rfl⟩)
      | (go_at_call 132; refine (latest_any w p ms mo D h k).mono ?_; rintro e w1 ⟨rfl, hb⟩)
      | (refine wpList_alloc_arr rfl 162 rfl (secA noughts) (zero162 _) ?_)
      | (refine wpList_store_new rfl 162 _ _ rfl (secA (D.latest k)) (secA noughts) 162 rfl rfl (size162' hsec.1) hn512 (secA_one _) ?_)
      | (refine wpList_val rfl (run_empty47 _) ?_)
      | (refine wpList_append_own _ rfl _ _ 47 rfl w.heap.size 5 ie (.int .u8 0) 1 1 Try.underlying47 hi hz hsize hby rfl (by decide) (.slice (some ⟨w1.heap.size + 1, 0, none⟩) 0 0) 0 [] ?_ ?_ ⟨w1.heap.size, 0, none⟩ 512 512 (bytesV (D.latest k)) ?_ ?_ ?_ (bytesV_one _) (by decide) (by decide) ?_ ?_
         · rfl
         · exact ownsRow_empty (by have := hb.size; omega) (heap_alloc2_new w1 _ _)
         · rfl
         · rw [bytesV_len, hsec.1]
         · exact fun j u hj => cells_at (heap_alloc2_old w1 _ _) j u (by simpa [secA] using hj)
         · have := hb.size; simp; omega
         intro v' w2 hown hgr _))
  refine bodyPost_ret (v := .tuple #[v', .int .i64 0]) (by simp [results, Try.results55, go_sem]) rfl ⟨v', rfl, by simpa using hown, ?_⟩
  exact below_grown (below_alloc' (below_alloc' hb _) _) hgr (by intro k e; have := hb.size; simp [Value.ownBlock] at e; omega)
end Go.Proofs.Yteeamlidmkpohaa
