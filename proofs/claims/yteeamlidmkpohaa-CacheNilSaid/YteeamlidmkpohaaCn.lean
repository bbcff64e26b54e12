/-
  No cache, and one that nobody made.
-/
import Derived.Test.YteeamlidmkpohaaCi
import Derived.Test.YteeamlidmkpohaaArg
set_option linter.unusedVariables false
set_option linter.unusedSimpArgs false
set_option maxRecDepth 100000
namespace Go.Proofs.Yteeamlidmkpohaa
open Go.RowKit Go.Sort

def ZeroC (w : World) (c : Nat) : Prop := w.heap[c]? = some (.cells #[.pointer none, .int .i64 0, .int .i64 0, .map none, .int .i64 0, .int .i64 0] 126 (0, 0))
/-- a cache that is none -/
def NilC (w : World) (v : Value) : Prop := v = .pointer none ∨ ∃ c, v = .pointer (some ⟨c, 0, none⟩) ∧ ZeroC w c
theorem NilC.below {w w' : World} {v : Value} (h : NilC w v) (hb : Below w.heap.size w w') : NilC w' v := by
  rcases h with rfl | ⟨c, rfl, h⟩
  · exact .inl rfl
  · exact .inr ⟨c, rfl, (hb.block c (Array.getElem?_eq_some_iff.1 h).1).trans h⟩
theorem nilc_known (w : World) (v : Value) (h : NilC w v) : Calls Try.prog 159 #[v] w fun e w' => e = .returned (.bool false) ∧ w = w' := by
  rcases h with rfl | ⟨c, rfl, h⟩
  · go_enter Try.func159, Try.ntmps159
    go_wp2
    go_ret
    exact ⟨rfl, rfl⟩
  · have c1 := cellBlk h 1 _ rfl
    go_enter Try.func159, Try.ntmps159
    go_wp2
    go_ret
    exact ⟨rfl, rfl⟩
theorem nilc_drop (w : World) (v : Value) (h : NilC w v) : Calls Try.prog 104 #[v] w fun e w' => e = .returned (.tuple #[]) ∧ w = w' := by
  have hk := nilc_known w v h
  go_enter Try.func104, Try.ntmps104
  go_wp2_with (first | (go_at_call 159; refine hk.mono ?_; rintro e w1 ⟨rfl, rfl⟩))
  go_end0
  exact ⟨rfl, rfl⟩
theorem nilc_read (w : World) (v : Value) (h : NilC w v) (k : Int) : Calls Try.prog 105 #[v, .int .i64 k] w fun e w' => e = .returned (.tuple #[.slice none 0 0, .int .i64 1]) ∧ w = w' := by
  have hk := nilc_known w v h
  go_enter Try.func105, Try.ntmps105
  go_wp2_with (first | (go_at_call 159; refine hk.mono ?_; rintro e w1 ⟨rfl, rfl⟩))
  exact bodyPost_ret (v := .tuple #[.slice none 0 0, .int .i64 1]) (by simp [results, Try.results105, go_sem]) rfl ⟨rfl, rfl⟩
theorem nilc_write (w : World) (v : Value) (h : NilC w v) (k : Int) (u : Value) : Calls Try.prog 107 #[v, .int .i64 k, u] w fun e w' => e = .returned (.int .i64 1) ∧ w = w' := by
  have hk := nilc_known w v h
  go_enter Try.func107, Try.ntmps107
  go_wp2_with (first | (go_at_call 159; refine hk.mono ?_; rintro e w1 ⟨rfl, rfl⟩))
  go_ret
  exact ⟨rfl, rfl⟩
theorem nilc_sync (w : World) (v : Value) (h : NilC w v) : Calls Try.prog 109 #[v] w fun e w' => e = .returned (.int .i64 1) ∧ w = w' := by
  have hk := nilc_known w v h
  go_enter Try.func109, Try.ntmps109
  go_wp2_with (first | (go_at_call 159; refine hk.mono ?_; rintro e w1 ⟨rfl, rfl⟩))
  go_ret
  exact ⟨rfl, rfl⟩
theorem nilc_counts (w : World) (v : Value) (h : NilC w v) : Calls Try.prog 106 #[v] w fun e w' => e = .returned (.tuple #[.int .i64 0, .int .i64 0]) ∧ w = w' := by
  have hk := nilc_known w v h
  go_enter Try.func106, Try.ntmps106
  go_wp2_with (first | (go_at_call 159; refine hk.mono ?_; rintro e w1 ⟨rfl, rfl⟩))
  exact bodyPost_ret (v := .tuple #[.int .i64 0, .int .i64 0]) (by simp [results, Try.results106, go_sem]) rfl ⟨rfl, rfl⟩
theorem nilc_sectors (w : World) (v : Value) (h : NilC w v) : Calls Try.prog 110 #[v] w fun e w' => e = .returned (.int .i64 0) ∧ w = w' := by
  have hk := nilc_known w v h
  go_enter Try.func110, Try.ntmps110
  go_wp2_with (first | (go_at_call 159; refine hk.mono ?_; rintro e w1 ⟨rfl, rfl⟩))
  go_ret
  exact ⟨rfl, rfl⟩

set_option maxHeartbeats 4000000 in
theorem cacheNil_row (w : World) {v0 : Value} {a : Int} (A0 : ArgInt v0 a) : Calls Try.prog 19 #[v0] w fun e w' => e = .returned (.bool true) ∧ Below w.heap.size w w' := by
  obtain ⟨rfl, _⟩ := A0
  have hB := Below.refl w.heap.size w
  go_enter Try.func19, Try.ntmps19
  go_wp2_with
    (first
      | (go_at_call 103; refine (awake09 _).mono ?_; rintro e w1 ⟨rfl, hb⟩; replace hB := below_trans' hB hb; clear hb))
  have hz := heap_alloc2_old w1 (.cells #[.pointer none, .int .i64 0, .int .i64 0, .map none, .int .i64 0, .int .i64 0] 126) (.cells #[.pointer none, .pointer (some ⟨w1.heap.size, 0, none⟩)] 63)
  have hl := heap_alloc2_new w1 (.cells #[.pointer none, .int .i64 0, .int .i64 0, .map none, .int .i64 0, .int .i64 0] 126) (.cells #[.pointer none, .pointer (some ⟨w1.heap.size, 0, none⟩)] 63)
  have hbe : Below w.heap.size w ((w1.alloc (.cells #[.pointer none, .int .i64 0, .int .i64 0, .map none, .int .i64 0, .int .i64 0] 126)).alloc (.cells #[.pointer none, .pointer (some ⟨w1.heap.size, 0, none⟩)] 63)) := below_alloc' (below_alloc' hB _) _
  have HZ := Lib.hid hz
  have HL := Lib.hid hl
  have HBE := Lib.hid hbe
  clear hz hl hbe hB
  go_wp2_with fail
  generalize ((w1.alloc (.cells #[.pointer none, .int .i64 0, .int .i64 0, .map none, .int .i64 0, .int .i64 0] 126)).alloc (.cells #[.pointer none, .pointer (some ⟨w1.heap.size, 0, none⟩)] 63)) = wa at HZ HL HBE ⊢
  generalize w1.heap.size + 1 = g at HL ⊢
  generalize w1.heap.size = z at HZ HL
  go_loopw [4] (fun t wr => ∃ k : Nat, k ≤ 2 ∧ t = .int .i64 k ∧ Below wa.heap.size wa wr) (fun t _ => 2 - (intOf t).toNat)
  case atStart => exact ⟨0, by omega, rfl, Below.refl _ _⟩
  case round =>
    obtain ⟨k, hk, rfl, hbr⟩ := hrel
    by_cases hlt : k < 2
    · obtain ⟨o, hco, hno⟩ : ∃ o, wr.cell? ⟨g, k, none⟩ = some (.pointer o) ∧ NilC wr (.pointer o) := by
        rcases (show k = 0 ∨ k = 1 by omega) with rfl | rfl
        · have c0 := cellBlk HL.out 0 _ rfl
          exact ⟨none, (hbr.cell (p := ⟨g, 0, none⟩) (cell_lt c0)).trans c0, .inl rfl⟩
        · have c1 := cellBlk HL.out 1 _ rfl
          exact ⟨some ⟨z, 0, none⟩, (hbr.cell (p := ⟨g, 1, none⟩) (cell_lt c1)).trans c1, .inr ⟨z, rfl, (hbr.block z (Array.getElem?_eq_some_iff.1 HZ.out).1).trans HZ.out⟩⟩
      have HBR := Lib.hid hbr
      clear hbr
      have hcl := cell_lt hco
      have hnod : NilC wr.drew (.pointer o) := hno.below (Below.refl _ _).drew
      have hcod : wr.drew.cell? ⟨g, k, none⟩ = some (.pointer o) := hco
      go_wp2_with
        (first
          | (go_at_call 104; refine (nilc_drop _ _ hno).mono ?_; rintro e w2 ⟨rfl, rfl⟩)
          | (go_at_call 105; refine (nilc_read _ _ hno _).mono ?_; rintro e w2 ⟨rfl, rfl⟩)
          | (go_at_call 106; refine (nilc_counts _ _ hno).mono ?_; rintro e w2 ⟨rfl, rfl⟩))
      go_region_held3 (fun w' => w'.cell? ⟨g, k, none⟩ = some (.pointer o)) (first | exact hco | exact hcod | exact m3)
        (first
          | (go_at_call 108; refine (full9_any _ _ (by decide) (by decide)).mono ?_
             rintro e w3 ⟨v3, rfl, ho3, hb3⟩
             have m3 : w3.cell? ⟨g, k, none⟩ = some (.pointer o) := (hb3.cell (p := ⟨g, k, none⟩) hcl).trans hcod
             have hn3 := hnod.below hb3
             have HB3 := Lib.hid hb3)
          | (go_at_call 107; refine (nilc_write _ _ hn3 _ _).mono ?_; rintro e w4 ⟨rfl, rfl⟩)
          | (go_at_call 109; refine (nilc_sync _ _ hn3).mono ?_; rintro e w4 ⟨rfl, rfl⟩)
          | (go_at_call 110; refine (nilc_sectors _ _ hn3).mono ?_; rintro e w4 ⟨rfl, rfl⟩))
      go_wp2_with fail
      go_roundw
      case rel => exact ⟨k + 1, by omega, by go_num, (HBR.out.drew).trans (HB3.out.mono HBR.out.size)⟩
      case measure => simp [intOf]; omega
    · obtain rfl : k = 2 := by omega
      have HBR := Lib.hid hbr
      clear hbr
      go_wp2_with fail
      go_ret
      exact ⟨rfl, below_trans' HBE.out HBR.out⟩
end Go.Proofs.Yteeamlidmkpohaa
