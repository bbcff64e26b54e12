/-
  The device: no disk, and one that nobody made.
-/
import Derived.Test.YteeamlidmkpohaaDg
import Derived.Test.YteeamlidmkpohaaDh
import Derived.Test.YteeamlidmkpohaaArg
set_option linter.unusedVariables false
set_option linter.unusedSimpArgs false
set_option maxRecDepth 100000
namespace Go.Proofs.Yteeamlidmkpohaa
open Go.RowKit Go.Sort

def ZeroAt (w : World) (p : Nat) (a : Int) : Prop := w.heap[p]? = some (.cells #[.int .i64 0, .map none, .map none, .int .i64 a, .bool false] 86 (0, 0))
theorem ZeroAt.lt {w : World} {p : Nat} {a : Int} (h : ZeroAt w p a) : p < w.heap.size := (Array.getElem?_eq_some_iff.1 h).1
theorem ZeroAt.below {w w' : World} {p : Nat} {a : Int} (h : ZeroAt w p a) (hb : Below w.heap.size w w') : ZeroAt w' p a := (hb.block p h.lt).trans h
theorem ZeroAt.cells {w : World} {p : Nat} {a : Int} (h : ZeroAt w p a) : w.cell? ⟨p, 0, none⟩ = some (.int .i64 0) ∧ w.cell? ⟨p, 4, none⟩ = some (.bool false) ∧ w.frozen? ⟨p, 3, none⟩ = false ∧ (w.cell? ⟨p, 3, none⟩) = some (.int .i64 a) := by
  unfold ZeroAt at h
  refine ⟨?_, ?_, ?_, ?_⟩ <;> simp [World.cell?, World.frozen?, h]

/-- a disk that is none -/
def NilDisk (w : World) (d : Value) : Prop := d = .pointer none ∨ ∃ p a, d = .pointer (some ⟨p, 0, none⟩) ∧ ZeroAt w p a
theorem NilDisk.below {w w' : World} {d : Value} (h : NilDisk w d) (hb : Below w.heap.size w w') : NilDisk w' d := by
  rcases h with rfl | ⟨p, a, rfl, h⟩
  · exact .inl rfl
  · exact .inr ⟨p, a, rfl, h.below hb⟩

theorem nil_may (w : World) (d : Value) (h : NilDisk w d) (k : Int) : Calls Try.prog 130 #[d, .int .i64 k] w fun e w' => e = .returned (.int .i64 1) ∧ w = w' := by
  rcases h with rfl | ⟨p, a, rfl, h⟩
  · go_enter Try.func130, Try.ntmps130
    go_wp2
    go_ret
    exact ⟨rfl, rfl⟩
  · obtain ⟨c0, c4, f3, c3⟩ := h.cells
    go_enter Try.func130, Try.ntmps130
    go_wp2
    go_ret
    exact ⟨rfl, rfl⟩
theorem nil_read (w : World) (d : Value) (h : NilDisk w d) (k : Int) : Calls Try.prog 55 #[d, .int .i64 k] w fun e w' => e = .returned (.tuple #[.slice none 0 0, .int .i64 1]) ∧ w = w' := by
  have hm := nil_may w d h k
  go_enter Try.func55, Try.ntmps55
  go_wp2_with
    (first
      | (go_at_call 130; refine hm.mono ?_; rintro e w1 ⟨rfl, rfl⟩))
  exact bodyPost_ret (v := .tuple #[.slice none 0 0, .int .i64 1]) (by simp [results, Try.results55, go_sem]) rfl ⟨rfl, rfl⟩
theorem nil_write (w : World) (d : Value) (h : NilDisk w d) (k : Int) (v : Value) : Calls Try.prog 52 #[d, .int .i64 k, v] w fun e w' => e = .returned (.int .i64 1) ∧ w = w' := by
  have hm := nil_may w d h k
  go_enter Try.func52, Try.ntmps52
  go_wp2_with
    (first
      | (go_at_call 130; refine hm.mono ?_; rintro e w1 ⟨rfl, rfl⟩))
  go_ret
  exact ⟨rfl, rfl⟩
theorem nil_sync (w : World) (d : Value) (h : NilDisk w d) : Calls Try.prog 51 #[d] w fun e w' => e = .returned (.int .i64 1) ∧ w = w' := by
  have hm := nil_may w d h 0
  go_enter Try.func51, Try.ntmps51
  go_wp2_with
    (first
      | (go_at_call 130; refine hm.mono ?_; rintro e w1 ⟨rfl, rfl⟩))
  go_ret
  exact ⟨rfl, rfl⟩
theorem nil_wake (w : World) (d : Value) (h : NilDisk w d) (v : Value) : Calls Try.prog 54 #[d, v] w fun e w' => e = .returned (.tuple #[]) ∧ w = w' := by
  rcases h with rfl | ⟨p, a, rfl, h⟩
  · go_enter Try.func54, Try.ntmps54
    go_wp2
    exact bodyPost_ret (v := .tuple #[]) (results_none rfl _ _ _) rfl ⟨rfl, rfl⟩
  · obtain ⟨c0, c4, f3, c3⟩ := h.cells
    go_enter Try.func54, Try.ntmps54
    go_wp2
    exact bodyPost_ret (v := .tuple #[]) (results_none rfl _ _ _) rfl ⟨rfl, rfl⟩
theorem nil_down (w : World) (d : Value) (h : NilDisk w d) : Calls Try.prog 59 #[d] w fun e w' => e = .returned (.bool false) ∧ w = w' := by
  rcases h with rfl | ⟨p, a, rfl, h⟩
  · go_enter Try.func59, Try.ntmps59
    go_wp2
    go_ret
    exact ⟨rfl, rfl⟩
  · obtain ⟨c0, c4, f3, c3⟩ := h.cells
    go_enter Try.func59, Try.ntmps59
    go_wp2
    go_ret
    exact ⟨rfl, rfl⟩
theorem nil_sectors (w : World) (d : Value) (h : NilDisk w d) : Calls Try.prog 56 #[d] w fun e w' => e = .returned (.int .i64 0) ∧ w = w' := by
  rcases h with rfl | ⟨p, a, rfl, h⟩
  · go_enter Try.func56, Try.ntmps56
    go_wp2
    go_ret
    exact ⟨rfl, rfl⟩
  · obtain ⟨c0, c4, f3, c3⟩ := h.cells
    go_enter Try.func56, Try.ntmps56
    go_wp2
    go_ret
    exact ⟨rfl, rfl⟩
theorem nil_bytes (w : World) (d : Value) (h : NilDisk w d) : Calls Try.prog 79 #[d] w fun e w' => e = .returned (.slice none 0 0) ∧ w = w' := by
  rcases h with rfl | ⟨p, a, rfl, h⟩
  · go_enter Try.func79, Try.ntmps79
    go_wp2
    go_ret
    exact ⟨rfl, rfl⟩
  · obtain ⟨c0, c4, f3, c3⟩ := h.cells
    go_enter Try.func79, Try.ntmps79
    go_wp2
    go_ret
    exact ⟨rfl, rfl⟩
theorem nil_copy (w : World) (d : Value) (h : NilDisk w d) : Calls Try.prog 83 #[d] w fun e w' => e = .returned (.pointer none) ∧ w = w' := by
  rcases h with rfl | ⟨p, a, rfl, h⟩
  · go_enter Try.func83, Try.ntmps83
    go_wp2
    go_ret
    exact ⟨rfl, rfl⟩
  · obtain ⟨c0, c4, f3, c3⟩ := h.cells
    go_enter Try.func83, Try.ntmps83
    go_wp2
    go_ret
    exact ⟨rfl, rfl⟩
/-- F: the block that may be written -/
theorem nil_arm (w : World) (d : Value) (h : NilDisk w d) (n : Int) : Calls Try.prog 57 #[d, .int .i64 n] w fun e w' => e = .returned (.tuple #[]) ∧ NilDisk w' d ∧ Chg (fun b => d.ownBlock = some b ∨ d = .pointer (some ⟨b, 0, none⟩)) w w' := by
  rcases h with rfl | ⟨p, a, rfl, h⟩
  · go_enter Try.func57, Try.ntmps57
    go_wp2
    go_end0
    exact ⟨rfl, .inl rfl, Chg.refl _ _⟩
  · obtain ⟨c0, c4, f3, c3⟩ := h.cells
    have fin : ∀ x : Int, NilDisk (w.setCell ⟨p, 3, none⟩ (.int .i64 x)) (.pointer (some ⟨p, 0, none⟩)) := fun x => .inr ⟨p, x, rfl, heap_setCell w p 3 _ _ _ _ h⟩
    have chg : ∀ x : Int, Chg (fun b => (Value.pointer (some ⟨p, 0, none⟩)).ownBlock = some b ∨ Value.pointer (some ⟨p, 0, none⟩) = .pointer (some ⟨b, 0, none⟩)) w (w.setCell ⟨p, 3, none⟩ (.int .i64 x)) := fun x => (chg_setCell w p 3 _).mono (fun b _ e => .inr (by rw [e]))
    by_cases h1 : 0 < n
    · go_enter Try.func57, Try.ntmps57
      go_wp2
      go_end0
      exact ⟨rfl, fin n, chg n⟩
    · by_cases h4 : n = 0
      · subst h4
        clear h1
        go_enter Try.func57, Try.ntmps57
        go_wp2
        go_end0
        exact ⟨rfl, fin 0, chg 0⟩
      · have h2 : n < 0 := by omega
        clear h1 h4
        go_enter Try.func57, Try.ntmps57
        go_wp2
        go_end0
        exact ⟨rfl, fin 0, chg 0⟩
/-- the law's 'none' -/
theorem none08_walk (w : World) (d : Value) (h : NilDisk w d) (n : Int) : Calls Try.prog 85 #[d, .int .i64 n] w fun e w' => e = .returned (.bool true) ∧ Chg (fun b => d = .pointer (some ⟨b, 0, none⟩)) w w' := by
  have hC := Chg.refl (fun b => d = .pointer (some ⟨b, 0, none⟩)) w
  go_enter Try.func85, Try.ntmps85
  go_wp2_with
    (first
      | (go_at_call 55; refine (nil_read _ _ h _).mono ?_; rintro e w1 ⟨rfl, rfl⟩)
      | (go_at_call 57; refine (nil_arm _ _ h _).mono ?_; rintro e w1 ⟨rfl, h1, hc⟩; replace h := h1; replace hC := hC.trans (hc.mono (fun b _ e => by rcases e with e | e; rcases h with rfl | ⟨p, a, rfl, _⟩ <;> simp [Value.ownBlock] at e; exact e)); clear hc h1)
      | (go_at_call 54; refine (nil_wake _ _ h _).mono ?_; rintro e w1 ⟨rfl, rfl⟩)
      | (go_at_call 53; refine (full_any _ _ (by decide) (by decide)).mono ?_; rintro e w1 ⟨v, rfl, ho, hb⟩; replace h := h.below hb; replace hC := hC.trans (Chg.of_below hb); clear ho hb)
      | (go_at_call 52; refine (nil_write _ _ h _ _).mono ?_; rintro e w1 ⟨rfl, rfl⟩)
      | (go_at_call 51; refine (nil_sync _ _ h).mono ?_; rintro e w1 ⟨rfl, rfl⟩)
      | (go_at_call 59; refine (nil_down _ _ h).mono ?_; rintro e w1 ⟨rfl, rfl⟩)
      | (go_at_call 56; refine (nil_sectors _ _ h).mono ?_; rintro e w1 ⟨rfl, rfl⟩)
      | (go_at_call 79; refine (nil_bytes _ _ h).mono ?_; rintro e w1 ⟨rfl, rfl⟩)
      | (go_at_call 83; refine (nil_copy _ _ h).mono ?_; rintro e w1 ⟨rfl, rfl⟩))
  go_ret
  exact ⟨rfl, hC⟩
set_option maxHeartbeats 1000000 in
theorem devNil_row (w : World) {v0 : Value} {a : Int} (A0 : ArgInt v0 a) : Calls Try.prog 14 #[v0] w fun e w' => e = .returned (.bool true) ∧ Below w.heap.size w w' := by
  obtain ⟨rfl, _⟩ := A0
  have hB := Below.refl w.heap.size w
  go_enter Try.func14, Try.ntmps14
  go_wp2_with
    (first
      | (go_at_call 49; refine (awake08 _).mono ?_; rintro e w1 ⟨rfl, hb⟩; replace hB := below_trans' hB hb; clear hb)
      | (go_at_call 85; refine (none08_walk _ _ ?_ _).mono ?_; (first | exact .inl rfl | exact .inr ⟨_, 0, rfl, heap_alloc_new _ _⟩); rintro e w2 ⟨rfl, hb⟩; (first | (replace hB := hB.trans (hb.below hB.size (fun k _ e => by cases e))) | (have hB2 := (below_alloc' hB (.cells #[.int .i64 0, .map none, .map none, .int .i64 0, .bool false] 86)).trans (hb.below (by have := hB.size; simp; omega) (fun k _ e => by have := hB.size; simp at e; omega)))); clear hb))
  go_ret
  exact ⟨rfl, hB2⟩
end Go.Proofs.Yteeamlidmkpohaa
