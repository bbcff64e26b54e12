/-
  Rows of bytes that are made: full.
-/
import Derived.Test.YteeamlidmkpohaaBt
import Derived.Deep.OwnRows
set_option linter.unusedVariables false
set_option linter.unusedSimpArgs false
namespace Go.Proofs.Yteeamlidmkpohaa
open Go.RowKit Go.Sort

def fillTo (f : Nat → Int) (n k : Nat) : List Int := (List.range n).map fun i => if i < k then f i else 0
theorem fillTo_len (f : Nat → Int) (n k : Nat) : (fillTo f n k).length = n := by simp [fillTo]
theorem fillTo_zero (f : Nat → Int) (n : Nat) : fillTo f n 0 = List.replicate n 0 := by
  apply List.ext_getElem
  · simp [fillTo]
  · intro i h1 h2; simp [fillTo]
theorem fillTo_set (f : Nat → Int) (n k : Nat) : (fillTo f n k).set k (f k) = fillTo f n (k + 1) := by
  apply List.ext_getElem
  · simp [fillTo]
  · intro i h1 h2
    rw [List.getElem_set]
    by_cases e : k = i
    · subst e; simp [fillTo]
    · rw [if_neg e]
      simp only [fillTo, List.getElem_map, List.getElem_range]
      by_cases h : i < k
      · rw [if_pos h, if_pos (by omega)]
      · rw [if_neg h, if_neg (by omega)]

def RowB (w : World) (g : Nat) (l : List Int) : Prop := w.heap[g]? = some (.cells (secA l) 5 (0, 0))
theorem RowB.lt {w : World} {g : Nat} {l : List Int} (h : RowB w g l) : g < w.heap.size := (Array.getElem?_eq_some_iff.1 h).1
theorem RowB.chg {F : Nat → Prop} {w w' : World} {g : Nat} {l : List Int} (h : RowB w g l) (hc : Chg F w w') (hF : ¬ F g) : RowB w' g l := (hc.block g h.lt hF).trans h
theorem RowB.below {w w' : World} {g : Nat} {l : List Int} (h : RowB w g l) (hc : Below w.heap.size w w') : RowB w' g l := (hc.block g h.lt).trans h
theorem RowB.set {w : World} {g : Nat} {l : List Int} (h : RowB w g l) (k : Nat) (x : Int) : RowB (w.setCell ⟨g, k, none⟩ (.int .u8 x)) g (l.set k x) := by
  unfold RowB
  rw [heap_setCell w g k _ _ _ _ h]
  congr 2
  simp [secA, bytesV, List.map_set]
theorem RowB.cell {w : World} {g : Nat} {l : List Int} (h : RowB w g l) (i : Nat) (hi : i < l.length) : w.cell? ⟨g, i, none⟩ = some (.int .u8 (l.getD i 0)) := by
  simp [World.cell?, show w.heap[g]? = _ from h, secA, bytesV, hi]
theorem RowB.free {w : World} {g : Nat} {l : List Int} (h : RowB w g l) (i : Nat) : w.frozen? ⟨g, i, none⟩ = false := by
  simp [World.frozen?, show w.heap[g]? = _ from h]
theorem RowB.own {w : World} {g base n : Nat} {l : List Int} (h : RowB w g l) (hb : base ≤ g) (hl : l.length = n) (hm : n ≤ maxLen) : w.ownsRow base 5 1 (.slice (some ⟨g, 0, none⟩) n n) n (bytesV l) :=
  ⟨by rw [bytesV_len, hl, Nat.mul_one], .inr ⟨g, n, secA l, rfl, hb, h, Nat.le_refl _, hm, by rw [secA_size, hl, Nat.mul_one], by rw [secA, Nat.mul_one]; exact List.take_of_length_le (by rw [bytesV_len, hl]; exact Nat.le_refl _)⟩⟩
theorem rowB_made (w : World) (n : Nat) : RowB (w.alloc (.cells (madeCells #[.int .u8 0] n) 5)) w.heap.size (List.replicate n 0) := by
  unfold RowB
  rw [heap_alloc_new]
  congr 2
  apply Array.ext'
  rw [toList_madeCells_one]
  simp [secA, bytesV]

def fullF (b : Int) (i : Nat) : Int := (b + (i : Int) / 64) % 256
def fullL (b : Int) : List Int := fillTo (fullF b) 512 512
theorem fullL_sec (b : Int) : IsSec (fullL b) := by
  refine ⟨fillTo_len _ _ _, fun x hx => ?_⟩
  simp only [fullL, fillTo, List.mem_map, List.mem_range] at hx
  obtain ⟨i, hi, rfl⟩ := hx
  rw [if_pos hi, fullF]
  omega

set_option maxRecDepth 100000 in
set_option maxHeartbeats 2000000 in
theorem full_any (w : World) (b : Int) (h0 : 0 ≤ b) (h1 : b ≤ 255) :
    Calls Try.prog 53 #[.int .u8 b] w fun e w' => ∃ v, e = .returned v ∧ w'.ownsRow w.heap.size 5 1 v 512 (bytesV (fullL b)) ∧ Below w.heap.size w w' := by
  have hmk : ∀ W : World, (Instr.makeSlice 47 (.int .i64 512) (.int .i64 512)).run Try.prog W = .ok (.slice (some ⟨W.heap.size, 0, none⟩) 512 512) (W.alloc (.cells (madeCells #[.int .u8 0] 512) 5)) := fun W => Go.run_make_row' (P := Try.prog) 47 5 (.int .u8 0) 1 Try.underlying47 (by kernel_rfl) rfl .i64 .i64 512 (by omega) (by omega) W
  go_enter Try.func53, Try.ntmps53
  go_wp2
  have hrow := rowB_made w 512
  have hbe : Below w.heap.size w (w.alloc (.cells (madeCells #[Value.int .u8 0] 512) 5)) := below_alloc' (Below.refl _ _) _
  rw [← fillTo_zero (fullF b)] at hrow
  generalize w.alloc (.cells (madeCells #[Value.int .u8 0] 512) 5) = wa at hrow hbe ⊢
  have hg : w.heap.size ≤ w.heap.size := Nat.le_refl _
  generalize hgg : w.heap.size = g at hrow hg ⊢
  go_loopw [4] (fun x wr => ∃ k : Nat, k ≤ 512 ∧ x = .int .i64 k ∧ RowB wr g (fillTo (fullF b) 512 k) ∧ Below g w wr) (fun x _ => 512 - (intOf x).toNat)
  case atStart => exact ⟨0, by omega, rfl, hrow, hgg ▸ hbe⟩
  case round =>
    obtain ⟨k, hk, rfl, hr, hbw⟩ := hrel
    by_cases hlt : k < 512
    · have hc := hr.cell k (by rw [fillTo_len]; exact hlt)
      have hf := hr.free k
      go_wp2
      go_roundw
      case rel =>
        refine ⟨k + 1, by omega, by go_num, ?_, hbw.setCell (p := ⟨g, k, none⟩) hg _⟩
        have := hr.set k (fullF b k)
        rw [fillTo_set] at this
        exact this
      case measure => simp [intOf]; omega
    · obtain rfl : k = 512 := by omega
      go_wp2
      go_ret
      exact ⟨_, rfl, by rw [hgg]; exact hr.own (Nat.le_refl _) (fillTo_len _ _ _) (by simp [maxLen]), hgg ▸ hbw⟩
end Go.Proofs.Yteeamlidmkpohaa
