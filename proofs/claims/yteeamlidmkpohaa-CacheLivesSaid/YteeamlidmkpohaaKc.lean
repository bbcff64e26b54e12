/-
  LentFates, KeptFates.
-/
import Derived.Test.YteeamlidmkpohaaKa
set_option linter.unusedVariables false
set_option linter.unusedSimpArgs false
namespace Go.Proofs.Yteeamlidmkpohaa
open Go.RowKit Go.Sort

def marksI (k from' n : Nat) : List Int := (List.range n).map fun (i : Nat) => markI k ((from' + i : Nat) : Int)
theorem marksI_len (k f n : Nat) : (marksI k f n).length = n := by simp [marksI]
theorem marksI_succ (k f n : Nat) : marksI k f (n + 1) = marksI k f n ++ [markI k ((f + n : Nat) : Int)] := by simp [marksI, List.range_succ]

/-- block g of type e holds l, and twelve marks behind it -/
def LentI (w : World) (g : Nat) (e : TypeId) (l : List Int) : Prop := RowC w g e (intsV (l ++ marksI 1 0 12))
theorem LentI.lo {w : World} {g : Nat} {e : TypeId} {l : List Int} (h : LentI w g e l) {k : Nat} (hk : k < l.length) : w.cell? ⟨g, k, none⟩ = some (.int .i64 (l.getD k 0)) := by
  refine RowC.cell h k _ ?_
  simp only [intsV, List.getElem?_map]
  rw [List.getElem?_append_left hk]
  simp [hk]
theorem LentI.hi {w : World} {g : Nat} {e : TypeId} {l : List Int} (h : LentI w g e l) {j : Nat} (hj : j < 12) : w.cell? ⟨g, l.length + j, none⟩ = some (.int .i64 (markI 1 j)) := by
  refine RowC.cell h (l.length + j) _ ?_
  simp only [intsV, List.getElem?_map]
  rw [List.getElem?_append_right (by omega), Nat.add_sub_cancel_left]
  simp [marksI, hj]
theorem LentI.lt {w : World} {g : Nat} {e : TypeId} {l : List Int} (h : LentI w g e l) : g < w.heap.size := RowC.lt h
theorem LentI.chg {F : Nat → Prop} {w w' : World} {g : Nat} {e : TypeId} {l : List Int} (h : LentI w g e l) (hc : Chg F w w') (hF : ¬ F g) : LentI w' g e l := RowC.chg h hc hF
theorem LentI.below {w w' : World} {g : Nat} {e : TypeId} {l : List Int} (h : LentI w g e l) (hc : Below w.heap.size w w') : LentI w' g e l := RowC.below h hc
theorem LentI.ints {w : World} {g : Nat} {e : TypeId} {l : List Int} (h : LentI w g e l) (hl : l.length ≤ 1000000) : IntsIs w (.slice (some ⟨g, 0, none⟩) l.length (l.length + 12)) l := by
  have := RowC.vals (n := l.length) (c := l.length + 12) h (by simp [intsV]) (by omega) (by simp only [maxLen]; omega)
  have e : (intsV (l ++ marksI 1 0 12)).take l.length = intsV l := by simp [intsV]
  rw [e] at this
  exact this.ints

set_option maxRecDepth 100000
theorem markFate_any (w : World) (k i : Int) (hk0 : 0 ≤ k) (hk : k ≤ 1000) (hi0 : 0 ≤ i) (hi : i ≤ 140737488355328) :
    Calls Try.prog 177 #[.int .i64 k, .int .i64 i] w fun e w' => e = .returned (.agg #[.int .i64 (markI k i)]) ∧ Below w.heap.size w w' := by
  go_enter Try.func177, Try.ntmps177
  go_wp2_with
    (first
      | (go_at_call 154; refine (mark_any _ _ _ hk0 hk hi0 hi).mono ?_; rintro e w1 ⟨rfl, rfl⟩))
  exact bodyPost_ret (v := .agg #[.int .i64 (markI k i)]) (by simp [results, Try.results177, go_sem]) rfl ⟨rfl, below_alloc' (Below.refl _ _) _⟩

set_option maxRecDepth 100000
set_option maxHeartbeats 2000000 in
theorem lentFates_any (w : World) (v : Value) (l : List Int) (hv : IntsIs w v l) (hlen : l.length ≤ 1000000) :
    Calls Try.prog 142 #[v] w fun e w' => e = .returned (.slice (some ⟨w.heap.size, 0, none⟩) l.length (l.length + 12)) ∧ LentI w' w.heap.size 51 l ∧ Below w.heap.size w w' := by
  have hvv := hv.vals
  obtain ⟨A, c, rfl, hc, hm, hA⟩ := hv
  obtain ⟨ie, hi, hz, hsize, hby⟩ := info_parts (P := Try.prog) (e := 51) (z := .agg #[.int .i64 0]) (size := 1) (bytes := 8) (by kernel_rfl)
  have hvl : (intsV l).length = l.length := intsV_len l
  go_enter Try.func142, Try.ntmps142
  go_wp2_with
    (first
      | (refine wpList_mk1 rfl _ _ 37 51 ie (.agg #[.int .i64 0]) (.int .i64 0) rfl Try.underlying37 hi hz hsize rfl .i64 .i64 0 _ rfl rfl 0 (l.length + 12) rfl (by simp) (by omega) (by rw [hby]; omega) (by simp only [maxLen]; omega) ?_; intro w1 hr hb hz1; have hvw := hvv.below hb)
      | (refine wpList_app_room rfl _ _ 37 51 ie rfl Try.underlying37 hi hsize w.heap.size 0 (l.length + 12) _ rfl hr (by simp) _ (intsV l) rfl hvw (intsV_one l) (by rw [hvl]; omega) ?_; intro w2 hr2 hc2))
  have hbe : Below w.heap.size w w2 := hb.trans (hc2.below (B := w.heap.size) (by omega) (fun k _ e => by omega))
  have e0 : (List.replicate (l.length + 12) (Value.int .i64 0)).take 0 ++ intsV l ++ (List.replicate (l.length + 12) (Value.int .i64 0)).drop (0 + (intsV l).length) = intsV (l ++ marksI 1 0 0) ++ List.replicate (12 - 0) (Value.int .i64 0) := by
    rw [hvl]
    simp [marksI]
  rw [e0] at hr2
  clear e0 hc2 hr hb hz1 hvw hvv
  have hlt := hr2.lt
  go_loopw [3, 4] (fun s t wr => ∃ k : Nat, k ≤ 12 ∧ s = .slice (some ⟨w.heap.size, 0, none⟩) (l.length + k) (l.length + 12) ∧ t = .int .i64 k ∧ RowC wr w.heap.size 51 (intsV (l ++ marksI 1 0 k) ++ List.replicate (12 - k) (.int .i64 0)) ∧ Below w.heap.size w wr) (fun _ t _ => 12 - (intOf t).toNat)
  case atStart => exact ⟨0, by omega, rfl, rfl, hr2, hbe⟩
  case round =>
    obtain ⟨k, hk, rfl, rfl, hrk, hbk⟩ := hrel
    clear hr2 hbe
    by_cases hlt : k < 12
    · have hlk : (intsV (l ++ marksI 1 0 k) ++ List.replicate (12 - k) (Value.int .i64 0)).length = l.length + 12 := by simp [intsV_len, marksI_len]; omega
      have hgl := hrk.lt
      go_wp2_with
        (first
          | (go_at_call 177; refine (markFate_any _ 1 k (by omega) (by omega) (by omega) (by omega)).mono ?_; rintro e w3 ⟨rfl, hb3⟩; have hrk3 := hrk.below hb3; have hbk3 := below_trans' hbk hb3)
          | (refine wpList_app_room rfl _ _ 37 51 ie rfl Try.underlying37 hi hsize w.heap.size (l.length + k) (l.length + 12) _ rfl (hrk3.below (below_alloc' (Below.refl _ _) _)) hlk _ [.int .i64 (markI 1 k)] rfl (ValsIs.made (heap_alloc_new _ _)) (by simp [Value.oneCell']) (by simp; omega) ?_; intro w4 hr4 hc4))
      go_roundw
      case rel =>
        have hb4 : Below w.heap.size w w4 := (below_alloc' hbk3 _).trans (hc4.below (B := w.heap.size) (by have := hbk3.size; simp; omega) (fun k _ e => by omega))
        refine ⟨k + 1, by omega, rfl, by go_num, ?_, hb4⟩
        have e1 : ∀ (X : List Value), X.length = l.length + k → (X ++ List.replicate (12 - k) (Value.int .i64 0)).take (l.length + k) ++ [Value.int .i64 (markI 1 k)] ++ (X ++ List.replicate (12 - k) (Value.int .i64 0)).drop (l.length + k + [Value.int .i64 (markI 1 k)].length) = X ++ [Value.int .i64 (markI 1 k)] ++ List.replicate (12 - (k + 1)) (Value.int .i64 0) := by
          intro X hX
          rw [List.take_append_of_le_length (by omega), List.take_of_length_le (by omega)]
          rw [List.drop_append, List.drop_eq_nil_of_le (by simp; omega)]
          simp [hX]
          omega
        rw [e1 _ (by simp [intsV_len, marksI_len])] at hr4
        rw [marksI_succ, ← List.append_assoc]
        simpa [intsV] using hr4
      case measure => simp [intOf]; omega
    · obtain rfl : k = 12 := by omega
      go_wp2_with fail
      go_ret
      refine ⟨rfl, ?_, hbk⟩
      simpa [LentI] using hrk

set_option maxRecDepth 100000
set_option maxHeartbeats 2000000 in
theorem keptFates_any (w : World) (g : Nat) (vb : Value) (l : List Int) (hL : LentI w g 51 l) (hv : IntsIs w vb l) (hlen : l.length ≤ 1000000) :
    Calls Try.prog 143 #[.slice (some ⟨g, 0, none⟩) l.length (l.length + 12), vb] w fun e w' => e = .returned (.bool true) ∧ Below w.heap.size w w' := by
  obtain ⟨B, c, rfl, hc, hm, hB⟩ := hv
  go_enter Try.func143, Try.ntmps143
  go_wp2_with fail
  go_loopw [6] (fun t wr => ∃ k : Nat, k ≤ l.length + 12 ∧ t = .int .i64 k ∧ Below w.heap.size w wr) (fun t _ => l.length + 12 - (intOf t).toNat)
  case atStart => exact ⟨0, by omega, rfl, Below.refl _ _⟩
  case round =>
    obtain ⟨k, hk, rfl, hbr⟩ := hrel
    by_cases hlt : k < l.length + 12
    · have hLr : LentI wr g 51 l := RowC.below hL hbr
      by_cases hkl : k < l.length
      · obtain ⟨bd, rfl, hxb⟩ := IntsIs.at_ (hB.below hbr) k hkl
        have hxa := hLr.lo hkl
        have h1 : decide ((k : Int) < (l.length : Int)) = true := by simpa using hkl
        have h2 : decide (l.length ≤ k) = false := by simpa using hkl
        have h1' : decide (k < l.length) = true := by simpa using hkl
        generalize l.getD k 0 = x at hxa hxb
        have HB := Lib.hid hbr
        have HL := Lib.hid hLr
        clear hbr hLr
        go_wp2_with fail
        go_quiet (fail)
        go_wp2_with fail
        go_roundw
        case rel => exact ⟨k + 1, by omega, by go_num, drewN_below HB.out _⟩
        case measure => simp [intOf]; omega
      · obtain ⟨j, rfl⟩ : ∃ j, k = l.length + j := ⟨k - l.length, by omega⟩
        have hxa := hLr.hi (j := j) (by omega)
        have h1 : decide ((l.length : Int) + (j : Int) < (l.length : Int)) = false := by simp; omega
        have h2 : decide ((l.length : Int) ≤ (l.length : Int) + (j : Int)) = true := by simp; omega
        have h1' : decide (l.length + j < l.length) = false := by simp
        have h2' : decide (l.length ≤ l.length + j) = true := by simp
        have hmk : ∀ (W : World) (i' : Int), i' = (j : Int) → Calls Try.prog 177 #[.int .i64 1, .int .i64 i'] W fun e w' => e = .returned (.agg #[.int .i64 (markI 1 j)]) ∧ Below W.heap.size W w' := fun W i' e => by subst e; exact markFate_any W 1 j (by omega) (by omega) (by omega) (by omega)
        have HB := Lib.hid hbr
        have HL := Lib.hid hLr
        have HM := Lib.hid hmk
        generalize markI 1 j = x at hxa HM
        have hca := cell_regrown hxa
        clear hbr hLr hmk
        go_wp2_with fail
        refine wp_region_quiet_below (by kernel_rfl) (by kernel_rfl) ?_
        repeat (go_big_quiet_step (exact Calls.regrown_of (HM.out _ _ (by omega))))
        refine wpQuiet_nil ?_
        intro _ hw'
        obtain ⟨⟨dq, osq⟩, hw''⟩ := hw'
        subst hw''
        have hB := Lib.hid (below_trans' HB.out (below_regrown wr dq osq))
        generalize grow (redrawn wr dq) osq = W1 at hB ⊢
        clear hca hxa
        go_wp2_with fail
        go_roundw
        case rel => exact ⟨l.length + j + 1, by omega, by go_num, hB.out⟩
        case measure => simp [intOf]; omega
    · obtain rfl : k = l.length + 12 := by omega
      go_wp2_with fail
      go_ret
      exact ⟨rfl, hbr⟩

end Go.Proofs.Yteeamlidmkpohaa
