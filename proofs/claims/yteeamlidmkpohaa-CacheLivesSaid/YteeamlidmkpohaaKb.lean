/-
  LentBytes, KeptBytes, OverBytes.
-/
import Derived.Test.YteeamlidmkpohaaKa
set_option linter.unusedVariables false
set_option linter.unusedSimpArgs false
namespace Go.Proofs.Yteeamlidmkpohaa
open Go.RowKit Go.Sort

def marksB (k from' n : Nat) : List Int := (List.range n).map fun (i : Nat) => markB k ((from' + i : Nat) : Int)
theorem marksB_len (k f n : Nat) : (marksB k f n).length = n := by simp [marksB]
theorem marksB_succ (k f n : Nat) : marksB k f (n + 1) = marksB k f n ++ [markB k ((f + n : Nat) : Int)] := by simp [marksB, List.range_succ]

/-- block g holds l, and twelve marks behind it -/
def LentB (w : World) (g : Nat) (l : List Int) : Prop := RowC w g 5 (bytesV (l ++ marksB 1 0 12))

set_option maxRecDepth 100000
set_option maxHeartbeats 2000000 in
theorem lentBytes_any (w : World) (v : Value) (l : List Int) (hv : BytesIs w v l) (hlen : l.length ≤ 1000000) :
    Calls Try.prog 75 #[v] w fun e w' => e = .returned (.slice (some ⟨w.heap.size, 0, none⟩) l.length (l.length + 12)) ∧ LentB w' w.heap.size l ∧ Below w.heap.size w w' := by
  have hvv := hv.vals
  obtain ⟨A, c, rfl, hc, hm, hA⟩ := hv
  obtain ⟨ie, hi, hz, hsize, hby⟩ := info_parts (P := Try.prog) (e := 5) (z := .int .u8 0) (size := 1) (bytes := 1) (by kernel_rfl)
  have hvl : (bytesV l).length = l.length := bytesV_len l
  go_enter Try.func75, Try.ntmps75
  go_wp2_with
    (first
      | (refine wpList_mk rfl _ _ 47 5 ie (.int .u8 0) rfl Try.underlying47 hi hz hsize rfl .i64 .i64 0 _ rfl rfl 0 (l.length + 12) rfl (by simp) (by omega) (by rw [hby]; omega) (by simp only [maxLen]; omega) ?_; intro w1 hr hb hz1; have hvw := hvv.below hb)
      | (refine wpList_app_room rfl _ _ 47 5 ie rfl Try.underlying47 hi hsize w.heap.size 0 (l.length + 12) _ rfl hr (by simp) _ (bytesV l) rfl hvw (bytesV_one l) (by rw [hvl]; omega) ?_; intro w2 hr2 hc2))
  have hbe : Below w.heap.size w w2 := hb.trans (hc2.below (B := w.heap.size) (by omega) (fun k _ e => by omega))
  have e0 : (List.replicate (l.length + 12) (Value.int .u8 0)).take 0 ++ bytesV l ++ (List.replicate (l.length + 12) (Value.int .u8 0)).drop (0 + (bytesV l).length) = bytesV (l ++ marksB 1 0 0) ++ List.replicate (12 - 0) (Value.int .u8 0) := by
    rw [hvl]
    simp [marksB]
  rw [e0] at hr2
  clear e0 hc2 hr hb hz1 hvw hvv
  have hlt := hr2.lt
  go_loopw [3, 4] (fun s t wr => ∃ k : Nat, k ≤ 12 ∧ s = .slice (some ⟨w.heap.size, 0, none⟩) (l.length + k) (l.length + 12) ∧ t = .int .i64 k ∧ RowC wr w.heap.size 5 (bytesV (l ++ marksB 1 0 k) ++ List.replicate (12 - k) (.int .u8 0)) ∧ Below w.heap.size w wr) (fun _ t _ => 12 - (intOf t).toNat)
  case atStart => exact ⟨0, by omega, rfl, rfl, hr2, hbe⟩
  case round =>
    obtain ⟨k, hk, rfl, rfl, hrk, hbk⟩ := hrel
    clear hr2 hbe
    by_cases hlt : k < 12
    · have hlk : (bytesV (l ++ marksB 1 0 k) ++ List.replicate (12 - k) (Value.int .u8 0)).length = l.length + 12 := by simp [bytesV_len, marksB_len]; omega
      have hgl := hrk.lt
      go_wp2_with
        (first
          | (go_at_call 144; refine (markByte_any _ 1 k (by omega) (by omega) (by omega) (by omega)).mono ?_; rintro e w3 ⟨rfl, rfl⟩)
          | (refine wpList_app_room rfl _ _ 47 5 ie rfl Try.underlying47 hi hsize w.heap.size (l.length + k) (l.length + 12) _ rfl (hrk.below (below_alloc' (Below.refl _ _) _)) hlk _ [.int .u8 (markB 1 k)] rfl (ValsIs.made (heap_alloc_new _ _)) (by simp [Value.oneCell']) (by simp; omega) ?_; intro w4 hr4 hc4))
      go_roundw
      case rel =>
        have hb4 : Below w.heap.size w w4 := (below_alloc' hbk _).trans (hc4.below (B := w.heap.size) (by simp; omega) (fun k _ e => by omega))
        refine ⟨k + 1, by omega, rfl, by go_num, ?_, hb4⟩
        have e1 : ∀ (X : List Value), X.length = l.length + k → (X ++ List.replicate (12 - k) (Value.int .u8 0)).take (l.length + k) ++ [Value.int .u8 (markB 1 k)] ++ (X ++ List.replicate (12 - k) (Value.int .u8 0)).drop (l.length + k + [Value.int .u8 (markB 1 k)].length) = X ++ [Value.int .u8 (markB 1 k)] ++ List.replicate (12 - (k + 1)) (Value.int .u8 0) := by
          intro X hX
          rw [List.take_append_of_le_length (by omega), List.take_of_length_le (by omega)]
          rw [List.drop_append, List.drop_eq_nil_of_le (by simp; omega)]
          simp [hX]
          omega
        rw [e1 _ (by simp [bytesV_len, marksB_len])] at hr4
        rw [marksB_succ, ← List.append_assoc]
        simpa [bytesV] using hr4
      case measure => simp [intOf]; omega
    · obtain rfl : k = 12 := by omega
      go_wp2_with fail
      go_ret
      refine ⟨rfl, ?_, hbk⟩
      simpa [LentB] using hrk

theorem LentB.lo {w : World} {g : Nat} {l : List Int} (h : LentB w g l) {k : Nat} (hk : k < l.length) : w.cell? ⟨g, k, none⟩ = some (.int .u8 (l.getD k 0)) := by
  refine RowC.cell h k _ ?_
  simp only [bytesV, List.getElem?_map]
  rw [List.getElem?_append_left hk]
  simp [hk]
theorem LentB.hi {w : World} {g : Nat} {l : List Int} (h : LentB w g l) {j : Nat} (hj : j < 12) : w.cell? ⟨g, l.length + j, none⟩ = some (.int .u8 (markB 1 j)) := by
  refine RowC.cell h (l.length + j) _ ?_
  simp only [bytesV, List.getElem?_map]
  rw [List.getElem?_append_right (by omega), Nat.add_sub_cancel_left]
  simp [marksB, hj]
theorem LentB.lt {w : World} {g : Nat} {l : List Int} (h : LentB w g l) : g < w.heap.size := RowC.lt h
theorem LentB.chg {F : Nat → Prop} {w w' : World} {g : Nat} {l : List Int} (h : LentB w g l) (hc : Chg F w w') (hF : ¬ F g) : LentB w' g l := RowC.chg h hc hF
theorem LentB.below {w w' : World} {g : Nat} {l : List Int} (h : LentB w g l) (hc : Below w.heap.size w w') : LentB w' g l := RowC.below h hc
theorem LentB.bytes {w : World} {g : Nat} {l : List Int} (h : LentB w g l) (hl : l.length ≤ 1000000) : BytesIs w (.slice (some ⟨g, 0, none⟩) l.length (l.length + 12)) l := by
  have := RowC.vals (n := l.length) (c := l.length + 12) h (by simp [bytesV]) (by omega) (by simp only [maxLen]; omega)
  have e : (bytesV (l ++ marksB 1 0 12)).take l.length = bytesV l := by simp [bytesV]
  rw [e] at this
  exact this.bytes
theorem markByte_same (w : World) (k i : Int) (hk0 : 0 ≤ k) (hk : k ≤ 1000) (hi0 : 0 ≤ i) (hi : i ≤ 140737488355328) :
    Calls Try.prog 144 #[.int .i64 k, .int .i64 i] w fun e w' => e = .returned (.int .u8 (markB k i)) ∧ w' = w := (markByte_any w k i hk0 hk hi0 hi).mono fun e w' ⟨h1, h2⟩ => ⟨h1, h2.symm⟩

set_option maxRecDepth 100000
set_option maxHeartbeats 2000000 in
theorem keptBytes_any (w : World) (g : Nat) (vb : Value) (l : List Int) (hL : LentB w g l) (hv : BytesIs w vb l) (hlen : l.length ≤ 1000000) :
    Calls Try.prog 77 #[.slice (some ⟨g, 0, none⟩) l.length (l.length + 12), vb] w fun e w' => e = .returned (.bool true) ∧ Below w.heap.size w w' := by
  obtain ⟨B, c, rfl, hc, hm, hB⟩ := hv
  go_enter Try.func77, Try.ntmps77
  go_wp2_with fail
  go_loopw [6] (fun t wr => ∃ k : Nat, k ≤ l.length + 12 ∧ t = .int .i64 k ∧ Below w.heap.size w wr) (fun t _ => l.length + 12 - (intOf t).toNat)
  case atStart => exact ⟨0, by omega, rfl, Below.refl _ _⟩
  case round =>
    obtain ⟨k, hk, rfl, hbr⟩ := hrel
    by_cases hlt : k < l.length + 12
    · have hLr : LentB wr g l := RowC.below hL hbr
      by_cases hkl : k < l.length
      · obtain ⟨bd, rfl, hxb⟩ := BytesIs.at_ (c := c) (hB.below hbr) k hkl
        have hxa := hLr.lo hkl
        have h1 : decide ((k : Int) < (l.length : Int)) = true := by simpa using hkl
        have h2 : decide (l.length ≤ k) = false := by simpa using hkl
        have h1' : decide (k < l.length) = true := by simpa using hkl
        generalize l.getD k 0 = x at hxa hxb
        have HB := Lib.hid hbr
        have HL := Lib.hid hLr
        clear hbr hLr
        go_wp2_with fail
        go_quiet (fail)
        go_wp2_with fail
        go_roundw
        case rel => exact ⟨k + 1, by omega, by go_num, drewN_below HB.out _⟩
        case measure => simp [intOf]; omega
      · obtain ⟨j, rfl⟩ : ∃ j, k = l.length + j := ⟨k - l.length, by omega⟩
        have hxa := hLr.hi (j := j) (by omega)
        have h1 : decide ((l.length : Int) + (j : Int) < (l.length : Int)) = false := by simp; omega
        have h2 : decide ((l.length : Int) ≤ (l.length : Int) + (j : Int)) = true := by simp; omega
        have h1' : decide (l.length + j < l.length) = false := by simp
        have h2' : decide (l.length ≤ l.length + j) = true := by simp
        have hmk : ∀ (W : World) (i' : Int), i' = (j : Int) → Calls Try.prog 144 #[.int .i64 1, .int .i64 i'] W fun e w' => e = .returned (.int .u8 (markB 1 j)) ∧ w' = W := fun W i' e => by subst e; exact markByte_same W 1 j (by omega) (by omega) (by omega) (by omega)
        have HB := Lib.hid hbr
        have HL := Lib.hid hLr
        have HM := Lib.hid hmk
        generalize markB 1 j = x at hxa HM
        clear hbr hLr hmk
        go_wp2_with fail
        go_quiet ((go_at_call 144; exact Calls.quiet_of_same (HM.out _ _ (by omega))))
        go_wp2_with fail
        go_roundw
        case rel => exact ⟨l.length + j + 1, by omega, by go_num, drewN_below HB.out _⟩
        case measure => simp [intOf]; omega
    · obtain rfl : k = l.length + 12 := by omega
      go_wp2_with fail
      go_ret
      exact ⟨rfl, hbr⟩

set_option maxRecDepth 100000
set_option maxHeartbeats 1000000 in
theorem overBytes_any (w : World) (g : Nat) (l : List Int) (hL : LentB w g l) (hlen : l.length ≤ 1000000) :
    Calls Try.prog 78 #[.slice (some ⟨g, 0, none⟩) l.length (l.length + 12)] w fun e w' => e = .returned (.tuple #[]) ∧ Chg (fun b => b = g) w w' := by
  have hl0 : RowC w g 5 (bytesV (l ++ marksB 1 0 12)) := hL
  have hl1 : (bytesV (l ++ marksB 1 0 12)).length = l.length + 12 := by simp [bytesV, marksB_len]
  generalize bytesV (l ++ marksB 1 0 12) = cs0 at hl0 hl1
  have HL := Lib.hid hl1
  clear hl1 hL
  go_enter Try.func78, Try.ntmps78
  go_wp2_with fail
  go_loopw [3] (fun t wr => ∃ (k : Nat) (cs : List Value), k ≤ l.length + 12 ∧ t = .int .i64 k ∧ RowC wr g 5 cs ∧ cs.length = l.length + 12 ∧ Chg (fun b => b = g) w wr) (fun t _ => l.length + 12 - (intOf t).toNat)
  case atStart => exact ⟨0, cs0, by omega, rfl, hl0, HL.out, Chg.refl _ _⟩
  case round =>
    obtain ⟨k, cs, hk, rfl, hrk, hck, hcc⟩ := hrel
    by_cases hlt : k < l.length + 12
    · obtain ⟨u, hu⟩ : ∃ u, cs[k]? = some u := ⟨_, List.getElem?_eq_getElem (by omega)⟩
      have hxa := hrk.cell k u hu
      have hfa := hrk.free k
      have HC := Lib.hid hck
      have HR := Lib.hid hrk
      have HH := Lib.hid hcc
      clear hck hrk hcc hl0 hu
      go_wp2_with
        (first
          | (go_at_call 144; refine (markByte_any _ 2 k (by omega) (by omega) (by omega) (by omega)).mono ?_; rintro e w3 ⟨rfl, rfl⟩))
      go_roundw
      case rel => exact ⟨k + 1, _, by omega, by go_num, HR.out.set k _, by rw [List.length_set]; exact HC.out, HH.out.trans (chg_setCell _ _ _ _)⟩
      case measure => simp [intOf]; omega
    · obtain rfl : k = l.length + 12 := by omega
      go_wp2_with fail
      go_end0
      exact ⟨rfl, hcc⟩
end Go.Proofs.Yteeamlidmkpohaa
