/-
  DevWhole.
-/
import Derived.Test.YteeamlidmkpohaaAr
set_option linter.unusedVariables false
set_option linter.unusedSimpArgs false
namespace Go.Proofs.Yteeamlidmkpohaa
open Go.RowKit Go.Sort

/-- a block of n cells of type t, told by a function -/
def RowOf (w : World) (g : Nat) (t : TypeId) (n : Nat) (f : Nat → Value) : Prop := w.heap[g]? = some (.cells ((List.range n).map f).toArray t (0, 0))
section
variable {w w' : World} {g n : Nat} {t : TypeId} {f f' : Nat → Value}
theorem RowOf.lt (h : RowOf w g t n f) : g < w.heap.size := (Array.getElem?_eq_some_iff.1 h).1
theorem RowOf.chg {F : Nat → Prop} (h : RowOf w g t n f) (hc : Chg F w w') (hF : ¬ F g) : RowOf w' g t n f := (hc.block g h.lt hF).trans h
theorem RowOf.below (h : RowOf w g t n f) (hc : Below w.heap.size w w') : RowOf w' g t n f := (hc.block g h.lt).trans h
theorem RowOf.cell (h : RowOf w g t n f) (i : Nat) (hi : i < n) : w.cell? ⟨g, i, none⟩ = some (f i) := by
  simp [World.cell?, show w.heap[g]? = _ from h, hi]
theorem RowOf.free (h : RowOf w g t n f) (i : Nat) : w.frozen? ⟨g, i, none⟩ = false := by
  simp [World.frozen?, show w.heap[g]? = _ from h]
theorem RowOf.congr (h : RowOf w g t n f) (e : ∀ i, i < n → f i = f' i) : RowOf w g t n f' := by
  unfold RowOf at *
  rw [h]
  have : (List.range n).map f = (List.range n).map f' := List.map_congr_left fun i hi => e i (List.mem_range.1 hi)
  rw [this]
theorem RowOf.set (h : RowOf w g t n f) (k : Nat) (v : Value) : RowOf (w.setCell ⟨g, k, none⟩ v) g t n (fun i => if i = k then v else f i) := by
  unfold RowOf
  rw [heap_setCell w g k _ _ _ _ h]
  congr 2
  apply Array.ext
  · simp
  · intro i h1 h2
    simp at h1
    by_cases e : k = i
    · subst e; simp
    · rw [Array.getElem_setIfInBounds_ne (by simpa using h1) e]
      have : ¬ i = k := fun x => e x.symm
      simp [this]
end

theorem row_one {n : Nat} {f : Nat → Value} (h : ∀ i, (f i).oneCell' = true) : ((List.range n).map f).toArray.all (·.oneCell') = true := by
  rw [Array.all_eq_true_iff_forall_mem]
  intro x hx
  simp at hx
  obtain ⟨i, _, rfl⟩ := hx
  exact h i
theorem row_size {n : Nat} {f : Nat → Value} : ((List.range n).map f).toArray.size = n := by simp
theorem size40 : (Try.prog.info? 40).map (·.size) = some 6 := by kernel_rfl
theorem size41 : (Try.prog.info? 41).map (·.size) = some 6 := by kernel_rfl
theorem or_one_all : ∀ x : Fin 256, 0 < bits .or .u8 (x.val : Int) 1 ∧ bits .or .u8 (x.val : Int) 1 ≤ 255 := by decide +kernel
theorem or_one {x : Int} (h0 : 0 ≤ x) (h1 : x ≤ 255) : 0 < bits .or .u8 x 1 ∧ bits .or .u8 x 1 ≤ 255 := by
  have := or_one_all ⟨x.toNat, by omega⟩
  simp only at this
  rwa [Int.toNat_of_nonneg h0] at this

/-- what the law keeps of each sector: the byte it was written with last, the one it was synced with, is it open -/
structure Whole (D : Dk) (la sa : Nat → Int) (op : Nat → Bool) : Prop where
  n : D.n = 6
  a : D.armed = 0
  d : D.down = false
  b : ∀ k, k < 6 → 0 ≤ la k ∧ la k ≤ 255
  s : ∀ k, k < 6 → 0 ≤ sa k ∧ sa k ≤ 255
  o : ∀ k : Nat, k < 6 → D.opn k = if op k = true then some (fullL (la k)) else none
  f : ∀ k : Nat, k < 6 → (D.safe k).getD noughts = if sa k = 0 then noughts else fullL (sa k)
  e : ∀ k, k < 6 → op k = false → la k = sa k
  z : ∀ k, k < 6 → op k = true → la k ≠ 0

theorem Whole.new : Whole (Dk.new 6) (fun _ => 0) (fun _ => 0) (fun _ => false) :=
  ⟨rfl, rfl, rfl, fun _ _ => by simp, fun _ _ => by simp, fun _ _ => by simp [Dk.new], fun _ _ => by simp [Dk.new], fun _ _ _ => rfl, fun _ _ h => by cases h⟩
theorem Whole.sync {D : Dk} {la sa : Nat → Int} {op : Nat → Bool} (h : Whole D la sa op) : Whole D.sync la la (fun _ => false) := by
  rw [Dk.sync_calm h.a h.d]
  refine ⟨h.n, h.a, h.d, h.b, h.b, fun k hk => by simp [Dk.flush, Dk.wiped], fun k hk => ?_, fun _ _ _ => rfl, fun _ _ h => by cases h⟩
  show (if (D.opn k).isSome = true then D.opn k else D.safe k).getD noughts = _
  cases ho : op k with
  | true =>
    rw [h.o k hk, ho]
    have := h.z k hk ho
    simp [this]
  | false =>
    rw [h.o k hk, ho, h.e k hk ho]
    simpa using h.f k hk
theorem Whole.write {D : Dk} {la sa : Nat → Int} {op : Nat → Bool} (h : Whole D la sa op) (k : Nat) (b : Int) (hb : 0 < b) (hb2 : b ≤ 255) :
    Whole (D.write k (fullL b)) (fun i => if i = k then b else la i) sa (fun i => if i = k then true else op i) := by
  rw [Dk.write_calm h.a]
  refine ⟨h.n, h.a, h.d, fun i hi => ?_, h.s, fun i hi => ?_, h.f, fun i hi => ?_, fun i hi => ?_⟩
  · by_cases e : i = k
    · simp [e]; omega
    · simp [e]; exact h.b i hi
  · show (if (i : Int) = k then some (fullL b) else D.opn i) = _
    by_cases e : i = k
    · simp [e]
    · rw [if_neg (by omega), h.o i hi]; simp [e]
  · by_cases e : i = k
    · simp [e]
    · simp [e]; exact h.e i hi
  · by_cases e : i = k
    · simp [e]; omega
    · simp [e]; exact h.z i hi

/-- what is read of a sector behind the crash -/
def wholeFrom (la sa : Nat → Int) (op : Nat → Bool) (kept : Bool) (k : Nat) : Int := if op k && kept then la k else sa k
theorem Whole.wake {D : Dk} {la sa : Nat → Int} {op : Nat → Bool} (h : Whole D la sa op) (fs : List Int) (k : Nat) (hk : k < 6) :
    (D.wake fs).latest k = if wholeFrom la sa op (fs.contains k) k = 0 then noughts else fullL (wholeFrom la sa op (fs.contains k) k) := by
  show ((none : Option (List Int)).orElse fun _ => (if (fs.contains (k : Int) && (D.opn k).isSome) = true then D.opn k else D.safe k)).getD noughts = _
  rw [h.o k hk]
  unfold wholeFrom
  have h2 := h.f k hk
  cases ho : op k with
  | false => simpa using h2
  | true =>
    cases hc : fs.contains (k : Int) with
    | false => simpa using h2
    | true => simp [h.z k hk ho]
theorem fullL_get (b : Int) (i : Nat) (hi : i < 512) : (fullL b).getD i 0 = (b + (i : Int) / 64) % 256 := by
  simp [fullL, fillTo, fullF, hi]
theorem noughts_get (i : Nat) : noughts.getD i 0 = 0 := by
  rw [noughts, List.getD_eq_getElem?_getD, List.getElem?_replicate]
  split <;> rfl
theorem Whole.get {D : Dk} {la sa : Nat → Int} {op : Nat → Bool} (h : Whole D la sa op) (fs : List Int) (k : Nat) (hk : k < 6) (i : Nat) (hi : i < 512) {fr : Int} (hf : wholeFrom la sa op (fs.contains k) k = fr) :
    ((D.wake fs).latest k).getD i 0 = if fr = 0 then 0 else (fr + (i : Int) / 64) % 256 := by
  rw [h.wake fs k hk, hf]
  by_cases e : fr = 0
  · rw [if_pos e, if_pos e, noughts_get]
  · rw [if_neg e, if_neg e, fullL_get _ _ hi]
end Go.Proofs.Yteeamlidmkpohaa
