/-
  How arguments that came in are read: slices of ints, of bytes, of fates, of steps.
-/
import Derived.Test.YteeamlidmkpohaaArg
import Derived.Test.YteeamlidmkpohaaDi
import Derived.Deep.Slices
set_option linter.unusedVariables false
set_option maxRecDepth 100000
namespace Go.Proofs.Yteeamlidmkpohaa
open Go.ChangeShapes Go.WideShapes Go.ChangeAt Go.RowKit Go.Deep

theorem exists_list {α : Type} (P : Nat → α → Prop) : ∀ n, (∀ i, i < n → ∃ x, P i x) → ∃ l : List α, l.length = n ∧ ∀ i x, l[i]? = some x → P i x
  | 0, _ => ⟨[], rfl, fun i x h => by simp at h⟩
  | n + 1, h => by
    obtain ⟨l, hl, hp⟩ := exists_list P n (fun i hi => h i (by omega))
    obtain ⟨x, hx⟩ := h n (by omega)
    refine ⟨l ++ [x], by simp [hl], fun i y hy => ?_⟩
    by_cases e : i < n
    · rw [List.getElem?_append_left (by omega)] at hy
      exact hp i y hy
    · by_cases e2 : i = n
      · subst e2
        rw [List.getElem?_append_right (by omega), hl] at hy
        simp at hy
        exact hy ▸ hx
      · rw [List.getElem?_eq_none (by simp [hl]; omega)] at hy
        cases hy

section
variable {H : Type} {enc : TypeId × Value → H} {w : World} {base b0 : Nat} {sp : Nat → Bool} {held : Bool} {r : Reach} {v : Value} {d : DataW H} {p : List MemPlace}

theorem cells5 : Try.prog.cellsOf 5 = 1 := by kernel_rfl
theorem cells51 : Try.prog.cellsOf 51 = 1 := by kernel_rfl
theorem cells37 : Try.prog.cellsOf 37 = 1 := by kernel_rfl
theorem cells43 : Try.prog.cellsOf 43 = 5 := by kernel_rfl

/-- a field of a struct that was trodden -/
theorem struct_part {t : TypeId} {fs : Array Field} {fuel : Nat} {cs : List Value} {x : DataW H × List MemPlace} (ht : Try.prog.underlying t = some (.struct fs)) (h : DataW.trod enc Try.prog w base sp held fuel t cs = some x) :
    ∃ n, ∀ (i : Nat) (f : Field), fs[i]? = some f → ∃ y, DataW.trod enc Try.prog w base sp held n f.type ((cs.drop f.offset).take (Try.prog.cellsOf f.type)) = some y := by
  obtain ⟨xs, n, _, _, _, hxl, hg⟩ := DataW.trod_struct ht h
  refine ⟨n, fun i f hf => ?_⟩
  have hi : i < xs.length := by
    have := (Array.getElem?_eq_some_iff.1 hf).1
    omega
  exact ⟨xs[i], by rw [hg i f hf]; exact List.getElem?_eq_getElem hi⟩

theorem add_none (a : Addr) : a.add 0 = a := by simp [Addr.add]
theorem take_one {α : Type} {cs : List α} {o : Nat} {c : α} (h : (cs.drop o).take 1 = [c]) : cs[o]? = some c := by
  have := congrArg (fun l => l[0]?) h
  simpa [List.getElem?_take, List.getElem?_drop] using this
theorem part_int {n : Nat} {cs : List Value} {f : Field} {y : DataW H × List MemPlace} (ht : f.type = 3) (h : DataW.trod enc Try.prog w base sp held n f.type ((cs.drop f.offset).take (Try.prog.cellsOf f.type)) = some y) : ∃ z, cs[f.offset]? = some (.int .i64 z) ∧ In64 z := by
  rw [ht, cells3] at h
  obtain ⟨z, hz, _, wz⟩ := DataW.trod_int Try.underlying3 h
  exact ⟨z, take_one hz, wf_i64b wz⟩
theorem part_byte {n : Nat} {cs : List Value} {f : Field} {y : DataW H × List MemPlace} (ht : f.type = 5) (h : DataW.trod enc Try.prog w base sp held n f.type ((cs.drop f.offset).take (Try.prog.cellsOf f.type)) = some y) : ∃ z, cs[f.offset]? = some (.int .u8 z) ∧ 0 ≤ z ∧ z ≤ 255 := by
  rw [ht, cells5] at h
  obtain ⟨z, hz, _, wz⟩ := DataW.trod_int Try.underlying5 h
  exact ⟨z, take_one hz, wf_u8b wz⟩

theorem trod_fates {fuel : Nat} {cs : List Value} {x : DataW H × List MemPlace} (h : DataW.trod enc Try.prog w base sp held fuel 37 cs = some x) : ∃ v fs, cs = [v] ∧ IntsIs w v fs ∧ ∀ f ∈ fs, In64 f := by
  rcases open_slice Try.underlying37 h with ⟨rfl, _⟩ | ⟨a, len, cap, m, n, D, Pl, rfl, hb, hl, hm, hmm, _, hx⟩
  · exact ⟨_, [], rfl, IntsIs.nil w, fun f hf => by cases hf⟩
  · have hlm : len ≤ m := by rw [hmm]; split <;> omega
    obtain ⟨l, hll, hp⟩ := exists_list (fun i z => w.cell? (a.add i) = some (.int .i64 z) ∧ In64 z) len (fun i hi => by
      obtain ⟨cs', h1, h2⟩ := hx i (by omega)
      rw [cells51, Nat.mul_one] at h1
      obtain ⟨_, h3, h4⟩ := World.cells?_some h1
      obtain ⟨n', hf⟩ := struct_part Try.underlying51 h2
      obtain ⟨y, hy⟩ := hf 0 _ rfl
      obtain ⟨z, hz, wz⟩ := part_int rfl hy
      have h5 := h4 0 (by omega)
      rw [add_none] at h5
      exact ⟨z, h5.trans hz, wz⟩)
    subst hll
    refine ⟨_, l, rfl, ⟨some a, cap, rfl, hl, hm, fun j u hu => ⟨a, rfl, ?_⟩⟩, fun f hf => ?_⟩
    · simp only [intsV, List.getElem?_map, Option.map_eq_some_iff] at hu
      obtain ⟨z, hz, rfl⟩ := hu
      exact (hp j z hz).1
    · obtain ⟨i, hi, rfl⟩ := List.mem_iff_getElem.1 hf
      exact (hp i _ (List.getElem?_eq_getElem hi)).2

theorem open_argFates (hv : Value.okWide Try.prog w r b0 37 v) (h : DataW.Trod enc Try.prog w base sp held 37 v d p) : ∃ fs, IntsIs w v fs ∧ ∀ f ∈ fs, In64 f := by
  obtain ⟨a, n, c, rfl⟩ := okWide_slice Try.underlying37 hv
  obtain ⟨fuel, hf⟩ := h
  obtain ⟨v1, fs, e, h1, h2⟩ := trod_fates hf
  simp [Value.cells] at e
  subst e
  exact ⟨fs, h1, h2⟩

theorem part_fates {n : Nat} {cs : List Value} {f : Field} {y : DataW H × List MemPlace} (ht : f.type = 37) (h : DataW.trod enc Try.prog w base sp held n f.type ((cs.drop f.offset).take (Try.prog.cellsOf f.type)) = some y) : ∃ v fs, cs[f.offset]? = some v ∧ IntsIs w v fs ∧ ∀ f ∈ fs, In64 f := by
  rw [ht, cells37] at h
  obtain ⟨v, fs, hz, h1, h2⟩ := trod_fates h
  exact ⟨v, fs, take_one hz, h1, h2⟩

theorem trod_dos {fuel : Nat} {cs : List Value} {x : DataW H × List MemPlace} (h : DataW.trod enc Try.prog w base sp held fuel 36 cs = some x) : ∃ v l, cs = [v] ∧ DosIs w v l := by
  rcases open_slice Try.underlying36 h with ⟨rfl, _⟩ | ⟨a, len, cap, m, n, D, Pl, rfl, hb, hl, hm, hmm, _, hx⟩
  · exact ⟨_, [], rfl, none, 0, rfl, Nat.le_refl _, by simp [maxLen], fun i x h => by simp at h⟩
  · have hlm : len ≤ m := by rw [hmm]; split <;> omega
    obtain ⟨l, hll, hp⟩ := exists_list (fun i z => DoAt w (a.add (i * 5)) z) len (fun i hi => by
      obtain ⟨cs', h1, h2⟩ := hx i (by omega)
      rw [cells43] at h1
      obtain ⟨_, h3, h4⟩ := World.cells?_some h1
      obtain ⟨n', hf⟩ := struct_part Try.underlying43 h2
      obtain ⟨y0, hy0⟩ := hf 0 _ rfl
      obtain ⟨y1, hy1⟩ := hf 1 _ rfl
      obtain ⟨y2, hy2⟩ := hf 2 _ rfl
      obtain ⟨y3, hy3⟩ := hf 3 _ rfl
      obtain ⟨y4, hy4⟩ := hf 4 _ rfl
      obtain ⟨z0, e0, w0⟩ := part_int rfl hy0
      obtain ⟨z1, e1, w1⟩ := part_int rfl hy1
      obtain ⟨z2, e2, w2⟩ := part_int rfl hy2
      obtain ⟨z3, e3, w3⟩ := part_byte rfl hy3
      obtain ⟨fv, fs, e4, w4, w5⟩ := part_fates rfl hy4
      have k0 := h4 0 (by omega)
      rw [add_none] at k0
      exact ⟨⟨z0, z1, z2, z3, fv, fs⟩, k0.trans e0, (h4 1 (by omega)).trans e1, (h4 2 (by omega)).trans e2, (h4 3 (by omega)).trans e3, (h4 4 (by omega)).trans e4, w4, w0, w1, w2, w3, w5⟩)
    subst hll
    exact ⟨_, l, rfl, some a, cap, rfl, hl, hm, fun i x hx => ⟨a, rfl, hp i x hx⟩⟩
theorem open_argDos (hv : Value.okWide Try.prog w r b0 36 v) (h : DataW.Trod enc Try.prog w base sp held 36 v d p) : ∃ l, DosIs w v l := by
  obtain ⟨a, n, c, rfl⟩ := okWide_slice Try.underlying36 hv
  obtain ⟨fuel, hf⟩ := h
  obtain ⟨v1, fs, e, h1⟩ := trod_dos hf
  simp [Value.cells] at e
  subst e
  exact ⟨fs, h1⟩
theorem open_argBytes (hv : Value.okWide Try.prog w r b0 47 v) (h : DataW.Trod enc Try.prog w base sp held 47 v d p) : ∃ l, BytesIs w v l ∧ ∀ x ∈ l, 0 ≤ x ∧ x ≤ 255 := by
  obtain ⟨a, n, c, rfl⟩ := okWide_slice Try.underlying47 hv
  obtain ⟨fuel, hf⟩ := h
  rcases open_slice Try.underlying47 hf with ⟨e, _⟩ | ⟨a', len, cap, m, n', D, Pl, e, hb, hl, hm, hmm, _, hx⟩
  · simp [Value.cells] at e
    obtain ⟨rfl, rfl, rfl⟩ := e
    exact ⟨[], ⟨none, 0, rfl, Nat.le_refl _, by simp [maxLen], fun i x h => by simp [bytesV] at h⟩, fun f hf => by cases hf⟩
  · simp [Value.cells] at e
    obtain ⟨rfl, rfl, rfl⟩ := e
    have hlm : n ≤ m := by rw [hmm]; split <;> omega
    obtain ⟨l, hll, hp⟩ := exists_list (fun i z => w.cell? (a'.add i) = some (.int .u8 z) ∧ 0 ≤ z ∧ z ≤ 255) n (fun i hi => by
      obtain ⟨cs', h1, h2⟩ := hx i (by omega)
      rw [cells5, Nat.mul_one] at h1
      obtain ⟨_, h3, h4⟩ := World.cells?_some h1
      obtain ⟨z, rfl, _, wz⟩ := DataW.trod_int Try.underlying5 h2
      have h5 := h4 0 (by omega)
      rw [add_none] at h5
      exact ⟨z, h5, wf_u8b wz⟩)
    subst hll
    refine ⟨l, ⟨some a', c, rfl, hl, hm, fun j u hu => ⟨a', rfl, ?_⟩⟩, fun f hf => ?_⟩
    · simp only [bytesV, List.getElem?_map, Option.map_eq_some_iff] at hu
      obtain ⟨z, hz, rfl⟩ := hu
      exact (hp j z hz).1
    · obtain ⟨i, hi, rfl⟩ := List.mem_iff_getElem.1 hf
      exact (hp i _ (List.getElem?_eq_getElem hi)).2
end
theorem devArmed_row (w : World) {v0 v1 : Value} {a : Int} {l : List Do8} (A0 : ArgInt v0 a) (A1 : DosIs w v1 l) :
    Calls Try.prog 10 #[v0, v1] w fun e w' => e = .returned (.bool true) ∧ Below w.heap.size w w' := by
  obtain ⟨rfl, h⟩ := A0
  exact devArmed_walk w a v1 l h A1
end Go.Proofs.Yteeamlidmkpohaa
