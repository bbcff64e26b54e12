/-
  How arguments that came in are read: numbers, bools, bytes, geometries.
-/
import Derived.Test.YteeamlidmkpohaaProg
import Derived.Test.YteeamlidmkpohaaBase
import Derived.ProofKit
import Derived.OpenShut
set_option linter.unusedVariables false
set_option maxRecDepth 100000
namespace Go.Proofs.Yteeamlidmkpohaa
open Go.ChangeShapes Go.WideShapes Go.ChangeAt Go.RowKit

section
variable {H : Type} {enc : TypeId × Value → H} {w : World} {base b0 : Nat} {sp : Nat → Bool} {held : Bool} {r : Reach} {v : Value} {d : DataW H} {p : List MemPlace}

def IntIn (n : Int) : Prop := -9223372036854775808 ≤ n ∧ n ≤ 9223372036854775807
def ArgInt (v : Value) (a : Int) : Prop := v = .int .i64 a ∧ IntIn a
def ArgByte (v : Value) (a : Int) : Prop := v = .int .u8 a ∧ 0 ≤ a ∧ a ≤ 255
def ArgGeo (x : Value) (v s m u j : Int) : Prop := x = .agg #[.int .i64 v, .int .i64 s, .int .i64 m, .int .i64 u, .int .i64 j] ∧ IntIn v ∧ IntIn s ∧ IntIn m ∧ IntIn u ∧ IntIn j

theorem open_argInt (hv : Value.okWide Try.prog w r b0 3 v) (h : DataW.Trod enc Try.prog w base sp held 3 v d p) : ∃ a, ArgInt v a := by
  obtain ⟨a, rfl, rfl, rfl, wa⟩ := open_int Try.underlying3 hv h
  exact ⟨a, rfl, wf_i64b wa⟩
theorem open_argByte (hv : Value.okWide Try.prog w r b0 5 v) (h : DataW.Trod enc Try.prog w base sp held 5 v d p) : ∃ a, ArgByte v a := by
  obtain ⟨a, rfl, rfl, rfl, wa⟩ := open_int Try.underlying5 hv h
  exact ⟨a, rfl, wf_u8b wa⟩

theorem cells3 : Try.prog.cellsOf 3 = 1 := by kernel_rfl
theorem cells24 : Try.prog.cellsOf 24 = 5 := by kernel_rfl

theorem open_argGeo (hv : Value.okWide Try.prog w r b0 24 v) (h : DataW.Trod enc Try.prog w base sp held 24 v d p) : ∃ v1 s m u j, ArgGeo v v1 s m u j := by
  obtain ⟨cs, rfl, hsz⟩ := okWide_struct Try.underlying24 hv
  obtain ⟨fuel, hf⟩ := h
  obtain ⟨xs, n, _, _, hlen, hxl, hg⟩ := DataW.trod_struct Try.underlying24 hf
  have one : ∀ (i : Nat) (f : Field), (i < 5) → f.type = 3 → f.offset = i → DataW.trod enc Try.prog w base sp held n f.type ((((Value.agg cs).cells.toList).drop f.offset).take (Try.prog.cellsOf f.type)) = xs[i]? →
      ∃ a : Int, ((cs.toList.drop i).take 1) = [.int .i64 a] ∧ IntIn a := by
    intro i f hi ht ho hx
    rw [ht, ho, cells3] at hx
    have hxi : xs[i]? = some (xs[i]'(by simp at hxl; omega)) := List.getElem?_eq_getElem (by simp at hxl; omega)
    rw [hxi] at hx
    obtain ⟨a, ha, _, wa⟩ := DataW.trod_int Try.underlying3 hx
    exact ⟨a, by simpa [Value.cells] using ha, wf_i64b wa⟩
  obtain ⟨a0, e0, w0⟩ := one 0 _ (by omega) rfl rfl (hg 0 _ rfl)
  obtain ⟨a1, e1, w1⟩ := one 1 _ (by omega) rfl rfl (hg 1 _ rfl)
  obtain ⟨a2, e2, w2⟩ := one 2 _ (by omega) rfl rfl (hg 2 _ rfl)
  obtain ⟨a3, e3, w3⟩ := one 3 _ (by omega) rfl rfl (hg 3 _ rfl)
  obtain ⟨a4, e4, w4⟩ := one 4 _ (by omega) rfl rfl (hg 4 _ rfl)
  refine ⟨a0, a1, a2, a3, a4, ?_, w0, w1, w2, w3, w4⟩
  rw [cells24] at hsz
  obtain ⟨l⟩ := cs
  match l, hsz with
  | [c0, c1, c2, c3, c4], _ =>
    simp at e0 e1 e2 e3 e4
    subst e0 e1 e2 e3 e4
    rfl
end
end Go.Proofs.Yteeamlidmkpohaa
