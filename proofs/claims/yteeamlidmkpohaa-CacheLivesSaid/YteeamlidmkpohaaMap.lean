/-
  Maps keyed by ints: what a block of one is good for; looking up, storing, clearing, going through.
-/
import Derived.Test.YteeamlidmkpohaaBase
set_option linter.unusedVariables false
set_option linter.unusedSimpArgs false
namespace Go.Proofs.Yteeamlidmkpohaa
open Go.RowKit Go.Sort

/-- The entries are just what f says: each key once. -/
structure MapOk (es : Array MapEntry) (clock : Nat) (f : Int → Option Value) : Prop where
  key : ∀ (i : Nat) (e : MapEntry), es[i]? = some e → ∃ k, e.key = .int .i64 k ∧ f k = some e.val
  has : ∀ k v, f k = some v → ∃ (i : Nat) (e : MapEntry), es[i]? = some e ∧ e.key = .int .i64 k ∧ e.val = v
  born : ∀ (i : Nat) (e : MapEntry), es[i]? = some e → e.born < clock
  once : ∀ (i j : Nat) (a b : MapEntry), es[i]? = some a → es[j]? = some b → (a.born = b.born ∨ a.key = b.key) → i = j

theorem MapOk.mem {es : Array MapEntry} {clock : Nat} {f : Int → Option Value} (h : MapOk es clock f) {e : MapEntry} (he : e ∈ es.toList) : ∃ k, e.key = .int .i64 k ∧ f k = some e.val := by
  obtain ⟨i, hi⟩ := List.mem_iff_getElem?.1 he
  exact h.key i e (by simpa using hi)

def MapIs (w : World) (b : Nat) (f : Int → Option Value) : Prop := ∃ es clock, w.heap[b]? = some (.map es clock) ∧ MapOk es clock f

theorem MapIs.lt {w : World} {b : Nat} {f : Int → Option Value} (h : MapIs w b f) : b < w.heap.size := by
  obtain ⟨es, clock, hb, _⟩ := h
  exact (Array.getElem?_eq_some_iff.1 hb).1
theorem MapIs.chg {F : Nat → Prop} {w w' : World} {b : Nat} {f : Int → Option Value} (h : MapIs w b f) (hc : Chg F w w') (hF : ¬ F b) : MapIs w' b f := by
  have hl := h.lt
  obtain ⟨es, clock, hb, ho⟩ := h
  exact ⟨es, clock, (hc.block b hl hF).trans hb, ho⟩
theorem MapIs.of_block {w w' : World} {b : Nat} {f : Int → Option Value} (h : MapIs w b f) (hb : w'.heap[b]? = w.heap[b]?) : MapIs w' b f := by
  obtain ⟨es, clock, hb', ho⟩ := h
  exact ⟨es, clock, hb.trans hb', ho⟩
theorem MapIs.new (w : World) : MapIs (w.alloc (.map #[] 0)) w.heap.size (fun _ => none) :=
  ⟨#[], 0, by show (w.heap.push _)[w.heap.size]? = _; simp, ⟨by simp, by simp, by simp, by simp⟩⟩
theorem MapIs.congr {w : World} {b : Nat} {f g : Int → Option Value} (h : MapIs w b f) (e : ∀ k, f k = g k) : MapIs w b g := by
  have : f = g := funext e
  rw [← this]; exact h

/-! ### looking a key up -/
theorem findNow_none {q : Nat} : ∀ (es : List MapEntry) (i : Nat) (k : Int), (∀ e ∈ es, ∃ k', e.key = .int .i64 k' ∧ k' ≠ k) → Instr.findNow (.int .i64) (.int .i64 k) es i = some none
  | [], _, _, _ => rfl
  | e :: es, i, k, h => by
    obtain ⟨k', hk, hne⟩ := h e List.mem_cons_self
    have hb : (k == k') = false := by simp; exact fun h => hne h.symm
    simp only [Instr.findNow, hk, Instr.sameNow, if_true, hb]
    exact findNow_none (q := q) es (i + 1) k fun e' he' => h e' (List.mem_cons_of_mem _ he')
theorem findNow_some : ∀ (es : List MapEntry) (i : Nat) (k : Int) (v : Value), (∀ e ∈ es, ∃ k', e.key = .int .i64 k' ∧ (k' = k → e.val = v)) → (∃ e ∈ es, e.key = .int .i64 k) →
    ∃ j, j < es.length ∧ Instr.findNow (.int .i64) (.int .i64 k) es i = some (some (i + j, v)) ∧ ∃ e, es[j]? = some e ∧ e.key = .int .i64 k
  | [], _, _, _, _, ⟨e, he, _⟩ => by cases he
  | e :: es, i, k, v, h, hex => by
    obtain ⟨k', hk, hv⟩ := h e List.mem_cons_self
    by_cases hkk : k' = k
    · subst hkk
      refine ⟨0, by simp, ?_, e, rfl, hk⟩
      simp only [Instr.findNow, hk, Instr.sameNow, if_true, beq_self_eq_true, hv rfl, Nat.add_zero]
    · have hb : (k == k') = false := by simp; exact fun h => hkk h.symm
      obtain ⟨e', he', hk'⟩ := hex
      have he'' : e' ∈ es := by
        rcases List.mem_cons.1 he' with rfl | h'
        · rw [hk] at hk'; simp only [Value.int.injEq, true_and] at hk'; exact absurd hk' hkk
        · exact h'
      obtain ⟨j, hj, hf, e2, h2, h3⟩ := findNow_some es (i + 1) k v (fun e' he' => h e' (List.mem_cons_of_mem _ he')) ⟨e', he'', hk'⟩
      refine ⟨j + 1, by simp; omega, ?_, e2, by simpa using h2, h3⟩
      simp only [Instr.findNow, hk, Instr.sameNow, if_true, hb]
      rw [hf]
      congr 3
      omega

theorem run_getMap {P : Program} {w : World} {b : Nat} {es : Array MapEntry} {clock : Nat} (hb : w.heap[b]? = some (.map es clock)) : (getObj b).run P w = .ok (.map es clock) w := by
  simp [getObj, Sem.run, hb]

section
set_option linter.unusedSectionVars false
variable {P : Program} {w : World} {t e : TypeId} (ht : P.underlying t = some (.map 3 e)) (h3 : P.underlying 3 = some (.int .i64))
include ht h3

theorem run_findKey {es : Array MapEntry} {clock : Nat} {f : Int → Option Value} (h : MapOk es clock f) (k : Int) :
    (f k = none ∧ (Instr.findKey 3 (.int .i64 k) es.toList).run P w = .ok none w) ∨
    ∃ v j, f k = some v ∧ j < es.size ∧ (∃ x, es[j]? = some x ∧ x.key = .int .i64 k) ∧ (Instr.findKey 3 (.int .i64 k) es.toList).run P w = .ok (some (j, v)) w := by
  cases hf : f k with
  | none =>
    left
    have := findNow_none (q := 0) es.toList 0 k (fun e he => by
      obtain ⟨k', hk, hv⟩ := h.mem he
      exact ⟨k', hk, fun e' => by subst e'; rw [hf] at hv; cases hv⟩)
    refine ⟨rfl, ?_⟩
    simp [Instr.findKey, run_underlying h3, this, Result.andThen]
  | some v =>
    right
    obtain ⟨ix, x, hx, hxk, hxv⟩ := h.has k v hf
    obtain ⟨j, hj, hfn, e2, h2, h4⟩ := findNow_some es.toList 0 k v (fun e he => by
      obtain ⟨k', hk, hv⟩ := h.mem he
      exact ⟨k', hk, fun e' => by subst e'; rw [hf] at hv; cases hv; rfl⟩) ⟨x, List.mem_iff_getElem?.2 ⟨ix, by simpa using hx⟩, hxk⟩
    refine ⟨v, j, rfl, by simpa using hj, ⟨e2, by simpa using h2, h4⟩, ?_⟩
    rw [Nat.zero_add] at hfn
    simp [Instr.findKey, run_underlying h3, hfn, Result.andThen]

theorem run_checkKey (b : Bool) (k : Int) : (Instr.checkKey b 10000 3 (.int .i64 k)).run P w = .ok () w := by
  rw [show (10000 : Nat) = 9999 + 1 from rfl, Instr.checkKey]
  simp [run_underlying h3, Result.andThen]

/-- 'm[k]' with and without ok. -/
theorem run_lookup {b : Nat} {f : Int → Option Value} (h : MapIs w b f) (k : Int) (z : Value) (hz : (zeroValue e).run P w = .ok z w) :
    (Instr.lookup t (.map (some b)) (.int .i64 k) true).run P w = .ok (.tuple #[(f k).getD z, .bool (f k).isSome]) w ∧
    (Instr.lookup t (.map (some b)) (.int .i64 k) false).run P w = .ok ((f k).getD z) w := by
  obtain ⟨es, clock, hb, ho⟩ := h
  rcases run_findKey (P := P) (w := w) ht h3 ho k with ⟨hf, hr⟩ | ⟨v, j, hf, _, _, hr⟩
  · constructor <;> simp [Instr.lookup, run_underlying ht, run_getMap hb, run_checkKey ht h3, hr, hz, hf, Result.andThen]
  · constructor <;> simp [Instr.lookup, run_underlying ht, run_getMap hb, run_checkKey ht h3, hr, hf, Result.andThen]

/-! ### storing -/
theorem sameBits_int (k : Int) : Instr.sameBits 10000 (.int .i64 k) (.int .i64 k) = true := by
  simp [Instr.sameBits]
omit ht h3 in
theorem run_setMap {b : Nat} {es : Array MapEntry} {clock : Nat} (hb : w.heap[b]? = some (.map es clock)) (o : Obj) : (setObj b o).run P w = .ok () { w with heap := w.heap.setIfInBounds b o } := by
  simp [setObj, Sem.run, hb]

theorem run_mapUpdate {b : Nat} {f : Int → Option Value} (h : MapIs w b f) (k : Int) (v : Value) :
    ∃ es clock, (Instr.mapUpdate t (.map (some b)) (.int .i64 k) v).run P w = .ok () { w with heap := w.heap.setIfInBounds b (.map es clock) } ∧ MapOk es clock (fun x => if x = k then some v else f x) := by
  obtain ⟨es, clock, hb, ho⟩ := h
  rcases run_findKey (P := P) (w := w) ht h3 ho k with ⟨hf, hr⟩ | ⟨u, j, hf, hj, ⟨e0, h0, hk0⟩, hr⟩
  · refine ⟨es.push { key := .int .i64 k, val := v, born := clock }, clock + 1, ?_, ?_⟩
    · simp [Instr.mapUpdate, run_underlying ht, run_getMap hb, run_checkKey ht h3, hr, run_setMap hb, Result.andThen]
    · have old : ∀ (i : Nat) (e : MapEntry), (es.push { key := .int .i64 k, val := v, born := clock })[i]? = some e → (es[i]? = some e ∧ i < es.size) ∨ (i = es.size ∧ e = { key := .int .i64 k, val := v, born := clock }) := by
        intro i e hi
        rw [Array.getElem?_push] at hi
        split at hi
        · right; cases hi; exact ⟨by assumption, rfl⟩
        · left
          exact ⟨hi, (Array.getElem?_eq_some_iff.1 hi).1⟩
      refine ⟨?_, ?_, ?_, ?_⟩
      · intro i e hi
        rcases old i e hi with ⟨h1, _⟩ | ⟨_, rfl⟩
        · obtain ⟨k', hk, hv⟩ := ho.key i e h1
          refine ⟨k', hk, ?_⟩
          have : k' ≠ k := fun e' => by subst e'; rw [hf] at hv; cases hv
          simp [this, hv]
        · exact ⟨k, rfl, by simp⟩
      · intro k' v' hv
        by_cases e : k' = k
        · subst e
          simp at hv
          subst hv
          exact ⟨es.size, { key := .int .i64 k', val := v, born := clock }, by simp, rfl, rfl⟩
        · simp [e] at hv
          obtain ⟨i, x, h1, h2, h4⟩ := ho.has k' v' hv
          refine ⟨i, x, ?_, h2, h4⟩
          rw [Array.getElem?_push, if_neg (by have := (Array.getElem?_eq_some_iff.1 h1).1; omega)]
          exact h1
      · intro i e hi
        rcases old i e hi with ⟨h1, _⟩ | ⟨_, rfl⟩
        · have := ho.born i e h1; omega
        · show clock < clock + 1; omega
      · intro i i' a a' hi hi' hab
        rcases old i a hi with ⟨h1, l1⟩ | ⟨l1, rfl⟩ <;> rcases old i' a' hi' with ⟨h2, l2⟩ | ⟨l2, rfl⟩
        · exact ho.once i i' a a' h1 h2 hab
        · exfalso
          rcases hab with hab | hab
          · have := ho.born i a h1; simp at hab; omega
          · obtain ⟨k', hk, hv⟩ := ho.key i a h1
            rw [hk] at hab
            simp at hab
            subst hab
            rw [hf] at hv; cases hv
        · exfalso
          rcases hab with hab | hab
          · have := ho.born i' a' h2; simp at hab; omega
          · obtain ⟨k', hk, hv⟩ := ho.key i' a' h2
            rw [hk] at hab
            simp at hab
            subst hab
            rw [hf] at hv; cases hv
        · omega
  · refine ⟨es.modify j fun e => { e with key := .int .i64 k, val := v }, clock, ?_, ?_⟩
    · have h0' : es[j] = e0 := by simpa [Array.getElem?_eq_getElem hj] using h0
      simp [Instr.mapUpdate, run_underlying ht, run_getMap hb, run_checkKey ht h3, hr, run_setMap hb, Result.andThen, Instr.keyThatStays, h0, hk0, sameBits_int ht h3, Array.getElem?_eq_getElem hj, h0']
    · have old : ∀ (i : Nat) (e : MapEntry), (es.modify j fun e => { e with key := .int .i64 k, val := v })[i]? = some e → ∃ e', es[i]? = some e' ∧ e.born = e'.born ∧ ((i = j ∧ e.key = .int .i64 k ∧ e.val = v ∧ e'.key = .int .i64 k) ∨ (i ≠ j ∧ e = e')) := by
        intro i e hi
        rw [Array.getElem?_modify] at hi
        by_cases hij : j = i
        · subst hij
          rw [if_pos rfl, h0] at hi
          simp at hi
          subst hi
          exact ⟨e0, h0, rfl, .inl ⟨rfl, rfl, rfl, hk0⟩⟩
        · rw [if_neg hij] at hi
          exact ⟨e, hi, rfl, .inr ⟨fun e => hij e.symm, rfl⟩⟩
      refine ⟨?_, ?_, ?_, ?_⟩
      · intro i e hi
        obtain ⟨e', h1, hb', h2 | ⟨hne, rfl⟩⟩ := old i e hi
        · exact ⟨k, h2.2.1, by simp [h2.2.2.1]⟩
        · obtain ⟨k', hk, hv⟩ := ho.key i e h1
          refine ⟨k', hk, ?_⟩
          have : k' ≠ k := fun e' => by subst e'; exact hne (ho.once i j e e0 h1 h0 (.inr (hk.trans hk0.symm)))
          simp [this, hv]
      · intro k' v' hv
        by_cases e : k' = k
        · subst e
          simp at hv
          subst hv
          exact ⟨j, _, by rw [Array.getElem?_modify, if_pos rfl, h0]; rfl, rfl, rfl⟩
        · simp [e] at hv
          obtain ⟨i, x, h1, h2, h4⟩ := ho.has k' v' hv
          refine ⟨i, x, ?_, h2, h4⟩
          rw [Array.getElem?_modify, if_neg]
          · exact h1
          · intro e'
            subst e'
            rw [h0] at h1
            cases h1
            rw [hk0] at h2
            simp at h2
            exact e h2.symm
      · intro i e hi
        obtain ⟨e', h1, hb', _⟩ := old i e hi
        rw [hb']
        exact ho.born i e' h1
      · intro i i' a a' hi hi' hab
        obtain ⟨x, h1, hb1, h2⟩ := old i a hi
        obtain ⟨x', h1', hb1', h2'⟩ := old i' a' hi'
        refine ho.once i i' x x' h1 h1' ?_
        rcases hab with hab | hab
        · left; rw [← hb1, ← hb1', hab]
        · right
          rcases h2 with ⟨_, a1, _, a2⟩ | ⟨_, rfl⟩ <;> rcases h2' with ⟨_, b1, _, b2⟩ | ⟨_, rfl⟩
          · rw [a2, b2]
          · rw [a2, ← hab, a1]
          · rw [b2, hab, b1]
          · exact hab

/-! ### clearing -/
theorem run_clear {b : Nat} {f : Int → Option Value} (h : MapIs w b f) :
    ∃ clock, (Builtin.clear_ #[t] 0 #[.map (some b)]).run P w = .ok (.tuple #[]) { w with heap := w.heap.setIfInBounds b (.map #[] clock) } := by
  obtain ⟨es, clock, hb, ho⟩ := h
  refine ⟨clock, ?_⟩
  simp [Builtin.clear_, run_underlying ht, run_getMap hb, run_setMap hb, Result.andThen]
end

theorem MapIs.set {w : World} {b : Nat} {es : Array MapEntry} {clock : Nat} {f : Int → Option Value} (hb : b < w.heap.size) (h : MapOk es clock f) : MapIs { w with heap := w.heap.setIfInBounds b (.map es clock) } b f :=
  ⟨es, clock, by simp [hb], h⟩
theorem chg_setBlock (w : World) (b : Nat) (o : Obj) : Chg (fun k => k = b) w { w with heap := w.heap.setIfInBounds b o } :=
  ⟨rfl, rfl, rfl, by simp, fun k hk hne => Array.getElem?_setIfInBounds_ne (fun e => hne e.symm)⟩
theorem MapOk.empty (clock : Nat) : MapOk #[] clock (fun _ => none) := ⟨by simp, by simp, by simp, by simp⟩

/-! ### going through -/
/-- Block it goes through the map in block m (it reads as f, and lies still); the keys of T have been told. -/
structure IterIs (w : World) (it m : Nat) (f : Int → Option Value) (T : Int → Bool) : Prop where
  mk ::
  is : ∃ es clock seen last, w.heap[m]? = some (.map es clock) ∧ MapOk es clock f ∧ w.heap[it]? = some (.mapIter (some m) clock seen last) ∧ (seen = #[] ∨ last = clock) ∧
    ∀ (i : Nat) (e : MapEntry) (k : Int), es[i]? = some e → e.key = .int .i64 k → seen.contains e.born = T k

/-- how many entries are left -/
def leftOf (w : World) (it m : Nat) : Nat :=
  match w.heap[m]?, w.heap[it]? with
  | some (.map es _), some (.mapIter _ _ seen _) => (es.filter fun e => !seen.contains e.born).size
  | _, _ => 0

theorem IterIs.lt {w : World} {it m : Nat} {f : Int → Option Value} {T : Int → Bool} (h : IterIs w it m f T) : it < w.heap.size ∧ m < w.heap.size ∧ it ≠ m := by
  obtain ⟨es, clock, seen, last, hm, _, hi, _⟩ := h.is
  refine ⟨(Array.getElem?_eq_some_iff.1 hi).1, (Array.getElem?_eq_some_iff.1 hm).1, fun e => ?_⟩
  subst e
  rw [hm] at hi
  cases hi
theorem IterIs.chg {F : Nat → Prop} {w w' : World} {it m : Nat} {f : Int → Option Value} {T : Int → Bool} (h : IterIs w it m f T) (hc : Chg F w w') (h1 : ¬ F it) (h2 : ¬ F m) : IterIs w' it m f T ∧ leftOf w' it m = leftOf w it m := by
  obtain ⟨l1, l2, _⟩ := h.lt
  have e1 := hc.block it l1 h1
  have e2 := hc.block m l2 h2
  obtain ⟨es, clock, seen, last, hm, r1, hi, r2⟩ := h.is
  refine ⟨⟨⟨es, clock, seen, last, e2.trans hm, r1, e1.trans hi, r2⟩⟩, ?_⟩
  unfold leftOf
  rw [e1, e2]

section
variable {P : Program} {w : World} {t e : TypeId}
theorem run_range (ht : P.underlying t = some (.map 3 e)) {m : Nat} {f : Int → Option Value} (h : MapIs w m f) :
    ∃ o, (Instr.range t (.map (some m))).run P w = .ok (.pointer (some ⟨w.heap.size, 0, none⟩)) (w.alloc o) ∧ IterIs (w.alloc o) w.heap.size m f (fun _ => false) := by
  have hl := h.lt
  obtain ⟨es, clock, hb, ho⟩ := h
  refine ⟨.mapIter (some m) clock #[] clock, ?_, ⟨es, clock, #[], clock, ?_, ho, ?_, .inl rfl, ?_⟩⟩
  · simp [Instr.range, run_underlying ht, run_getMap hb, Result.andThen, newObj, Sem.run]
  · rw [Below.heap_alloc _ _ _ hl]; exact hb
  · show (w.heap.push _)[w.heap.size]? = _; simp
  · intro i e k _ _; simp

theorem run_next {it m : Nat} {f : Int → Option Value} {T : Int → Bool} (h : IterIs w it m f T) (ty : TypeId) :
    ((∀ k v, f k = some v → T k = true) ∧ ∃ w1, (Instr.next (.pointer (some ⟨it, 0, none⟩)) false ty).run P w = .ok (.tuple #[.bool false]) w1 ∧ Chg (fun _ => False) w w1) ∨
    ∃ k v w1, f k = some v ∧ T k = false ∧ (Instr.next (.pointer (some ⟨it, 0, none⟩)) false ty).run P w = .ok (.tuple #[.bool true, .int .i64 k, v]) w1 ∧ Chg (fun x => x = it) w w1 ∧
      IterIs w1 it m f (fun x => T x || x == k) ∧ leftOf w1 it m < leftOf w it m ∧ (Instr.entry (.pointer (some ⟨it, 0, none⟩))).run P w1 = .ok (.tuple #[.int .i64 k, v]) w1 := by
  obtain ⟨es, clock, seen, last, hm, ho, hi, hl, hT⟩ := h.is
  obtain ⟨l1, l2, hne⟩ := h.lt
  have hcheck : (!seen.isEmpty && !es.isEmpty && es.all (fun e => decide (e.born ≥ last))) = false := by
    rcases hl with rfl | rfl
    · simp
    · by_cases h0 : es.size = 0
      · have : es = #[] := by simpa using h0
        simp [this]
      · rw [Bool.and_eq_false_iff]
        right
        rw [Bool.eq_false_iff]
        intro hall
        rw [Array.all_eq_true] at hall
        have h1 := hall 0 (by omega)
        have h2 := ho.born 0 es[0] (Array.getElem?_eq_getElem (by omega))
        simp at h1
        omega
  have hold : (es.filter fun e => !seen.contains e.born).filter (fun e => decide (e.born < clock)) = es.filter fun e => !seen.contains e.born := by
    rw [Array.filter_eq_self]
    intro e he
    have he' := (Array.mem_filter.1 he).1
    obtain ⟨i, hi'⟩ := Array.mem_iff_getElem?.1 he'
    simpa using ho.born i e hi'
  have hnew : (es.filter fun e => !seen.contains e.born).filter (fun e => decide (e.born ≥ clock)) = #[] := by
    rw [Array.filter_eq_empty_iff]
    intro e he
    have he' := (Array.mem_filter.1 he).1
    obtain ⟨i, hi'⟩ := Array.mem_iff_getElem?.1 he'
    have := ho.born i e hi'
    simpa using this
  have hgi : (getObj it).run P w = .ok (.mapIter (some m) clock seen last) w := by simp [getObj, Sem.run, hi]
  have hgm := run_getMap (P := P) hm
  generalize hL : (es.filter fun e => !seen.contains e.born) = L at hold hnew
  by_cases hE : L = #[]
  · left
    constructor
    · intro k v hf
      obtain ⟨i, e, h1, h2, h3⟩ := ho.has k v hf
      rw [← hT i e k h1 h2]
      have : e ∉ es.filter fun e => !seen.contains e.born := by rw [hL, hE]; simp
      rw [Array.mem_filter] at this
      simp only [not_and] at this
      have := this (Array.mem_of_getElem? h1)
      simpa using this
    · subst hE
      refine ⟨w, ?_, Chg.refl _ _⟩
      simp only [Instr.next, Sem.run_bind, hgi, hgm, Result.andThen, hcheck, Bool.false_eq_true, if_false, hL, hold, hnew]
      simp [choose, Sem.run, Question.forced, Result.andThen]
  · right
    have hsz : 0 < L.size := by
      rcases Nat.eq_zero_or_pos L.size with h0 | h0
      · exact absurd (by simpa using h0) hE
      · exact h0
    obtain ⟨n, w0, hn, hch, hw0⟩ : ∃ n w0, n < L.size ∧ (choose (.mapNext L.size)).run P w = .ok n w0 ∧ (w0.heap = w.heap ∧ w0.os = w.os ∧ w0.tape = w.tape ∧ w0.output = w.output) := by
      by_cases h1 : L.size ≤ 1
      · exact ⟨0, w, hsz, by simp [choose, Sem.run, Question.forced, h1], rfl, rfl, rfl, rfl⟩
      · exact ⟨w.tape w.drawn (.mapNext L.size) % L.size, w.drew, Nat.mod_lt _ hsz, by simp [choose, Sem.run, Question.forced, h1, Question.cut], rfl, rfl, rfl, rfl⟩
    have hmem : L[n] ∈ es.filter fun e => !seen.contains e.born := by rw [hL]; exact Array.getElem_mem hn
    obtain ⟨hmem1, hmem2⟩ := Array.mem_filter.1 hmem
    obtain ⟨i, hi'⟩ := Array.mem_iff_getElem?.1 hmem1
    obtain ⟨k, hk, hfk⟩ := ho.key i _ hi'
    have hTk : T k = false := by rw [← hT i _ k hi' hk]; simpa using hmem2
    have hi0 : w0.heap[it]? = some (.mapIter (some m) clock seen last) := by rw [hw0.1]; exact hi
    refine ⟨k, L[n].val, { w0 with heap := w0.heap.setIfInBounds it (.mapIter (some m) clock (seen.push L[n].born) clock) }, hfk, hTk, ?_, ?_, ?_, ?_, ?_⟩
    · have hset : (setObj it (.mapIter (some m) clock (seen.push L[n].born) clock)).run P w0 = .ok () { w0 with heap := w0.heap.setIfInBounds it (.mapIter (some m) clock (seen.push L[n].born) clock) } := by
        simp [setObj, Sem.run, hi0]
      have hE' : L.isEmpty = false := by simpa using hE
      simp only [Instr.next, Sem.run_bind, hgi, hgm, Result.andThen, hcheck, Bool.false_eq_true, if_false, hL, hold, hnew, hE', Array.append_empty, Array.empty_append, Array.size_map, hch]
      rw [Array.getElem?_map, Array.getElem?_eq_getElem hn]
      simp [hset, hk, Result.andThen]
    · exact ⟨hw0.2.1, hw0.2.2.1, hw0.2.2.2, by simp [hw0.1], fun x hx hne' => by simp only [hw0.1]; exact Array.getElem?_setIfInBounds_ne (fun e => hne' e.symm)⟩
    · refine ⟨⟨es, clock, seen.push L[n].born, clock, ?_, ho, ?_, .inr rfl, ?_⟩⟩
      · simp only [hw0.1]
        rw [Array.getElem?_setIfInBounds_ne hne]
        exact hm
      · simp only [hw0.1]
        rw [Array.getElem?_setIfInBounds_self_of_lt (by simpa using l1)]
      · intro j e k' hj hk'
        have h1 := hT j e k' hj hk'
        rw [← h1]
        by_cases hkk : k' = k
        · subst hkk
          have := ho.once j i e _ hj hi' (.inr (hk'.trans hk.symm))
          subst this
          rw [hj] at hi'
          cases hi'
          simp
        · have hb : e.born ≠ L[n].born := fun hb => by
            have := ho.once j i e _ hj hi' (.inl hb)
            subst this
            rw [hj] at hi'
            cases hi'
            rw [hk'] at hk
            simp at hk
            exact hkk hk
          have h2 : (k' == k) = false := by simpa using hkk
          rw [h2]
          simp [hb]
    · unfold leftOf
      simp only [hw0.1]
      rw [Array.getElem?_setIfInBounds_ne hne, hm, hi, Array.getElem?_setIfInBounds_self_of_lt (by simpa using l1)]
      show (es.filter fun e => !(seen.push L[n].born).contains e.born).size < (es.filter fun e => !seen.contains e.born).size
      have e1 : (es.filter fun e => !(seen.push L[n].born).contains e.born) = (es.filter fun e => !seen.contains e.born).filter fun e => !(e.born == L[n].born) := by
        rw [Array.filter_filter]
        congr 1
        funext e
        by_cases q1 : e.born ∈ seen <;> by_cases q2 : e.born = L[n].born <;> simp [q1, q2]
      rw [e1, hL]
      simp
      exact ⟨L[n], by simp, rfl⟩
    · have hi1 : ({ w0 with heap := w0.heap.setIfInBounds it (.mapIter (some m) clock (seen.push L[n].born) clock) } : World).heap[it]? = some (.mapIter (some m) clock (seen.push L[n].born) clock) := by
        simp only [hw0.1]
        rw [Array.getElem?_setIfInBounds_self_of_lt (by simpa using l1)]
      have hm1 : ({ w0 with heap := w0.heap.setIfInBounds it (.mapIter (some m) clock (seen.push L[n].born) clock) } : World).heap[m]? = some (.map es clock) := by
        simp only [hw0.1]
        rw [Array.getElem?_setIfInBounds_ne hne]
        exact hm
      generalize ({ w0 with heap := w0.heap.setIfInBounds it (.mapIter (some m) clock (seen.push L[n].born) clock) } : World) = w1 at hi1 hm1 ⊢
      have hg1 : (getObj it).run P w1 = .ok (.mapIter (some m) clock (seen.push L[n].born) clock) w1 := by simp [getObj, Sem.run, hi1]
      have hg2 := run_getMap (P := P) hm1
      have hfind : es.find? (fun x => x.born == L[n].born) = some L[n] := by
        cases hfd : es.find? (fun x => x.born == L[n].born) with
        | none =>
          rw [Array.find?_eq_none] at hfd
          have := hfd L[n] hmem1
          simp at this
        | some e' =>
          have h1 := Array.find?_some hfd
          obtain ⟨j, hj⟩ := Array.mem_iff_getElem?.1 (Array.mem_of_find?_eq_some hfd)
          have := ho.once j i e' _ hj hi' (.inl (by simpa using h1))
          subst this
          rw [hj] at hi'
          exact hi'
      simp only [Instr.entry, Sem.run_bind, hg1, hg2, Result.andThen, Array.back?_push, bne_self_eq_false, Bool.false_eq_true, if_false, hfind]
      simp [hk]
end

end Go.Proofs.Yteeamlidmkpohaa
