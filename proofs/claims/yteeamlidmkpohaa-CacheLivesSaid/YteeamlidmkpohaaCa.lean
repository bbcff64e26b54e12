/-
  A cache in plain words: what is kept, the eldest first; and maps of it: how many, deleting.
-/
import Derived.Test.YteeamlidmkpohaaSa
set_option linter.unusedVariables false
set_option linter.unusedSimpArgs false
namespace Go.Proofs.Yteeamlidmkpohaa
open Go.RowKit Go.Sort

/-- a sector that is kept: its number, its bytes, the slice that holds them, when it was touched -/
structure CE where
  k : Int
  l : List Int
  v : Value
  t : Int
def CE.val (e : CE) : Value := .agg #[e.v, .int .i64 e.t]
def mapOf (C : List CE) : Int → Option Value := fun k => (C.find? (fun e => e.k == k)).map CE.val
structure KeptOk (C : List CE) (now : Int) : Prop where
  keys : C.Pairwise (fun a b => a.k ≠ b.k)
  times : C.Pairwise (fun a b => a.t < b.t)
  le : ∀ e ∈ C, e.t ≤ now
theorem KeptOk.nil (now : Int) : KeptOk [] now := ⟨.nil, .nil, fun e h => by cases h⟩
def without (C : List CE) (k : Int) : List CE := C.filter (fun e => !(e.k == k))
theorem KeptOk.without {C : List CE} {now : Int} (h : KeptOk C now) (k : Int) : KeptOk (without C k) now :=
  ⟨h.keys.filter _, h.times.filter _, fun e he => h.le e ((List.mem_filter.1 he).1)⟩
theorem KeptOk.put {C : List CE} {now : Int} (h : KeptOk C now) (e : CE) (ht : e.t = now + 1) : KeptOk (Yteeamlidmkpohaa.without C e.k ++ [e]) (now + 1) := by
  refine ⟨?_, ?_, fun x hx => ?_⟩
  · rw [List.pairwise_append]
    refine ⟨h.keys.filter _, List.pairwise_singleton _ _, fun a ha b hb => ?_⟩
    simp only [List.mem_singleton] at hb
    subst hb
    have := (List.mem_filter.1 ha).2
    simpa using this
  · rw [List.pairwise_append]
    refine ⟨h.times.filter _, List.pairwise_singleton _ _, fun a ha b hb => ?_⟩
    simp only [List.mem_singleton] at hb
    subst hb
    have := h.le a ((List.mem_filter.1 ha).1)
    omega
  · rw [List.mem_append] at hx
    rcases hx with hx | hx
    · have := h.le x ((List.mem_filter.1 hx).1); omega
    · simp only [List.mem_singleton] at hx; subst hx; omega
theorem KeptOk.tail {C : List CE} {now : Int} (h : KeptOk C now) : KeptOk C.tail now :=
  ⟨h.keys.sublist (List.tail_sublist C), h.times.sublist (List.tail_sublist C), fun e he => h.le e (List.mem_of_mem_tail he)⟩
theorem KeptOk.uniq {C : List CE} {now : Int} (h : KeptOk C now) {a b : CE} (ha : a ∈ C) (hb : b ∈ C) (e : a.k = b.k) : a = b := by
  obtain ⟨i, hi, rfl⟩ := List.mem_iff_getElem.1 ha
  obtain ⟨j, hj, rfl⟩ := List.mem_iff_getElem.1 hb
  have hp := List.pairwise_iff_getElem.1 h.keys
  rcases Nat.lt_trichotomy i j with h1 | h1 | h1
  · exact absurd e (hp i j hi hj h1)
  · subst h1; rfl
  · exact absurd e.symm (hp j i hj hi h1)
theorem mapOf_some {C : List CE} {now : Int} (h : KeptOk C now) {k : Int} {v : Value} : mapOf C k = some v ↔ ∃ e ∈ C, e.k = k ∧ e.val = v := by
  unfold mapOf
  constructor
  · intro hf
    cases hq : C.find? (fun e => e.k == k) with
    | none => rw [hq] at hf; cases hf
    | some e =>
      rw [hq] at hf
      exact ⟨e, List.mem_of_find?_eq_some hq, by simpa using List.find?_some hq, by simpa using hf⟩
  · rintro ⟨e, he, hk, hv⟩
    cases hq : C.find? (fun e => e.k == k) with
    | none =>
      rw [List.find?_eq_none] at hq
      exact absurd (by simpa using hk) (hq e he)
    | some e' =>
      have h1 := List.mem_of_find?_eq_some hq
      have h2 : e'.k = k := by simpa using List.find?_some hq
      rw [h.uniq h1 he (h2.trans hk.symm)]
      simpa using hv
theorem mapOf_none {C : List CE} {k : Int} : mapOf C k = none ↔ ∀ e ∈ C, e.k ≠ k := by
  unfold mapOf
  rw [Option.map_eq_none_iff, List.find?_eq_none]
  simp
theorem mapOf_ext {C : List CE} {now : Int} (h : KeptOk C now) {f : Int → Option Value} (hf : ∀ k v, f k = some v ↔ ∃ e ∈ C, e.k = k ∧ e.val = v) : ∀ k, f k = mapOf C k := by
  intro k
  cases hq : f k with
  | some v => exact ((mapOf_some h).2 ((hf k v).1 hq)).symm
  | none =>
    cases hm : mapOf C k with
    | none => rfl
    | some v => rw [(hf k v).2 ((mapOf_some h).1 hm)] at hq; cases hq
theorem mapOf_without {C : List CE} {now : Int} (h : KeptOk C now) (k : Int) : ∀ x, (if x = k then none else mapOf C x) = mapOf (without C k) x := by
  refine mapOf_ext (h.without k) (fun x v => ?_)
  by_cases e : x = k
  · rw [if_pos e]
    constructor
    · intro h; cases h
    · rintro ⟨a, ha, h1, _⟩
      have := (List.mem_filter.1 ha).2
      simp at this
      exact absurd (h1.trans e) this
  · rw [if_neg e, mapOf_some h]
    constructor
    · rintro ⟨a, ha, h1, h2⟩
      exact ⟨a, List.mem_filter.2 ⟨ha, by simp; rw [h1]; exact e⟩, h1, h2⟩
    · rintro ⟨a, ha, h1, h2⟩
      exact ⟨a, (List.mem_filter.1 ha).1, h1, h2⟩
theorem mapOf_put {C : List CE} {now : Int} (h : KeptOk C now) (e : CE) (ht : e.t = now + 1) : ∀ x, (if x = e.k then some e.val else mapOf C x) = mapOf (without C e.k ++ [e]) x := by
  refine mapOf_ext (h.put e ht) (fun x v => ?_)
  by_cases hx : x = e.k
  · rw [if_pos hx]
    constructor
    · intro h1
      exact ⟨e, by simp, hx.symm, by simpa using h1⟩
    · rintro ⟨a, ha, h1, h2⟩
      rw [List.mem_append] at ha
      rcases ha with ha | ha
      · have := (List.mem_filter.1 ha).2
        simp at this
        exact absurd (h1.trans hx) this
      · simp only [List.mem_singleton] at ha
        subst ha
        rw [h2]
  · rw [if_neg hx, mapOf_some h]
    constructor
    · rintro ⟨a, ha, h1, h2⟩
      exact ⟨a, List.mem_append.2 (.inl (List.mem_filter.2 ⟨ha, by simp; rw [h1]; exact hx⟩)), h1, h2⟩
    · rintro ⟨a, ha, h1, h2⟩
      rw [List.mem_append] at ha
      rcases ha with ha | ha
      · exact ⟨a, (List.mem_filter.1 ha).1, h1, h2⟩
      · simp only [List.mem_singleton] at ha
        subst ha
        exact absurd h1.symm hx
theorem tail_without {e : CE} {C : List CE} {now : Int} (h : KeptOk (e :: C) now) : without (e :: C) e.k = C := by
  have h1 := (List.pairwise_cons.1 h.keys).1
  unfold without
  rw [List.filter_cons_of_neg (by simp), List.filter_eq_self]
  intro a ha
  have := h1 a ha
  simp
  exact fun e => this e.symm

/-! ### a map of it -/
theorem kept_size {es : Array MapEntry} {clock : Nat} {C : List CE} {now : Int} (h : KeptOk C now) (ho : MapOk es clock (mapOf C)) : es.size = C.length := by
  have key : ∀ i, i < es.size → ∃ j, j < C.length ∧ ∃ e x, C[j]? = some e ∧ es[i]? = some x ∧ x.key = .int .i64 e.k := fun i hi => by
    obtain ⟨k, h1, h2⟩ := ho.key i es[i] (by simp [hi])
    obtain ⟨e, he, h3, h4⟩ := (mapOf_some h).1 h2
    obtain ⟨j, hj, hej⟩ := List.mem_iff_getElem.1 he
    exact ⟨j, hj, e, es[i], by rw [List.getElem?_eq_getElem hj, hej], by simp [hi], by rw [h1, h3]⟩
  have key2 : ∀ j, j < C.length → ∃ i, i < es.size ∧ ∃ e x, C[j]? = some e ∧ es[i]? = some x ∧ x.key = .int .i64 e.k := fun j hj => by
    obtain ⟨i, x, h1, h2, h3⟩ := ho.has C[j].k C[j].val ((mapOf_some h).2 ⟨C[j], List.getElem_mem hj, rfl, rfl⟩)
    exact ⟨i, (Array.getElem?_eq_some_iff.1 h1).1, C[j], x, List.getElem?_eq_getElem hj, h1, h2⟩
  have a1 : es.size ≤ C.length := by
    refine pigeon C.length es.size (fun i => if hi : i < es.size then Classical.choose (key i hi) else 0) (fun i hi => ?_) (fun i j hi hj e => ?_)
    · simp only [hi, dif_pos]
      exact (Classical.choose_spec (key i hi)).1
    · simp only [hi, hj, dif_pos] at e
      obtain ⟨_, e1, x1, b1, b2, b3⟩ := Classical.choose_spec (key i hi)
      obtain ⟨_, e2, x2, d1, d2, d3⟩ := Classical.choose_spec (key j hj)
      rw [e, d1] at b1
      cases b1
      exact ho.once i j x1 x2 b2 d2 (.inr (b3.trans d3.symm))
  have a2 : C.length ≤ es.size := by
    refine pigeon es.size C.length (fun i => if hi : i < C.length then Classical.choose (key2 i hi) else 0) (fun i hi => ?_) (fun i j hi hj e => ?_)
    · simp only [hi, dif_pos]
      exact (Classical.choose_spec (key2 i hi)).1
    · simp only [hi, hj, dif_pos] at e
      obtain ⟨_, e1, x1, b1, b2, b3⟩ := Classical.choose_spec (key2 i hi)
      obtain ⟨_, e2, x2, d1, d2, d3⟩ := Classical.choose_spec (key2 j hj)
      rw [e, d2] at b2
      cases b2
      have hk : e1.k = e2.k := by have := b3.symm.trans d3; simpa using this
      have hp := List.pairwise_iff_getElem.1 h.keys
      have q1 : C[i] = e1 := by rw [List.getElem?_eq_getElem hi] at b1; cases b1; rfl
      have q2 : C[j] = e2 := by rw [List.getElem?_eq_getElem hj] at d1; cases d1; rfl
      rcases Nat.lt_trichotomy i j with h1 | h1 | h1
      · exact absurd (by rw [q1, q2]; exact hk) (hp i j hi hj h1)
      · exact h1
      · exact absurd (by rw [q1, q2]; exact hk.symm) (hp j i hj hi h1)
  omega

section
set_option linter.unusedSectionVars false
variable {P : Program} {w : World} {t e : TypeId} (ht : P.underlying t = some (.map 3 e)) (h3 : P.underlying 3 = some (.int .i64))
include ht h3
theorem run_delete {b : Nat} {f : Int → Option Value} (h : MapIs w b f) (ty : TypeId) (k : Int) :
    ∃ w', (Builtin.delete_ #[t, 3] ty #[.map (some b), .int .i64 k]).run P w = .ok (.tuple #[]) w' ∧ MapIs w' b (fun x => if x = k then none else f x) ∧ Chg (fun i => i = b) w w' := by
  have hbl := h.lt
  obtain ⟨es, clock, hb, ho⟩ := h
  have hck := fun b => run_checkKey (P := P) (w := w) ht h3 b k
  rcases run_findKey (P := P) (w := w) ht h3 ho k with ⟨hf, hr⟩ | ⟨v, j, hf, hj, ⟨x, hx, hxk⟩, hr⟩
  · refine ⟨{ w with heap := w.heap.setIfInBounds b (.map es clock) }, ?_, ?_, chg_setBlock _ _ _⟩
    · simp [Builtin.delete_, run_underlying ht, run_getMap hb, run_setMap hb, hck, hr, Result.andThen]
    · refine MapIs.set hbl ?_
      refine ⟨fun i x hx => ?_, fun k' v hv => ?_, ho.born, ho.once⟩
      · obtain ⟨k', h1, h2⟩ := ho.key i x hx
        refine ⟨k', h1, ?_⟩
        rw [if_neg (fun e => by rw [e, hf] at h2; cases h2)]
        exact h2
      · by_cases e : k' = k
        · rw [if_pos e] at hv; cases hv
        · rw [if_neg e] at hv; exact ho.has k' v hv
  · refine ⟨{ w with heap := w.heap.setIfInBounds b (.map (es.eraseIdxIfInBounds j) clock) }, ?_, ?_, chg_setBlock _ _ _⟩
    · simp [Builtin.delete_, run_underlying ht, run_getMap hb, run_setMap hb, hck, hr, Result.andThen]
    · refine MapIs.set hbl ?_
      have hget : ∀ i, (es.eraseIdxIfInBounds j)[i]? = if i < j then es[i]? else es[i + 1]? := fun i => by
        rw [Array.eraseIdxIfInBounds, dif_pos hj, Array.getElem?_eraseIdx]
      have idx : ∀ i, ∃ m, m ≠ j ∧ (if i < j then es[i]? else es[i + 1]?) = es[m]? ∧ m = (if i < j then i else i + 1) := fun i => by
        by_cases h1 : i < j
        · exact ⟨i, by omega, by rw [if_pos h1], by rw [if_pos h1]⟩
        · exact ⟨i + 1, by omega, by rw [if_neg h1], by rw [if_neg h1]⟩
      refine ⟨fun i y hy => ?_, fun k' v' hv => ?_, fun i y hy => ?_, fun i m a c ha hc hac => ?_⟩
      · obtain ⟨n, hn, h1, _⟩ := idx i
        rw [hget, h1] at hy
        obtain ⟨k', h4, h5⟩ := ho.key n y hy
        refine ⟨k', h4, ?_⟩
        rw [if_neg (fun e => hn (ho.once n j y x hy hx (.inr (by rw [h4, hxk, e]))))]
        exact h5
      · by_cases e : k' = k
        · rw [if_pos e] at hv; cases hv
        · rw [if_neg e] at hv
          obtain ⟨n, y, h1, h2, h4⟩ := ho.has k' v' hv
          have hne : n ≠ j := fun e2 => by
            subst e2
            rw [hx] at h1
            cases h1
            rw [hxk] at h2
            cases h2
            exact e rfl
          rcases Nat.lt_or_gt_of_ne hne with h5 | h5
          · exact ⟨n, y, by rw [hget, if_pos h5]; exact h1, h2, h4⟩
          · exact ⟨n - 1, y, by rw [hget, if_neg (by omega), show n - 1 + 1 = n by omega]; exact h1, h2, h4⟩
      · obtain ⟨n, hn, h1, _⟩ := idx i
        rw [hget, h1] at hy
        exact ho.born n y hy
      · obtain ⟨n, hn, h1, h2⟩ := idx i
        obtain ⟨q, hq, h4, h5⟩ := idx m
        rw [hget, h1] at ha
        rw [hget, h4] at hc
        have := ho.once n q a c ha hc hac
        by_cases q1 : i < j <;> by_cases q2 : m < j <;> simp [q1, q2] at h2 h5 <;> omega
theorem wpList_delete {ops : Array Oper} {rest : List Oper} {o : Oper} {a : Act} {Q : Exit → Act → World → Prop} (hg : o.guard = none) (x y : Operand) (ho : o.op = .call { callee := .builtin .delete, args := #[x, y], argTypes := #[t, 3] }) (b : Nat) (k : Int) (hx : a.eval x = .map (some b)) (hy : a.eval y = .int .i64 k) (f : Int → Option Value) (hm : MapIs w b f)
    (h : ∀ w', MapIs w' b (fun x => if x = k then none else f x) → Chg (fun i => i = b) w w' → wpList P ops Q rest (a.put o.dst (.tuple #[])) w') : wpList P ops Q (o :: rest) a w := by
  obtain ⟨w', hr, h1, h2⟩ := run_delete (P := P) ht h3 hm o.type k
  exact wpList_val hg (w' := w') (by simp [execOp, ho, hx, hy, hr, Result.andThen, resolve, invoke, builtin]) (h w' h1 h2)
end
end Go.Proofs.Yteeamlidmkpohaa
