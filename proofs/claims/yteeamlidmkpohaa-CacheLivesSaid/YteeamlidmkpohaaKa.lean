/-
  Rows of one-cell elements: appending where there is room; marks; LentBytes, KeptBytes, OverBytes.
-/
import Derived.Test.YteeamlidmkpohaaDh
import Derived.Deep.AppendSrc
set_option linter.unusedVariables false
set_option linter.unusedSimpArgs false
namespace Go.Proofs.Yteeamlidmkpohaa
open Go.RowKit Go.Sort

/-- a block of one-cell elements, known whole -/
def RowC (w : World) (g : Nat) (e : TypeId) (cs : List Value) : Prop := w.heap[g]? = some (.cells cs.toArray e (0, 0))
/-- a slice as it is read, cell by cell -/
def ValsIs (w : World) (v : Value) (vs : List Value) : Prop := ∃ A c, v = .slice A vs.length c ∧ vs.length ≤ c ∧ c ≤ maxLen ∧ CellsAt w A vs

section
variable {w w' : World} {g : Nat} {e : TypeId} {cs vs : List Value} {v : Value}
theorem RowC.lt (h : RowC w g e cs) : g < w.heap.size := (Array.getElem?_eq_some_iff.1 h).1
theorem RowC.chg {F : Nat → Prop} (h : RowC w g e cs) (hc : Chg F w w') (hF : ¬ F g) : RowC w' g e cs := (hc.block g h.lt hF).trans h
theorem RowC.below (h : RowC w g e cs) (hc : Below w.heap.size w w') : RowC w' g e cs := (hc.block g h.lt).trans h
theorem RowC.set (h : RowC w g e cs) (k : Nat) (x : Value) : RowC (w.setCell ⟨g, k, none⟩ x) g e (cs.set k x) := by
  unfold RowC
  rw [heap_setCell w g k _ _ _ _ h]
  congr 2
  apply Array.ext'
  simp
theorem RowC.cell (h : RowC w g e cs) (i : Nat) (u : Value) (hu : cs[i]? = some u) : w.cell? ⟨g, i, none⟩ = some u := by
  simp [World.cell?, show w.heap[g]? = _ from h, hu]
theorem RowC.free (h : RowC w g e cs) (i : Nat) : w.frozen? ⟨g, i, none⟩ = false := by
  simp [World.frozen?, show w.heap[g]? = _ from h]
theorem RowC.vals (h : RowC w g e cs) {n c : Nat} (hn : n ≤ cs.length) (hc : n ≤ c) (hm : c ≤ maxLen) : ValsIs w (.slice (some ⟨g, 0, none⟩) n c) (cs.take n) := by
  have hl : (cs.take n).length = n := by simp; omega
  refine ⟨some ⟨g, 0, none⟩, c, by rw [hl], by rw [hl]; exact hc, hm, fun j u hu => ⟨_, rfl, ?_⟩⟩
  have hj : j < n := by
    rcases Nat.lt_or_ge j n with h1 | h1
    · exact h1
    · rw [List.getElem?_eq_none (by rw [hl]; exact h1)] at hu; cases hu
  rw [List.getElem?_take_of_lt hj] at hu
  exact cells_at h j u hu
theorem ValsIs.chg {F : Nat → Prop} (h : ValsIs w v vs) (hc : Chg F w w') (hF : ∀ k, v.ownBlock = some k → ¬ F k) : ValsIs w' v vs := by
  obtain ⟨A, c, rfl, h1, hm, h2⟩ := h
  exact ⟨A, c, rfl, h1, hm, h2.chg hc (fun a e => hF _ (by subst e; rfl))⟩
theorem ValsIs.below (h : ValsIs w v vs) (hc : Below w.heap.size w w') : ValsIs w' v vs := h.chg (Chg.of_below (F := fun _ => False) hc) (fun _ _ => id)
theorem ValsIs.at_ {A : Option Addr} (h : CellsAt w A vs) {i : Nat} {u : Value} (hu : vs[i]? = some u) : ∃ ad, A = some ad ∧ w.cell? (ad.add i) = some u := h i u hu
theorem ValsIs.made {z : Value} (h : w.heap[g]? = some (.cells #[z] e (0, 0))) : ValsIs w (.slice (some ⟨g, 0, none⟩) 1 1) [z] :=
  ⟨some ⟨g, 0, none⟩, 1, rfl, Nat.le_refl _, by simp [maxLen], fun j u hu => ⟨_, rfl, cells_at h j u (by simpa using hu)⟩⟩
theorem BytesIs.vals {l : List Int} (h : BytesIs w v l) : ValsIs w v (bytesV l) := by
  obtain ⟨A, c, rfl, h1, hm, h2⟩ := h
  exact ⟨A, c, by rw [bytesV_len], by rw [bytesV_len]; exact h1, hm, h2⟩
theorem ValsIs.bytes {l : List Int} (h : ValsIs w v (bytesV l)) : BytesIs w v l := by
  obtain ⟨A, c, rfl, h1, hm, h2⟩ := h
  rw [bytesV_len] at h1
  exact ⟨A, c, by rw [bytesV_len], h1, hm, h2⟩
theorem intsV_len (l : List Int) : (intsV l).length = l.length := by simp [intsV]
theorem intsV_one (l : List Int) : ∀ u ∈ intsV l, u.oneCell' = true := by
  intro u hu
  simp [intsV] at hu
  obtain ⟨y, _, rfl⟩ := hu
  rfl
theorem IntsIs.vals {l : List Int} (h : IntsIs w v l) : ValsIs w v (intsV l) := by
  obtain ⟨A, c, rfl, h1, hm, h2⟩ := h
  exact ⟨A, c, by rw [intsV_len], by rw [intsV_len]; exact h1, hm, h2⟩
theorem ValsIs.ints {l : List Int} (h : ValsIs w v (intsV l)) : IntsIs w v l := by
  obtain ⟨A, c, rfl, h1, hm, h2⟩ := h
  rw [intsV_len] at h1
  exact ⟨A, c, by rw [intsV_len], h1, hm, h2⟩

/-- a row of cells stored into a block that is known whole -/
theorem RowC.sets : ∀ (vs cs : List Value) (o : Nat) (w : World), RowC w g e cs → o + vs.length ≤ cs.length → RowC (w.setCells g o vs) g e (cs.take o ++ vs ++ cs.drop (o + vs.length))
  | [], cs, o, w, h, _ => by
    show RowC w g e _
    simpa using h
  | v :: vs, cs, o, w, h, hl => by
    simp only [List.length_cons] at hl
    have h1 := RowC.sets vs (cs.set o v) (o + 1) (w.setCell ⟨g, o, none⟩ v) (h.set o v) (by rw [List.length_set]; omega)
    have e1 : (cs.set o v).take (o + 1) = cs.take o ++ [v] := by
      apply List.ext_getElem?
      intro j
      rcases Nat.lt_trichotomy j o with hj | hj | hj
      · rw [List.getElem?_take_of_lt (by omega), List.getElem?_set_ne (by omega), List.getElem?_append_left (by simp; omega), List.getElem?_take_of_lt hj]
      · subst hj
        rw [List.getElem?_take_of_lt (by omega), List.getElem?_set_self (by omega), List.getElem?_append_right (by simp; omega)]
        simp [Nat.min_eq_left (show j ≤ cs.length by omega)]
      · rw [List.getElem?_eq_none (by simp; omega), List.getElem?_eq_none (by simp; omega)]
    have e2 : (cs.set o v).drop (o + 1 + vs.length) = cs.drop (o + (vs.length + 1)) := by
      rw [List.drop_set_of_lt (by omega)]
      congr 1
      omega
    rw [e1, e2] at h1
    show RowC ((w.setCell ⟨g, o, none⟩ v).setCells g (o + 1) vs) g e _
    simpa using h1
end

section
variable {P : Program} {ops : Array Oper} {rest : List Oper} {o : Oper} {a : Act} {w : World} {Q : Exit → Act → World → Prop}
/-- append where there is room, into a block that is known whole -/
theorem wpList_app_room (hg : o.guard = none) (s x : Operand) (t e : TypeId) (i : TypeInfo) (ho : o.op = .call { callee := .builtin .append, args := #[s, x], argTypes := #[t, t] })
    (ht : P.underlying t = some (.slice e)) (hi : P.info? e = some i) (hsize : i.size = 1) (g n cap : Nat) (cs : List Value) (hs : a.eval s = .slice (some ⟨g, 0, none⟩) n cap) (hb : RowC w g e cs) (hcap : cs.length = cap)
    (v : Value) (vs : List Value) (hx : a.eval x = v) (hv : ValsIs w v vs) (h1 : ∀ u ∈ vs, u.oneCell' = true) (hroom : n + vs.length ≤ cap)
    (h : ∀ w', RowC w' g e (cs.take n ++ vs ++ cs.drop (n + vs.length)) → Chg (fun k => k = g) w w' → wpList P ops Q rest (a.put o.dst (.slice (some ⟨g, 0, none⟩) (n + vs.length) cap)) w') : wpList P ops Q (o :: rest) a w := by
  obtain ⟨A, c, rfl, hc1, hm, hA⟩ := hv
  have hsrc : Src P i.size t (.slice A vs.length c) vs.length vs w := by
    rw [hsize]
    cases A with
    | some ad => exact Src.ofSlice w ht ad vs.length c vs (by simp) (fun j u hu => by obtain ⟨ad', e, h2⟩ := hA j u hu; cases e; exact h2) h1
    | none =>
      cases vs with
      | nil => exact Src.ofNil w ht c
      | cons u r => obtain ⟨ad, e, _⟩ := hA 0 u rfl; cases e
  have hr := run_append_room_src w t t o.type e i ht hi g 0 n cap (.slice A vs.length c) vs.length vs hsrc hroom (fun j hj => by
    rw [hb.cell (0 + n * i.size + j) (cs[0 + n * i.size + j]'(by rw [hsize]; omega)) (List.getElem?_eq_getElem _)]; rfl) (fun j _ => hb.free _)
  rw [hsize] at hr
  simp only [Nat.zero_add, Nat.mul_one] at hr
  exact wpList_val hg (w' := w.setCells g n vs) (by simp [execOp, ho, hs, hx, hr, Result.andThen, resolve, invoke, builtin]) (h _ (RowC.sets vs cs n w hb (by omega)) (chg_setCells w g n vs))
/-- make, of one-cell elements (zc: the cell of a zero) -/
theorem wpList_mk1 (hg : o.guard = none) (x y : Operand) (t e : TypeId) (i : TypeInfo) (z zc : Value) (ho : o.op = Op.makeSlice t x y) (ht : P.underlying t = some (.slice e)) (hi : P.info? e = some i) (hz : i.zero = some z) (hsize : i.size = 1) (hz1 : z.cells = #[zc])
    (kl kc : IntKind) (L C : Int) (hx : a.eval x = .int kl L) (hy : a.eval y = .int kc C) (m n : Nat) (hm : L = m) (hn : C = n) (hmn : m ≤ n) (hb : i.bytes * n ≤ 281474976710656) (h63 : n ≤ maxLen)
    (h : ∀ w', RowC w' w.heap.size e (List.replicate n zc) → Below w.heap.size w w' → w'.heap.size = w.heap.size + 1 → wpList P ops Q rest (a.put o.dst (.slice (some ⟨w.heap.size, 0, none⟩) m n)) w') : wpList P ops Q (o :: rest) a w := by
  have hb' : (i.bytes : Int) * (n : Int) ≤ 281474976710656 := by
    have h : ((i.bytes * n : Nat) : Int) ≤ 281474976710656 := by omega
    rwa [Int.natCast_mul] at h
  have hr := run_make (P := P) w t e i z ht hi hz kl kc L C (by omega) (by omega) (by rw [hn]; exact hb') (by simp only [maxLen] at h63; omega)
  rw [hsize, Nat.mul_one, hz1, hm, hn] at hr
  simp only [Int.toNat_natCast] at hr
  rw [← hm, ← hn] at hr
  refine wpList_val hg (w' := w.alloc (.cells (madeCells #[zc] n) e)) (by simp only [execOp, ho, hx, hy]; simp [hr, Result.andThen]) (h _ ?_ (below_alloc' (Below.refl _ _) _) (by simp))
  unfold RowC
  rw [heap_alloc_new]
  congr 2
  apply Array.ext'
  rw [toList_madeCells_one]
theorem wpList_mk (hg : o.guard = none) (x y : Operand) (t e : TypeId) (i : TypeInfo) (z : Value) (ho : o.op = Op.makeSlice t x y) (ht : P.underlying t = some (.slice e)) (hi : P.info? e = some i) (hz : i.zero = some z) (hsize : i.size = 1) (hz1 : z.cells = #[z])
    (kl kc : IntKind) (L C : Int) (hx : a.eval x = .int kl L) (hy : a.eval y = .int kc C) (m n : Nat) (hm : L = m) (hn : C = n) (hmn : m ≤ n) (hb : i.bytes * n ≤ 281474976710656) (h63 : n ≤ maxLen)
    (h : ∀ w', RowC w' w.heap.size e (List.replicate n z) → Below w.heap.size w w' → w'.heap.size = w.heap.size + 1 → wpList P ops Q rest (a.put o.dst (.slice (some ⟨w.heap.size, 0, none⟩) m n)) w') : wpList P ops Q (o :: rest) a w :=
  wpList_mk1 hg x y t e i z z ho ht hi hz hsize hz1 kl kc L C hx hy m n hm hn hmn hb h63 h
end

/-! ### marks -/
def markI (k i : Int) : Int := 1000003 * (k + 7) + i
def markB (k i : Int) : Int := IntKind.u64.wrap ((1000003 * (k + 7) + i) * 11400714819323198485) / 72057594037927936 % 256
theorem mark_any (w : World) (k i : Int) (hk0 : 0 ≤ k) (hk : k ≤ 1000) (hi0 : 0 ≤ i) (hi : i ≤ 140737488355328) :
    Calls Try.prog 154 #[.int .i64 k, .int .i64 i] w fun e w' => e = .returned (.int .i64 (markI k i)) ∧ w = w' := by
  go_enter Try.func154, Try.ntmps154
  go_wp2
  go_ret
  exact ⟨rfl, rfl⟩
theorem markByte_any (w : World) (k i : Int) (hk0 : 0 ≤ k) (hk : k ≤ 1000) (hi0 : 0 ≤ i) (hi : i ≤ 140737488355328) :
    Calls Try.prog 144 #[.int .i64 k, .int .i64 i] w fun e w' => e = .returned (.int .u8 (markB k i)) ∧ w = w' := by
  go_enter Try.func144, Try.ntmps144
  go_wp2_with
    (first
      | (go_at_call 154; refine (mark_any _ _ _ hk0 hk hi0 hi).mono ?_; rintro e w1 ⟨rfl, rfl⟩; unfold markI))
  go_ret
  exact ⟨rfl, rfl⟩
end Go.Proofs.Yteeamlidmkpohaa
