/-
  Laws at single operations, as the walk meets them: whole arrays, maps keyed by ints.
-/
import Derived.Test.YteeamlidmkpohaaMap
import Derived.Laws.Rows
import Derived.Deep.MidRow
set_option linter.unusedVariables false
set_option linter.unusedSimpArgs false
namespace Go.Proofs.Yteeamlidmkpohaa
open Go.RowKit Go.Sort

section
set_option linter.unusedSectionVars false
variable {P : Program} {ops : Array Oper} {rest : List Oper} {o : Oper} {a : Act} {w : World} {Q : Exit → Act → World → Prop}

/-- One operation that yields a value. -/
theorem wpList_val {w' : World} {v : Value} (hg : o.guard = none) (hr : (execOp a.eval o).run P w = .ok (.value v) w') (h : wpList P ops Q rest (a.put o.dst v) w') : wpList P ops Q (o :: rest) a w :=
  wpList_plain hg fun K hK => by
    unfold Oper.wp
    rw [hr]
    exact hK _ _ h
theorem wpList_skp {w' : World} (hg : o.guard = none) (hr : (execOp a.eval o).run P w = .ok .skip w') (h : wpList P ops Q rest (a.put o.dst undef) w') : wpList P ops Q (o :: rest) a w :=
  wpList_plain hg fun K hK => by
    unfold Oper.wp
    rw [hr]
    exact hK _ _ h

/-- 'var x [n]T': a new block. -/
theorem wpList_alloc_arr (hg : o.guard = none) (t : TypeId) (ho : o.op = .alloc t) (z : Array Value) (hz : (zeroValue t).run P w = .ok (.agg z) w)
    (h : wpList P ops Q rest (a.put o.dst (.pointer (some ⟨w.heap.size, 0, none⟩))) (w.alloc (.cells z t))) : wpList P ops Q (o :: rest) a w :=
  wpList_val hg (by simp [execOp, ho, Instr.alloc, hz, newVar, newRow, newObj, Sem.run, Result.andThen, Value.cells]) h

theorem setRow_block {w : World} {g : Nat} {old cs : Array Value} {t : TypeId} {fr : Nat × Nat} (h : w.heap[g]? = some (.cells old t fr)) : (w.setRow g cs).heap[g]? = some (.cells cs t fr) := by
  simp only [World.setRow, Array.getElem?_modify, if_true, h, Option.map_some]
theorem chg_setRow (w : World) (g : Nat) (cs : Array Value) : Chg (fun k => k = g) w (w.setRow g cs) :=
  ⟨rfl, rfl, rfl, by simp [World.setRow], fun k _ hne => by simp only [World.setRow, Array.getElem?_modify]; rw [if_neg (fun e => hne e.symm)]⟩

/-- A whole array into a block of its size. -/
theorem wpList_store_arr (hg : o.guard = none) (ty : TypeId) (x y : Operand) (ho : o.op = .store ty x y) (g : Nat) (cs : Array Value) (hx : a.eval x = .pointer (some ⟨g, 0, none⟩)) (hy : a.eval y = .agg cs)
    (t : TypeId) (old : Array Value) (hb : w.heap[g]? = some (.cells old t (0, 0))) (hi : (P.info? ty).map (·.size) = some cs.size) (hs : old.size = cs.size) (h1 : cs.all (·.oneCell') = true)
    (h : ∀ w', w'.heap[g]? = some (.cells cs t (0, 0)) → Chg (fun k => k = g) w w' → wpList P ops Q rest (a.put o.dst undef) w') : wpList P ops Q (o :: rest) a w :=
  wpList_skp hg (w' := w.setRow g cs) (by simp [execOp, ho, hx, hy, Instr.storeAt, Instr.sureAddr, run_storeVar_row w g t ty old cs hb hi hs h1, Result.andThen]) (h _ (setRow_block hb) (chg_setRow _ _ _))

/-- .. into the block that was made last. -/
theorem wpList_store_new (hg : o.guard = none) (ty : TypeId) (x y : Operand) (ho : o.op = .store ty x y) (cs old : Array Value) (t : TypeId) (hx : a.eval x = .pointer (some ⟨w.heap.size, 0, none⟩)) (hy : a.eval y = .agg cs)
    (hi : (P.info? ty).map (·.size) = some cs.size) (hs : old.size = cs.size) (h1 : cs.all (·.oneCell') = true)
    (h : wpList P ops Q rest (a.put o.dst undef) (w.alloc (.cells cs t))) : wpList P ops Q (o :: rest) a (w.alloc (.cells old t)) :=
  wpList_skp hg (w' := w.alloc (.cells cs t)) (by
    have hb : (w.alloc (.cells old t)).heap[w.heap.size]? = some (.cells old t (0, 0)) := heap_alloc_new w _
    have hr := run_storeVar_row (P := P) (w.alloc (.cells old t)) w.heap.size t ty old cs hb hi hs h1
    have e : (w.alloc (.cells old t)).setRow w.heap.size cs = w.alloc (.cells cs t) := by
      simp only [World.setRow, World.alloc]
      congr 1
      apply Array.ext_getElem?
      intro i
      rw [Array.getElem?_modify]
      by_cases h : w.heap.size = i
      · subst h; simp
      · rw [if_neg h, Array.getElem?_push, Array.getElem?_push]
        rw [if_neg (fun e => h e.symm), if_neg (fun e => h e.symm)]
    rw [e] at hr
    simp [execOp, ho, hx, hy, Instr.storeAt, Instr.sureAddr, hr, Result.andThen]) h

/-! ### maps keyed by ints -/
section
set_option linter.unusedSectionVars false
variable {t e : TypeId} (ht : P.underlying t = some (.map 3 e)) (h3 : P.underlying 3 = some (.int .i64))
include ht h3

theorem wpList_lookup_ok (hg : o.guard = none) (x y : Operand) (ho : o.op = .lookup t x y true) (b : Nat) (k : Int) (hx : a.eval x = .map (some b)) (hy : a.eval y = .int .i64 k) (f : Int → Option Value) (hm : MapIs w b f)
    (z : Value) (hz : (zeroValue e).run P w = .ok z w) (h : wpList P ops Q rest (a.put o.dst (.tuple #[(f k).getD z, .bool (f k).isSome])) w) : wpList P ops Q (o :: rest) a w :=
  wpList_val hg (by simp [execOp, ho, hx, hy, (run_lookup ht h3 hm k z hz).1, Result.andThen]) h
theorem wpList_lookup_1 (hg : o.guard = none) (x y : Operand) (ho : o.op = .lookup t x y false) (b : Nat) (k : Int) (hx : a.eval x = .map (some b)) (hy : a.eval y = .int .i64 k) (f : Int → Option Value) (hm : MapIs w b f)
    (z : Value) (hz : (zeroValue e).run P w = .ok z w) (h : wpList P ops Q rest (a.put o.dst ((f k).getD z)) w) : wpList P ops Q (o :: rest) a w :=
  wpList_val hg (by simp [execOp, ho, hx, hy, (run_lookup ht h3 hm k z hz).2, Result.andThen]) h
theorem wpList_mapUpdate (hg : o.guard = none) (x y u : Operand) (ho : o.op = .mapUpdate t x y u) (b : Nat) (k : Int) (v : Value) (hx : a.eval x = .map (some b)) (hy : a.eval y = .int .i64 k) (hu : a.eval u = v) (f : Int → Option Value) (hm : MapIs w b f)
    (h : ∀ w', MapIs w' b (fun x => if x = k then some v else f x) → Chg (fun i => i = b) w w' → wpList P ops Q rest (a.put o.dst undef) w') : wpList P ops Q (o :: rest) a w := by
  obtain ⟨es, clock, hr, hok⟩ := run_mapUpdate (P := P) ht h3 hm k v
  exact wpList_skp hg (w' := { w with heap := w.heap.setIfInBounds b (.map es clock) }) (by simp [execOp, ho, hx, hy, hu, hr, Result.andThen]) (h _ (MapIs.set hm.lt hok) (chg_setBlock _ _ _))
theorem wpList_clear (hg : o.guard = none) (x : Operand) (ho : o.op = .call { callee := .builtin .clear, args := #[x], argTypes := #[t] }) (b : Nat) (hx : a.eval x = .map (some b)) (f : Int → Option Value) (hm : MapIs w b f)
    (h : ∀ w', MapIs w' b (fun _ => none) → Chg (fun i => i = b) w w' → wpList P ops Q rest (a.put o.dst (.tuple #[])) w') : wpList P ops Q (o :: rest) a w := by
  obtain ⟨es, clock, hb, hok⟩ := hm
  have hr : (Builtin.clear_ #[t] o.type #[.map (some b)]).run P w = .ok (.tuple #[]) { w with heap := w.heap.setIfInBounds b (.map #[] clock) } := by
    simp [Builtin.clear_, run_underlying ht, run_getMap hb, run_setMap hb, Result.andThen]
  refine wpList_val hg (w' := { w with heap := w.heap.setIfInBounds b (.map #[] clock) }) ?_ (h _ (MapIs.set (Array.getElem?_eq_some_iff.1 hb).1 (MapOk.empty clock)) (chg_setBlock _ _ _))
  simp [execOp, ho, hx, hr, Result.andThen, resolve, invoke, builtin]
theorem wpList_range_map (hg : o.guard = none) (x : Operand) (ho : o.op = .range t x) (m : Nat) (hx : a.eval x = .map (some m)) (f : Int → Option Value) (hm : MapIs w m f)
    (h : ∀ ob, IterIs (w.alloc ob) w.heap.size m f (fun _ => false) → wpList P ops Q rest (a.put o.dst (.pointer (some ⟨w.heap.size, 0, none⟩))) (w.alloc ob)) : wpList P ops Q (o :: rest) a w := by
  obtain ⟨ob, hr, hi⟩ := run_range (P := P) ht hm
  exact wpList_val hg (by simp [execOp, ho, hx, hr, Result.andThen]) (h ob hi)
end

theorem wpList_next_map (hg : o.guard = none) (x : Operand) (ho : o.op = .next x false) (it m : Nat) (hx : a.eval x = .pointer (some ⟨it, 0, none⟩)) (f : Int → Option Value) (T : Int → Bool) (hi : IterIs w it m f T)
    (hend : (∀ k v, f k = some v → T k = true) → ∀ w', Chg (fun _ => False) w w' → wpList P ops Q rest (a.put o.dst (.tuple #[.bool false])) w')
    (hon : ∀ k v w', f k = some v → T k = false → Chg (fun i => i = it) w w' → IterIs w' it m f (fun x => T x || x == k) → leftOf w' it m < leftOf w it m →
      (Instr.entry (.pointer (some ⟨it, 0, none⟩))).run P w' = .ok (.tuple #[.int .i64 k, v]) w' → wpList P ops Q rest (a.put o.dst (.tuple #[.bool true, .int .i64 k, v])) w') : wpList P ops Q (o :: rest) a w := by
  rcases run_next (P := P) hi o.type with ⟨hd, w', hr, hc⟩ | ⟨k, v, w', h1, h2, hr, h4, h5, h6, h7⟩
  · exact wpList_val hg (by simp [execOp, ho, hx, hr, Result.andThen]) (hend hd w' hc)
  · exact wpList_val hg (by simp [execOp, ho, hx, hr, Result.andThen]) (hon k v w' h1 h2 h4 h5 h6 h7)
theorem wpList_entry_map (hg : o.guard = none) (x : Operand) (ho : o.op = .entry x) (it : Nat) (hx : a.eval x = .pointer (some ⟨it, 0, none⟩)) (k : Int) (v : Value)
    (hr : (Instr.entry (.pointer (some ⟨it, 0, none⟩))).run P w = .ok (.tuple #[.int .i64 k, v]) w) (h : wpList P ops Q rest (a.put o.dst (.tuple #[.int .i64 k, v])) w) : wpList P ops Q (o :: rest) a w :=
  wpList_val hg (by simp [execOp, ho, hx, hr, Result.andThen]) h
end
end Go.Proofs.Yteeamlidmkpohaa
