/-
  The cache: keep.
-/
import Derived.Test.YteeamlidmkpohaaCc
set_option linter.unusedVariables false
set_option linter.unusedSimpArgs false
namespace Go.Proofs.Yteeamlidmkpohaa
open Go.RowKit Go.Sort

theorem cellBlk {w : World} {b : Nat} {cs : Array Value} {t : TypeId} {fr : Nat × Nat} (h : w.heap[b]? = some (.cells cs t fr)) (i : Nat) (u : Value) (hu : cs[i]? = some u) : w.cell? ⟨b, i, none⟩ = some u := by
  simp [World.cell?, h, hu]
theorem sliceBlock {A : Option Addr} {n c m d : Nat} {b : Nat} (h : (Value.slice A n c).ownBlock = some b) : (Value.slice A m d).ownBlock = some b := by
  cases A with
  | none => cases h
  | some a => exact h
theorem step_len {P : Program} {w : World} {ops : Array Oper} {o : Oper} {a : Act} {K : Act → World → Prop} {Q : Exit → Act → World → Prop} {E : Prop} (hgd : o.guard = none) (x : Operand) (t : TypeId)
    (ho : o.op = .call { callee := .builtin .len, args := #[x], argTypes := #[t] }) (b : Nat) (n : Nat) (hx : a.eval x = .map (some b)) (k e : TypeId) (ht : P.underlying t = some (.map k e)) (es : Array MapEntry) (clock : Nat) (hb : w.heap[b]? = some (.map es clock)) (hn : es.size = n)
    (h : K (a.put o.dst (.int .i64 n)) w) : if Region.wanted o (yielded ops a.tmps) = true then Oper.wp P o a w K Q else E := by
  have hw : Region.wanted o (yielded ops a.tmps) = true := by simp [Region.wanted, hgd]
  rw [if_pos hw]
  have hr : (Builtin.len_ #[t] o.type #[.map (some b)]).run P w = .ok (.int .i64 n) w := by
    simp [Builtin.len_, run_underlying ht, run_getMap hb, hn, Result.andThen, goInt]
  unfold Oper.wp
  simp [execOp, ho, hx, hr, Result.andThen, resolve, invoke, builtin]
  exact h

theorem len_map {P : Program} {t k e ty : TypeId} (ht : P.underlying t = some (.map k e)) (b : Nat) (es : Array MapEntry) (clock n : Nat) (hn : es.size = n) :
    ∀ W : World, W.heap[b]? = some (.map es clock) → (Builtin.len_ #[t] ty #[.map (some b)]).run P W = .ok (.int .i64 n) W := fun W hb => by
  simp [Builtin.len_, run_underlying ht, run_getMap hb, hn, Result.andThen, goInt]
/-- what is kept behind a touch -/
def keepL (C : List CE) (e : CE) (most : Int) : List CE :=
  if ((without C e.k ++ [e]).length : Int) ≤ most then without C e.k ++ [e] else (without C e.k ++ [e]).tail

/-- a cache whose map may be one too long -/
structure CacheRaw (w0 w : World) (c mk p : Nat) (K : Ck) (C : List CE) (Y : Nat → Prop) : Prop where
  blk : w.heap[c]? = some (.cells #[.pointer (some ⟨p, 0, none⟩), .int .i64 K.most, .int .i64 K.now, .map (some mk), .int .i64 K.hits, .int .i64 K.misses] 126 (0, 0))
  mp : MapIs w mk (mapOf C)
  ok : KeptOk C K.now
  m1 : 1 ≤ K.most
  m2 : K.most ≤ 9223372036854775807
  n0 : 0 ≤ K.now
  h0 : 0 ≤ K.hits
  s0 : 0 ≤ K.misses
  rows : ∀ e ∈ C, BytesIs w e.v e.l ∧ IsSec e.l ∧ ∀ b, e.v.ownBlock = some b → Y b
  gc : w0.heap.size ≤ c
  gm : w0.heap.size ≤ mk
  y : ∀ b, Y b → w0.heap.size ≤ b ∧ b < w.heap.size ∧ b ≠ c ∧ b ≠ mk
theorem CacheRaw.done {w0 w : World} {c mk p : Nat} {K : Ck} {C : List CE} {Y : Nat → Prop} (h : CacheRaw w0 w c mk p K C Y) (hl : (C.length : Int) ≤ K.most) : CacheAt w0 w c mk p { K with C := C } Y :=
  ⟨h.blk, h.mp, h.ok, hl, h.m1, h.m2, h.n0, h.h0, h.s0, h.rows, h.gc, h.gm, h.y⟩
theorem CacheRaw.chg {F : Nat → Prop} {w0 w w' : World} {c mk p : Nat} {K : Ck} {C : List CE} {Y : Nat → Prop} (h : CacheRaw w0 w c mk p K C Y) (hc : Chg F w w') (h1 : ¬ F c) (h2 : ¬ F mk) (hY : ∀ b, Y b → ¬ F b) : CacheRaw w0 w' c mk p K C Y :=
  ⟨(hc.block c (Array.getElem?_eq_some_iff.1 h.blk).1 h1).trans h.blk, h.mp.chg hc h2, h.ok, h.m1, h.m2, h.n0, h.h0, h.s0, fun e he => ⟨(h.rows e he).1.chg hc (fun b e2 => hY b ((h.rows e he).2.2 b e2)), (h.rows e he).2⟩, h.gc, h.gm, fun b e => ⟨(h.y b e).1, Nat.lt_of_lt_of_le (h.y b e).2.1 hc.size, (h.y b e).2.2⟩⟩
/-- the map is written: a sector is put in -/
theorem CacheAt.putIn {w0 w w5 w7 : World} {c mk p : Nat} {K : Ck} {Y : Nat → Prop} (h : CacheAt w0 w c mk p { K with now := K.now + 1 } Y) (hok : KeptOk K.C K.now) (hn0 : 0 ≤ K.now) (hb5 : Below w.heap.size w w5) (e : CE) (ht : e.t = K.now + 1) (hv : BytesIs w5 e.v e.l) (hs : IsSec e.l) (hf : ∀ b, e.v.ownBlock = some b → w.heap.size ≤ b ∧ b < w5.heap.size)
    (hm : MapIs w7 mk (fun x => if x = e.k then some e.val else mapOf K.C x)) (hc : Chg (fun i => i = mk) w5 w7) :
    CacheRaw w0 w7 c mk p { K with now := K.now + 1 } (without K.C e.k ++ [e]) (fun b => Y b ∨ e.v.ownBlock = some b) := by
  have hcm := h.ne
  have hs5 := hb5.size
  have hs7 := hc.size
  have hml := h.mp.lt
  have hcl := h.lt
  have hsz := h.gc
  have hblk := (h.below hb5).blk
  refine ⟨(hc.block c (by omega) hcm).trans hblk, hm.congr (mapOf_put hok e ht), hok.put e ht, h.m1, h.m2, by show 0 ≤ K.now + 1; omega, h.h0, h.s0, fun x hx => ?_, h.gc, h.gm, fun b hb => ?_⟩
  · rw [List.mem_append] at hx
    rcases hx with hx | hx
    · have hr := h.rows x (List.mem_filter.1 hx).1
      refine ⟨(hr.1.below hb5).chg hc (fun b e2 e3 => (h.y b (hr.2.2 b e2)).2.2.2 e3), hr.2.1, fun b e2 => .inl (hr.2.2 b e2)⟩
    · simp only [List.mem_singleton] at hx
      subst hx
      exact ⟨hv.chg hc (fun b e2 e3 => by have := hf b e2; omega), hs, fun b e2 => .inr e2⟩
  · rcases hb with hb | hb
    · obtain ⟨y1, y2, y3, y4⟩ := h.y b hb
      exact ⟨y1, by omega, y3, y4⟩
    · have := hf b hb
      exact ⟨by omega, by omega, by omega, by omega⟩
/-- the eldest goes -/
theorem CacheRaw.cut {w0 w w' : World} {c mk p : Nat} {K : Ck} {e : CE} {C : List CE} {Y : Nat → Prop} (h : CacheRaw w0 w c mk p K (e :: C) Y) (hm : MapIs w' mk (fun x => if x = e.k then none else mapOf (e :: C) x)) (hc : Chg (fun i => i = mk) w w') : CacheRaw w0 w' c mk p K C Y := by
  have hok : KeptOk C K.now := by have := h.ok.tail; simpa using this
  have hcm : c ≠ mk := fun e2 => by
    obtain ⟨es, clock, hb, _⟩ := h.mp
    rw [← e2, h.blk] at hb
    cases hb
  refine ⟨(hc.block c (Array.getElem?_eq_some_iff.1 h.blk).1 hcm).trans h.blk, ?_, hok, h.m1, h.m2, h.n0, h.h0, h.s0, fun x hx => ?_, h.gc, h.gm, fun b e => ⟨(h.y b e).1, Nat.lt_of_lt_of_le (h.y b e).2.1 hc.size, (h.y b e).2.2⟩⟩
  · have := hm.congr (mapOf_without h.ok e.k)
    rwa [tail_without h.ok] at this
  · have hr := h.rows x (List.mem_cons_of_mem _ hx)
    exact ⟨hr.1.chg hc (fun b e2 e3 => (h.y b (hr.2.2 b e2)).2.2.2 e3), hr.2⟩
end Go.Proofs.Yteeamlidmkpohaa
