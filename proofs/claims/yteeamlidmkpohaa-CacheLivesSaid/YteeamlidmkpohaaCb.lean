/-
  The cache in memory, and its smaller functions.
-/
import Derived.Test.YteeamlidmkpohaaCa
import Derived.Laws.LoneSync
import Derived.Deep.RegionHeld3
set_option linter.unusedVariables false
set_option linter.unusedSimpArgs false
namespace Go.Proofs.Yteeamlidmkpohaa
open Go.RowKit Go.Sort

/-- a cache's numbers, and what it keeps -/
structure Ck where
  most : Int
  now : Int
  hits : Int
  misses : Int
  C : List CE
/-- block c is a cache over the disk at p; its map is block mk; its bytes lie in blocks of Y -/
structure CacheAt (w0 w : World) (c mk p : Nat) (K : Ck) (Y : Nat → Prop) : Prop where
  blk : w.heap[c]? = some (.cells #[.pointer (some ⟨p, 0, none⟩), .int .i64 K.most, .int .i64 K.now, .map (some mk), .int .i64 K.hits, .int .i64 K.misses] 126 (0, 0))
  mp : MapIs w mk (mapOf K.C)
  ok : KeptOk K.C K.now
  len : (K.C.length : Int) ≤ K.most
  m1 : 1 ≤ K.most
  m2 : K.most ≤ 9223372036854775807
  n0 : 0 ≤ K.now
  h0 : 0 ≤ K.hits
  s0 : 0 ≤ K.misses
  rows : ∀ e ∈ K.C, BytesIs w e.v e.l ∧ IsSec e.l ∧ ∀ b, e.v.ownBlock = some b → Y b
  gc : w0.heap.size ≤ c
  gm : w0.heap.size ≤ mk
  y : ∀ b, Y b → w0.heap.size ≤ b ∧ b < w.heap.size ∧ b ≠ c ∧ b ≠ mk
def CF (c mk : Nat) : Nat → Prop := fun b => b = c ∨ b = mk

section
variable {w0 w w' : World} {c mk p : Nat} {K : Ck} {Y : Nat → Prop}
theorem CacheAt.lt (h : CacheAt w0 w c mk p K Y) : c < w.heap.size := (Array.getElem?_eq_some_iff.1 h.blk).1
theorem CacheAt.ne (h : CacheAt w0 w c mk p K Y) : c ≠ mk := fun e => by
  obtain ⟨es, clock, hb, _⟩ := h.mp
  rw [← e, h.blk] at hb
  cases hb
theorem CacheAt.cf (h : CacheAt w0 w c mk p K Y) : ∀ b, CF c mk b → w0.heap.size ≤ b ∧ b < w.heap.size := fun b e => by
  rcases e with rfl | rfl
  · exact ⟨h.gc, h.lt⟩
  · exact ⟨h.gm, h.mp.lt⟩
theorem CacheAt.cells (h : CacheAt w0 w c mk p K Y) : w.cell? ⟨c, 0, none⟩ = some (.pointer (some ⟨p, 0, none⟩)) ∧ w.cell? ⟨c, 1, none⟩ = some (.int .i64 K.most) ∧ w.cell? ⟨c, 2, none⟩ = some (.int .i64 K.now) ∧ w.cell? ⟨c, 3, none⟩ = some (.map (some mk)) ∧ w.cell? ⟨c, 4, none⟩ = some (.int .i64 K.hits) ∧ w.cell? ⟨c, 5, none⟩ = some (.int .i64 K.misses) := by
  refine ⟨?_, ?_, ?_, ?_, ?_, ?_⟩ <;> simp [World.cell?, h.blk]
theorem CacheAt.free (h : CacheAt w0 w c mk p K Y) (i : Nat) : w.frozen? ⟨c, i, none⟩ = false := by
  simp [World.frozen?, h.blk]
/-- a step elsewhere -/
theorem CacheAt.chg {F : Nat → Prop} (h : CacheAt w0 w c mk p K Y) (hc : Chg F w w') (hM : ∀ b, CF c mk b → ¬ F b) (hY : ∀ b, Y b → ¬ F b) : CacheAt w0 w' c mk p K Y :=
  ⟨(hc.block c h.lt (hM c (.inl rfl))).trans h.blk, h.mp.chg hc (hM mk (.inr rfl)), h.ok, h.len, h.m1, h.m2, h.n0, h.h0, h.s0, fun e he => ⟨(h.rows e he).1.chg hc (fun b e2 => hY b ((h.rows e he).2.2 b e2)), (h.rows e he).2⟩, h.gc, h.gm, fun b e => ⟨(h.y b e).1, Nat.lt_of_lt_of_le (h.y b e).2.1 hc.size, (h.y b e).2.2⟩⟩
theorem CacheAt.below (h : CacheAt w0 w c mk p K Y) (hb : Below w.heap.size w w') : CacheAt w0 w' c mk p K Y := h.chg (Chg.of_below (F := fun _ => False) hb) (fun _ _ => id) (fun _ _ => id)
/-- its own block is written -/
theorem CacheAt.self (h : CacheAt w0 w c mk p K Y) (i : Nat) (v : Value) (now hits misses : Int) (hn : K.now ≤ now) (hh : 0 ≤ hits) (hs : 0 ≤ misses)
    (hb : (#[.pointer (some ⟨p, 0, none⟩), .int .i64 K.most, .int .i64 K.now, .map (some mk), .int .i64 K.hits, .int .i64 K.misses] : Array Value).setIfInBounds i v = #[.pointer (some ⟨p, 0, none⟩), .int .i64 K.most, .int .i64 now, .map (some mk), .int .i64 hits, .int .i64 misses]) :
    CacheAt w0 (w.setCell ⟨c, i, none⟩ v) c mk p { K with now := now, hits := hits, misses := misses } Y := by
  have hc := chg_setCell w c i v
  have hcm := h.ne
  refine ⟨?_, h.mp.chg hc (fun e => hcm e.symm), ⟨h.ok.keys, h.ok.times, fun e he => Int.le_trans (h.ok.le e he) hn⟩, h.len, h.m1, h.m2, Int.le_trans h.n0 hn, hh, hs, fun e he => ⟨(h.rows e he).1.chg hc (fun b e2 e3 => (h.y b ((h.rows e he).2.2 b e2)).2.2.1 e3), (h.rows e he).2⟩, h.gc, h.gm, fun b e => ⟨(h.y b e).1, by simpa using (h.y b e).2.1, (h.y b e).2.2⟩⟩
  rw [heap_setCell w c i v _ _ _ h.blk, hb]
end

set_option maxRecDepth 100000
theorem add_any (w : World) (c o : Nat) (x : Int) (hc : w.cell? ⟨c, o, none⟩ = some (.int .i64 x)) (hf : w.frozen? ⟨c, o, none⟩ = false) (h0 : 0 ≤ x) (h1 : x < 9223372036854775807) :
    Calls Try.prog 160 #[.pointer (some ⟨c, o, none⟩), .int .i64 1] w fun e w' => e = .returned (.int .i64 (x + 1)) ∧ w' = w.setCell ⟨c, o, none⟩ (.int .i64 (x + 1)) := by
  have hadd : (callFunc 201 #[.pointer (some ⟨c, o, none⟩), .int .i64 1]).run Try.prog w = .ok (.value (.int .i64 (x + 1))) (w.setCell ⟨c, o, none⟩ (.int .i64 (x + 1))) :=
    run_call_add (P := Try.prog) (f := 201) Try.func201 (by kernel_rfl) (by kernel_rfl) (by kernel_rfl) .i64 (by kernel_rfl) hc hf (by
      have e : IntKind.i64.wrap (x + 1) = x + 1 := by rw [IntKind.wrap_i64]; omega
      simp [Op.intArith, e])
  go_enter Try.func160, Try.ntmps160
  go_wp2
  go_ret
  exact ⟨rfl, rfl⟩
theorem load_any (w : World) (c o : Nat) (x : Int) (hc : w.cell? ⟨c, o, none⟩ = some (.int .i64 x)) :
    Calls Try.prog 163 #[.pointer (some ⟨c, o, none⟩)] w fun e w' => e = .returned (.int .i64 x) ∧ w' = w := by
  have hld : (callFunc 202 #[.pointer (some ⟨c, o, none⟩)]).run Try.prog w = .ok (.value (.int .i64 x)) w :=
    run_call_load (P := Try.prog) (f := 202) Try.func202 (by kernel_rfl) (by kernel_rfl) (by kernel_rfl) .i64 (by kernel_rfl) hc
  go_enter Try.func163, Try.ntmps163
  go_wp2
  go_ret
  exact ⟨rfl, rfl⟩
end Go.Proofs.Yteeamlidmkpohaa
