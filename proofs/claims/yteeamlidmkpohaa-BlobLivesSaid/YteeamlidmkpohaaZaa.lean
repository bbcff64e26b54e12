/-
  Words on worlds, maps with int keys and drawn regions, for any program. Own text.
-/
import Derived.WalkKit
import Derived.KernelRfl
import Derived.WalkLawsBesides
import Derived.Deep.QuietTactic
import Derived.BigQuiet
import Derived.Lib.QuietBelow
import Derived.Lib.Hide
import Derived.RangeFuncNested
import Derived.RangeFuncCalls
import Derived.RangeFuncLeaves
import Derived.Laws.Rows
import Derived.Deep.MidRow
import Derived.Test.YteeamlidmkpohaaProg
import Derived.Deep.AppendSrc
import Derived.Deep.OwnRows
import Derived.Deep.RegionHeld3
set_option linter.unusedVariables false
namespace Go.Proofs.Yteeamlidmkpohaa
open Go.RowKit Go.Sort

/-! ### 1. What may have been written -/

/-- From w to w' the old blocks of F alone may have turned; new ones may have come. -/
structure Chg (F : Nat → Prop) (w w' : World) : Prop where
  os : w'.os = w.os
  tape : w'.tape = w.tape
  output : w'.output = w.output
  size : w.heap.size ≤ w'.heap.size
  block : ∀ k, k < w.heap.size → ¬ F k → w'.heap[k]? = w.heap[k]?

theorem Chg.refl (F : Nat → Prop) (w : World) : Chg F w w := ⟨rfl, rfl, rfl, Nat.le_refl _, fun _ _ _ => rfl⟩
theorem Chg.trans {F : Nat → Prop} {a b c : World} (h : Chg F a b) (k : Chg F b c) : Chg F a c :=
  ⟨k.os.trans h.os, k.tape.trans h.tape, k.output.trans h.output, Nat.le_trans h.size k.size, fun i hi hF => (k.block i (Nat.lt_of_lt_of_le hi h.size) hF).trans (h.block i hi hF)⟩
theorem Chg.mono {F G : Nat → Prop} {w w' : World} (h : Chg F w w') (hFG : ∀ k, k < w.heap.size → F k → G k) : Chg G w w' :=
  ⟨h.os, h.tape, h.output, h.size, fun k hk hG => h.block k hk (fun hF => hG (hFG k hk hF))⟩
/-- .. the second step may write what is new too. -/
theorem Chg.then {F G : Nat → Prop} {a b c : World} (h : Chg F a b) (k : Chg G b c) (hG : ∀ i, i < a.heap.size → G i → F i) : Chg F a c :=
  ⟨k.os.trans h.os, k.tape.trans h.tape, k.output.trans h.output, Nat.le_trans h.size k.size, fun i hi hF => (k.block i (Nat.lt_of_lt_of_le hi h.size) (fun hg => hF (hG i hi hg))).trans (h.block i hi hF)⟩
theorem Chg.drew {F : Nat → Prop} {a w : World} (h : Chg F a w) : Chg F a w.drew := ⟨h.os, h.tape, h.output, h.size, h.block⟩
theorem Chg.drewN {F : Nat → Prop} {a w : World} (h : Chg F a w) (n : Nat) : Chg F a (w.drewN n) := ⟨h.os, h.tape, h.output, h.size, h.block⟩
theorem Chg.alloc {F : Nat → Prop} {a w : World} (h : Chg F a w) (o : Obj) : Chg F a (w.alloc o) :=
  h.trans ⟨rfl, rfl, rfl, by simp, fun k hk _ => Below.heap_alloc _ _ _ hk⟩
theorem Chg.setCell {F : Nat → Prop} {a w : World} (h : Chg F a w) {p : Addr} (hp : p.block < a.heap.size → F p.block) (u : Value) : Chg F a (w.setCell p u) :=
  ⟨h.os, h.tape, h.output, by simpa using h.size, fun k hk hF => (Below.heap_setCell _ _ _ _ (fun e => hF (by rw [e]; exact hp (by rw [← e]; exact hk)))).trans (h.block k hk hF)⟩
theorem Chg.grown {F : Nat → Prop} {a w w' : World} {row : Option Nat} (h : Chg F a w) (hg : w.grownBy w' row) (hr : ∀ k, row = some k → k < a.heap.size → F k) : Chg F a w' :=
  ⟨hg.os.trans h.os, hg.tape.trans h.tape, hg.output.trans h.output, Nat.le_trans h.size hg.size, fun k hk hF => (hg.block k (Nat.lt_of_lt_of_le hk h.size) (fun e => hF (hr k e.symm hk))).trans (h.block k hk hF)⟩
theorem Chg.of_below {F : Nat → Prop} {w w' : World} (h : Below w.heap.size w w') : Chg F w w' := ⟨h.os, h.tape, h.output, h.size, fun k hk _ => h.block k hk⟩
theorem Chg.below {F : Nat → Prop} {B : Nat} {w w' : World} (h : Chg F w w') (hB : B ≤ w.heap.size) (hF : ∀ k, k < w.heap.size → F k → B ≤ k) : Below B w w' :=
  ⟨h.os, h.tape, h.output, h.size, fun k hk => h.block k (by omega) (fun hk' => by have := hF k (by omega) hk'; omega)⟩
theorem Chg.cell {F : Nat → Prop} {w w' : World} (h : Chg F w w') {p : Addr} (hp : p.block < w.heap.size) (hF : ¬ F p.block) : w'.cell? p = w.cell? p := World.cell?_of_block (w := w) (h.block p.block hp hF)
theorem Chg.frozen {F : Nat → Prop} {w w' : World} (h : Chg F w w') {p : Addr} (hp : p.block < w.heap.size) (hF : ¬ F p.block) : w'.frozen? p = w.frozen? p := World.frozen?_of_block (w := w) (h.block p.block hp hF)

/-- What a caller reads behind a call that only makes memory. -/
theorem bcell {W w1 : World} (hb : Below W.heap.size W w1) : (∀ b o, b < W.heap.size → w1.cell? ⟨b, o, none⟩ = W.cell? ⟨b, o, none⟩) ∧ (∀ b o, b < W.heap.size → w1.frozen? ⟨b, o, none⟩ = W.frozen? ⟨b, o, none⟩) :=
  ⟨fun b o h => hb.cell (p := ⟨b, o, none⟩) h, fun b o h => hb.frozen (p := ⟨b, o, none⟩) h⟩
theorem below_trans' {W w1 w2 : World} (h : Below W.heap.size W w1) (k : Below w1.heap.size w1 w2) : Below W.heap.size W w2 :=
  h.trans (k.mono h.size)
theorem below_alloc' {W w1 : World} (h : Below W.heap.size W w1) (o : Obj) : Below W.heap.size W (w1.alloc o) := h.alloc h.size o

/-- A cell of an old block, in every world of a drawn region's class. -/
theorem cell_grown {w : World} {b o d : Nat} {os : Array Obj} (h : b < w.heap.size) : (grow (redrawn w d) os).cell? ⟨b, o, none⟩ = w.cell? ⟨b, o, none⟩ := (below_regrown w d os).cell h
theorem wf_i64b {n : Int} (h : (Lit.int .i64 n).wf = true) : -9223372036854775808 ≤ n ∧ n ≤ 9223372036854775807 := by
  simp [Lit.wf, IntKind.min, IntKind.max, IntKind.signed, IntKind.bits] at h
  omega
theorem wf_u8b {n : Int} (h : (Lit.int .u8 n).wf = true) : 0 ≤ n ∧ n ≤ 255 := by
  simp [Lit.wf, IntKind.min, IntKind.max, IntKind.signed, IntKind.bits] at h
  omega

/-! ### 2. Endings -/
theorem ret_i {k : IntKind} {a b : Int} (h : a = b) : Ending.returned (.int k a) = Ending.returned (.int k b) := by rw [h]
theorem ret_b {a b : Bool} (h : a = b) : Ending.returned (.bool a) = Ending.returned (.bool b) := by rw [h]
theorem ret_ib {k : IntKind} {a b : Int} {x y : Bool} (h : a = b) (h' : x = y) : Ending.returned (.tuple #[.int k a, .bool x]) = Ending.returned (.tuple #[.int k b, .bool y]) := by rw [h, h']
theorem ret_ii {k l : IntKind} {a b : Int} {x y : Int} (h : a = b) (h' : x = y) : Ending.returned (.tuple #[.int k a, .int l x]) = Ending.returned (.tuple #[.int k b, .int l y]) := by rw [h, h']

end Go.Proofs.Yteeamlidmkpohaa


/-
  A range over a function whose iterator has cells of its own, and whose body turns what lay ahead of the loop.
-/
set_option linter.unusedVariables false
set_option linter.unusedSimpArgs false
namespace Go.Proofs.Yteeamlidmkpohaa
open Go.RowKit Go.Sort

/-- abides the turn of blocks at or beyond B that are no cells, and new blocks -/
def Abides (B : Nat) (I : World → Prop) : Prop :=
  ∀ W W' row, I W → W.grownBy W' row → (∀ r, row = some r → B ≤ r ∧ ∃ o : Obj, W.heap[r]? = some o ∧ o.isCells = false) → I W'
theorem Abides.putObj {B : Nat} {I : World → Prop} (h : Abides B I) {W : World} {l : Nat} {o : Obj} (o' : Obj) (hs : I W) (hB : B ≤ l) (hl : W.heap[l]? = some o) (ho : o.isCells = false) : I (W.putObj l o') :=
  h W _ (some l) hs (grownBy_putObj' W l o') (fun r e => by cases e; exact ⟨hB, o, hl, ho⟩)
theorem Abides.alloc {B : Nat} {I : World → Prop} (h : Abides B I) {W : World} (o : Obj) (hs : I W) : I (W.alloc o) :=
  h W _ none hs (World.grownBy_alloc W o none) (fun r e => by cases e)

/-- how the body of a round may be left -/
def roundEnd {α : Type} (B : Nat) (J' : α → World → Prop) (Ix : Code → World → Prop) (s : α) (W : World) : Exit → Act → World → Prop
  | .normal, _, W' => KeepsFrom B W W' ∧ J' s W'
  | .ret, _, W' => KeepsFrom B W W' ∧ Ix .ret W'
  | .exit id, _, W' => KeepsFrom B W W' ∧ Ix (.exit id) W'
  | .goto t, _, W' => KeepsFrom B W W' ∧ Ix (.goto t) W'
  | .panic _, _, _ => False
  | .outgrown, _, _ => False

variable {F : Fence} {n : Nat} {P : Program}
/-- J s: what holds where the iterator calls yield, with what it hands over told by s; J' s: where a round goes on; Ix c: where one has left. The iterator is walked by the caller, with its own cells at hand. -/
theorem wpIn_rangeFunc_st {α : Type} {g : Operand} {ps : Array Tmp} {assign body : Code} {Q : Exit → Act → World → Prop} {a : Act} {w : World}
    (hro : F.round = none) (h1 : 1 ≤ n) {gf : Nat} {lb : Array Value} (hg : a.eval g = .func (.func gf) #[] lb) (hFg : F.fn gf) (eg : ∀ args w, (callFunc gf args).run P w = .ok (.enter gf args) w)
    (encs : α → Array Value) (hps : ∀ x, (encs x).size = ps.size)
    (I Dn : World → Prop) (J J' : α → World → Prop) (Ix : Code → World → Prop)
    (hI : Abides w.heap.size I) (hDn : Abides w.heap.size Dn) (hJ : ∀ s, Abides w.heap.size (J s)) (hJ' : ∀ s, Abides w.heap.size (J' s)) (hIx : ∀ c, Abides w.heap.size (Ix c)) (h0 : I w) (a₁ : α → Act)
    (hassign : ∀ (l : Nat) (x : α) (W : World) (K : Act → World → Prop), K (a₁ x) W →
      assign.wpIn (F.inRound l) (n - 1 - 1) P (Exit.then K (fun _ _ _ => False)) { tmps := (ps.zip (encs x)).foldl (fun t (p, v) => t.setIfInBounds p v) a.tmps, defers := [] } W)
    (hbody : ∀ (l : Nat) (x : α) (W : World), w.heap.size ≤ W.heap.size → J x W → body.wpIn (F.inRound l) (n - 1 - 1) P (roundEnd w.heap.size J' Ix x W) (a₁ x) W)
    (hiter : ∀ (l : Nat) (Bk : World → Prop) (Bx : Code → World → Prop) (W : World), w.heap.size ≤ W.heap.size → w.heap.size ≤ l → (∀ A B, Bk A → KeepsFrom w.heap.size A B → Bk B) → (∀ A B c, Bx c A → KeepsFrom w.heap.size A B → Bx c B) →
      (∀ (x : α) (W : World), J x W → Bk W → YieldAt F (n - 1 - 1) P l (encs x) W fun e W' =>
        (e = .returned (.bool true) ∧ J' x W' ∧ Bk W') ∨ (e = .returned (.bool false) ∧ ∃ c, Ix c W' ∧ Bx c W')) →
      I W → Bk W →
      CallsIn F (n - 1) P gf (#[.func (.yield l) #[] #[]] ++ lb) W fun e W' => (∃ v, e = .returned v) ∧ ((Dn W' ∧ Bk W') ∨ ∃ c, Ix c W' ∧ Bx c W'))
    (hdone : ∀ (D : Nat) (W : World), w.heap.size ≤ D → Dn W → W.heap[D]? = some (.deferred (some [])) → Q .normal { a with defers := { target := .collected D, args := #[] } :: a.defers } W)
    (hstop : ∀ (D : Nat) (c : Code) (W : World), w.heap.size ≤ D → Ix c W → W.heap[D]? = some (.deferred (some [])) → c.wpIn F n P Q { a with defers := { target := .collected D, args := #[] } :: a.defers } W) :
    (Code.rangeFunc g ps assign body).wpIn F n P Q a w := by
  refine wpIn_rangeFunc ?_
  intro fn hfn
  rw [hro]
  obtain ⟨rec, hrec⟩ : ∃ rec : LoopState → Option Code → Loop, rec = fun st pe => { state := st, pending := pe, fn, tmps := a.tmps, params := ps, assign, body, defers := w.heap.size } := ⟨_, rfl⟩
  obtain ⟨W1, hW1⟩ : ∃ W1, (w.alloc (.deferred (some []))).alloc (.loop (rec .ready none)) = W1 := ⟨_, rfl⟩
  have hL1 : W1.heap[w.heap.size + 1]? = some (.loop (rec .ready none)) := by
    rw [← hW1]; have := World.alloc_heap_new (w.alloc (.deferred (some []))) (.loop (rec .ready none)); rwa [World.size_alloc] at this
  have hK1 : W1.heap[w.heap.size]? = some (.deferred (some [])) := by
    rw [← hW1]; exact (Below.heap_alloc _ _ _ (by simp)).trans (World.alloc_heap_new w _)
  have hI1 : I W1 := by rw [← hW1]; exact hI.alloc _ (hI.alloc _ h0)
  have hz1 : w.heap.size ≤ W1.heap.size := by rw [← hW1]; simp; omega
  refine ⟨w.heap.size + 1, [{ target := .collected w.heap.size, args := #[] }], W1, { target := .fn (.func gf) lb, args := #[.func (.yield (w.heap.size + 1)) #[] #[]] }, W1, gf,
    #[.func (.yield (w.heap.size + 1)) #[] #[]] ++ lb, W1, ?_, ?_, ?_, ?_, fun _ => h1, ?_⟩
  · rw [← hW1, hrec]; exact run_enterLoop_outer _ _ _ _ _
  · simp only [resolve, hg]
    simp [go_sem]
  · intro f' hf'; simp [Target.leads] at hf'; subst hf'; exact hFg
  · simp [invoke, go_sem, eg]
  · refine (hiter (w.heap.size + 1)
      (fun W => W.heap[w.heap.size + 1]? = some (.loop (rec .ready none)) ∧ W.heap[w.heap.size]? = some (.deferred (some [])))
      (fun c W => W.heap[w.heap.size + 1]? = some (.loop (rec .done (some c))) ∧ W.heap[w.heap.size]? = some (.deferred (some [])))
      W1 hz1 (by omega)
      (fun A B hs hk => ⟨hk.same _ _ (by omega) hs.1 rfl, hk.same _ _ (Nat.le_refl _) hs.2 rfl⟩)
      (fun A B c hs hk => ⟨hk.same _ _ (by omega) hs.1 rfl, hk.same _ _ (Nat.le_refl _) hs.2 rfl⟩)
      ?_ hI1 ⟨hL1, hK1⟩).mono ?_
    · -- one round
      rintro x W hi ⟨hl, hk⟩
      have hlt : w.heap.size + 1 < W.heap.size := (Array.getElem?_eq_some_iff.1 hl).1
      have hy := run_yield (P := P) (args := encs x) hl (by rw [hrec]; exact hps x)
      rw [hrec] at hy
      refine ⟨fn, _, assign, body, hy, roundIn_of_wpIn hfn (hassign _ x W _ ⟨_, run_beginRound hl (by rw [hrec]), ?_⟩)⟩
      have hl2 : (W.putObj (w.heap.size + 1) (.loop { rec .ready none with state := .busy })).heap[w.heap.size + 1]? = some (.loop { rec .ready none with state := .busy }) := World.putObj_heap_same hlt
      have hk2 : (W.putObj (w.heap.size + 1) (.loop { rec .ready none with state := .busy })).heap[w.heap.size]? = some (.deferred (some [])) := (World.putObj_heap_other (by omega)).trans hk
      refine wpIn_mono (hbody _ x _ (by simp; omega) ((hJ x).putObj _ hi (by omega) hl rfl)) ?_
      have fin : ∀ (jump : Option Code) (W3 : World), KeepsFrom w.heap.size (W.putObj (w.heap.size + 1) (.loop { rec .ready none with state := .busy })) W3 →
          (Instr.endRound (w.heap.size + 1) jump).run P W3 = .ok (.bool jump.isNone) (W3.putObj (w.heap.size + 1) (.loop (rec (if jump.isNone then .ready else .done) jump))) ∧
          W3.heap[w.heap.size + 1]? = some (.loop { rec .ready none with state := .busy }) ∧
          (W3.putObj (w.heap.size + 1) (.loop (rec (if jump.isNone then .ready else .done) jump))).heap[w.heap.size + 1]? = some (.loop (rec (if jump.isNone then .ready else .done) jump)) ∧
          (W3.putObj (w.heap.size + 1) (.loop (rec (if jump.isNone then .ready else .done) jump))).heap[w.heap.size]? = some (.deferred (some [])) := fun jump W3 hk3 => by
        have hl3 := hk3.same _ _ (by omega) hl2 rfl
        have := run_endRound (P := P) jump hl3
        rw [hrec] at this ⊢
        exact ⟨this, by rw [hrec] at hl3; exact hl3, World.putObj_heap_same (Array.getElem?_eq_some_iff.1 hl3).1, (World.putObj_heap_other (by omega)).trans (hk3.same _ _ (Nat.le_refl _) hk2 rfl)⟩
      rintro e a3 W3 hp
      cases e with
      | normal =>
        obtain ⟨hk3, hi3⟩ := hp
        obtain ⟨hr, hl3, hl4, hk4⟩ := fin none W3 hk3
        exact ⟨_, _, hr, .inl ⟨rfl, (hJ' x).putObj _ hi3 (by omega) hl3 rfl, hl4, hk4⟩⟩
      | ret =>
        obtain ⟨hk3, hi3⟩ := hp
        obtain ⟨hr, hl3, hl4, hk4⟩ := fin (some .ret) W3 hk3
        exact ⟨_, _, hr, .inr ⟨rfl, .ret, (hIx _).putObj _ hi3 (by omega) hl3 rfl, hl4, hk4⟩⟩
      | exit id =>
        obtain ⟨hk3, hi3⟩ := hp
        obtain ⟨hr, hl3, hl4, hk4⟩ := fin (some (.exit id)) W3 hk3
        exact ⟨_, _, hr, .inr ⟨rfl, .exit id, (hIx _).putObj _ hi3 (by omega) hl3 rfl, hl4, hk4⟩⟩
      | goto t =>
        obtain ⟨hk3, hi3⟩ := hp
        obtain ⟨hr, hl3, hl4, hk4⟩ := fin (some (.goto t)) W3 hk3
        exact ⟨_, _, hr, .inr ⟨rfl, .goto t, (hIx _).putObj _ hi3 (by omega) hl3 rfl, hl4, hk4⟩⟩
      | panic ch => exact hp.elim
      | outgrown => exact hp.elim
    · -- behind the iterator
      rintro e W2 ⟨⟨v, rfl⟩, (⟨hi, hl, hk⟩ | ⟨c, hi, hl, hk⟩)⟩
      · exact ⟨none, _, by have := run_endLoop (P := P) hl (by rw [hrec]; simp); rw [hrec] at this; exact this, hdone _ _ (Nat.le_refl _) (hDn.putObj _ hi (by omega) hl rfl) ((World.putObj_heap_other (by omega)).trans hk)⟩
      · exact ⟨some c, _, by have := run_endLoop (P := P) hl (by rw [hrec]; simp); rw [hrec] at this; exact this, hstop _ c _ (Nat.le_refl _) ((hIx c).putObj _ hi (by omega) hl rfl) ((World.putObj_heap_other (by omega)).trans hk)⟩
end Go.Proofs.Yteeamlidmkpohaa


/-
  Maps keyed by ints: what a block of one is good for; looking up, storing, clearing, going through.
-/
set_option linter.unusedVariables false
set_option linter.unusedSimpArgs false
namespace Go.Proofs.Yteeamlidmkpohaa
open Go.RowKit Go.Sort

/-- The entries are just what f says: each key once. -/
structure MapOk (es : Array MapEntry) (clock : Nat) (f : Int → Option Value) : Prop where
  key : ∀ (i : Nat) (e : MapEntry), es[i]? = some e → ∃ k, e.key = .int .i64 k ∧ f k = some e.val
  has : ∀ k v, f k = some v → ∃ (i : Nat) (e : MapEntry), es[i]? = some e ∧ e.key = .int .i64 k ∧ e.val = v
  born : ∀ (i : Nat) (e : MapEntry), es[i]? = some e → e.born < clock
  once : ∀ (i j : Nat) (a b : MapEntry), es[i]? = some a → es[j]? = some b → (a.born = b.born ∨ a.key = b.key) → i = j

theorem MapOk.mem {es : Array MapEntry} {clock : Nat} {f : Int → Option Value} (h : MapOk es clock f) {e : MapEntry} (he : e ∈ es.toList) : ∃ k, e.key = .int .i64 k ∧ f k = some e.val := by
  obtain ⟨i, hi⟩ := List.mem_iff_getElem?.1 he
  exact h.key i e (by simpa using hi)

def MapIs (w : World) (b : Nat) (f : Int → Option Value) : Prop := ∃ es clock, w.heap[b]? = some (.map es clock) ∧ MapOk es clock f

theorem MapIs.lt {w : World} {b : Nat} {f : Int → Option Value} (h : MapIs w b f) : b < w.heap.size := by
  obtain ⟨es, clock, hb, _⟩ := h
  exact (Array.getElem?_eq_some_iff.1 hb).1
theorem MapIs.chg {F : Nat → Prop} {w w' : World} {b : Nat} {f : Int → Option Value} (h : MapIs w b f) (hc : Chg F w w') (hF : ¬ F b) : MapIs w' b f := by
  have hl := h.lt
  obtain ⟨es, clock, hb, ho⟩ := h
  exact ⟨es, clock, (hc.block b hl hF).trans hb, ho⟩
theorem MapIs.of_block {w w' : World} {b : Nat} {f : Int → Option Value} (h : MapIs w b f) (hb : w'.heap[b]? = w.heap[b]?) : MapIs w' b f := by
  obtain ⟨es, clock, hb', ho⟩ := h
  exact ⟨es, clock, hb.trans hb', ho⟩
theorem MapIs.new (w : World) : MapIs (w.alloc (.map #[] 0)) w.heap.size (fun _ => none) :=
  ⟨#[], 0, by show (w.heap.push _)[w.heap.size]? = _; simp, ⟨by simp, by simp, by simp, by simp⟩⟩
theorem MapIs.congr {w : World} {b : Nat} {f g : Int → Option Value} (h : MapIs w b f) (e : ∀ k, f k = g k) : MapIs w b g := by
  have : f = g := funext e
  rw [← this]; exact h

/-! ### looking a key up -/
theorem findNow_none {q : Nat} : ∀ (es : List MapEntry) (i : Nat) (k : Int), (∀ e ∈ es, ∃ k', e.key = .int .i64 k' ∧ k' ≠ k) → Instr.findNow (.int .i64) (.int .i64 k) es i = some none
  | [], _, _, _ => rfl
  | e :: es, i, k, h => by
    obtain ⟨k', hk, hne⟩ := h e List.mem_cons_self
    have hb : (k == k') = false := by simp; exact fun h => hne h.symm
    simp only [Instr.findNow, hk, Instr.sameNow, if_true, hb]
    exact findNow_none (q := q) es (i + 1) k fun e' he' => h e' (List.mem_cons_of_mem _ he')
theorem findNow_some : ∀ (es : List MapEntry) (i : Nat) (k : Int) (v : Value), (∀ e ∈ es, ∃ k', e.key = .int .i64 k' ∧ (k' = k → e.val = v)) → (∃ e ∈ es, e.key = .int .i64 k) →
    ∃ j, j < es.length ∧ Instr.findNow (.int .i64) (.int .i64 k) es i = some (some (i + j, v)) ∧ ∃ e, es[j]? = some e ∧ e.key = .int .i64 k
  | [], _, _, _, _, ⟨e, he, _⟩ => by cases he
  | e :: es, i, k, v, h, hex => by
    obtain ⟨k', hk, hv⟩ := h e List.mem_cons_self
    by_cases hkk : k' = k
    · subst hkk
      refine ⟨0, by simp, ?_, e, rfl, hk⟩
      simp only [Instr.findNow, hk, Instr.sameNow, if_true, beq_self_eq_true, hv rfl, Nat.add_zero]
    · have hb : (k == k') = false := by simp; exact fun h => hkk h.symm
      obtain ⟨e', he', hk'⟩ := hex
      have he'' : e' ∈ es := by
        rcases List.mem_cons.1 he' with rfl | h'
        · rw [hk] at hk'; simp only [Value.int.injEq, true_and] at hk'; exact absurd hk' hkk
        · exact h'
      obtain ⟨j, hj, hf, e2, h2, h3⟩ := findNow_some es (i + 1) k v (fun e' he' => h e' (List.mem_cons_of_mem _ he')) ⟨e', he'', hk'⟩
      refine ⟨j + 1, by simp; omega, ?_, e2, by simpa using h2, h3⟩
      simp only [Instr.findNow, hk, Instr.sameNow, if_true, hb]
      rw [hf]
      congr 3
      omega

theorem run_getMap {P : Program} {w : World} {b : Nat} {es : Array MapEntry} {clock : Nat} (hb : w.heap[b]? = some (.map es clock)) : (getObj b).run P w = .ok (.map es clock) w := by
  simp [getObj, Sem.run, hb]

section
set_option linter.unusedSectionVars false
variable {P : Program} {w : World} {t e : TypeId} (ht : P.underlying t = some (.map 3 e)) (h3 : P.underlying 3 = some (.int .i64))
include ht h3

theorem run_findKey {es : Array MapEntry} {clock : Nat} {f : Int → Option Value} (h : MapOk es clock f) (k : Int) :
    (f k = none ∧ (Instr.findKey 3 (.int .i64 k) es.toList).run P w = .ok none w) ∨
    ∃ v j, f k = some v ∧ j < es.size ∧ (∃ x, es[j]? = some x ∧ x.key = .int .i64 k) ∧ (Instr.findKey 3 (.int .i64 k) es.toList).run P w = .ok (some (j, v)) w := by
  cases hf : f k with
  | none =>
    left
    have := findNow_none (q := 0) es.toList 0 k (fun e he => by
      obtain ⟨k', hk, hv⟩ := h.mem he
      exact ⟨k', hk, fun e' => by subst e'; rw [hf] at hv; cases hv⟩)
    refine ⟨rfl, ?_⟩
    simp [Instr.findKey, run_underlying h3, this, Result.andThen]
  | some v =>
    right
    obtain ⟨ix, x, hx, hxk, hxv⟩ := h.has k v hf
    obtain ⟨j, hj, hfn, e2, h2, h4⟩ := findNow_some es.toList 0 k v (fun e he => by
      obtain ⟨k', hk, hv⟩ := h.mem he
      exact ⟨k', hk, fun e' => by subst e'; rw [hf] at hv; cases hv; rfl⟩) ⟨x, List.mem_iff_getElem?.2 ⟨ix, by simpa using hx⟩, hxk⟩
    refine ⟨v, j, rfl, by simpa using hj, ⟨e2, by simpa using h2, h4⟩, ?_⟩
    rw [Nat.zero_add] at hfn
    simp [Instr.findKey, run_underlying h3, hfn, Result.andThen]

theorem run_checkKey (b : Bool) (k : Int) : (Instr.checkKey b 10000 3 (.int .i64 k)).run P w = .ok () w := by
  rw [show (10000 : Nat) = 9999 + 1 from rfl, Instr.checkKey]
  simp [run_underlying h3, Result.andThen]

/-- 'm[k]' with and without ok. -/
theorem run_lookup {b : Nat} {f : Int → Option Value} (h : MapIs w b f) (k : Int) (z : Value) (hz : (zeroValue e).run P w = .ok z w) :
    (Instr.lookup t (.map (some b)) (.int .i64 k) true).run P w = .ok (.tuple #[(f k).getD z, .bool (f k).isSome]) w ∧
    (Instr.lookup t (.map (some b)) (.int .i64 k) false).run P w = .ok ((f k).getD z) w := by
  obtain ⟨es, clock, hb, ho⟩ := h
  rcases run_findKey (P := P) (w := w) ht h3 ho k with ⟨hf, hr⟩ | ⟨v, j, hf, _, _, hr⟩
  · constructor <;> simp [Instr.lookup, run_underlying ht, run_getMap hb, run_checkKey ht h3, hr, hz, hf, Result.andThen]
  · constructor <;> simp [Instr.lookup, run_underlying ht, run_getMap hb, run_checkKey ht h3, hr, hf, Result.andThen]

/-! ### storing -/
theorem sameBits_int (k : Int) : Instr.sameBits 10000 (.int .i64 k) (.int .i64 k) = true := by
  simp [Instr.sameBits]
omit ht h3 in
theorem run_setMap {b : Nat} {es : Array MapEntry} {clock : Nat} (hb : w.heap[b]? = some (.map es clock)) (o : Obj) : (setObj b o).run P w = .ok () { w with heap := w.heap.setIfInBounds b o } := by
  simp [setObj, Sem.run, hb]

theorem run_mapUpdate {b : Nat} {f : Int → Option Value} (h : MapIs w b f) (k : Int) (v : Value) :
    ∃ es clock, (Instr.mapUpdate t (.map (some b)) (.int .i64 k) v).run P w = .ok () { w with heap := w.heap.setIfInBounds b (.map es clock) } ∧ MapOk es clock (fun x => if x = k then some v else f x) := by
  obtain ⟨es, clock, hb, ho⟩ := h
  rcases run_findKey (P := P) (w := w) ht h3 ho k with ⟨hf, hr⟩ | ⟨u, j, hf, hj, ⟨e0, h0, hk0⟩, hr⟩
  · refine ⟨es.push { key := .int .i64 k, val := v, born := clock }, clock + 1, ?_, ?_⟩
    · simp [Instr.mapUpdate, run_underlying ht, run_getMap hb, run_checkKey ht h3, hr, run_setMap hb, Result.andThen]
    · have old : ∀ (i : Nat) (e : MapEntry), (es.push { key := .int .i64 k, val := v, born := clock })[i]? = some e → (es[i]? = some e ∧ i < es.size) ∨ (i = es.size ∧ e = { key := .int .i64 k, val := v, born := clock }) := by
        intro i e hi
        rw [Array.getElem?_push] at hi
        split at hi
        · right; cases hi; exact ⟨by assumption, rfl⟩
        · left
          exact ⟨hi, (Array.getElem?_eq_some_iff.1 hi).1⟩
      refine ⟨?_, ?_, ?_, ?_⟩
      · intro i e hi
        rcases old i e hi with ⟨h1, _⟩ | ⟨_, rfl⟩
        · obtain ⟨k', hk, hv⟩ := ho.key i e h1
          refine ⟨k', hk, ?_⟩
          have : k' ≠ k := fun e' => by subst e'; rw [hf] at hv; cases hv
          simp [this, hv]
        · exact ⟨k, rfl, by simp⟩
      · intro k' v' hv
        by_cases e : k' = k
        · subst e
          simp at hv
          subst hv
          exact ⟨es.size, { key := .int .i64 k', val := v, born := clock }, by simp, rfl, rfl⟩
        · simp [e] at hv
          obtain ⟨i, x, h1, h2, h4⟩ := ho.has k' v' hv
          refine ⟨i, x, ?_, h2, h4⟩
          rw [Array.getElem?_push, if_neg (by have := (Array.getElem?_eq_some_iff.1 h1).1; omega)]
          exact h1
      · intro i e hi
        rcases old i e hi with ⟨h1, _⟩ | ⟨_, rfl⟩
        · have := ho.born i e h1; omega
        · show clock < clock + 1; omega
      · intro i i' a a' hi hi' hab
        rcases old i a hi with ⟨h1, l1⟩ | ⟨l1, rfl⟩ <;> rcases old i' a' hi' with ⟨h2, l2⟩ | ⟨l2, rfl⟩
        · exact ho.once i i' a a' h1 h2 hab
        · exfalso
          rcases hab with hab | hab
          · have := ho.born i a h1; simp at hab; omega
          · obtain ⟨k', hk, hv⟩ := ho.key i a h1
            rw [hk] at hab
            simp at hab
            subst hab
            rw [hf] at hv; cases hv
        · exfalso
          rcases hab with hab | hab
          · have := ho.born i' a' h2; simp at hab; omega
          · obtain ⟨k', hk, hv⟩ := ho.key i' a' h2
            rw [hk] at hab
            simp at hab
            subst hab
            rw [hf] at hv; cases hv
        · omega
  · refine ⟨es.modify j fun e => { e with key := .int .i64 k, val := v }, clock, ?_, ?_⟩
    · have h0' : es[j] = e0 := by simpa [Array.getElem?_eq_getElem hj] using h0
      simp [Instr.mapUpdate, run_underlying ht, run_getMap hb, run_checkKey ht h3, hr, run_setMap hb, Result.andThen, Instr.keyThatStays, h0, hk0, sameBits_int ht h3, Array.getElem?_eq_getElem hj, h0']
    · have old : ∀ (i : Nat) (e : MapEntry), (es.modify j fun e => { e with key := .int .i64 k, val := v })[i]? = some e → ∃ e', es[i]? = some e' ∧ e.born = e'.born ∧ ((i = j ∧ e.key = .int .i64 k ∧ e.val = v ∧ e'.key = .int .i64 k) ∨ (i ≠ j ∧ e = e')) := by
        intro i e hi
        rw [Array.getElem?_modify] at hi
        by_cases hij : j = i
        · subst hij
          rw [if_pos rfl, h0] at hi
          simp at hi
          subst hi
          exact ⟨e0, h0, rfl, .inl ⟨rfl, rfl, rfl, hk0⟩⟩
        · rw [if_neg hij] at hi
          exact ⟨e, hi, rfl, .inr ⟨fun e => hij e.symm, rfl⟩⟩
      refine ⟨?_, ?_, ?_, ?_⟩
      · intro i e hi
        obtain ⟨e', h1, hb', h2 | ⟨hne, rfl⟩⟩ := old i e hi
        · exact ⟨k, h2.2.1, by simp [h2.2.2.1]⟩
        · obtain ⟨k', hk, hv⟩ := ho.key i e h1
          refine ⟨k', hk, ?_⟩
          have : k' ≠ k := fun e' => by subst e'; exact hne (ho.once i j e e0 h1 h0 (.inr (hk.trans hk0.symm)))
          simp [this, hv]
      · intro k' v' hv
        by_cases e : k' = k
        · subst e
          simp at hv
          subst hv
          exact ⟨j, _, by rw [Array.getElem?_modify, if_pos rfl, h0]; rfl, rfl, rfl⟩
        · simp [e] at hv
          obtain ⟨i, x, h1, h2, h4⟩ := ho.has k' v' hv
          refine ⟨i, x, ?_, h2, h4⟩
          rw [Array.getElem?_modify, if_neg]
          · exact h1
          · intro e'
            subst e'
            rw [h0] at h1
            cases h1
            rw [hk0] at h2
            simp at h2
            exact e h2.symm
      · intro i e hi
        obtain ⟨e', h1, hb', _⟩ := old i e hi
        rw [hb']
        exact ho.born i e' h1
      · intro i i' a a' hi hi' hab
        obtain ⟨x, h1, hb1, h2⟩ := old i a hi
        obtain ⟨x', h1', hb1', h2'⟩ := old i' a' hi'
        refine ho.once i i' x x' h1 h1' ?_
        rcases hab with hab | hab
        · left; rw [← hb1, ← hb1', hab]
        · right
          rcases h2 with ⟨_, a1, _, a2⟩ | ⟨_, rfl⟩ <;> rcases h2' with ⟨_, b1, _, b2⟩ | ⟨_, rfl⟩
          · rw [a2, b2]
          · rw [a2, ← hab, a1]
          · rw [b2, hab, b1]
          · exact hab

/-! ### clearing -/
theorem run_clear {b : Nat} {f : Int → Option Value} (h : MapIs w b f) :
    ∃ clock, (Builtin.clear_ #[t] 0 #[.map (some b)]).run P w = .ok (.tuple #[]) { w with heap := w.heap.setIfInBounds b (.map #[] clock) } := by
  obtain ⟨es, clock, hb, ho⟩ := h
  refine ⟨clock, ?_⟩
  simp [Builtin.clear_, run_underlying ht, run_getMap hb, run_setMap hb, Result.andThen]
end

theorem MapIs.set {w : World} {b : Nat} {es : Array MapEntry} {clock : Nat} {f : Int → Option Value} (hb : b < w.heap.size) (h : MapOk es clock f) : MapIs { w with heap := w.heap.setIfInBounds b (.map es clock) } b f :=
  ⟨es, clock, by simp [hb], h⟩
theorem chg_setBlock (w : World) (b : Nat) (o : Obj) : Chg (fun k => k = b) w { w with heap := w.heap.setIfInBounds b o } :=
  ⟨rfl, rfl, rfl, by simp, fun k hk hne => Array.getElem?_setIfInBounds_ne (fun e => hne e.symm)⟩
theorem MapOk.empty (clock : Nat) : MapOk #[] clock (fun _ => none) := ⟨by simp, by simp, by simp, by simp⟩

/-! ### going through -/
/-- Block it goes through the map in block m (it reads as f, and lies still); the keys of T have been told. -/
structure IterIs (w : World) (it m : Nat) (f : Int → Option Value) (T : Int → Bool) : Prop where
  mk ::
  is : ∃ es clock seen last, w.heap[m]? = some (.map es clock) ∧ MapOk es clock f ∧ w.heap[it]? = some (.mapIter (some m) clock seen last) ∧ (seen = #[] ∨ last = clock) ∧
    ∀ (i : Nat) (e : MapEntry) (k : Int), es[i]? = some e → e.key = .int .i64 k → seen.contains e.born = T k

/-- how many entries are left -/
def leftOf (w : World) (it m : Nat) : Nat :=
  match w.heap[m]?, w.heap[it]? with
  | some (.map es _), some (.mapIter _ _ seen _) => (es.filter fun e => !seen.contains e.born).size
  | _, _ => 0

theorem IterIs.lt {w : World} {it m : Nat} {f : Int → Option Value} {T : Int → Bool} (h : IterIs w it m f T) : it < w.heap.size ∧ m < w.heap.size ∧ it ≠ m := by
  obtain ⟨es, clock, seen, last, hm, _, hi, _⟩ := h.is
  refine ⟨(Array.getElem?_eq_some_iff.1 hi).1, (Array.getElem?_eq_some_iff.1 hm).1, fun e => ?_⟩
  subst e
  rw [hm] at hi
  cases hi
theorem IterIs.chg {F : Nat → Prop} {w w' : World} {it m : Nat} {f : Int → Option Value} {T : Int → Bool} (h : IterIs w it m f T) (hc : Chg F w w') (h1 : ¬ F it) (h2 : ¬ F m) : IterIs w' it m f T ∧ leftOf w' it m = leftOf w it m := by
  obtain ⟨l1, l2, _⟩ := h.lt
  have e1 := hc.block it l1 h1
  have e2 := hc.block m l2 h2
  obtain ⟨es, clock, seen, last, hm, r1, hi, r2⟩ := h.is
  refine ⟨⟨⟨es, clock, seen, last, e2.trans hm, r1, e1.trans hi, r2⟩⟩, ?_⟩
  unfold leftOf
  rw [e1, e2]

section
variable {P : Program} {w : World} {t e : TypeId}
theorem run_range (ht : P.underlying t = some (.map 3 e)) {m : Nat} {f : Int → Option Value} (h : MapIs w m f) :
    ∃ o, (Instr.range t (.map (some m))).run P w = .ok (.pointer (some ⟨w.heap.size, 0, none⟩)) (w.alloc o) ∧ IterIs (w.alloc o) w.heap.size m f (fun _ => false) := by
  have hl := h.lt
  obtain ⟨es, clock, hb, ho⟩ := h
  refine ⟨.mapIter (some m) clock #[] clock, ?_, ⟨es, clock, #[], clock, ?_, ho, ?_, .inl rfl, ?_⟩⟩
  · simp [Instr.range, run_underlying ht, run_getMap hb, Result.andThen, newObj, Sem.run]
  · rw [Below.heap_alloc _ _ _ hl]; exact hb
  · show (w.heap.push _)[w.heap.size]? = _; simp
  · intro i e k _ _; simp

theorem run_next {it m : Nat} {f : Int → Option Value} {T : Int → Bool} (h : IterIs w it m f T) (ty : TypeId) :
    ((∀ k v, f k = some v → T k = true) ∧ ∃ w1, (Instr.next (.pointer (some ⟨it, 0, none⟩)) false ty).run P w = .ok (.tuple #[.bool false]) w1 ∧ Chg (fun _ => False) w w1) ∨
    ∃ k v w1, f k = some v ∧ T k = false ∧ (Instr.next (.pointer (some ⟨it, 0, none⟩)) false ty).run P w = .ok (.tuple #[.bool true, .int .i64 k, v]) w1 ∧ Chg (fun x => x = it) w w1 ∧
      IterIs w1 it m f (fun x => T x || x == k) ∧ leftOf w1 it m < leftOf w it m ∧ (Instr.entry (.pointer (some ⟨it, 0, none⟩))).run P w1 = .ok (.tuple #[.int .i64 k, v]) w1 := by
  obtain ⟨es, clock, seen, last, hm, ho, hi, hl, hT⟩ := h.is
  obtain ⟨l1, l2, hne⟩ := h.lt
  have hcheck : (!seen.isEmpty && !es.isEmpty && es.all (fun e => decide (e.born ≥ last))) = false := by
    rcases hl with rfl | rfl
    · simp
    · by_cases h0 : es.size = 0
      · have : es = #[] := by simpa using h0
        simp [this]
      · rw [Bool.and_eq_false_iff]
        right
        rw [Bool.eq_false_iff]
        intro hall
        rw [Array.all_eq_true] at hall
        have h1 := hall 0 (by omega)
        have h2 := ho.born 0 es[0] (Array.getElem?_eq_getElem (by omega))
        simp at h1
        omega
  have hold : (es.filter fun e => !seen.contains e.born).filter (fun e => decide (e.born < clock)) = es.filter fun e => !seen.contains e.born := by
    rw [Array.filter_eq_self]
    intro e he
    have he' := (Array.mem_filter.1 he).1
    obtain ⟨i, hi'⟩ := Array.mem_iff_getElem?.1 he'
    simpa using ho.born i e hi'
  have hnew : (es.filter fun e => !seen.contains e.born).filter (fun e => decide (e.born ≥ clock)) = #[] := by
    rw [Array.filter_eq_empty_iff]
    intro e he
    have he' := (Array.mem_filter.1 he).1
    obtain ⟨i, hi'⟩ := Array.mem_iff_getElem?.1 he'
    have := ho.born i e hi'
    simpa using this
  have hgi : (getObj it).run P w = .ok (.mapIter (some m) clock seen last) w := by simp [getObj, Sem.run, hi]
  have hgm := run_getMap (P := P) hm
  generalize hL : (es.filter fun e => !seen.contains e.born) = L at hold hnew
  by_cases hE : L = #[]
  · left
    constructor
    · intro k v hf
      obtain ⟨i, e, h1, h2, h3⟩ := ho.has k v hf
      rw [← hT i e k h1 h2]
      have : e ∉ es.filter fun e => !seen.contains e.born := by rw [hL, hE]; simp
      rw [Array.mem_filter] at this
      simp only [not_and] at this
      have := this (Array.mem_of_getElem? h1)
      simpa using this
    · subst hE
      refine ⟨w, ?_, Chg.refl _ _⟩
      simp only [Instr.next, Sem.run_bind, hgi, hgm, Result.andThen, hcheck, Bool.false_eq_true, if_false, hL, hold, hnew]
      simp [choose, Sem.run, Question.forced, Result.andThen]
  · right
    have hsz : 0 < L.size := by
      rcases Nat.eq_zero_or_pos L.size with h0 | h0
      · exact absurd (by simpa using h0) hE
      · exact h0
    obtain ⟨n, w0, hn, hch, hw0⟩ : ∃ n w0, n < L.size ∧ (choose (.mapNext L.size)).run P w = .ok n w0 ∧ (w0.heap = w.heap ∧ w0.os = w.os ∧ w0.tape = w.tape ∧ w0.output = w.output) := by
      by_cases h1 : L.size ≤ 1
      · exact ⟨0, w, hsz, by simp [choose, Sem.run, Question.forced, h1], rfl, rfl, rfl, rfl⟩
      · exact ⟨w.tape w.drawn (.mapNext L.size) % L.size, w.drew, Nat.mod_lt _ hsz, by simp [choose, Sem.run, Question.forced, h1, Question.cut], rfl, rfl, rfl, rfl⟩
    have hmem : L[n] ∈ es.filter fun e => !seen.contains e.born := by rw [hL]; exact Array.getElem_mem hn
    obtain ⟨hmem1, hmem2⟩ := Array.mem_filter.1 hmem
    obtain ⟨i, hi'⟩ := Array.mem_iff_getElem?.1 hmem1
    obtain ⟨k, hk, hfk⟩ := ho.key i _ hi'
    have hTk : T k = false := by rw [← hT i _ k hi' hk]; simpa using hmem2
    have hi0 : w0.heap[it]? = some (.mapIter (some m) clock seen last) := by rw [hw0.1]; exact hi
    refine ⟨k, L[n].val, { w0 with heap := w0.heap.setIfInBounds it (.mapIter (some m) clock (seen.push L[n].born) clock) }, hfk, hTk, ?_, ?_, ?_, ?_, ?_⟩
    · have hset : (setObj it (.mapIter (some m) clock (seen.push L[n].born) clock)).run P w0 = .ok () { w0 with heap := w0.heap.setIfInBounds it (.mapIter (some m) clock (seen.push L[n].born) clock) } := by
        simp [setObj, Sem.run, hi0]
      have hE' : L.isEmpty = false := by simpa using hE
      simp only [Instr.next, Sem.run_bind, hgi, hgm, Result.andThen, hcheck, Bool.false_eq_true, if_false, hL, hold, hnew, hE', Array.append_empty, Array.empty_append, Array.size_map, hch]
      rw [Array.getElem?_map, Array.getElem?_eq_getElem hn]
      simp [hset, hk, Result.andThen]
    · exact ⟨hw0.2.1, hw0.2.2.1, hw0.2.2.2, by simp [hw0.1], fun x hx hne' => by simp only [hw0.1]; exact Array.getElem?_setIfInBounds_ne (fun e => hne' e.symm)⟩
    · refine ⟨⟨es, clock, seen.push L[n].born, clock, ?_, ho, ?_, .inr rfl, ?_⟩⟩
      · simp only [hw0.1]
        rw [Array.getElem?_setIfInBounds_ne hne]
        exact hm
      · simp only [hw0.1]
        rw [Array.getElem?_setIfInBounds_self_of_lt (by simpa using l1)]
      · intro j e k' hj hk'
        have h1 := hT j e k' hj hk'
        rw [← h1]
        by_cases hkk : k' = k
        · subst hkk
          have := ho.once j i e _ hj hi' (.inr (hk'.trans hk.symm))
          subst this
          rw [hj] at hi'
          cases hi'
          simp
        · have hb : e.born ≠ L[n].born := fun hb => by
            have := ho.once j i e _ hj hi' (.inl hb)
            subst this
            rw [hj] at hi'
            cases hi'
            rw [hk'] at hk
            simp at hk
            exact hkk hk
          have h2 : (k' == k) = false := by simpa using hkk
          rw [h2]
          simp [hb]
    · unfold leftOf
      simp only [hw0.1]
      rw [Array.getElem?_setIfInBounds_ne hne, hm, hi, Array.getElem?_setIfInBounds_self_of_lt (by simpa using l1)]
      show (es.filter fun e => !(seen.push L[n].born).contains e.born).size < (es.filter fun e => !seen.contains e.born).size
      have e1 : (es.filter fun e => !(seen.push L[n].born).contains e.born) = (es.filter fun e => !seen.contains e.born).filter fun e => !(e.born == L[n].born) := by
        rw [Array.filter_filter]
        congr 1
        funext e
        by_cases q1 : e.born ∈ seen <;> by_cases q2 : e.born = L[n].born <;> simp [q1, q2]
      rw [e1, hL]
      simp
      exact ⟨L[n], by simp, rfl⟩
    · have hi1 : ({ w0 with heap := w0.heap.setIfInBounds it (.mapIter (some m) clock (seen.push L[n].born) clock) } : World).heap[it]? = some (.mapIter (some m) clock (seen.push L[n].born) clock) := by
        simp only [hw0.1]
        rw [Array.getElem?_setIfInBounds_self_of_lt (by simpa using l1)]
      have hm1 : ({ w0 with heap := w0.heap.setIfInBounds it (.mapIter (some m) clock (seen.push L[n].born) clock) } : World).heap[m]? = some (.map es clock) := by
        simp only [hw0.1]
        rw [Array.getElem?_setIfInBounds_ne hne]
        exact hm
      generalize ({ w0 with heap := w0.heap.setIfInBounds it (.mapIter (some m) clock (seen.push L[n].born) clock) } : World) = w1 at hi1 hm1 ⊢
      have hg1 : (getObj it).run P w1 = .ok (.mapIter (some m) clock (seen.push L[n].born) clock) w1 := by simp [getObj, Sem.run, hi1]
      have hg2 := run_getMap (P := P) hm1
      have hfind : es.find? (fun x => x.born == L[n].born) = some L[n] := by
        cases hfd : es.find? (fun x => x.born == L[n].born) with
        | none =>
          rw [Array.find?_eq_none] at hfd
          have := hfd L[n] hmem1
          simp at this
        | some e' =>
          have h1 := Array.find?_some hfd
          obtain ⟨j, hj⟩ := Array.mem_iff_getElem?.1 (Array.mem_of_find?_eq_some hfd)
          have := ho.once j i e' _ hj hi' (.inl (by simpa using h1))
          subst this
          rw [hj] at hi'
          exact hi'
      simp only [Instr.entry, Sem.run_bind, hg1, hg2, Result.andThen, Array.back?_push, bne_self_eq_false, Bool.false_eq_true, if_false, hfind]
      simp [hk]
end

end Go.Proofs.Yteeamlidmkpohaa


/-
  Laws at single operations, as the walk meets them: whole arrays, maps keyed by ints.
-/
set_option linter.unusedVariables false
set_option linter.unusedSimpArgs false
namespace Go.Proofs.Yteeamlidmkpohaa
open Go.RowKit Go.Sort

section
set_option linter.unusedSectionVars false
variable {P : Program} {ops : Array Oper} {rest : List Oper} {o : Oper} {a : Act} {w : World} {Q : Exit → Act → World → Prop}

/-- One operation that yields a value. -/
theorem wpList_val {w' : World} {v : Value} (hg : o.guard = none) (hr : (execOp a.eval o).run P w = .ok (.value v) w') (h : wpList P ops Q rest (a.put o.dst v) w') : wpList P ops Q (o :: rest) a w :=
  wpList_plain hg fun K hK => by
    unfold Oper.wp
    rw [hr]
    exact hK _ _ h
theorem wpList_skp {w' : World} (hg : o.guard = none) (hr : (execOp a.eval o).run P w = .ok .skip w') (h : wpList P ops Q rest (a.put o.dst undef) w') : wpList P ops Q (o :: rest) a w :=
  wpList_plain hg fun K hK => by
    unfold Oper.wp
    rw [hr]
    exact hK _ _ h

/-- 'var x [n]T': a new block. -/
theorem wpList_alloc_arr (hg : o.guard = none) (t : TypeId) (ho : o.op = .alloc t) (z : Array Value) (hz : (zeroValue t).run P w = .ok (.agg z) w)
    (h : wpList P ops Q rest (a.put o.dst (.pointer (some ⟨w.heap.size, 0, none⟩))) (w.alloc (.cells z t))) : wpList P ops Q (o :: rest) a w :=
  wpList_val hg (by simp [execOp, ho, Instr.alloc, hz, newVar, newRow, newObj, Sem.run, Result.andThen, Value.cells]) h

theorem setRow_block {w : World} {g : Nat} {old cs : Array Value} {t : TypeId} {fr : Nat × Nat} (h : w.heap[g]? = some (.cells old t fr)) : (w.setRow g cs).heap[g]? = some (.cells cs t fr) := by
  simp only [World.setRow, Array.getElem?_modify, if_true, h, Option.map_some]
theorem chg_setRow (w : World) (g : Nat) (cs : Array Value) : Chg (fun k => k = g) w (w.setRow g cs) :=
  ⟨rfl, rfl, rfl, by simp [World.setRow], fun k _ hne => by simp only [World.setRow, Array.getElem?_modify]; rw [if_neg (fun e => hne e.symm)]⟩

/-- A whole array into a block of its size. -/
theorem wpList_store_arr (hg : o.guard = none) (ty : TypeId) (x y : Operand) (ho : o.op = .store ty x y) (g : Nat) (cs : Array Value) (hx : a.eval x = .pointer (some ⟨g, 0, none⟩)) (hy : a.eval y = .agg cs)
    (t : TypeId) (old : Array Value) (hb : w.heap[g]? = some (.cells old t (0, 0))) (hi : (P.info? ty).map (·.size) = some cs.size) (hs : old.size = cs.size) (h1 : cs.all (·.oneCell') = true)
    (h : ∀ w', w'.heap[g]? = some (.cells cs t (0, 0)) → Chg (fun k => k = g) w w' → wpList P ops Q rest (a.put o.dst undef) w') : wpList P ops Q (o :: rest) a w :=
  wpList_skp hg (w' := w.setRow g cs) (by simp [execOp, ho, hx, hy, Instr.storeAt, Instr.sureAddr, run_storeVar_row w g t ty old cs hb hi hs h1, Result.andThen]) (h _ (setRow_block hb) (chg_setRow _ _ _))

/-- .. into the block that was made last. -/
theorem wpList_store_new (hg : o.guard = none) (ty : TypeId) (x y : Operand) (ho : o.op = .store ty x y) (cs old : Array Value) (t : TypeId) (hx : a.eval x = .pointer (some ⟨w.heap.size, 0, none⟩)) (hy : a.eval y = .agg cs)
    (hi : (P.info? ty).map (·.size) = some cs.size) (hs : old.size = cs.size) (h1 : cs.all (·.oneCell') = true)
    (h : wpList P ops Q rest (a.put o.dst undef) (w.alloc (.cells cs t))) : wpList P ops Q (o :: rest) a (w.alloc (.cells old t)) :=
  wpList_skp hg (w' := w.alloc (.cells cs t)) (by
    have hb : (w.alloc (.cells old t)).heap[w.heap.size]? = some (.cells old t (0, 0)) := heap_alloc_new w _
    have hr := run_storeVar_row (P := P) (w.alloc (.cells old t)) w.heap.size t ty old cs hb hi hs h1
    have e : (w.alloc (.cells old t)).setRow w.heap.size cs = w.alloc (.cells cs t) := by
      simp only [World.setRow, World.alloc]
      congr 1
      apply Array.ext_getElem?
      intro i
      rw [Array.getElem?_modify]
      by_cases h : w.heap.size = i
      · subst h; simp
      · rw [if_neg h, Array.getElem?_push, Array.getElem?_push]
        rw [if_neg (fun e => h e.symm), if_neg (fun e => h e.symm)]
    rw [e] at hr
    simp [execOp, ho, hx, hy, Instr.storeAt, Instr.sureAddr, hr, Result.andThen]) h

/-! ### maps keyed by ints -/
section
set_option linter.unusedSectionVars false
variable {t e : TypeId} (ht : P.underlying t = some (.map 3 e)) (h3 : P.underlying 3 = some (.int .i64))
include ht h3

theorem wpList_lookup_ok (hg : o.guard = none) (x y : Operand) (ho : o.op = .lookup t x y true) (b : Nat) (k : Int) (hx : a.eval x = .map (some b)) (hy : a.eval y = .int .i64 k) (f : Int → Option Value) (hm : MapIs w b f)
    (z : Value) (hz : (zeroValue e).run P w = .ok z w) (h : wpList P ops Q rest (a.put o.dst (.tuple #[(f k).getD z, .bool (f k).isSome])) w) : wpList P ops Q (o :: rest) a w :=
  wpList_val hg (by simp [execOp, ho, hx, hy, (run_lookup ht h3 hm k z hz).1, Result.andThen]) h
theorem wpList_lookup_1 (hg : o.guard = none) (x y : Operand) (ho : o.op = .lookup t x y false) (b : Nat) (k : Int) (hx : a.eval x = .map (some b)) (hy : a.eval y = .int .i64 k) (f : Int → Option Value) (hm : MapIs w b f)
    (z : Value) (hz : (zeroValue e).run P w = .ok z w) (h : wpList P ops Q rest (a.put o.dst ((f k).getD z)) w) : wpList P ops Q (o :: rest) a w :=
  wpList_val hg (by simp [execOp, ho, hx, hy, (run_lookup ht h3 hm k z hz).2, Result.andThen]) h
theorem wpList_mapUpdate (hg : o.guard = none) (x y u : Operand) (ho : o.op = .mapUpdate t x y u) (b : Nat) (k : Int) (v : Value) (hx : a.eval x = .map (some b)) (hy : a.eval y = .int .i64 k) (hu : a.eval u = v) (f : Int → Option Value) (hm : MapIs w b f)
    (h : ∀ w', MapIs w' b (fun x => if x = k then some v else f x) → Chg (fun i => i = b) w w' → wpList P ops Q rest (a.put o.dst undef) w') : wpList P ops Q (o :: rest) a w := by
  obtain ⟨es, clock, hr, hok⟩ := run_mapUpdate (P := P) ht h3 hm k v
  exact wpList_skp hg (w' := { w with heap := w.heap.setIfInBounds b (.map es clock) }) (by simp [execOp, ho, hx, hy, hu, hr, Result.andThen]) (h _ (MapIs.set hm.lt hok) (chg_setBlock _ _ _))
theorem wpList_clear (hg : o.guard = none) (x : Operand) (ho : o.op = .call { callee := .builtin .clear, args := #[x], argTypes := #[t] }) (b : Nat) (hx : a.eval x = .map (some b)) (f : Int → Option Value) (hm : MapIs w b f)
    (h : ∀ w', MapIs w' b (fun _ => none) → Chg (fun i => i = b) w w' → wpList P ops Q rest (a.put o.dst (.tuple #[])) w') : wpList P ops Q (o :: rest) a w := by
  obtain ⟨es, clock, hb, hok⟩ := hm
  have hr : (Builtin.clear_ #[t] o.type #[.map (some b)]).run P w = .ok (.tuple #[]) { w with heap := w.heap.setIfInBounds b (.map #[] clock) } := by
    simp [Builtin.clear_, run_underlying ht, run_getMap hb, run_setMap hb, Result.andThen]
  refine wpList_val hg (w' := { w with heap := w.heap.setIfInBounds b (.map #[] clock) }) ?_ (h _ (MapIs.set (Array.getElem?_eq_some_iff.1 hb).1 (MapOk.empty clock)) (chg_setBlock _ _ _))
  simp [execOp, ho, hx, hr, Result.andThen, resolve, invoke, builtin]
theorem wpList_range_map (hg : o.guard = none) (x : Operand) (ho : o.op = .range t x) (m : Nat) (hx : a.eval x = .map (some m)) (f : Int → Option Value) (hm : MapIs w m f)
    (h : ∀ ob, IterIs (w.alloc ob) w.heap.size m f (fun _ => false) → wpList P ops Q rest (a.put o.dst (.pointer (some ⟨w.heap.size, 0, none⟩))) (w.alloc ob)) : wpList P ops Q (o :: rest) a w := by
  obtain ⟨ob, hr, hi⟩ := run_range (P := P) ht hm
  exact wpList_val hg (by simp [execOp, ho, hx, hr, Result.andThen]) (h ob hi)
end

theorem wpList_next_map (hg : o.guard = none) (x : Operand) (ho : o.op = .next x false) (it m : Nat) (hx : a.eval x = .pointer (some ⟨it, 0, none⟩)) (f : Int → Option Value) (T : Int → Bool) (hi : IterIs w it m f T)
    (hend : (∀ k v, f k = some v → T k = true) → ∀ w', Chg (fun _ => False) w w' → wpList P ops Q rest (a.put o.dst (.tuple #[.bool false])) w')
    (hon : ∀ k v w', f k = some v → T k = false → Chg (fun i => i = it) w w' → IterIs w' it m f (fun x => T x || x == k) → leftOf w' it m < leftOf w it m →
      (Instr.entry (.pointer (some ⟨it, 0, none⟩))).run P w' = .ok (.tuple #[.int .i64 k, v]) w' → wpList P ops Q rest (a.put o.dst (.tuple #[.bool true, .int .i64 k, v])) w') : wpList P ops Q (o :: rest) a w := by
  rcases run_next (P := P) hi o.type with ⟨hd, w', hr, hc⟩ | ⟨k, v, w', h1, h2, hr, h4, h5, h6, h7⟩
  · exact wpList_val hg (by simp [execOp, ho, hx, hr, Result.andThen]) (hend hd w' hc)
  · exact wpList_val hg (by simp [execOp, ho, hx, hr, Result.andThen]) (hon k v w' h1 h2 h4 h5 h6 h7)
theorem wpList_entry_map (hg : o.guard = none) (x : Operand) (ho : o.op = .entry x) (it : Nat) (hx : a.eval x = .pointer (some ⟨it, 0, none⟩)) (k : Int) (v : Value)
    (hr : (Instr.entry (.pointer (some ⟨it, 0, none⟩))).run P w = .ok (.tuple #[.int .i64 k, v]) w) (h : wpList P ops Q rest (a.put o.dst (.tuple #[.int .i64 k, v])) w) : wpList P ops Q (o :: rest) a w :=
  wpList_val hg (by simp [execOp, ho, hx, hr, Result.andThen]) h
end
end Go.Proofs.Yteeamlidmkpohaa


/-
  The device: what a disk is in memory, and its smaller functions.
-/
set_option linter.unusedVariables false
set_option linter.unusedSimpArgs false
namespace Go.Proofs.Yteeamlidmkpohaa
open Go.RowKit Go.Sort

/-! ### plain words -/
/-- a sector: 512 bytes -/
def IsSec (l : List Int) : Prop := l.length = 512 ∧ ∀ x ∈ l, 0 ≤ x ∧ x ≤ 255
def noughts : List Int := List.replicate 512 0
theorem noughts_sec : IsSec noughts := ⟨List.length_replicate, fun x hx => by rw [noughts, List.mem_replicate] at hx; omega⟩
def bytesV (l : List Int) : List Value := l.map (Value.int .u8 ·)
def secA (l : List Int) : Array Value := (bytesV l).toArray
def secV (l : List Int) : Value := .agg (secA l)
theorem secA_size (l : List Int) : (secA l).size = l.length := by simp [secA, bytesV]
theorem secA_one (l : List Int) : (secA l).all (·.oneCell') = true := by
  rw [Array.all_eq_true_iff_forall_mem]
  intro x hx
  simp [secA, bytesV] at hx
  obtain ⟨y, _, rfl⟩ := hx
  rfl

/-- a disk: how many sectors, the safe ones, the open ones, when it crashes, whether it has -/
structure Dk where
  n : Int
  safe : Int → Option (List Int)
  opn : Int → Option (List Int)
  armed : Int
  down : Bool

structure Dk.Ok (D : Dk) : Prop where
  n1 : 1 ≤ D.n
  n2 : D.n ≤ 262144
  s : ∀ k l, D.safe k = some l → IsSec l
  o : ∀ k l, D.opn k = some l → IsSec l
  a1 : 0 ≤ D.armed
  a2 : D.armed ≤ 9223372036854775807

def Dk.may (D : Dk) (k : Int) : Int := if D.down = true then 9 else if k < 0 then 6 else if D.n ≤ k then 6 else 0
def Dk.latest (D : Dk) (k : Int) : List Int := ((D.opn k).orElse fun _ => D.safe k).getD noughts
theorem Dk.latest_sec {D : Dk} (h : D.Ok) (k : Int) : IsSec (D.latest k) := by
  unfold Dk.latest
  cases h1 : D.opn k with
  | some l => exact h.o k l h1
  | none =>
    cases h2 : D.safe k with
    | some l => simpa [h2] using h.s k l h2
    | none => simpa [h2] using noughts_sec

/-! ### in memory -/
structure DiskAt (w : World) (p ms mo : Nat) (D : Dk) : Prop where
  ok : D.Ok
  blk : w.heap[p]? = some (.cells #[.int .i64 D.n, .map (some ms), .map (some mo), .int .i64 D.armed, .bool D.down] 86 (0, 0))
  sm : MapIs w ms (fun k => (D.safe k).map secV)
  om : MapIs w mo (fun k => (D.opn k).map secV)
  ne : ms ≠ mo

theorem DiskAt.lt {w : World} {p ms mo : Nat} {D : Dk} (h : DiskAt w p ms mo D) : p < w.heap.size := (Array.getElem?_eq_some_iff.1 h.blk).1
theorem DiskAt.cells {w : World} {p ms mo : Nat} {D : Dk} (h : DiskAt w p ms mo D) :
    w.cell? ⟨p, 0, none⟩ = some (.int .i64 D.n) ∧ w.cell? ⟨p, 1, none⟩ = some (.map (some ms)) ∧ w.cell? ⟨p, 2, none⟩ = some (.map (some mo)) ∧ w.cell? ⟨p, 3, none⟩ = some (.int .i64 D.armed) ∧ w.cell? ⟨p, 4, none⟩ = some (.bool D.down) := by
  refine ⟨?_, ?_, ?_, ?_, ?_⟩ <;> simp [World.cell?, h.blk]
theorem DiskAt.free {w : World} {p ms mo : Nat} {D : Dk} (h : DiskAt w p ms mo D) (i : Nat) : w.frozen? ⟨p, i, none⟩ = false := by
  simp [World.frozen?, h.blk]
theorem DiskAt.chg {F : Nat → Prop} {w w' : World} {p ms mo : Nat} {D : Dk} (h : DiskAt w p ms mo D) (hc : Chg F w w') (h1 : ¬ F p) (h2 : ¬ F ms) (h3 : ¬ F mo) : DiskAt w' p ms mo D :=
  ⟨h.ok, (hc.block p h.lt h1).trans h.blk, h.sm.chg hc h2, h.om.chg hc h3, h.ne⟩
theorem DiskAt.below {w w' : World} {p ms mo : Nat} {D : Dk} (h : DiskAt w p ms mo D) (hc : Below w.heap.size w w') : DiskAt w' p ms mo D :=
  h.chg (Chg.of_below (F := fun _ => False) hc) id id id

/-! ### types -/
theorem zero162 (w : World) : (zeroValue 162).run Try.prog w = .ok (secV noughts) w := by kernel_rfl
theorem size162 : (Try.prog.info? 162).map (·.size) = some 512 := by kernel_rfl
theorem size162' {l : List Int} (h : l.length = 512) : (Try.prog.info? 162).map (·.size) = some (secA l).size := by rw [size162, secA_size, h]

set_option maxRecDepth 100000 in
set_option maxHeartbeats 1000000 in
theorem may_any (w : World) (p ms mo : Nat) (D : Dk) (h : DiskAt w p ms mo D) (k : Int) :
    Calls Try.prog 130 #[.pointer (some ⟨p, 0, none⟩), .int .i64 k] w fun e w' => e = .returned (.int .i64 (D.may k)) ∧ w = w' := by
  obtain ⟨c0, c1, c2, c3, c4⟩ := h.cells
  have hn1 := h.ok.n1
  have hn2 := h.ok.n2
  have hz : (D.n == 0) = false := by simp; omega
  cases hd : D.down with
  | true =>
    rw [hd] at c4
    go_enter Try.func130, Try.ntmps130
    go_wp2
    go_ret
    exact ⟨ret_i (by simp [Dk.may, hd]), rfl⟩
  | false =>
    rw [hd] at c4
    by_cases h1 : k < 0
    · go_enter Try.func130, Try.ntmps130
      go_wp2
      go_ret
      exact ⟨ret_i (by simp [Dk.may, hd, h1]), rfl⟩
    · by_cases h2 : D.n ≤ k
      · go_enter Try.func130, Try.ntmps130
        go_wp2
        go_ret
        exact ⟨ret_i (by simp [Dk.may, hd, h2]), rfl⟩
      · have h3 : k < D.n := by omega
        go_enter Try.func130, Try.ntmps130
        go_wp2
        go_ret
        exact ⟨ret_i (by rw [Dk.may, hd, if_neg (by simp), if_neg (by omega), if_neg (by omega)]), rfl⟩

/-! ### what becomes of the disk's own block -/
def Dk.crash (D : Dk) : Dk := if 0 < D.armed then { D with armed := D.armed - 1, down := decide (D.armed - 1 = 0) } else D
theorem Dk.crash_ok {D : Dk} (h : D.Ok) : D.crash.Ok := by
  unfold Dk.crash
  split
  · exact ⟨h.n1, h.n2, h.s, h.o, by have := h.a1; show 0 ≤ D.armed - 1; omega, by have := h.a2; show D.armed - 1 ≤ _; omega⟩
  · exact h

theorem heap_setCell (w : World) (b o : Nat) (v : Value) (cs : Array Value) (t : TypeId) (fr : Nat × Nat) (h : w.heap[b]? = some (.cells cs t fr)) : (w.setCell ⟨b, o, none⟩ v).heap[b]? = some (.cells (cs.setIfInBounds o v) t fr) := by
  simp [World.setCell, Array.getElem?_modify, h]

theorem DiskAt.apart {w : World} {p ms mo : Nat} {D : Dk} (h : DiskAt w p ms mo D) : ms ≠ p ∧ mo ≠ p := by
  constructor
  · intro e
    obtain ⟨es, clock, hb, _⟩ := h.sm
    rw [e, h.blk] at hb
    cases hb
  · intro e
    obtain ⟨es, clock, hb, _⟩ := h.om
    rw [e, h.blk] at hb
    cases hb
theorem chg_setCell (w : World) (b o : Nat) (v : Value) : Chg (fun k => k = b) w (w.setCell ⟨b, o, none⟩ v) := (Chg.refl (fun k => k = b) w).setCell (p := ⟨b, o, none⟩) (fun _ => rfl) v
theorem DiskAt.setArmed {w : World} {p ms mo : Nat} {D : Dk} (h : DiskAt w p ms mo D) (a : Int) (h1 : 0 ≤ a) (h2 : a ≤ 9223372036854775807) : DiskAt (w.setCell ⟨p, 3, none⟩ (.int .i64 a)) p ms mo { D with armed := a } :=
  ⟨⟨h.ok.n1, h.ok.n2, h.ok.s, h.ok.o, h1, h2⟩, heap_setCell w p 3 _ _ _ _ h.blk, h.sm.chg (chg_setCell w p 3 _) h.apart.1, h.om.chg (chg_setCell w p 3 _) h.apart.2, h.ne⟩
theorem DiskAt.setDown {w : World} {p ms mo : Nat} {D : Dk} (h : DiskAt w p ms mo D) (d : Bool) : DiskAt (w.setCell ⟨p, 4, none⟩ (.bool d)) p ms mo { D with down := d } :=
  ⟨⟨h.ok.n1, h.ok.n2, h.ok.s, h.ok.o, h.ok.a1, h.ok.a2⟩, heap_setCell w p 4 _ _ _ _ h.blk, h.sm.chg (chg_setCell w p 4 _) h.apart.1, h.om.chg (chg_setCell w p 4 _) h.apart.2, h.ne⟩

set_option maxRecDepth 100000 in
set_option maxHeartbeats 1000000 in
theorem crash_any (w : World) (p ms mo : Nat) (D : Dk) (h : DiskAt w p ms mo D) :
    Calls Try.prog 131 #[.pointer (some ⟨p, 0, none⟩)] w fun e w' => e = .returned (.bool D.crash.down) ∧ DiskAt w' p ms mo D.crash ∧ Chg (fun b => b = p) w w' := by
  obtain ⟨c0, c1, c2, c3, c4⟩ := h.cells
  have f3 := h.free 3
  have f4 := h.free 4
  have ha := h.ok.a2
  have ha1 := h.ok.a1
  by_cases h1 : 0 < D.armed
  · go_enter Try.func131, Try.ntmps131
    go_wp2
    go_ret
    have e : D.crash = { D with armed := D.armed - 1, down := (D.armed - 1 == 0) } := by simp [Dk.crash, h1]; rfl
    rw [e]
    exact ⟨rfl, (h.setArmed (D.armed - 1) (by omega) (by omega)).setDown _, (chg_setCell _ _ _ _).trans (chg_setCell _ _ _ _)⟩
  · have h2 : D.armed = 0 := by omega
    have e : D.crash = D := by simp [Dk.crash, h1]
    rw [e]
    go_enter Try.func131, Try.ntmps131
    go_wp2
    go_ret
    exact ⟨rfl, h, Chg.refl _ _⟩

set_option maxRecDepth 100000 in
set_option maxHeartbeats 1000000 in
theorem dsectors_any (w : World) (p ms mo : Nat) (D : Dk) (h : DiskAt w p ms mo D) :
    Calls Try.prog 56 #[.pointer (some ⟨p, 0, none⟩)] w fun e w' => e = .returned (.int .i64 D.n) ∧ w = w' := by
  obtain ⟨c0, c1, c2, c3, c4⟩ := h.cells
  go_enter Try.func56, Try.ntmps56
  go_wp2
  go_ret
  exact ⟨rfl, rfl⟩
theorem dsectors_nil (w : World) : Calls Try.prog 56 #[.pointer none] w fun e w' => e = .returned (.int .i64 0) ∧ w = w' := by
  go_enter Try.func56, Try.ntmps56
  go_wp2
  go_ret
  exact ⟨rfl, rfl⟩
set_option maxRecDepth 100000 in
set_option maxHeartbeats 1000000 in
theorem ddown_any (w : World) (p ms mo : Nat) (D : Dk) (h : DiskAt w p ms mo D) :
    Calls Try.prog 59 #[.pointer (some ⟨p, 0, none⟩)] w fun e w' => e = .returned (.bool D.down) ∧ w = w' := by
  obtain ⟨c0, c1, c2, c3, c4⟩ := h.cells
  go_enter Try.func59, Try.ntmps59
  go_wp2
  go_ret
  exact ⟨rfl, rfl⟩
def Dk.arm (D : Dk) (n : Int) : Dk := if D.down = true then D else { D with armed := if 0 < n then n else 0 }
set_option maxRecDepth 100000 in
set_option maxHeartbeats 1000000 in
theorem darm_any (w : World) (p ms mo : Nat) (D : Dk) (h : DiskAt w p ms mo D) (n : Int) (hn : n ≤ 9223372036854775807) :
    Calls Try.prog 57 #[.pointer (some ⟨p, 0, none⟩), .int .i64 n] w fun e w' => e = .returned (.tuple #[]) ∧ DiskAt w' p ms mo (D.arm n) ∧ Chg (fun b => b = p) w w' := by
  obtain ⟨c0, c1, c2, c3, c4⟩ := h.cells
  have f3 := h.free 3
  cases hd : D.down with
  | true =>
    rw [hd] at c4
    have e : D.arm n = D := by simp [Dk.arm, hd]
    rw [e]
    go_enter Try.func57, Try.ntmps57
    go_wp2
    go_end0
    exact ⟨rfl, h, Chg.refl _ _⟩
  | false =>
    rw [hd] at c4
    by_cases h1 : 0 < n
    · have e : D.arm n = { D with armed := n } := by simp [Dk.arm, hd, h1]
      rw [e]
      go_enter Try.func57, Try.ntmps57
      go_wp2
      go_end0
      exact ⟨rfl, h.setArmed n (by omega) hn, chg_setCell _ _ _ _⟩
    · have e : D.arm n = { D with armed := 0 } := by simp [Dk.arm, hd, h1]
      rw [e]
      by_cases h4 : n = 0
      · subst h4
        clear h1
        go_enter Try.func57, Try.ntmps57
        go_wp2
        go_end0
        exact ⟨rfl, h.setArmed 0 (by omega) (by omega), chg_setCell _ _ _ _⟩
      · have h2 : n < 0 := by omega
        clear h1 h4
        go_enter Try.func57, Try.ntmps57
        go_wp2
        go_end0
        exact ⟨rfl, h.setArmed 0 (by omega) (by omega), chg_setCell _ _ _ _⟩
end Go.Proofs.Yteeamlidmkpohaa


/-
  The device: New, latest, Read.
-/
set_option linter.unusedVariables false
set_option linter.unusedSimpArgs false
namespace Go.Proofs.Yteeamlidmkpohaa
open Go.RowKit Go.Sort

def Dk.new (n : Int) : Dk := { n := n, safe := fun _ => none, opn := fun _ => none, armed := 0, down := false }

set_option maxRecDepth 100000 in
set_option maxHeartbeats 1000000 in
theorem dnew_none (w : World) (n : Int) (h : n < 1 ∨ 262144 < n) :
    Calls Try.prog 50 #[.int .i64 n] w fun e w' => e = .returned (.pointer none) ∧ w = w' := by
  rcases h with h | h
  · go_enter Try.func50, Try.ntmps50
    go_wp2
    go_ret
    exact ⟨rfl, rfl⟩
  · have h2 : ¬ n < 1 := by omega
    go_enter Try.func50, Try.ntmps50
    go_wp2
    go_ret
    exact ⟨rfl, rfl⟩

set_option maxRecDepth 100000 in
set_option maxHeartbeats 1000000 in
theorem dnew_some (w : World) (n : Int) (h1 : 1 ≤ n) (h2 : n ≤ 262144) :
    Calls Try.prog 50 #[.int .i64 n] w fun e w' => e = .returned (.pointer (some ⟨w.heap.size + 2, 0, none⟩)) ∧ DiskAt w' (w.heap.size + 2) w.heap.size (w.heap.size + 1) (Dk.new n) ∧ Below w.heap.size w w' := by
  have hmm := @run_makeMap Try.prog
  go_enter Try.func50, Try.ntmps50
  go_wp2
  go_ret
  refine ⟨rfl, ?_, below_alloc' (below_alloc' (below_alloc' (Below.refl _ _) _) _) _⟩
  refine ⟨⟨h1, h2, (by intro k l h; simp [Dk.new] at h), (by intro k l h; simp [Dk.new] at h), (by simp [Dk.new]), (by simp [Dk.new])⟩, ?_, ?_, ?_, by omega⟩
  · have := heap_alloc_new ((w.alloc (.map #[] 0)).alloc (.map #[] 0)) (.cells #[.int .i64 n, .map (some w.heap.size), .map (some (w.heap.size + 1)), .int .i64 0, .bool false] 86)
    simpa [Dk.new] using this
  · refine (MapIs.new w).of_block ?_ |>.congr (fun k => rfl)
    rw [Below.heap_alloc _ _ _ (by simp; omega), Below.heap_alloc _ _ _ (by simp)]
  · have h := MapIs.new (w.alloc (.map #[] 0))
    simp only [World.size_alloc] at h
    refine h.of_block ?_ |>.congr (fun k => rfl)
    rw [Below.heap_alloc _ _ _ (by simp)]

theorem DiskAt.alloc {w : World} {p ms mo : Nat} {D : Dk} (h : DiskAt w p ms mo D) (ob : Obj) : DiskAt (w.alloc ob) p ms mo D := h.below (below_alloc' (Below.refl _ _) ob)

set_option maxRecDepth 100000 in
set_option maxHeartbeats 1000000 in
theorem latest_any (w : World) (p ms mo : Nat) (D : Dk) (h : DiskAt w p ms mo D) (k : Int) :
    Calls Try.prog 132 #[.pointer (some ⟨p, 0, none⟩), .int .i64 k] w fun e w' => e = .returned (secV (D.latest k)) ∧ Below w.heap.size w w' := by
  have hl := h.lt
  have h1 := h.alloc (.cells (secA noughts) 162)
  obtain ⟨c0, c1, c2, c3, c4⟩ := h1.cells
  have hn512 : (secA noughts).size = 512 := by rw [secA_size, noughts_sec.1]
  cases ho : D.opn k with
  | some l =>
    have hsec := h.ok.o k l ho
    have hW := heap_alloc2_new w (.cells (secA noughts) 162) (.cells (secA l) 162)
    have hW0 := heap_alloc2_old w (.cells (secA noughts) 162) (.cells (secA l) 162)
    have e : D.latest k = l := by simp [Dk.latest, ho]
    rw [e]
    go_enter Try.func132, Try.ntmps132
    go_wp2_with (first | (refine wpList_alloc_arr rfl 162 rfl (secA noughts) (zero162 _) ?_) | (refine wpList_lookup_ok Try.underlying84 Try.underlying3 rfl _ _ rfl mo k rfl rfl _ h1.om _ (zero162 _) ?_; simp only [ho, Option.map_some, Option.getD_some, Option.isSome_some]) | (refine wpList_store_new rfl 162 _ _ rfl (secA l) (secA noughts) 162 rfl rfl (size162' hsec.1) (by rw [hn512, secA_size, hsec.1]) (secA_one l) ?_) | (refine wpList_load_row rfl 162 _ rfl (w.heap.size + 1) rfl 162 (secA l) (0, 0) _ hW Try.underlying162 rfl (size162' hsec.1) ?_) | (refine wpList_store_arr rfl 162 _ _ rfl w.heap.size (secA l) rfl rfl 162 (secA noughts) hW0 (size162' hsec.1) (by rw [hn512, secA_size, hsec.1]) (secA_one l) ?_; intro W1 hb1 hc1))
    refine bodyPost_ret (v := secV l) (results_cell_row rfl _ _ w.heap.size 162 (secA l) (0, 0) _ rfl hb1 Try.underlying162 rfl (size162' hsec.1)) rfl ⟨rfl, ?_⟩
    exact (hc1.then (Chg.refl _ _) (fun _ _ h => h)).below (B := w.heap.size) (by simp; omega) (by intro k _ e; omega) |> fun hb => (below_alloc' (below_alloc' (Below.refl _ _) _) _).trans hb
  | none =>
    have e : D.latest k = ((D.safe k).getD noughts) := by simp [Dk.latest, ho]
    have hsec : IsSec ((D.safe k).getD noughts) := by rw [← e]; exact Dk.latest_sec h.ok k
    rw [e]
    have h2 := h1.alloc (.cells (secA noughts) 162)
    obtain ⟨d0, d1, d2, d3, d4⟩ := h2.cells
    have hW0 := heap_alloc2_old w (.cells (secA noughts) 162) (.cells (secA noughts) 162)
    have eg : ((D.safe k).map secV).getD (secV noughts) = secV ((D.safe k).getD noughts) := by cases D.safe k <;> rfl
    go_enter Try.func132, Try.ntmps132
    go_wp2_with (first | (refine wpList_alloc_arr rfl 162 rfl (secA noughts) (zero162 _) ?_) | (refine wpList_lookup_ok Try.underlying84 Try.underlying3 rfl _ _ rfl mo k rfl rfl _ h1.om _ (zero162 _) ?_; simp only [ho, Option.map_none, Option.getD_none, Option.isSome_none]) | (refine wpList_store_new rfl 162 _ _ rfl (secA noughts) (secA noughts) 162 rfl rfl (size162' noughts_sec.1) rfl (secA_one noughts) ?_) | (refine wpList_lookup_1 Try.underlying84 Try.underlying3 rfl _ _ rfl ms k rfl rfl _ h2.sm _ (zero162 _) ?_; simp only [eg]) | (refine wpList_store_arr rfl 162 _ _ rfl w.heap.size (secA ((D.safe k).getD noughts)) rfl rfl 162 (secA noughts) hW0 (size162' hsec.1) (by rw [hn512, secA_size, hsec.1]) (secA_one _) ?_; intro W1 hb1 hc1))
    refine bodyPost_ret (v := secV ((D.safe k).getD noughts)) (results_cell_row rfl _ _ w.heap.size 162 (secA ((D.safe k).getD noughts)) (0, 0) _ rfl hb1 Try.underlying162 rfl (size162' hsec.1)) rfl ⟨rfl, ?_⟩
    exact (below_alloc' (below_alloc' (Below.refl _ _) _) _).trans (hc1.below (B := w.heap.size) (by simp; omega) (by intro k _ e; omega))
end Go.Proofs.Yteeamlidmkpohaa


/-
  Rows of bytes: as they are read, as they are made; SameBytes, full.
-/
set_option linter.unusedVariables false
set_option linter.unusedSimpArgs false
namespace Go.Proofs.Yteeamlidmkpohaa
open Go.RowKit Go.Sort

/-- cells in a row from an address on -/
def CellsAt (w : World) (A : Option Addr) (cs : List Value) : Prop := ∀ j u, cs[j]? = some u → ∃ ad, A = some ad ∧ w.cell? (ad.add j) = some u
/-- a slice of bytes as it is read -/
def BytesIs (w : World) (v : Value) (l : List Int) : Prop := ∃ A c, v = .slice A l.length c ∧ l.length ≤ c ∧ c ≤ maxLen ∧ CellsAt w A (bytesV l)

theorem cells_at {w : World} {g : Nat} {cs : Array Value} {t : TypeId} {fr : Nat × Nat} (h : w.heap[g]? = some (.cells cs t fr)) (j : Nat) (u : Value) (hj : cs.toList[j]? = some u) : w.cell? ((⟨g, 0, none⟩ : Addr).add j) = some u := by
  rw [Array.getElem?_toList] at hj
  have e : ((⟨g, 0, none⟩ : Addr).add j) = ⟨g, j, none⟩ := by
    unfold Addr.add
    split
    · simp_all
    · simp
  rw [e]
  simp [World.cell?, h, hj]

theorem bytesV_one (l : List Int) : ∀ u ∈ bytesV l, u.oneCell' = true := by
  intro u hu
  simp [bytesV] at hu
  obtain ⟨y, _, rfl⟩ := hu
  rfl
theorem bytesV_len (l : List Int) : (bytesV l).length = l.length := by simp [bytesV]

theorem ownsRow_empty {w : World} {base : Nat} {e : TypeId} {size g : Nat} (hb : base ≤ g) (h : w.heap[g]? = some (.cells #[] e (0, 0))) : w.ownsRow base e size (.slice (some ⟨g, 0, none⟩) 0 0) 0 [] :=
  ⟨by simp, .inr ⟨g, 0, #[], rfl, hb, h, Nat.le_refl _, Nat.zero_le _, by simp, by simp⟩⟩

/-- a call that grows a row of its own, from one that was below -/
theorem below_grown {w w1 w2 : World} {row : Option Nat} (h : Below w.heap.size w w1) (hg : w1.grownBy w2 row) (hr : ∀ k, row = some k → w.heap.size ≤ k) : Below w.heap.size w w2 :=
  ((Chg.of_below (F := fun _ => False) h).grown hg (fun k e hk => by have := hr k e; omega)).below (Nat.le_refl _) (fun k _ h => h.elim)

theorem drewN_below {B : Nat} {a w : World} (h : Below B a w) (n : Nat) : Below B a (w.drewN n) := ⟨h.os, h.tape, h.output, h.size, h.block⟩
theorem add_block (a : Addr) (j : Nat) : (a.add j).block = a.block := by
  unfold Addr.add
  split <;> simp_all
theorem cell_lt {w : World} {a : Addr} {u : Value} (h : w.cell? a = some u) : a.block < w.heap.size := by
  unfold World.cell? at h
  cases hb : w.heap[a.block]? with
  | none => simp [hb] at h
  | some o => exact (Array.getElem?_eq_some_iff.1 hb).1
theorem CellsAt.chg {F : Nat → Prop} {w w' : World} {A : Option Addr} {cs : List Value} (h : CellsAt w A cs) (hc : Chg F w w') (hF : ∀ a, A = some a → ¬ F a.block) : CellsAt w' A cs := by
  intro j u hu
  obtain ⟨ad, rfl, h1⟩ := h j u hu
  exact ⟨ad, rfl, (hc.cell (cell_lt h1) (by rw [add_block]; exact hF ad rfl)).trans h1⟩
theorem CellsAt.below {w w' : World} {A : Option Addr} {cs : List Value} (h : CellsAt w A cs) (hc : Below w.heap.size w w') : CellsAt w' A cs :=
  h.chg (Chg.of_below (F := fun _ => False) hc) (fun _ _ => id)
theorem BytesIs.chg {F : Nat → Prop} {w w' : World} {v : Value} {l : List Int} (h : BytesIs w v l) (hc : Chg F w w') (hF : ∀ k, v.ownBlock = some k → ¬ F k) : BytesIs w' v l := by
  obtain ⟨A, c, rfl, h1, hm, h2⟩ := h
  exact ⟨A, c, rfl, h1, hm, h2.chg hc (fun a e => hF _ (by subst e; rfl))⟩
theorem BytesIs.below {w w' : World} {v : Value} {l : List Int} (h : BytesIs w v l) (hc : Below w.heap.size w w') : BytesIs w' v l :=
  h.chg (Chg.of_below (F := fun _ => False) hc) (fun _ _ => id)
theorem BytesIs.drew {w : World} {v : Value} {l : List Int} (h : BytesIs w v l) : BytesIs w.drew v l := h
theorem BytesIs.of_own {w : World} {base : Nat} {v : Value} {n : Nat} {l : List Int} (hl : l.length = n) (h : w.ownsRow base 5 1 v n (bytesV l)) : BytesIs w v l := by
  subst hl
  rcases h.2 with ⟨rfl, h0⟩ | ⟨g, cap, cur, rfl, hb, hg, hn, hm, hs, ht⟩
  · exact ⟨none, 0, by rw [h0], by omega, by simp [maxLen], fun j u hu => by
      have : l = [] := List.eq_nil_of_length_eq_zero h0
      subst this; simp [bytesV] at hu⟩
  · refine ⟨some ⟨g, 0, none⟩, cap, rfl, hn, hm, fun j u hu => ⟨_, rfl, ?_⟩⟩
    exact h.cells (g := g) rfl j u hu

/-- a byte of it, as a walk reads it -/
theorem BytesIs.at_ {w : World} {A : Option Addr} {c : Nat} {l : List Int} (h : CellsAt w A (bytesV l)) (i : Nat) (hi : i < l.length) : ∃ ad, A = some ad ∧ w.cell? (ad.add i) = some (.int .u8 (l.getD i 0)) := by
  obtain ⟨ad, e, h1⟩ := h i (.int .u8 (l.getD i 0)) (by simp [bytesV, hi])
  exact ⟨ad, e, h1⟩

set_option maxRecDepth 100000 in
set_option maxHeartbeats 2000000 in
theorem sameBytes_any (w : World) (va vb : Value) (la lb : List Int) (ha : BytesIs w va la) (hb : BytesIs w vb lb) :
    Calls Try.prog 58 #[va, vb] w fun e w' => e = .returned (.bool (decide (la = lb))) ∧ Below w.heap.size w w' := by
  obtain ⟨A, ca, rfl, hca, hma, hA⟩ := ha
  have hkm : la.length ≤ 9223372036854775807 := by simp only [maxLen] at hma; omega
  obtain ⟨B, cb, rfl, hcb, hmb, hB⟩ := hb
  by_cases hl : la.length = lb.length
  · go_enter Try.func58, Try.ntmps58
    go_wp2
    go_loopw [5] (fun x wr => ∃ k : Nat, k ≤ la.length ∧ x = .int .i64 k ∧ (∀ i, i < k → la.getD i 0 = lb.getD i 0) ∧ Below w.heap.size w wr) (fun x _ => la.length - (intOf x).toNat)
    case atStart => exact ⟨0, by omega, rfl, fun i hi => by omega, Below.refl _ _⟩
    case round =>
      obtain ⟨k, hk, rfl, hsame, hbw⟩ := hrel
      by_cases hlt : k < la.length
      · obtain ⟨ad, rfl, hxa⟩ := BytesIs.at_ (c := ca) (hA.below hbw) k hlt
        obtain ⟨bd, rfl, hxb⟩ := BytesIs.at_ (c := cb) (hB.below hbw) k (by omega)
        have hlt2 : k < lb.length := by omega
        by_cases e : la.getD k 0 = lb.getD k 0
        · have e1 : (la.getD k 0 == lb.getD k 0) = true := by simpa using e
          have e2 : (la.getD k 0 != lb.getD k 0) = false := by simpa using e
          have hnext : ∀ i, i < k + 1 → la.getD i 0 = lb.getD i 0 := fun i hi => by
            by_cases ei : i = k
            · subst ei; exact e
            · exact hsame i (by omega)
          have HN := Lib.hid hnext
          generalize la.getD k 0 = xa at hxa e1 e2
          generalize lb.getD k 0 = xb at hxb e1 e2
          clear hsame e hnext
          have hw1 : wrap64 ((k : Int) + 1) = (k : Int) + 1 := by unfold wrap64; omega
          go_wp2
          repeat (go_quiet (fail); try go_wp2)
          go_roundw
          case rel =>
            exact ⟨k + 1, by omega, by go_num, HN.out, drewN_below hbw _⟩
          case measure => simp [intOf]; omega
        · have e1 : (la.getD k 0 == lb.getD k 0) = false := by simpa using e
          have e2 : (la.getD k 0 != lb.getD k 0) = true := by simpa using e
          have hne : decide (la = lb) = false := by rw [decide_eq_false_iff_not]; exact fun ee => e (by rw [ee])
          have HN := Lib.hid hne
          generalize la.getD k 0 = xa at hxa e1 e2
          generalize lb.getD k 0 = xb at hxb e1 e2
          clear hsame e hne
          go_wp2
          repeat (go_quiet (fail); try go_wp2)
          go_ret
          exact ⟨ret_b HN.out.symm, drewN_below hbw _⟩
      · have hkk : k = la.length := by omega
        subst hkk
        have heq : decide (la = lb) = true := by
          rw [decide_eq_true_iff]
          apply List.ext_getElem hl
          intro i h1 h2
          have := hsame i h1
          simpa [List.getD, h1, h2] using this
        have HN := Lib.hid heq
        clear hsame heq
        go_wp2
        go_ret
        exact ⟨ret_b HN.out.symm, hbw⟩
  · go_enter Try.func58, Try.ntmps58
    go_wp2
    go_ret
    exact ⟨ret_b (by symm; rw [decide_eq_false_iff_not]; exact fun e => hl (by rw [e])), Below.refl _ _⟩
end Go.Proofs.Yteeamlidmkpohaa


/-
  Rows of bytes that are made: full.
-/
set_option linter.unusedVariables false
set_option linter.unusedSimpArgs false
namespace Go.Proofs.Yteeamlidmkpohaa
open Go.RowKit Go.Sort

def fillTo (f : Nat → Int) (n k : Nat) : List Int := (List.range n).map fun i => if i < k then f i else 0
theorem fillTo_len (f : Nat → Int) (n k : Nat) : (fillTo f n k).length = n := by simp [fillTo]
theorem fillTo_zero (f : Nat → Int) (n : Nat) : fillTo f n 0 = List.replicate n 0 := by
  apply List.ext_getElem
  · simp [fillTo]
  · intro i h1 h2; simp [fillTo]
theorem fillTo_set (f : Nat → Int) (n k : Nat) : (fillTo f n k).set k (f k) = fillTo f n (k + 1) := by
  apply List.ext_getElem
  · simp [fillTo]
  · intro i h1 h2
    rw [List.getElem_set]
    by_cases e : k = i
    · subst e; simp [fillTo]
    · rw [if_neg e]
      simp only [fillTo, List.getElem_map, List.getElem_range]
      by_cases h : i < k
      · rw [if_pos h, if_pos (by omega)]
      · rw [if_neg h, if_neg (by omega)]

def RowB (w : World) (g : Nat) (l : List Int) : Prop := w.heap[g]? = some (.cells (secA l) 5 (0, 0))
theorem RowB.lt {w : World} {g : Nat} {l : List Int} (h : RowB w g l) : g < w.heap.size := (Array.getElem?_eq_some_iff.1 h).1
theorem RowB.chg {F : Nat → Prop} {w w' : World} {g : Nat} {l : List Int} (h : RowB w g l) (hc : Chg F w w') (hF : ¬ F g) : RowB w' g l := (hc.block g h.lt hF).trans h
theorem RowB.below {w w' : World} {g : Nat} {l : List Int} (h : RowB w g l) (hc : Below w.heap.size w w') : RowB w' g l := (hc.block g h.lt).trans h
theorem RowB.set {w : World} {g : Nat} {l : List Int} (h : RowB w g l) (k : Nat) (x : Int) : RowB (w.setCell ⟨g, k, none⟩ (.int .u8 x)) g (l.set k x) := by
  unfold RowB
  rw [heap_setCell w g k _ _ _ _ h]
  congr 2
  simp [secA, bytesV, List.map_set]
theorem RowB.cell {w : World} {g : Nat} {l : List Int} (h : RowB w g l) (i : Nat) (hi : i < l.length) : w.cell? ⟨g, i, none⟩ = some (.int .u8 (l.getD i 0)) := by
  simp [World.cell?, show w.heap[g]? = _ from h, secA, bytesV, hi]
theorem RowB.free {w : World} {g : Nat} {l : List Int} (h : RowB w g l) (i : Nat) : w.frozen? ⟨g, i, none⟩ = false := by
  simp [World.frozen?, show w.heap[g]? = _ from h]
theorem RowB.own {w : World} {g base n : Nat} {l : List Int} (h : RowB w g l) (hb : base ≤ g) (hl : l.length = n) (hm : n ≤ maxLen) : w.ownsRow base 5 1 (.slice (some ⟨g, 0, none⟩) n n) n (bytesV l) :=
  ⟨by rw [bytesV_len, hl, Nat.mul_one], .inr ⟨g, n, secA l, rfl, hb, h, Nat.le_refl _, hm, by rw [secA_size, hl, Nat.mul_one], by rw [secA, Nat.mul_one]; exact List.take_of_length_le (by rw [bytesV_len, hl]; exact Nat.le_refl _)⟩⟩
theorem rowB_made (w : World) (n : Nat) : RowB (w.alloc (.cells (madeCells #[.int .u8 0] n) 5)) w.heap.size (List.replicate n 0) := by
  unfold RowB
  rw [heap_alloc_new]
  congr 2
  apply Array.ext'
  rw [toList_madeCells_one]
  simp [secA, bytesV]

def fullF (b : Int) (i : Nat) : Int := (b + (i : Int) / 64) % 256
def fullL (b : Int) : List Int := fillTo (fullF b) 512 512
theorem fullL_sec (b : Int) : IsSec (fullL b) := by
  refine ⟨fillTo_len _ _ _, fun x hx => ?_⟩
  simp only [fullL, fillTo, List.mem_map, List.mem_range] at hx
  obtain ⟨i, hi, rfl⟩ := hx
  rw [if_pos hi, fullF]
  omega

set_option maxRecDepth 100000 in
set_option maxHeartbeats 2000000 in
theorem full_any (w : World) (b : Int) (h0 : 0 ≤ b) (h1 : b ≤ 255) :
    Calls Try.prog 53 #[.int .u8 b] w fun e w' => ∃ v, e = .returned v ∧ w'.ownsRow w.heap.size 5 1 v 512 (bytesV (fullL b)) ∧ Below w.heap.size w w' := by
  have hmk : ∀ W : World, (Instr.makeSlice 47 (.int .i64 512) (.int .i64 512)).run Try.prog W = .ok (.slice (some ⟨W.heap.size, 0, none⟩) 512 512) (W.alloc (.cells (madeCells #[.int .u8 0] 512) 5)) := fun W => Go.run_make_row' (P := Try.prog) 47 5 (.int .u8 0) 1 Try.underlying47 (by kernel_rfl) rfl .i64 .i64 512 (by omega) (by omega) W
  go_enter Try.func53, Try.ntmps53
  go_wp2
  have hrow := rowB_made w 512
  have hbe : Below w.heap.size w (w.alloc (.cells (madeCells #[Value.int .u8 0] 512) 5)) := below_alloc' (Below.refl _ _) _
  rw [← fillTo_zero (fullF b)] at hrow
  generalize w.alloc (.cells (madeCells #[Value.int .u8 0] 512) 5) = wa at hrow hbe ⊢
  have hg : w.heap.size ≤ w.heap.size := Nat.le_refl _
  generalize hgg : w.heap.size = g at hrow hg ⊢
  go_loopw [4] (fun x wr => ∃ k : Nat, k ≤ 512 ∧ x = .int .i64 k ∧ RowB wr g (fillTo (fullF b) 512 k) ∧ Below g w wr) (fun x _ => 512 - (intOf x).toNat)
  case atStart => exact ⟨0, by omega, rfl, hrow, hgg ▸ hbe⟩
  case round =>
    obtain ⟨k, hk, rfl, hr, hbw⟩ := hrel
    by_cases hlt : k < 512
    · have hc := hr.cell k (by rw [fillTo_len]; exact hlt)
      have hf := hr.free k
      go_wp2
      go_roundw
      case rel =>
        refine ⟨k + 1, by omega, by go_num, ?_, hbw.setCell (p := ⟨g, k, none⟩) hg _⟩
        have := hr.set k (fullF b k)
        rw [fillTo_set] at this
        exact this
      case measure => simp [intOf]; omega
    · obtain rfl : k = 512 := by omega
      go_wp2
      go_ret
      exact ⟨_, rfl, by rw [hgg]; exact hr.own (Nat.le_refl _) (fillTo_len _ _ _) (by simp [maxLen]), hgg ▸ hbw⟩
end Go.Proofs.Yteeamlidmkpohaa


/-
  The device: Read.
-/
set_option linter.unusedVariables false
set_option linter.unusedSimpArgs false
namespace Go.Proofs.Yteeamlidmkpohaa
open Go.RowKit Go.Sort

set_option maxRecDepth 100000 in
theorem run_empty47 (w : World) : (Instr.buildSlice 47 0 #[]).run Try.prog w = .ok (.slice (some ⟨w.heap.size, 0, none⟩) 0 0) (w.alloc (.cells #[] 5)) := by
  have hu : Try.prog.underlying 47 = some (.slice 5) := Try.underlying47
  obtain ⟨ie, hi, hz, hsize, hby⟩ := info_parts (P := Try.prog) (e := 5) (z := .int .u8 0) (size := 1) (bytes := 1) (by kernel_rfl)
  simp [Instr.buildSlice, run_underlying hu, sizeOf, typeInfo, hi, newRow, newObj, Sem.run, Result.andThen, Instr.fill]
  simp [Array.range]

set_option maxRecDepth 100000 in
set_option maxHeartbeats 1000000 in
theorem dread_ok (w : World) (p ms mo : Nat) (D : Dk) (h : DiskAt w p ms mo D) (k : Int) (hk : D.may k = 0) :
    Calls Try.prog 55 #[.pointer (some ⟨p, 0, none⟩), .int .i64 k] w fun e w' => ∃ v, e = .returned (.tuple #[v, .int .i64 0]) ∧ w'.ownsRow w.heap.size 5 1 v 512 (bytesV (D.latest k)) ∧ Below w.heap.size w w' := by
  have hsec := Dk.latest_sec h.ok k
  have hm := may_any w p ms mo D h k
  rw [hk] at hm
  have hn512 : (secA noughts).size = (secA (D.latest k)).size := by rw [secA_size, noughts_sec.1, secA_size, hsec.1]
  obtain ⟨ie, hi, hz, hsize, hby⟩ := info_parts (P := Try.prog) (e := 5) (z := .int .u8 0) (size := 1) (bytes := 1) (by kernel_rfl)
  go_enter Try.func55, Try.ntmps55
  go_wp2_with
    (first
      | (go_at_call 130; refine hm.mono ?_; rintro e w1 ⟨rfl, rfl⟩)
      | (go_at_call 132; refine (latest_any w p ms mo D h k).mono ?_; rintro e w1 ⟨rfl, hb⟩)
      | (refine wpList_alloc_arr rfl 162 rfl (secA noughts) (zero162 _) ?_)
      | (refine wpList_store_new rfl 162 _ _ rfl (secA (D.latest k)) (secA noughts) 162 rfl rfl (size162' hsec.1) hn512 (secA_one _) ?_)
      | (refine wpList_val rfl (run_empty47 _) ?_)
      | (refine wpList_append_own _ rfl _ _ 47 rfl w.heap.size 5 ie (.int .u8 0) 1 1 Try.underlying47 hi hz hsize hby rfl (by decide) (.slice (some ⟨w1.heap.size + 1, 0, none⟩) 0 0) 0 [] ?_ ?_ ⟨w1.heap.size, 0, none⟩ 512 512 (bytesV (D.latest k)) ?_ ?_ ?_ (bytesV_one _) (by decide) (by decide) ?_ ?_
         · rfl
         · exact ownsRow_empty (by have := hb.size; omega) (heap_alloc2_new w1 _ _)
         · rfl
         · rw [bytesV_len, hsec.1]
         · exact fun j u hj => cells_at (heap_alloc2_old w1 _ _) j u (by simpa [secA] using hj)
         · have := hb.size; simp; omega
         intro v' w2 hown hgr _))
  refine bodyPost_ret (v := .tuple #[v', .int .i64 0]) (by simp [results, Try.results55, go_sem]) rfl ⟨v', rfl, by simpa using hown, ?_⟩
  exact below_grown (below_alloc' (below_alloc' hb _) _) hgr (by intro k e; have := hb.size; simp [Value.ownBlock] at e; omega)
end Go.Proofs.Yteeamlidmkpohaa


/-
  The device: Write.
-/
set_option linter.unusedVariables false
set_option linter.unusedSimpArgs false
namespace Go.Proofs.Yteeamlidmkpohaa
open Go.RowKit Go.Sort

/-- what a step answers that was done: 9 where the disk crashed at it -/
def errOf (d : Bool) : Int := if d = true then 9 else 0
def Dk.put (D : Dk) (k : Int) (l : List Int) : Dk := { D with opn := fun x => if x = k then some l else D.opn x }
def Dk.write (D : Dk) (k : Int) (l : List Int) : Dk := (D.put k l).crash
theorem Dk.put_ok {D : Dk} (h : D.Ok) (k : Int) (l : List Int) (hl : IsSec l) : (D.put k l).Ok :=
  ⟨h.n1, h.n2, h.s, fun x m hm => by
    simp only [Dk.put] at hm
    by_cases e : x = k
    · rw [if_pos e] at hm; cases hm; exact hl
    · rw [if_neg e] at hm; exact h.o x m hm, h.a1, h.a2⟩

theorem map_update {P : Program} {t e : TypeId} (w : World) (ht : P.underlying t = some (.map 3 e)) (h3 : P.underlying 3 = some (.int .i64)) {b : Nat} {f : Int → Option Value} (hm : MapIs w b f) (k : Int) (v : Value) :
    ∃ w', (Instr.mapUpdate t (.map (some b)) (.int .i64 k) v).run P w = .ok () w' ∧ MapIs w' b (fun x => if x = k then some v else f x) ∧ Chg (fun i => i = b) w w' := by
  obtain ⟨es, clock, hr, hok⟩ := run_mapUpdate (P := P) ht h3 hm k v
  exact ⟨_, hr, MapIs.set hm.lt hok, chg_setBlock _ _ _⟩

theorem run_arrayAt {w : World} {a : Addr} {n c : Nat} (hn : 512 ≤ n) : (Instr.arrayAt 162 (.slice (some a) n c)).run Try.prog w = .ok (.pointer (some a)) w := by
  have hu : Try.prog.underlying 162 = some (.array 512 5) := Try.underlying162
  simp [Instr.arrayAt, run_underlying hu, Sem.run, Result.andThen, show ¬ n < 512 by omega]

set_option maxRecDepth 100000 in
set_option maxHeartbeats 1000000 in
theorem dwrite_ok (w : World) (p ms mo : Nat) (D : Dk) (h : DiskAt w p ms mo D) (k : Int) (hk : D.may k = 0) (v : Value) (l : List Int) (hv : BytesIs w v l) (hsec : IsSec l) :
    Calls Try.prog 52 #[.pointer (some ⟨p, 0, none⟩), .int .i64 k, v] w fun e w' => e = .returned (.int .i64 (errOf (D.write k l).down)) ∧ DiskAt w' p ms mo (D.write k l) ∧ Chg (fun b => b = p ∨ b = mo) w w' := by
  obtain ⟨A, c, rfl, hc, hm, hA⟩ := hv
  have hm := may_any w p ms mo D h k
  rw [hk] at hm
  have h512 := hsec.1
  obtain ⟨c0, c1, c2, c3, c4⟩ := h.cells
  obtain ⟨⟨b, o, sp⟩, rfl, hx⟩ := BytesIs.at_ (c := c) hA 0 (by omega)
  have hsp : sp = none := by
    cases sp with
    | none => rfl
    | some z =>
      exfalso
      simp only [Addr.add, World.cell?] at hx
      cases hb : w.heap[b]? with
      | none => simp [hb] at hx
      | some ob => cases ob <;> simp [hb] at hx
  subst hsp
  have hrg : w.rangeAt b o (bytesV l) := fun j u hu => by
    obtain ⟨ad, e, h1⟩ := hA j u hu
    cases e
    rwa [Addr.add_mid] at h1
  have harr := fun W : World => run_arrayAt (w := W) (a := ⟨b, o, none⟩) (n := 512) (c := c) (by omega)
  have hsz : (Try.prog.info? 162).map (·.size) = some (bytesV l).length := by rw [bytesV_len, hsec.1]; exact size162
  have hu162 : Try.prog.underlying 162 = some (.array 512 5) := Try.underlying162
  have hom := h.om
  rw [h512]
  obtain ⟨w2, hup, hm2, hc2⟩ := map_update w.drew Try.underlying84 Try.underlying3 hom k (.agg (bytesV l).toArray)
  have hbm : b ≠ mo := by
    intro e
    obtain ⟨es, clock, hb, _⟩ := hom
    rw [e] at hx
    simp [World.cell?, add_block, hb] at hx
  have hpm : p ≠ mo := fun e => h.apart.2 e.symm
  have d2 : w2.cell? ⟨p, 2, none⟩ = some (.map (some mo)) := (hc2.cell (p := ⟨p, 2, none⟩) h.lt hpm).trans c2
  have drg : w2.rangeAt b o (bytesV l) := fun j u hu => (hc2.cell (p := ⟨b, o + j, none⟩) (cell_lt (a := ⟨b, o + j, none⟩) (hrg j u hu)) hbm).trans (hrg j u hu)
  go_enter Try.func52, Try.ntmps52
  go_wp2_with
    (first
      | (go_at_call 130; refine hm.mono ?_; rintro e w1 ⟨rfl, rfl⟩))
  go_region_held3 (fun w' => w'.cell? ⟨p, 2, none⟩ = some (.map (some mo)) ∧ w'.rangeAt b o (bytesV l)) (first | exact ⟨c2, hrg⟩ | exact ⟨d2, drg⟩) (fail)
  have hW' : Chg (fun i => i = mo) w w2 := ((Chg.refl _ w).drew).trans hc2
  have hW : Chg (fun b => b = p ∨ b = mo) w w2 := hW'.mono (fun _ _ e => .inr e)
  have hD2 : DiskAt w2 p ms mo (D.put k l) := ⟨Dk.put_ok h.ok k l hsec, (hW'.block p h.lt hpm).trans h.blk, h.sm.chg hW' h.ne, hm2.congr (fun x => by simp only [Dk.put]; by_cases e : x = k <;> simp [e, secV, secA]), h.ne⟩
  clear c0 c1 c2 c3 c4 hx hA hrg harr hup hm2 d2 drg
  cases hd : (D.write k l).down with
  | true =>
    go_wp2_with
      (first
        | (go_at_call 131; refine (crash_any _ p ms mo (D.put k l) hD2).mono ?_; rintro e w3 ⟨rfl, hD3, hc3⟩; rw [show (D.put k l).crash.down = true from hd]))
    go_ret
    exact ⟨by rw [hd]; rfl, hD3, hW.then hc3 (fun _ _ e => .inl e)⟩
  | false =>
    go_wp2_with
      (first
        | (go_at_call 131; refine (crash_any _ p ms mo (D.put k l) hD2).mono ?_; rintro e w3 ⟨rfl, hD3, hc3⟩; rw [show (D.put k l).crash.down = false from hd]))
    go_ret
    exact ⟨by rw [hd]; rfl, hD3, hW.then hc3 (fun _ _ e => .inl e)⟩

set_option maxRecDepth 100000 in
set_option maxHeartbeats 1000000 in
theorem dwrite_no (w : World) (p ms mo : Nat) (D : Dk) (h : DiskAt w p ms mo D) (k : Int) (hk : D.may k ≠ 0) (v : Value) :
    Calls Try.prog 52 #[.pointer (some ⟨p, 0, none⟩), .int .i64 k, v] w fun e w' => e = .returned (.int .i64 (D.may k)) ∧ w = w' := by
  have hm := may_any w p ms mo D h k
  have h1 : (D.may k == 0) = false := by simpa using hk
  generalize D.may k = x at hm h1 hk ⊢
  go_enter Try.func52, Try.ntmps52
  go_wp2_with
    (first
      | (go_at_call 130; refine hm.mono ?_; rintro e w1 ⟨rfl, rfl⟩))
  go_ret
  exact ⟨rfl, rfl⟩
set_option maxRecDepth 100000 in
set_option maxHeartbeats 1000000 in
theorem dwrite_arg (w : World) (p ms mo : Nat) (D : Dk) (h : DiskAt w p ms mo D) (k : Int) (hk : D.may k = 0) (A : Option Addr) (n c : Nat) (hn : n ≠ 512) :
    Calls Try.prog 52 #[.pointer (some ⟨p, 0, none⟩), .int .i64 k, .slice A n c] w fun e w' => e = .returned (.int .i64 2) ∧ w = w' := by
  have hm := may_any w p ms mo D h k
  rw [hk] at hm
  have h1 : ((n : Int) == 512) = false := by simp; omega
  go_enter Try.func52, Try.ntmps52
  go_wp2_with
    (first
      | (go_at_call 130; refine hm.mono ?_; rintro e w1 ⟨rfl, rfl⟩))
  go_ret
  exact ⟨rfl, rfl⟩
set_option maxRecDepth 100000 in
set_option maxHeartbeats 1000000 in
theorem dread_no (w : World) (p ms mo : Nat) (D : Dk) (h : DiskAt w p ms mo D) (k : Int) (hk : D.may k ≠ 0) :
    Calls Try.prog 55 #[.pointer (some ⟨p, 0, none⟩), .int .i64 k] w fun e w' => e = .returned (.tuple #[.slice none 0 0, .int .i64 (D.may k)]) ∧ w = w' := by
  have hm := may_any w p ms mo D h k
  have h1 : (D.may k == 0) = false := by simpa using hk
  generalize D.may k = x at hm h1 hk ⊢
  go_enter Try.func55, Try.ntmps55
  go_wp2_with
    (first
      | (go_at_call 130; refine hm.mono ?_; rintro e w1 ⟨rfl, rfl⟩))
  exact bodyPost_ret (v := .tuple #[.slice none 0 0, .int .i64 x]) (by simp [results, Try.results55, go_sem]) rfl ⟨rfl, rfl⟩
end Go.Proofs.Yteeamlidmkpohaa


/-
  The device: Sync.
-/
set_option linter.unusedVariables false
set_option linter.unusedSimpArgs false
namespace Go.Proofs.Yteeamlidmkpohaa
open Go.RowKit Go.Sort

/-- the safe ones, as far as the open ones of T have been laid over them -/
def Dk.laid (D : Dk) (T : Int → Bool) : Dk := { D with safe := fun x => if T x = true then D.opn x else D.safe x }
def Dk.wiped (D : Dk) : Dk := { D with opn := fun _ => none }
def Dk.flush (D : Dk) : Dk := (D.laid fun x => (D.opn x).isSome).wiped
def Dk.sync (D : Dk) : Dk := if D.crash.down = true then D.crash else D.crash.flush
theorem Dk.laid_ok {D : Dk} (h : D.Ok) (T : Int → Bool) : (D.laid T).Ok :=
  ⟨h.n1, h.n2, fun x m hm => by
    simp only [Dk.laid] at hm
    by_cases e : T x = true
    · rw [if_pos e] at hm; exact h.o x m hm
    · rw [if_neg e] at hm; exact h.s x m hm, h.o, h.a1, h.a2⟩
theorem Dk.wiped_ok {D : Dk} (h : D.Ok) : D.wiped.Ok := ⟨h.n1, h.n2, h.s, fun x m hm => by simp [Dk.wiped] at hm, h.a1, h.a2⟩
theorem Dk.flush_ok {D : Dk} (h : D.Ok) : D.flush.Ok := Dk.wiped_ok (Dk.laid_ok h _)

/-- one more is laid -/
theorem DiskAt.lay {w w' : World} {p ms mo : Nat} {D : Dk} {T : Int → Bool} (h : DiskAt w p ms mo (D.laid T)) (hc : Chg (fun i => i = ms) w w') (k : Int) (l : List Int) (hk : D.opn k = some l)
    (hm : MapIs w' ms (fun x => if x = k then some (secV l) else ((D.laid T).safe x).map secV)) (hD : D.Ok) : DiskAt w' p ms mo (D.laid fun x => T x || x == k) :=
  ⟨Dk.laid_ok hD _, (hc.block p h.lt (fun e => h.apart.1 e.symm)).trans h.blk, hm.congr (fun x => by
    simp only [Dk.laid]
    by_cases e : x = k
    · subst e; simp [hk]
    · rw [if_neg e]
      have : (x == k) = false := by simpa using e
      simp [this]), h.om.chg hc (fun e => h.ne e.symm), h.ne⟩

theorem cells_162 {w : World} {g : Nat} {l : List Int} (h : w.heap[g]? = some (.cells (secA l) 162 (0, 0))) : w.rangeAt g 0 (bytesV l) := fun j u hu => by
  have := cells_at h j u (by simpa [secA] using hu)
  rwa [Addr.add_mid] at this

set_option maxRecDepth 100000 in
set_option maxHeartbeats 4000000 in
theorem dsync_ok (w : World) (p ms mo : Nat) (D : Dk) (h : DiskAt w p ms mo D) (hd0 : D.down = false) :
    Calls Try.prog 51 #[.pointer (some ⟨p, 0, none⟩)] w fun e w' => e = .returned (.int .i64 (errOf D.sync.down)) ∧ DiskAt w' p ms mo D.sync ∧ Chg (fun b => b = p ∨ b = ms ∨ b = mo) w w' := by
  have hm := may_any w p ms mo D h 0
  have hmay : D.may 0 = 0 := by have := h.ok.n1; simp [Dk.may, hd0]; omega
  rw [hmay] at hm
  cases hd : D.crash.down with
  | true =>
    have es : D.sync = D.crash := by simp [Dk.sync, hd]
    rw [es]
    go_enter Try.func51, Try.ntmps51
    go_wp2_with
      (first
        | (go_at_call 130; refine hm.mono ?_; rintro e w1 ⟨rfl, rfl⟩)
        | (go_at_call 131; refine (crash_any _ p ms mo D h).mono ?_; rintro e w3 ⟨rfl, hD3, hc3⟩; rw [hd]))
    go_ret
    exact ⟨by rw [hd]; rfl, hD3, hc3.mono (fun _ _ e => .inl e)⟩
  | false =>
    have es : D.sync = D.crash.flush := by simp [Dk.sync, hd]
    have hdf : D.crash.flush.down = false := hd
    rw [es]
    go_enter Try.func51, Try.ntmps51
    go_wp2_with
      (first
        | (go_at_call 130; refine hm.mono ?_; rintro e w1 ⟨rfl, rfl⟩)
        | (go_at_call 131; refine (crash_any _ p ms mo D h).mono ?_; rintro e w3 ⟨rfl, hD3, hc3⟩; rw [hd]; obtain ⟨c0, c1, c2, c3, c4⟩ := hD3.cells)
        | (refine wpList_range_map Try.underlying84 Try.underlying3 rfl _ rfl mo rfl _ hD3.om ?_; intro ob hit; go_simp))
    have hB : w.heap.size ≤ w3.heap.size := hc3.size
    have hD4 := hD3.alloc ob
    have hc4 : Chg (fun b => b = p ∨ b = ms ∨ b = mo) w (w3.alloc ob) := (hc3.mono (fun _ _ e => .inl e)).alloc ob
    have hlt := hD3.lt
    have hltm := hD3.sm.lt
    have hlto := hD3.om.lt
    have hok := hD3.ok
    generalize hit0 : w3.heap.size = it at hit hB hlt hltm hlto ⊢
    generalize w3.alloc ob = wa at hit hD4 hc4 ⊢
    clear hD3 hc3 hm c0 c1 c2 c3 c4 es
    generalize hE : D.crash = E at *
    go_loopw [4] (fun x wr => ∃ T : Int → Bool, (∀ k, T k = true → (E.opn k).isSome = true) ∧ IterIs wr it mo (fun k => (E.opn k).map secV) T ∧ DiskAt wr p ms mo (E.laid T) ∧ Chg (fun b => b = p ∨ b = ms ∨ b = mo) w wr) (fun _ wr => leftOf wr it mo)
    case atStart => exact ⟨fun _ => false, fun k e => (Bool.noConfusion e), hit, hD4, hc4⟩
    case round =>
      obtain ⟨T, hT, hI, hDr, hcr⟩ := hrel
      rcases run_next (P := Try.prog) hI 0 with ⟨hall, w5, hnx, hc5⟩ | ⟨k, v, w5, hkv, hTk, hnx, hc5, hI5, hlf, hen⟩
      · have hD5 := hDr.chg hc5 id id id
        obtain ⟨c0, c1, c2, c3, c4⟩ := hD5.cells
        have hTT : ∀ x, T x = (E.opn x).isSome := fun x => by
          cases ho : E.opn x with
          | none =>
            cases ht : T x with
            | false => rfl
            | true => have := hT x ht; rw [ho] at this; exact absurd this (by simp)
          | some l => exact hall x (secV l) (by simp [ho])
        go_wp2_with
          (first
            | (refine wpList_clear Try.underlying84 Try.underlying3 rfl _ rfl mo rfl _ hD5.om ?_; intro w6 hm6 hc6))
        go_ret
        subst hE
        refine ⟨by rw [hdf]; rfl, ⟨Dk.flush_ok hok, (hc6.block p hD5.lt (fun e => hD5.apart.2 e.symm)).trans hD5.blk, (hD5.sm.chg hc6 hD5.ne).congr (fun x => by simp only [Dk.laid, Dk.flush, Dk.wiped, hTT]), hm6, hD5.ne⟩, (hcr.then hc5 (fun _ _ e => e.elim)).then hc6 (fun _ _ e => .inr (.inr e))⟩
      · obtain ⟨l, hol, rfl⟩ := Option.map_eq_some_iff.1 hkv
        have hsec := hok.o k l hol
        have hr := hcr.size
        obtain ⟨li1, li2, li3⟩ := hI.lt
        have hD5 := (hDr.chg hc5 (by omega) (by omega) (by omega)).alloc (.cells (secA l) 162)
        obtain ⟨c0, c1, c2, c3, c4⟩ := hD5.cells
        have hblk := heap_alloc_new w5 (.cells (secA l) 162)
        have hrg := cells_162 hblk
        have hn512 : (secA noughts).size = (secA l).size := by rw [secA_size, noughts_sec.1, secA_size, hsec.1]
        go_wp2_with
          (first
            | (refine wpList_alloc_arr rfl 162 rfl (secA noughts) (zero162 _) ?_)
            | (refine wpList_store_new rfl 162 _ _ rfl (secA l) (secA noughts) 162 rfl rfl (size162' hsec.1) hn512 (secA_one _) ?_))
        go_simp
        have hI6 := (hI5.chg (F := fun _ => False) ((Chg.refl _ w5).alloc (.cells (secA l) 162)) id id)
        have hc6 : Chg (fun x => x = it) wr (w5.alloc (.cells (secA l) 162)) := hc5.alloc _
        have hlf6 : leftOf (w5.alloc (.cells (secA l) 162)) it mo < leftOf wr it mo := by rw [hI6.2]; exact hlf
        have hg5 : wr.heap.size ≤ w5.heap.size := hc5.size
        generalize w5.heap.size = g at hblk hrg hg5 ⊢
        generalize w5.alloc (.cells (secA l) 162) = w6 at *
        obtain ⟨w7, hup, hm7, hc7⟩ := map_update w6.drew Try.underlying84 Try.underlying3 hD5.sm k (.agg (bytesV l).toArray)
        have hc7' : Chg (fun i => i = ms) w6 w7 := ((Chg.refl _ w6).drew).trans hc7
        have hap := hDr.apart
        have hne := hDr.ne
        have hltp := hDr.lt
        have hltms := hDr.sm.lt
        have hsz : (Try.prog.info? 162).map (·.size) = some (bytesV l).length := by rw [bytesV_len, hsec.1]; exact size162
        have hu162 : Try.prog.underlying 162 = some (.array 512 5) := Try.underlying162
        have d1 : w7.cell? ⟨p, 1, none⟩ = some (.map (some ms)) := (hc7'.cell (p := ⟨p, 1, none⟩) hD5.lt (fun e => hap.1 e.symm)).trans c1
        have drg : w7.rangeAt g 0 (bytesV l) := fun j u hu => (hc7'.cell (p := ⟨g, 0 + j, none⟩) (cell_lt (a := ⟨g, 0 + j, none⟩) (hrg j u hu)) (by simp only; omega)).trans (hrg j u hu)
        go_region_held3 (fun w' => w'.cell? ⟨p, 1, none⟩ = some (.map (some ms)) ∧ w'.rangeAt g 0 (bytesV l)) (first | exact ⟨c1, hrg⟩ | exact ⟨d1, drg⟩) (fail)
        have hI7 := hI6.1.chg hc7' (by omega) (fun e => hne e.symm)
        have hD7 := hD5.lay hc7' k l hol hm7 hok
        have hT7 : ∀ x, (T x || x == k) = true → (E.opn x).isSome = true := fun x e => by
          rcases Bool.or_eq_true_iff.1 e with e | e
          · exact hT x e
          · have e : x = k := by simpa using e
            rw [e, hol]; rfl
        have hc8 : Chg (fun b => b = p ∨ b = ms ∨ b = mo) w w7 := (hcr.then hc6 (fun i hi e => by omega)).then hc7' (fun i hi e => .inr (.inl e))
        have hlf7 : leftOf w7 it mo < leftOf wr it mo := by rw [hI7.2]; exact hlf6
        clear c0 c1 c2 c3 c4 hblk hrg hup d1 drg hnx hen
        go_roundw
        case rel => exact ⟨_, _, _, _, _, _, _, _, _, _, _, _, _, ⟨fun x => T x || x == k, hT7, hI7.1, hD7, hc8⟩, rfl⟩
        case measure => exact hlf7
end Go.Proofs.Yteeamlidmkpohaa
