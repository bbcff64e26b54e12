/-
  Rows of bytes: as they are read, as they are made; SameBytes, full.
-/
import Derived.Test.YteeamlidmkpohaaDa
set_option linter.unusedVariables false
set_option linter.unusedSimpArgs false
namespace Go.Proofs.Yteeamlidmkpohaa
open Go.RowKit Go.Sort

/-- cells in a row from an address on -/
def CellsAt (w : World) (A : Option Addr) (cs : List Value) : Prop := ∀ j u, cs[j]? = some u → ∃ ad, A = some ad ∧ w.cell? (ad.add j) = some u
/-- a slice of bytes as it is read -/
def BytesIs (w : World) (v : Value) (l : List Int) : Prop := ∃ A c, v = .slice A l.length c ∧ l.length ≤ c ∧ c ≤ maxLen ∧ CellsAt w A (bytesV l)

theorem cells_at {w : World} {g : Nat} {cs : Array Value} {t : TypeId} {fr : Nat × Nat} (h : w.heap[g]? = some (.cells cs t fr)) (j : Nat) (u : Value) (hj : cs.toList[j]? = some u) : w.cell? ((⟨g, 0, none⟩ : Addr).add j) = some u := by
  rw [Array.getElem?_toList] at hj
  have e : ((⟨g, 0, none⟩ : Addr).add j) = ⟨g, j, none⟩ := by
    unfold Addr.add
    split
    · simp_all
    · simp
  rw [e]
  simp [World.cell?, h, hj]

theorem bytesV_one (l : List Int) : ∀ u ∈ bytesV l, u.oneCell' = true := by
  intro u hu
  simp [bytesV] at hu
  obtain ⟨y, _, rfl⟩ := hu
  rfl
theorem bytesV_len (l : List Int) : (bytesV l).length = l.length := by simp [bytesV]

theorem ownsRow_empty {w : World} {base : Nat} {e : TypeId} {size g : Nat} (hb : base ≤ g) (h : w.heap[g]? = some (.cells #[] e (0, 0))) : w.ownsRow base e size (.slice (some ⟨g, 0, none⟩) 0 0) 0 [] :=
  ⟨by simp, .inr ⟨g, 0, #[], rfl, hb, h, Nat.le_refl _, Nat.zero_le _, by simp, by simp⟩⟩

/-- a call that grows a row of its own, from one that was below -/
theorem below_grown {w w1 w2 : World} {row : Option Nat} (h : Below w.heap.size w w1) (hg : w1.grownBy w2 row) (hr : ∀ k, row = some k → w.heap.size ≤ k) : Below w.heap.size w w2 :=
  ((Chg.of_below (F := fun _ => False) h).grown hg (fun k e hk => by have := hr k e; omega)).below (Nat.le_refl _) (fun k _ h => h.elim)

theorem drewN_below {B : Nat} {a w : World} (h : Below B a w) (n : Nat) : Below B a (w.drewN n) := ⟨h.os, h.tape, h.output, h.size, h.block⟩
theorem add_block (a : Addr) (j : Nat) : (a.add j).block = a.block := by
  unfold Addr.add
  split <;> simp_all
theorem cell_lt {w : World} {a : Addr} {u : Value} (h : w.cell? a = some u) : a.block < w.heap.size := by
  unfold World.cell? at h
  cases hb : w.heap[a.block]? with
  | none => simp [hb] at h
  | some o => exact (Array.getElem?_eq_some_iff.1 hb).1
theorem CellsAt.chg {F : Nat → Prop} {w w' : World} {A : Option Addr} {cs : List Value} (h : CellsAt w A cs) (hc : Chg F w w') (hF : ∀ a, A = some a → ¬ F a.block) : CellsAt w' A cs := by
  intro j u hu
  obtain ⟨ad, rfl, h1⟩ := h j u hu
  exact ⟨ad, rfl, (hc.cell (cell_lt h1) (by rw [add_block]; exact hF ad rfl)).trans h1⟩
theorem CellsAt.below {w w' : World} {A : Option Addr} {cs : List Value} (h : CellsAt w A cs) (hc : Below w.heap.size w w') : CellsAt w' A cs :=
  h.chg (Chg.of_below (F := fun _ => False) hc) (fun _ _ => id)
theorem BytesIs.chg {F : Nat → Prop} {w w' : World} {v : Value} {l : List Int} (h : BytesIs w v l) (hc : Chg F w w') (hF : ∀ k, v.ownBlock = some k → ¬ F k) : BytesIs w' v l := by
  obtain ⟨A, c, rfl, h1, hm, h2⟩ := h
  exact ⟨A, c, rfl, h1, hm, h2.chg hc (fun a e => hF _ (by subst e; rfl))⟩
theorem BytesIs.below {w w' : World} {v : Value} {l : List Int} (h : BytesIs w v l) (hc : Below w.heap.size w w') : BytesIs w' v l :=
  h.chg (Chg.of_below (F := fun _ => False) hc) (fun _ _ => id)
theorem BytesIs.drew {w : World} {v : Value} {l : List Int} (h : BytesIs w v l) : BytesIs w.drew v l := h
theorem BytesIs.of_own {w : World} {base : Nat} {v : Value} {n : Nat} {l : List Int} (hl : l.length = n) (h : w.ownsRow base 5 1 v n (bytesV l)) : BytesIs w v l := by
  subst hl
  rcases h.2 with ⟨rfl, h0⟩ | ⟨g, cap, cur, rfl, hb, hg, hn, hm, hs, ht⟩
  · exact ⟨none, 0, by rw [h0], by omega, by simp [maxLen], fun j u hu => by
      have : l = [] := List.eq_nil_of_length_eq_zero h0
      subst this; simp [bytesV] at hu⟩
  · refine ⟨some ⟨g, 0, none⟩, cap, rfl, hn, hm, fun j u hu => ⟨_, rfl, ?_⟩⟩
    exact h.cells (g := g) rfl j u hu

/-- a byte of it, as a walk reads it -/
theorem BytesIs.at_ {w : World} {A : Option Addr} {c : Nat} {l : List Int} (h : CellsAt w A (bytesV l)) (i : Nat) (hi : i < l.length) : ∃ ad, A = some ad ∧ w.cell? (ad.add i) = some (.int .u8 (l.getD i 0)) := by
  obtain ⟨ad, e, h1⟩ := h i (.int .u8 (l.getD i 0)) (by simp [bytesV, hi])
  exact ⟨ad, e, h1⟩

set_option maxRecDepth 100000 in
set_option maxHeartbeats 2000000 in
theorem sameBytes_any (w : World) (va vb : Value) (la lb : List Int) (ha : BytesIs w va la) (hb : BytesIs w vb lb) :
    Calls Try.prog 58 #[va, vb] w fun e w' => e = .returned (.bool (decide (la = lb))) ∧ Below w.heap.size w w' := by
  obtain ⟨A, ca, rfl, hca, hma, hA⟩ := ha
  have hkm : la.length ≤ 9223372036854775807 := by simp only [maxLen] at hma; omega
  obtain ⟨B, cb, rfl, hcb, hmb, hB⟩ := hb
  by_cases hl : la.length = lb.length
  · go_enter Try.func58, Try.ntmps58
    go_wp2
    go_loopw [5] (fun x wr => ∃ k : Nat, k ≤ la.length ∧ x = .int .i64 k ∧ (∀ i, i < k → la.getD i 0 = lb.getD i 0) ∧ Below w.heap.size w wr) (fun x _ => la.length - (intOf x).toNat)
    case atStart => exact ⟨0, by omega, rfl, fun i hi => by omega, Below.refl _ _⟩
    case round =>
      obtain ⟨k, hk, rfl, hsame, hbw⟩ := hrel
      by_cases hlt : k < la.length
      · obtain ⟨ad, rfl, hxa⟩ := BytesIs.at_ (c := ca) (hA.below hbw) k hlt
        obtain ⟨bd, rfl, hxb⟩ := BytesIs.at_ (c := cb) (hB.below hbw) k (by omega)
        have hlt2 : k < lb.length := by omega
        by_cases e : la.getD k 0 = lb.getD k 0
        · have e1 : (la.getD k 0 == lb.getD k 0) = true := by simpa using e
          have e2 : (la.getD k 0 != lb.getD k 0) = false := by simpa using e
          have hnext : ∀ i, i < k + 1 → la.getD i 0 = lb.getD i 0 := fun i hi => by
            by_cases ei : i = k
            · subst ei; exact e
            · exact hsame i (by omega)
          have HN := Lib.hid hnext
          generalize la.getD k 0 = xa at hxa e1 e2
          generalize lb.getD k 0 = xb at hxb e1 e2
          clear hsame e hnext
          have hw1 : wrap64 ((k : Int) + 1) = (k : Int) + 1 := by unfold wrap64; omega
          go_wp2
          repeat (go_quiet (fail); try go_wp2)
          go_roundw
          case rel =>
            exact ⟨k + 1, by omega, by go_num, HN.out, drewN_below hbw _⟩
          case measure => simp [intOf]; omega
        · have e1 : (la.getD k 0 == lb.getD k 0) = false := by simpa using e
          have e2 : (la.getD k 0 != lb.getD k 0) = true := by simpa using e
          have hne : decide (la = lb) = false := by rw [decide_eq_false_iff_not]; exact fun ee => e (by rw [ee])
          have HN := Lib.hid hne
          generalize la.getD k 0 = xa at hxa e1 e2
          generalize lb.getD k 0 = xb at hxb e1 e2
          clear hsame e hne
          go_wp2
          repeat (go_quiet (fail); try go_wp2)
          go_ret
          exact ⟨ret_b HN.out.symm, drewN_below hbw _⟩
      · have hkk : k = la.length := by omega
        subst hkk
        have heq : decide (la = lb) = true := by
          rw [decide_eq_true_iff]
          apply List.ext_getElem hl
          intro i h1 h2
          have := hsame i h1
          simpa [List.getD, h1, h2] using this
        have HN := Lib.hid heq
        clear hsame heq
        go_wp2
        go_ret
        exact ⟨ret_b HN.out.symm, hbw⟩
  · go_enter Try.func58, Try.ntmps58
    go_wp2
    go_ret
    exact ⟨ret_b (by symm; rw [decide_eq_false_iff_not]; exact fun e => hl (by rw [e])), Below.refl _ _⟩
end Go.Proofs.Yteeamlidmkpohaa
