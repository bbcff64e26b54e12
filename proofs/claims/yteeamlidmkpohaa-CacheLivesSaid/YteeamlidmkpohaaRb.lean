/-
  The reference's disk in memory, and its smaller functions.
-/
import Derived.Test.YteeamlidmkpohaaRa
import Derived.Deep.AppendLies
import Derived.Laws.OwnMore
set_option linter.unusedVariables false
set_option linter.unusedSimpArgs false
namespace Go.Proofs.Yteeamlidmkpohaa
open Go.RowKit Go.Sort

theorem rowOwn_chg {F : Nat → Prop} {w w' : World} {base : Nat} {e : TypeId} {size n : Nat} {v : Value} {xs : List Value} (h : w.ownsRow base e size v n xs) (hc : Chg F w w') (hF : ∀ k, v.ownBlock = some k → ¬ F k) : w'.ownsRow base e size v n xs := by
  obtain ⟨h1, h2⟩ := h
  refine ⟨h1, ?_⟩
  rcases h2 with h2 | ⟨g, cap, cur, rfl, hg, hh, r⟩
  · exact .inl h2
  · exact .inr ⟨g, cap, cur, rfl, hg, (hc.block g (Array.getElem?_eq_some_iff.1 hh).1 (hF g rfl)).trans hh, r⟩
theorem rowOwn_below {w w' : World} {base : Nat} {e : TypeId} {size n : Nat} {v : Value} {xs : List Value} (h : w.ownsRow base e size v n xs) (hc : Below w.heap.size w w') : w'.ownsRow base e size v n xs :=
  rowOwn_chg h (Chg.of_below (F := fun _ => False) hc) (fun _ _ => id)
theorem rowOwn_block {w : World} {base : Nat} {e : TypeId} {size n : Nat} {v : Value} {xs : List Value} (h : w.ownsRow base e size v n xs) {k : Nat} (hk : v.ownBlock = some k) : ∃ cs, w.heap[k]? = some (.cells cs e (0, 0)) := by
  rcases h.2 with ⟨rfl, _⟩ | ⟨g, cap, cur, rfl, hg, hh, r⟩
  · cases hk
  · cases hk; exact ⟨_, hh⟩

/-- the blocks that a reference's disk writes -/
def MF (r : Nat) (lv : Value) : Nat → Prop := fun k => k = r ∨ lv.ownBlock = some k
/-- a row's bytes are what it says, in blocks of Y -/
structure RowAt (w : World) (Y : Nat → Prop) (x : RS) : Prop where
  la : BytesIs w x.vl x.la
  sa : BytesIs w x.vs x.sa
  yl : ∀ k, x.vl.ownBlock = some k → Y k
  ys : ∀ k, x.vs.ownBlock = some k → Y k
/-- block r is a reference's disk that tells D; its list is lv; its bytes lie in blocks of Y -/
structure RefR (w0 w : World) (r : Nat) (lv : Value) (L : List RS) (Y : Nat → Prop) (D : Dk) : Prop where
  blk : w.heap[r]? = some (.cells #[.int .i64 D.n, lv, .int .i64 D.armed, .bool D.down] 174 (0, 0))
  own : w.ownsRow w0.heap.size 179 4 lv L.length (flat L)
  rows : ∀ (i : Nat) (x : RS), L[i]? = some x → RowAt w Y x
  gr : w0.heap.size ≤ r
  y : ∀ k, Y k → w0.heap.size ≤ k ∧ k < w.heap.size ∧ k ≠ r ∧ lv.ownBlock ≠ some k
  sz : w0.heap.size ≤ w.heap.size
structure Ref (w0 w : World) (r : Nat) (lv : Value) (L : List RS) (Y : Nat → Prop) (D : Dk) : Prop extends RefR w0 w r lv L Y D where
  ok : D.Ok
  rel : Rel L D

section
variable {w0 w w' : World} {r : Nat} {lv : Value} {L : List RS} {Y : Nat → Prop} {D : Dk}
theorem RefR.lt (h : RefR w0 w r lv L Y D) : r < w.heap.size := (Array.getElem?_eq_some_iff.1 h.blk).1
theorem RefR.ne (h : RefR w0 w r lv L Y D) : lv.ownBlock ≠ some r := fun e => by
  obtain ⟨cs, hb⟩ := rowOwn_block h.own e
  rw [h.blk] at hb
  cases hb
theorem RefR.mf (h : RefR w0 w r lv L Y D) : ∀ k, MF r lv k → w0.heap.size ≤ k ∧ k < w.heap.size := fun k e => by
  rcases e with rfl | e
  · exact ⟨h.gr, h.lt⟩
  · exact h.own.lt k e
theorem Ref.len (h : Ref w0 w r lv L Y D) : L.length ≤ 262144 := by
  have := h.rel.len (by have := h.ok.n1; omega)
  have := h.ok.n2
  omega
theorem RefR.form (h : RefR w0 w r lv L Y D) : ∃ A c, lv = .slice A L.length c := by
  rcases h.own.2 with ⟨h1, h2⟩ | ⟨g, cap, cur, h1, _⟩
  · exact ⟨none, 0, by rw [h1, h2]⟩
  · exact ⟨_, _, h1⟩
theorem RefR.cells (h : RefR w0 w r lv L Y D) : w.cell? ⟨r, 0, none⟩ = some (.int .i64 D.n) ∧ w.cell? ⟨r, 1, none⟩ = some lv ∧ w.cell? ⟨r, 2, none⟩ = some (.int .i64 D.armed) ∧ w.cell? ⟨r, 3, none⟩ = some (.bool D.down) := by
  refine ⟨?_, ?_, ?_, ?_⟩ <;> simp [World.cell?, h.blk]
theorem RefR.free (h : RefR w0 w r lv L Y D) (i : Nat) : w.frozen? ⟨r, i, none⟩ = false := by
  simp [World.frozen?, h.blk]
theorem RowAt.chg {F : Nat → Prop} {x : RS} (h : RowAt w Y x) (hc : Chg F w w') (hY : ∀ k, Y k → ¬ F k) : RowAt w' Y x :=
  ⟨h.la.chg hc (fun k e => hY k (h.yl k e)), h.sa.chg hc (fun k e => hY k (h.ys k e)), h.yl, h.ys⟩
theorem RowAt.more {Y' : Nat → Prop} {x : RS} (h : RowAt w Y x) (hY : ∀ k, Y k → Y' k) : RowAt w Y' x :=
  ⟨h.la, h.sa, fun k e => hY k (h.yl k e), fun k e => hY k (h.ys k e)⟩
/-- a step elsewhere -/
theorem RefR.chg {F : Nat → Prop} (h : RefR w0 w r lv L Y D) (hc : Chg F w w') (hM : ∀ k, MF r lv k → ¬ F k) (hY : ∀ k, Y k → ¬ F k) : RefR w0 w' r lv L Y D :=
  ⟨(hc.block r h.lt (hM r (.inl rfl))).trans h.blk, rowOwn_chg h.own hc (fun k e => hM k (.inr e)), fun i x hx => (h.rows i x hx).chg hc hY, h.gr, fun k e => ⟨(h.y k e).1, Nat.lt_of_lt_of_le (h.y k e).2.1 hc.size, (h.y k e).2.2⟩, Nat.le_trans h.sz hc.size⟩
theorem RefR.below (h : RefR w0 w r lv L Y D) (hc : Below w.heap.size w w') : RefR w0 w' r lv L Y D := h.chg (Chg.of_below (F := fun _ => False) hc) (fun _ _ => id) (fun _ _ => id)
theorem RefR.drew (h : RefR w0 w r lv L Y D) : RefR w0 w.drew r lv L Y D := h.chg (F := fun _ => False) (Chg.refl _ _).drew (fun _ _ => id) (fun _ _ => id)
theorem RefR.drewN (h : RefR w0 w r lv L Y D) (n : Nat) : RefR w0 (w.drewN n) r lv L Y D := h.chg (F := fun _ => False) ((Chg.refl _ _).drewN n) (fun _ _ => id) (fun _ _ => id)
theorem Ref.chg {F : Nat → Prop} (h : Ref w0 w r lv L Y D) (hc : Chg F w w') (hM : ∀ k, MF r lv k → ¬ F k) (hY : ∀ k, Y k → ¬ F k) : Ref w0 w' r lv L Y D :=
  ⟨h.toRefR.chg hc hM hY, h.ok, h.rel⟩
theorem Ref.below (h : Ref w0 w r lv L Y D) (hc : Below w.heap.size w w') : Ref w0 w' r lv L Y D := h.chg (Chg.of_below (F := fun _ => False) hc) (fun _ _ => id) (fun _ _ => id)
theorem Ref.alloc (h : Ref w0 w r lv L Y D) (ob : Obj) : Ref w0 (w.alloc ob) r lv L Y D := h.below (below_alloc' (Below.refl _ _) ob)
theorem Ref.drew (h : Ref w0 w r lv L Y D) : Ref w0 w.drew r lv L Y D := h.chg (F := fun _ => False) (Chg.refl _ _).drew (fun _ _ => id) (fun _ _ => id)
/-- its own block is written -/
theorem Ref.self (h : Ref w0 w r lv L Y D) {D' : Dk} (i : Nat) (v : Value) (hD : D'.Ok) (e1 : D'.opn = D.opn) (e2 : D'.safe = D.safe) (e3 : D'.n = D.n)
    (hb : (#[.int .i64 D.n, lv, .int .i64 D.armed, .bool D.down] : Array Value).setIfInBounds i v = #[.int .i64 D'.n, lv, .int .i64 D'.armed, .bool D'.down]) : Ref w0 (w.setCell ⟨r, i, none⟩ v) r lv L Y D' := by
  have hc := chg_setCell w r i v
  refine ⟨⟨?_, rowOwn_chg h.own hc (fun k e => fun e2 => h.ne (by rw [e, e2])), fun i x hx => (h.rows i x hx).chg hc (fun k e => (h.y k e).2.2.1), h.gr, fun k e => ⟨(h.y k e).1, by simpa using (h.y k e).2.1, (h.y k e).2.2⟩, by simpa using h.sz⟩, hD, h.rel.congr e1 e2 e3⟩
  rw [heap_setCell w r i v _ _ _ h.blk, hb]
theorem Ref.setArmed (h : Ref w0 w r lv L Y D) (a : Int) (h1 : 0 ≤ a) (h2 : a ≤ 9223372036854775807) : Ref w0 (w.setCell ⟨r, 2, none⟩ (.int .i64 a)) r lv L Y { D with armed := a } :=
  h.self 2 _ ⟨h.ok.n1, h.ok.n2, h.ok.s, h.ok.o, h1, h2⟩ rfl rfl rfl rfl
theorem Ref.setDown (h : Ref w0 w r lv L Y D) (d : Bool) : Ref w0 (w.setCell ⟨r, 3, none⟩ (.bool d)) r lv L Y { D with down := d } :=
  h.self 3 _ ⟨h.ok.n1, h.ok.n2, h.ok.s, h.ok.o, h.ok.a1, h.ok.a2⟩ rfl rfl rfl rfl
end

section
variable {w0 w : World} {r : Nat} {lv : Value} {L : List RS} {Y : Nat → Prop} {D : Dk}

set_option maxRecDepth 100000
theorem rnew_none (w : World) (n : Int) (h : n < 1 ∨ 262144 < n) :
    Calls Try.prog 70 #[.int .i64 n] w fun e w' => e = .returned (.pointer none) ∧ w = w' := by
  rcases h with h | h
  · go_enter Try.func70, Try.ntmps70
    go_wp2
    go_ret
    exact ⟨rfl, rfl⟩
  · have h2 : ¬ n < 1 := by omega
    go_enter Try.func70, Try.ntmps70
    go_wp2
    go_ret
    exact ⟨rfl, rfl⟩
theorem Ref.new (w0 w : World) (hb : Below w0.heap.size w0 w) (n : Int) (h1 : 1 ≤ n) (h2 : n ≤ 262144) :
    Calls Try.prog 70 #[.int .i64 n] w fun e w' => e = .returned (.pointer (some ⟨w.heap.size, 0, none⟩)) ∧ Ref w0 w' w.heap.size (.slice none 0 0) [] (fun _ => False) (Dk.new n) ∧ Below w.heap.size w w' := by
  go_enter Try.func70, Try.ntmps70
  go_wp2
  go_ret
  refine ⟨rfl, ⟨⟨?_, World.ownsRow_nil _ _ _ _, by simp, hb.size, fun _ h => h.elim, by have := hb.size; simp; omega⟩, ⟨h1, h2, (by intro k l h; simp [Dk.new] at h), (by intro k l h; simp [Dk.new] at h), (by simp [Dk.new]), (by simp [Dk.new])⟩, Rel.new n⟩, below_alloc' (Below.refl _ _) _⟩
  exact heap_alloc_new w _
theorem Ref.isDown (h : Ref w0 w r lv L Y D) : Calls Try.prog 72 #[.pointer (some ⟨r, 0, none⟩)] w fun e w' => e = .returned (.bool D.down) ∧ w = w' := by
  obtain ⟨c0, c1, c2, c3⟩ := h.cells
  go_enter Try.func72, Try.ntmps72
  go_wp2
  go_ret
  exact ⟨rfl, rfl⟩
theorem Ref.sectors (h : Ref w0 w r lv L Y D) : Calls Try.prog 112 #[.pointer (some ⟨r, 0, none⟩)] w fun e w' => e = .returned (.int .i64 D.n) ∧ w = w' := by
  obtain ⟨c0, c1, c2, c3⟩ := h.cells
  go_enter Try.func112, Try.ntmps112
  go_wp2
  go_ret
  exact ⟨rfl, rfl⟩
set_option maxHeartbeats 400000 in
theorem Ref.arm (h : Ref w0 w r lv L Y D) (n : Int) (hn : n ≤ 9223372036854775807) :
    Calls Try.prog 140 #[.pointer (some ⟨r, 0, none⟩), .int .i64 n] w fun e w' => e = .returned (.tuple #[]) ∧ Ref w0 w' r lv L Y (D.arm n) ∧ Chg (fun b => b = r) w w' := by
  obtain ⟨c0, c1, c2, c3⟩ := h.cells
  have f2 := h.free 2
  cases hd : D.down with
  | true =>
    rw [hd] at c3
    have e : D.arm n = D := by simp [Dk.arm, hd]
    rw [e]
    go_enter Try.func140, Try.ntmps140
    go_wp2
    go_end0
    exact ⟨rfl, h, Chg.refl _ _⟩
  | false =>
    rw [hd] at c3
    by_cases h1 : 0 < n
    · have e : D.arm n = { D with armed := n } := by simp [Dk.arm, hd, h1]
      rw [e]
      go_enter Try.func140, Try.ntmps140
      go_wp2
      go_end0
      exact ⟨rfl, h.setArmed n (by omega) hn, chg_setCell _ _ _ _⟩
    · have e : D.arm n = { D with armed := 0 } := by simp [Dk.arm, hd, h1]
      rw [e]
      by_cases h4 : n = 0
      · subst h4
        clear h1
        go_enter Try.func140, Try.ntmps140
        go_wp2
        go_end0
        exact ⟨rfl, h.setArmed 0 (by omega) (by omega), chg_setCell _ _ _ _⟩
      · have h2 : n < 0 := by omega
        clear h1 h4
        go_enter Try.func140, Try.ntmps140
        go_wp2
        go_end0
        exact ⟨rfl, h.setArmed 0 (by omega) (by omega), chg_setCell _ _ _ _⟩
set_option maxHeartbeats 400000 in
theorem Ref.crashes (h : Ref w0 w r lv L Y D) (hd : D.down = false) :
    Calls Try.prog 176 #[.pointer (some ⟨r, 0, none⟩)] w fun e w' => e = .returned (.bool D.crash.down) ∧ Ref w0 w' r lv L Y D.crash ∧ Chg (fun b => b = r) w w' := by
  obtain ⟨c0, c1, c2, c3⟩ := h.cells
  have f2 := h.free 2
  have f3 := h.free 3
  have ha := h.ok.a2
  have ha1 := h.ok.a1
  by_cases h1 : 0 < D.armed
  · go_enter Try.func176, Try.ntmps176
    go_wp2
    go_ret
    have e : D.crash = { D with armed := D.armed - 1, down := (D.armed - 1 == 0) } := by simp [Dk.crash, h1]; rfl
    rw [e]
    exact ⟨rfl, (h.setArmed (D.armed - 1) (by omega) (by omega)).setDown _, (chg_setCell _ _ _ _).trans (chg_setCell _ _ _ _)⟩
  · have h2 : D.armed < 1 := by omega
    have e : D.crash = D := by simp [Dk.crash, h1]
    rw [e, hd]
    go_enter Try.func176, Try.ntmps176
    go_wp2
    go_ret
    exact ⟨rfl, h, Chg.refl _ _⟩

/-- a row of the list, as a walk reads it -/
theorem RefR.row (h : RefR w0 w r lv L Y D) {i : Nat} (hi : i < L.length) : ∃ g c x, lv = .slice (some ⟨g, 0, none⟩) L.length c ∧ L[i]? = some x ∧ w.cell? ⟨g, i * 4, none⟩ = some (.int .i64 x.n) ∧ w.cell? ⟨g, i * 4 + 1, none⟩ = some x.vl ∧ w.cell? ⟨g, i * 4 + 2, none⟩ = some x.vs ∧ w.cell? ⟨g, i * 4 + 3, none⟩ = some (.bool x.op) := by
  have hx : L[i]? = some L[i] := List.getElem?_eq_getElem hi
  obtain ⟨g, cap, rfl, _, _⟩ := h.own.form (by omega)
  obtain ⟨a0, a1, a2, a3⟩ := flat_at L i _ hx
  have q : ∀ j, j < 4 → w.cell? ⟨g, i * 4 + j, none⟩ = (flat L)[i * 4 + j]? := fun j hj => h.own.cellAt (i * 4 + j) (by omega)
  exact ⟨g, cap, _, rfl, hx, (q 0 (by omega)).trans a0, (q 1 (by omega)).trans a1, (q 2 (by omega)).trans a2, (q 3 (by omega)).trans a3⟩

set_option maxHeartbeats 1000000 in
theorem Ref.find_at (h : Ref w0 w r lv L Y D) (i : Nat) (x : RS) (hx : L[i]? = some x) :
    Calls Try.prog 145 #[.pointer (some ⟨r, 0, none⟩), .int .i64 x.n] w fun e w' => e = .returned (.int .i64 i) ∧ w = w' := by
  obtain ⟨c0, c1, c2, c3⟩ := h.cells
  have hi : i < L.length := (List.getElem?_eq_some_iff.1 hx).1
  have hlen := h.len
  obtain ⟨A, c, rfl⟩ := h.form
  go_enter Try.func145, Try.ntmps145
  go_wp2
  go_loop [5] (fun t => ∃ k : Nat, k ≤ i ∧ t = .int .i64 k) (fun t => i - (intOf t).toNat)
  case atStart => exact ⟨0, by omega, rfl⟩
  case round =>
    obtain ⟨k, hk, rfl⟩ := hrel
    obtain ⟨g, c', y, hv, hy, d0, d1, d2, d3⟩ := h.row (i := k) (by omega)
    cases hv
    have hlt : k < L.length := by omega
    by_cases e : y.n = x.n
    · obtain rfl : k = i := h.rel.uniq k i y x hy hx e
      rw [hx] at hy
      cases hy
      have H := Lib.hid hx
      clear hx e
      go_wp2
      go_ret
      exact ⟨rfl, rfl⟩
    · have hki : k < i := by
        rcases Nat.lt_or_eq_of_le hk with h1 | h1
        · exact h1
        · subst h1
          rw [hx] at hy
          cases hy
          exact absurd rfl e
      have e1 : (y.n == x.n) = false := by simpa using e
      have H := Lib.hid hx
      have H2 := Lib.hid hy
      clear hx hy
      go_wp2
      go_round
      case rel => exact ⟨k + 1, by omega, by go_num⟩
      case measure => simp [intOf]; omega
set_option maxHeartbeats 1000000 in
theorem Ref.find_no (h : Ref w0 w r lv L Y D) (n : Int) (hn : ∀ (i : Nat) (x : RS), L[i]? = some x → x.n ≠ n) :
    Calls Try.prog 145 #[.pointer (some ⟨r, 0, none⟩), .int .i64 n] w fun e w' => e = .returned (.int .i64 (-1)) ∧ w = w' := by
  obtain ⟨c0, c1, c2, c3⟩ := h.cells
  have hlen := h.len
  obtain ⟨A, c, rfl⟩ := h.form
  have HN := Lib.hid hn
  clear hn
  go_enter Try.func145, Try.ntmps145
  go_wp2
  go_loop [5] (fun t => ∃ k : Nat, k ≤ L.length ∧ t = .int .i64 k) (fun t => L.length - (intOf t).toNat)
  case atStart => exact ⟨0, by omega, rfl⟩
  case round =>
    obtain ⟨k, hk, rfl⟩ := hrel
    by_cases hlt : k < L.length
    · obtain ⟨g, c', y, hv, hy, d0, d1, d2, d3⟩ := h.row hlt
      cases hv
      have e := HN.out k y hy
      have e1 : (y.n == n) = false := by simpa using e
      have H2 := Lib.hid hy
      clear hy
      go_wp2
      go_round
      case rel => exact ⟨k + 1, by omega, by go_num⟩
      case measure => simp [intOf]; omega
    · obtain rfl : k = L.length := by omega
      go_wp2
      go_ret
      exact ⟨rfl, rfl⟩
end
end Go.Proofs.Yteeamlidmkpohaa
