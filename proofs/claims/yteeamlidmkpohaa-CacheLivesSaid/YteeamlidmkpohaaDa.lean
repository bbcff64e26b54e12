/-
  The device: what a disk is in memory, and its smaller functions.
-/
import Derived.Test.YteeamlidmkpohaaProg
import Derived.Test.YteeamlidmkpohaaOps
set_option linter.unusedVariables false
set_option linter.unusedSimpArgs false
namespace Go.Proofs.Yteeamlidmkpohaa
open Go.RowKit Go.Sort

/-! ### plain words -/
/-- a sector: 512 bytes -/
def IsSec (l : List Int) : Prop := l.length = 512 ∧ ∀ x ∈ l, 0 ≤ x ∧ x ≤ 255
def noughts : List Int := List.replicate 512 0
theorem noughts_sec : IsSec noughts := ⟨List.length_replicate, fun x hx => by rw [noughts, List.mem_replicate] at hx; omega⟩
def bytesV (l : List Int) : List Value := l.map (Value.int .u8 ·)
def secA (l : List Int) : Array Value := (bytesV l).toArray
def secV (l : List Int) : Value := .agg (secA l)
theorem secA_size (l : List Int) : (secA l).size = l.length := by simp [secA, bytesV]
theorem secA_one (l : List Int) : (secA l).all (·.oneCell') = true := by
  rw [Array.all_eq_true_iff_forall_mem]
  intro x hx
  simp [secA, bytesV] at hx
  obtain ⟨y, _, rfl⟩ := hx
  rfl

/-- a disk: how many sectors, the safe ones, the open ones, when it crashes, whether it has -/
structure Dk where
  n : Int
  safe : Int → Option (List Int)
  opn : Int → Option (List Int)
  armed : Int
  down : Bool

structure Dk.Ok (D : Dk) : Prop where
  n1 : 1 ≤ D.n
  n2 : D.n ≤ 262144
  s : ∀ k l, D.safe k = some l → IsSec l
  o : ∀ k l, D.opn k = some l → IsSec l
  a1 : 0 ≤ D.armed
  a2 : D.armed ≤ 9223372036854775807

def Dk.may (D : Dk) (k : Int) : Int := if D.down = true then 9 else if k < 0 then 6 else if D.n ≤ k then 6 else 0
def Dk.latest (D : Dk) (k : Int) : List Int := ((D.opn k).orElse fun _ => D.safe k).getD noughts
theorem Dk.latest_sec {D : Dk} (h : D.Ok) (k : Int) : IsSec (D.latest k) := by
  unfold Dk.latest
  cases h1 : D.opn k with
  | some l => exact h.o k l h1
  | none =>
    cases h2 : D.safe k with
    | some l => simpa [h2] using h.s k l h2
    | none => simpa [h2] using noughts_sec

/-! ### in memory -/
structure DiskAt (w : World) (p ms mo : Nat) (D : Dk) : Prop where
  ok : D.Ok
  blk : w.heap[p]? = some (.cells #[.int .i64 D.n, .map (some ms), .map (some mo), .int .i64 D.armed, .bool D.down] 86 (0, 0))
  sm : MapIs w ms (fun k => (D.safe k).map secV)
  om : MapIs w mo (fun k => (D.opn k).map secV)
  ne : ms ≠ mo

theorem DiskAt.lt {w : World} {p ms mo : Nat} {D : Dk} (h : DiskAt w p ms mo D) : p < w.heap.size := (Array.getElem?_eq_some_iff.1 h.blk).1
theorem DiskAt.cells {w : World} {p ms mo : Nat} {D : Dk} (h : DiskAt w p ms mo D) :
    w.cell? ⟨p, 0, none⟩ = some (.int .i64 D.n) ∧ w.cell? ⟨p, 1, none⟩ = some (.map (some ms)) ∧ w.cell? ⟨p, 2, none⟩ = some (.map (some mo)) ∧ w.cell? ⟨p, 3, none⟩ = some (.int .i64 D.armed) ∧ w.cell? ⟨p, 4, none⟩ = some (.bool D.down) := by
  refine ⟨?_, ?_, ?_, ?_, ?_⟩ <;> simp [World.cell?, h.blk]
theorem DiskAt.free {w : World} {p ms mo : Nat} {D : Dk} (h : DiskAt w p ms mo D) (i : Nat) : w.frozen? ⟨p, i, none⟩ = false := by
  simp [World.frozen?, h.blk]
theorem DiskAt.chg {F : Nat → Prop} {w w' : World} {p ms mo : Nat} {D : Dk} (h : DiskAt w p ms mo D) (hc : Chg F w w') (h1 : ¬ F p) (h2 : ¬ F ms) (h3 : ¬ F mo) : DiskAt w' p ms mo D :=
  ⟨h.ok, (hc.block p h.lt h1).trans h.blk, h.sm.chg hc h2, h.om.chg hc h3, h.ne⟩
theorem DiskAt.below {w w' : World} {p ms mo : Nat} {D : Dk} (h : DiskAt w p ms mo D) (hc : Below w.heap.size w w') : DiskAt w' p ms mo D :=
  h.chg (Chg.of_below (F := fun _ => False) hc) id id id

/-! ### types -/
theorem zero162 (w : World) : (zeroValue 162).run Try.prog w = .ok (secV noughts) w := by kernel_rfl
theorem size162 : (Try.prog.info? 162).map (·.size) = some 512 := by kernel_rfl
theorem size162' {l : List Int} (h : l.length = 512) : (Try.prog.info? 162).map (·.size) = some (secA l).size := by rw [size162, secA_size, h]

set_option maxRecDepth 100000 in
set_option maxHeartbeats 1000000 in
theorem may_any (w : World) (p ms mo : Nat) (D : Dk) (h : DiskAt w p ms mo D) (k : Int) :
    Calls Try.prog 130 #[.pointer (some ⟨p, 0, none⟩), .int .i64 k] w fun e w' => e = .returned (.int .i64 (D.may k)) ∧ w = w' := by
  obtain ⟨c0, c1, c2, c3, c4⟩ := h.cells
  have hn1 := h.ok.n1
  have hn2 := h.ok.n2
  have hz : (D.n == 0) = false := by simp; omega
  cases hd : D.down with
  | true =>
    rw [hd] at c4
    go_enter Try.func130, Try.ntmps130
    go_wp2
    go_ret
    exact ⟨ret_i (by simp [Dk.may, hd]), rfl⟩
  | false =>
    rw [hd] at c4
    by_cases h1 : k < 0
    · go_enter Try.func130, Try.ntmps130
      go_wp2
      go_ret
      exact ⟨ret_i (by simp [Dk.may, hd, h1]), rfl⟩
    · by_cases h2 : D.n ≤ k
      · go_enter Try.func130, Try.ntmps130
        go_wp2
        go_ret
        exact ⟨ret_i (by simp [Dk.may, hd, h2]), rfl⟩
      · have h3 : k < D.n := by omega
        go_enter Try.func130, Try.ntmps130
        go_wp2
        go_ret
        exact ⟨ret_i (by rw [Dk.may, hd, if_neg (by simp), if_neg (by omega), if_neg (by omega)]), rfl⟩

/-! ### what becomes of the disk's own block -/
def Dk.crash (D : Dk) : Dk := if 0 < D.armed then { D with armed := D.armed - 1, down := decide (D.armed - 1 = 0) } else D
theorem Dk.crash_ok {D : Dk} (h : D.Ok) : D.crash.Ok := by
  unfold Dk.crash
  split
  · exact ⟨h.n1, h.n2, h.s, h.o, by have := h.a1; show 0 ≤ D.armed - 1; omega, by have := h.a2; show D.armed - 1 ≤ _; omega⟩
  · exact h

theorem heap_setCell (w : World) (b o : Nat) (v : Value) (cs : Array Value) (t : TypeId) (fr : Nat × Nat) (h : w.heap[b]? = some (.cells cs t fr)) : (w.setCell ⟨b, o, none⟩ v).heap[b]? = some (.cells (cs.setIfInBounds o v) t fr) := by
  simp [World.setCell, Array.getElem?_modify, h]

theorem DiskAt.apart {w : World} {p ms mo : Nat} {D : Dk} (h : DiskAt w p ms mo D) : ms ≠ p ∧ mo ≠ p := by
  constructor
  · intro e
    obtain ⟨es, clock, hb, _⟩ := h.sm
    rw [e, h.blk] at hb
    cases hb
  · intro e
    obtain ⟨es, clock, hb, _⟩ := h.om
    rw [e, h.blk] at hb
    cases hb
theorem chg_setCell (w : World) (b o : Nat) (v : Value) : Chg (fun k => k = b) w (w.setCell ⟨b, o, none⟩ v) := (Chg.refl (fun k => k = b) w).setCell (p := ⟨b, o, none⟩) (fun _ => rfl) v
theorem DiskAt.setArmed {w : World} {p ms mo : Nat} {D : Dk} (h : DiskAt w p ms mo D) (a : Int) (h1 : 0 ≤ a) (h2 : a ≤ 9223372036854775807) : DiskAt (w.setCell ⟨p, 3, none⟩ (.int .i64 a)) p ms mo { D with armed := a } :=
  ⟨⟨h.ok.n1, h.ok.n2, h.ok.s, h.ok.o, h1, h2⟩, heap_setCell w p 3 _ _ _ _ h.blk, h.sm.chg (chg_setCell w p 3 _) h.apart.1, h.om.chg (chg_setCell w p 3 _) h.apart.2, h.ne⟩
theorem DiskAt.setDown {w : World} {p ms mo : Nat} {D : Dk} (h : DiskAt w p ms mo D) (d : Bool) : DiskAt (w.setCell ⟨p, 4, none⟩ (.bool d)) p ms mo { D with down := d } :=
  ⟨⟨h.ok.n1, h.ok.n2, h.ok.s, h.ok.o, h.ok.a1, h.ok.a2⟩, heap_setCell w p 4 _ _ _ _ h.blk, h.sm.chg (chg_setCell w p 4 _) h.apart.1, h.om.chg (chg_setCell w p 4 _) h.apart.2, h.ne⟩

set_option maxRecDepth 100000 in
set_option maxHeartbeats 1000000 in
theorem crash_any (w : World) (p ms mo : Nat) (D : Dk) (h : DiskAt w p ms mo D) :
    Calls Try.prog 131 #[.pointer (some ⟨p, 0, none⟩)] w fun e w' => e = .returned (.bool D.crash.down) ∧ DiskAt w' p ms mo D.crash ∧ Chg (fun b => b = p) w w' := by
  obtain ⟨c0, c1, c2, c3, c4⟩ := h.cells
  have f3 := h.free 3
  have f4 := h.free 4
  have ha := h.ok.a2
  have ha1 := h.ok.a1
  by_cases h1 : 0 < D.armed
  · go_enter Try.func131, Try.ntmps131
    go_wp2
    go_ret
    have e : D.crash = { D with armed := D.armed - 1, down := (D.armed - 1 == 0) } := by simp [Dk.crash, h1]; rfl
    rw [e]
    exact ⟨rfl, (h.setArmed (D.armed - 1) (by omega) (by omega)).setDown _, (chg_setCell _ _ _ _).trans (chg_setCell _ _ _ _)⟩
  · have h2 : D.armed = 0 := by omega
    have e : D.crash = D := by simp [Dk.crash, h1]
    rw [e]
    go_enter Try.func131, Try.ntmps131
    go_wp2
    go_ret
    exact ⟨rfl, h, Chg.refl _ _⟩

set_option maxRecDepth 100000 in
set_option maxHeartbeats 1000000 in
theorem dsectors_any (w : World) (p ms mo : Nat) (D : Dk) (h : DiskAt w p ms mo D) :
    Calls Try.prog 56 #[.pointer (some ⟨p, 0, none⟩)] w fun e w' => e = .returned (.int .i64 D.n) ∧ w = w' := by
  obtain ⟨c0, c1, c2, c3, c4⟩ := h.cells
  go_enter Try.func56, Try.ntmps56
  go_wp2
  go_ret
  exact ⟨rfl, rfl⟩
theorem dsectors_nil (w : World) : Calls Try.prog 56 #[.pointer none] w fun e w' => e = .returned (.int .i64 0) ∧ w = w' := by
  go_enter Try.func56, Try.ntmps56
  go_wp2
  go_ret
  exact ⟨rfl, rfl⟩
set_option maxRecDepth 100000 in
set_option maxHeartbeats 1000000 in
theorem ddown_any (w : World) (p ms mo : Nat) (D : Dk) (h : DiskAt w p ms mo D) :
    Calls Try.prog 59 #[.pointer (some ⟨p, 0, none⟩)] w fun e w' => e = .returned (.bool D.down) ∧ w = w' := by
  obtain ⟨c0, c1, c2, c3, c4⟩ := h.cells
  go_enter Try.func59, Try.ntmps59
  go_wp2
  go_ret
  exact ⟨rfl, rfl⟩
def Dk.arm (D : Dk) (n : Int) : Dk := if D.down = true then D else { D with armed := if 0 < n then n else 0 }
set_option maxRecDepth 100000 in
set_option maxHeartbeats 1000000 in
theorem darm_any (w : World) (p ms mo : Nat) (D : Dk) (h : DiskAt w p ms mo D) (n : Int) (hn : n ≤ 9223372036854775807) :
    Calls Try.prog 57 #[.pointer (some ⟨p, 0, none⟩), .int .i64 n] w fun e w' => e = .returned (.tuple #[]) ∧ DiskAt w' p ms mo (D.arm n) ∧ Chg (fun b => b = p) w w' := by
  obtain ⟨c0, c1, c2, c3, c4⟩ := h.cells
  have f3 := h.free 3
  cases hd : D.down with
  | true =>
    rw [hd] at c4
    have e : D.arm n = D := by simp [Dk.arm, hd]
    rw [e]
    go_enter Try.func57, Try.ntmps57
    go_wp2
    go_end0
    exact ⟨rfl, h, Chg.refl _ _⟩
  | false =>
    rw [hd] at c4
    by_cases h1 : 0 < n
    · have e : D.arm n = { D with armed := n } := by simp [Dk.arm, hd, h1]
      rw [e]
      go_enter Try.func57, Try.ntmps57
      go_wp2
      go_end0
      exact ⟨rfl, h.setArmed n (by omega) hn, chg_setCell _ _ _ _⟩
    · have e : D.arm n = { D with armed := 0 } := by simp [Dk.arm, hd, h1]
      rw [e]
      by_cases h4 : n = 0
      · subst h4
        clear h1
        go_enter Try.func57, Try.ntmps57
        go_wp2
        go_end0
        exact ⟨rfl, h.setArmed 0 (by omega) (by omega), chg_setCell _ _ _ _⟩
      · have h2 : n < 0 := by omega
        clear h1 h4
        go_enter Try.func57, Try.ntmps57
        go_wp2
        go_end0
        exact ⟨rfl, h.setArmed 0 (by omega) (by omega), chg_setCell _ _ _ _⟩
end Go.Proofs.Yteeamlidmkpohaa
