/-
  The device: Wake.
-/
import Derived.Test.YteeamlidmkpohaaZaa
import Derived.Deep.AppendSrc
import Derived.Laws.AppendOwn
import Derived.Deep.AppendLies
import Derived.Laws.OwnMore
set_option linter.unusedVariables false
set_option linter.unusedSimpArgs false
namespace Go.Proofs.Yteeamlidmkpohaa
open Go.RowKit Go.Sort

def intsV (l : List Int) : List Value := l.map (Value.int .i64 ·)
/-- a slice of ints, or of structs of one int, as it is read -/
def IntsIs (w : World) (v : Value) (l : List Int) : Prop := ∃ A c, v = .slice A l.length c ∧ l.length ≤ c ∧ c ≤ maxLen ∧ CellsAt w A (intsV l)
theorem IntsIs.chg {F : Nat → Prop} {w w' : World} {v : Value} {l : List Int} (h : IntsIs w v l) (hc : Chg F w w') (hF : ∀ k, v.ownBlock = some k → ¬ F k) : IntsIs w' v l := by
  obtain ⟨A, c, rfl, h1, hm, h2⟩ := h
  exact ⟨A, c, rfl, h1, hm, h2.chg hc (fun a e => hF _ (by subst e; rfl))⟩
theorem IntsIs.at_ {w : World} {A : Option Addr} {l : List Int} (h : CellsAt w A (intsV l)) (i : Nat) (hi : i < l.length) : ∃ ad, A = some ad ∧ w.cell? (ad.add i) = some (.int .i64 (l.getD i 0)) := by
  obtain ⟨ad, e, h1⟩ := h i (.int .i64 (l.getD i 0)) (by simp [intsV, hi])
  exact ⟨ad, e, h1⟩
theorem IntsIs.below {w w' : World} {v : Value} {l : List Int} (h : IntsIs w v l) (hc : Below w.heap.size w w') : IntsIs w' v l := h.chg (Chg.of_below (F := fun _ => False) hc) (fun _ _ => id)
theorem IntsIs.lt {w : World} {v : Value} {l : List Int} (h : IntsIs w v l) (hl : l ≠ []) : ∀ k, v.ownBlock = some k → k < w.heap.size := by
  obtain ⟨A, c, rfl, _, _, hA⟩ := h
  intro k e
  obtain ⟨ad, rfl, hx⟩ := IntsIs.at_ hA 0 (List.length_pos_iff.2 hl)
  have := cell_lt hx
  rw [add_block] at this
  simp [Value.ownBlock] at e
  omega
theorem IntsIs.nil (w : World) : IntsIs w (.slice none 0 0) [] := ⟨none, 0, rfl, Nat.le_refl _, by simp [maxLen], fun j u h => by simp [intsV] at h⟩

def Dk.kept (D : Dk) (fs : List Int) : Dk := D.laid fun x => fs.contains x && (D.opn x).isSome
def Dk.wake (D : Dk) (fs : List Int) : Dk := { (D.kept fs).wiped with armed := 0, down := false }
def Dk.calm (D : Dk) : Dk := { D with armed := 0, down := false }
theorem Dk.calm_ok {D : Dk} (h : D.Ok) : D.calm.Ok := ⟨h.n1, h.n2, h.s, h.o, by simp [Dk.calm], by simp [Dk.calm]⟩

theorem zc162 : Try.zeroCells162 = secA noughts := by kernel_rfl
theorem zc_size : Try.zeroCells162.size = 512 := by rw [zc162, secA_size]; exact noughts_sec.1
theorem look_up {P : Program} {t e : TypeId} (ht : P.underlying t = some (.map 3 e)) (h3 : P.underlying 3 = some (.int .i64)) {b : Nat} {f : Int → Option Value} (k : Int) (z : Value) (hz : ∀ w, (zeroValue e).run P w = .ok z w) :
    ∀ W, MapIs W b f → (Instr.lookup t (.map (some b)) (.int .i64 k) true).run P W = .ok (.tuple #[(f k).getD z, .bool (f k).isSome]) W := fun W hm => (run_lookup ht h3 hm k z (hz W)).1
theorem run_alloc_arr {P : Program} (t : TypeId) (z : Array Value) (w : World) (hz : (zeroValue t).run P w = .ok (.agg z) w) : (Instr.alloc t true (.tuple #[])).run P w = .ok (.pointer (some ⟨w.heap.size, 0, none⟩)) (w.alloc (.cells z t)) := by
  simp [Instr.alloc, hz, newVar, newRow, newObj, Sem.run, Result.andThen, Value.cells]
theorem chg_setCells (w : World) (b o : Nat) (vs : List Value) : Chg (fun k => k = b) w (w.setCells b o vs) := by
  induction vs generalizing w o with
  | nil => exact Chg.refl _ _
  | cons v r ih => exact (chg_setCell w b o v).trans (ih _ _)

theorem DiskAt.drew {w : World} {p ms mo : Nat} {D : Dk} (h : DiskAt w p ms mo D) : DiskAt w.drew p ms mo D := ⟨h.ok, h.blk, h.sm, h.om, h.ne⟩
theorem take_contains {fs : List Int} {k : Nat} {z : Int} (hk : k < fs.length) (hz : fs.getD k 0 = z) (x : Int) : (fs.take (k + 1)).contains x = ((fs.take k).contains x || x == z) := by
  have e : fs[k]? = some z := by
    rw [List.getElem?_eq_getElem hk]
    simp [List.getD, hk] at hz
    rw [hz]
  rw [List.take_add_one, e]
  rw [Bool.eq_iff_iff]
  simp [or_comm]
theorem kept_none {D : Dk} {fs : List Int} {k : Nat} {z : Int} (hk : k < fs.length) (hz : fs.getD k 0 = z) (h : (D.opn z).isSome = false) : D.calm.kept (fs.take (k + 1)) = D.calm.kept (fs.take k) := by
  unfold Dk.kept
  congr 1
  funext x
  rw [take_contains hk hz]
  by_cases e : x = z
  · subst e
    show (_ && (D.opn x).isSome) = (_ && (D.opn x).isSome)
    rw [h]; simp
  · have : (x == z) = false := by simpa using e
    rw [this, Bool.or_false]
theorem kept_some {D : Dk} {fs : List Int} {k : Nat} {z : Int} (hk : k < fs.length) (hz : fs.getD k 0 = z) (h : (D.opn z).isSome = true) : D.calm.kept (fs.take (k + 1)) = D.calm.laid (fun x => (fs.take k).contains x && (D.opn x).isSome || x == z) := by
  unfold Dk.kept
  congr 1
  funext x
  rw [take_contains hk hz]
  by_cases e : x = z
  · subst e
    show (_ && (D.opn x).isSome) = _
    rw [h]; simp
  · have : (x == z) = false := by simpa using e
    rw [this, Bool.or_false, Bool.or_false]
    rfl

theorem there_162 {w : World} {g : Nat} {cs : Array Value} (h : w.heap[g]? = some (.cells cs 162 (0, 0))) (hs : cs.size = 512) : w.there g 0 512 := fun j hj => by
  simp [World.cell?, World.frozen?, h, hs, hj]

set_option maxRecDepth 100000 in
set_option maxHeartbeats 4000000 in
theorem dwake_any (w : World) (p ms mo : Nat) (D : Dk) (h : DiskAt w p ms mo D) (v : Value) (fs : List Int) (hf : IntsIs w v fs) (hne0 : fs ≠ [] → ∀ k, v.ownBlock = some k → k ≠ p ∧ k ≠ ms ∧ k ≠ mo) :
    Calls Try.prog 54 #[.pointer (some ⟨p, 0, none⟩), v] w fun e w' => e = .returned (.tuple #[]) ∧ DiskAt w' p ms mo (D.wake fs) ∧ Chg (fun b => b = p ∨ b = ms ∨ b = mo) w w' := by
  obtain ⟨A, c, rfl, hc, hm, hA⟩ := hf
  obtain ⟨c0, c1, c2, c3, c4⟩ := h.cells
  have f3 := h.free 3
  have f4 := h.free 4
  have hn1 := h.ok.n1
  have hz : (D.n == 0) = false := by simp; omega
  have hwk : D.wake fs = (D.calm.kept fs).wiped := rfl
  rw [hwk]
  clear hwk
  go_enter Try.func54, Try.ntmps54
  go_wp2
  have hD1 : DiskAt ((w.setCell ⟨p, 4, none⟩ (.bool false)).setCell ⟨p, 3, none⟩ (.int .i64 0)) p ms mo D.calm := (h.setDown false).setArmed 0 (by omega) (by omega)
  have hc1 : Chg (fun b => b = p ∨ b = ms ∨ b = mo) w ((w.setCell ⟨p, 4, none⟩ (.bool false)).setCell ⟨p, 3, none⟩ (.int .i64 0)) := ((chg_setCell w p 4 _).trans (chg_setCell _ p 3 _)).mono (fun _ _ e => .inl e)
  generalize (w.setCell ⟨p, 4, none⟩ (.bool false)).setCell ⟨p, 3, none⟩ (.int .i64 0) = wa at hD1 hc1 ⊢
  clear c0 c1 c2 c3 c4 f3 f4 hz
  have hok := hD1.ok
  have hap := h.apart
  have hnem := h.ne
  have hl1 := h.lt
  have hl2 := h.sm.lt
  have hl3 := h.om.lt
  have hlen : fs.length ≤ 9223372036854775807 := by simp only [maxLen] at hm; omega
  go_loopw [25] (fun x wr => ∃ k : Nat, k ≤ fs.length ∧ x = .int .i64 k ∧ DiskAt wr p ms mo (D.calm.kept (fs.take k)) ∧ Chg (fun b => b = p ∨ b = ms ∨ b = mo) w wr) (fun x _ => fs.length - (intOf x).toNat)
  case atStart => exact ⟨0, by omega, rfl, (by rw [List.take_zero]; exact hD1), hc1⟩
  case round =>
    obtain ⟨k, hk, rfl, hDr, hcr⟩ := hrel
    by_cases hlt : k < fs.length
    · have hne := hne0 (by rintro rfl; simp at hlt)
      clear hne0
      obtain ⟨ad, rfl, hxa⟩ := IntsIs.at_ (hA.chg hcr (fun a e => by subst e; have := hne a.block rfl; omega)) k hlt
      generalize hz : fs.getD k 0 = z at hxa
      have hsz := hcr.size
      have hxb := heap_alloc_new wr (.cells #[.int .i64 z] 51)
      have hDb := hDr.alloc (.cells #[.int .i64 z] 51)
      have hsec : IsSec ((D.opn z).getD noughts) := by
        cases ho : D.opn z with
        | none => exact noughts_sec
        | some l => exact hok.o z l ho
      have hlk := look_up Try.underlying84 Try.underlying3 (b := mo) (f := fun x => ((D.calm.kept (fs.take k)).opn x).map secV) z (secV noughts) (e := 162) zero162
      have eg : (((D.calm.kept (fs.take k)).opn z).map secV).getD (secV noughts) = secV ((D.opn z).getD noughts) := by
        show ((D.opn z).map secV).getD (secV noughts) = _
        cases D.opn z <;> rfl
      have eb : (((D.calm.kept (fs.take k)).opn z).map secV).isSome = (D.opn z).isSome := by
        show ((D.opn z).map secV).isSome = _
        cases D.opn z <;> rfl
      rw [eg, eb] at hlk
      have hopn : ∀ l, (D.opn z).isSome = true → (D.opn z).getD noughts = l → (D.calm).opn z = some l := fun l h1 h2 => by
        show D.opn z = some l
        cases ho : D.opn z with
        | none => rw [ho] at h1; cases h1
        | some m => rw [ho] at h2; rw [← h2]; rfl
      have hnone : (D.opn z).isSome = false → D.calm.kept (fs.take (k + 1)) = D.calm.kept (fs.take k) := fun e => kept_none hlt hz e
      have hsome : (D.opn z).isSome = true → D.calm.kept (fs.take (k + 1)) = D.calm.laid (fun x => (fs.take k).contains x && (D.opn x).isSome || x == z) := fun e => kept_some hlt hz e
      generalize (D.opn z).getD noughts = l at hsec hlk hopn
      generalize (D.opn z).isSome = ob at hlk hopn hnone hsome
      go_wp2
      have hbs : (wr.alloc (.cells #[.int .i64 z] 51)).heap.size = wr.heap.size + 1 := by simp
      have hcb : Chg (fun b => b = p ∨ b = ms ∨ b = mo) w (wr.alloc (.cells #[.int .i64 z] 51)) := hcr.alloc _
      generalize wr.heap.size = g at hsz hxb hbs ⊢
      generalize wr.alloc (.cells #[.int .i64 z] 51) = wb at hxb hDb hbs hcb ⊢
      obtain ⟨c0, c1, c2, c3, c4⟩ := hDb.cells
      have cx : wb.cell? ⟨g, 0, none⟩ = some (.int .i64 z) := by simp [World.cell?, hxb]
      have hblk := heap_alloc_new wb (.cells Try.zeroCells162 162)
      rw [hbs] at hblk
      have hth : (wb.alloc (.cells Try.zeroCells162 162)).drew.there (g + 1) 0 512 := there_162 hblk zc_size
      have hsz1 : (Try.prog.info? 162).map (·.size) = some (secA l).size := size162' hsec.1
      have hone := bytesV_one l
      have hone2 := secA_one l
      have hs512 : (secA l).size = 512 := by rw [secA_size]; exact hsec.1
      have hb512 : (bytesV l).length = 512 := by rw [bytesV_len]; exact hsec.1
      have hD1 : DiskAt (wb.alloc (.cells Try.zeroCells162 162)).drew p ms mo (D.calm.kept (fs.take k)) := (DiskAt.alloc hDb (.cells Try.zeroCells162 162)).drew
      have hchg := chg_setCells (wb.alloc (.cells Try.zeroCells162 162)).drew (g + 1) 0 (bytesV l)
      have hD2 := hD1.chg hchg (by omega) (by omega) (by omega)
      have S0 : wb.drew.cell? ⟨p, 2, none⟩ = some (.map (some mo)) ∧ wb.drew.cell? ⟨g, 0, none⟩ = some (.int .i64 z) ∧ MapIs wb.drew mo (fun x => ((D.calm.kept (fs.take k)).opn x).map secV) := ⟨c2, cx, hDb.om⟩
      have cx1 : (wb.alloc (.cells Try.zeroCells162 162)).drew.cell? ⟨g, 0, none⟩ = some (.int .i64 z) := (World.cell?_alloc_some wb ⟨g, 0, none⟩ _ (by rw [cx]; rfl)).trans cx
      have S1 := And.intro hD1.cells.2.2.1 (And.intro cx1 hD1.om)
      have cx2 := (hchg.cell (p := ⟨g, 0, none⟩) (by have := cell_lt cx1; exact this) (by simp only; omega)).trans cx1
      have S2 := And.intro hD2.cells.2.2.1 (And.intro cx2 hD2.om)
      go_region_held3 (fun w' => w'.cell? ⟨p, 2, none⟩ = some (.map (some mo)) ∧ w'.cell? ⟨g, 0, none⟩ = some (.int .i64 z) ∧ MapIs w' mo (fun x => ((D.calm.kept (fs.take k)).opn x).map secV)) (first | exact S0 | exact S1 | exact S2) (fail)
      all_goals
        have hI := World.rangeAt_setCells_same (wb.alloc (.cells Try.zeroCells162 162)).drew (g + 1) 0 (bytesV l) (by rw [hb512]; exact hth)
        have hc2 : Chg (fun b => b = p ∨ b = ms ∨ b = mo) w ((wb.alloc (.cells Try.zeroCells162 162)).drew.setCells (g + 1) 0 (bytesV l)) := ((hcb.alloc (.cells Try.zeroCells162 162)).drew).then hchg (fun i hi e => by omega)
        generalize (wb.alloc (.cells Try.zeroCells162 162)).drew.setCells (g + 1) 0 (bytesV l) = w2 at hI hc2 hD2 cx2 ⊢
        clear S0 S1 S2 cx1 hD1 hchg hth hblk c0 c1 c2 c3 c4 cx hxb hbs hxa
        obtain ⟨c0, c1, c2, c3, c4⟩ := hD2.cells
        cases ob with
        | false =>
          go_wp2
          go_roundw
          case rel => exact ⟨k + 1, by omega, by go_num, hnone rfl ▸ hD2, hc2⟩
          case measure => simp [intOf]; omega
        | true =>
          go_wp2
          obtain ⟨w7, hup, hm7, hc7⟩ := map_update w2.drew Try.underlying84 Try.underlying3 hD2.sm z (.agg (bytesV l).toArray)
          have hc7' : Chg (fun i => i = ms) w2 w7 := ((Chg.refl _ w2).drew).trans hc7
          have hsz := hsz1
          rw [hs512, ← hb512] at hsz
          have hu162 : Try.prog.underlying 162 = some (.array 512 5) := Try.underlying162
          have d1 : w7.cell? ⟨p, 1, none⟩ = some (.map (some ms)) := (hc7'.cell (p := ⟨p, 1, none⟩) hD2.lt (fun e => hap.1 e.symm)).trans c1
          have dx : w7.cell? ⟨g, 0, none⟩ = some (.int .i64 z) := (hc7'.cell (p := ⟨g, 0, none⟩) (cell_lt cx2) (by simp only; omega)).trans cx2
          have drg : w7.rangeAt (g + 1) 0 (bytesV l) := fun j u hu => (hc7'.cell (p := ⟨g + 1, 0 + j, none⟩) (cell_lt (a := ⟨g + 1, 0 + j, none⟩) (hI j u hu)) (by simp only; omega)).trans (hI j u hu)
          go_region_held3 (fun w' => w'.cell? ⟨p, 1, none⟩ = some (.map (some ms)) ∧ w'.cell? ⟨g, 0, none⟩ = some (.int .i64 z) ∧ w'.rangeAt (g + 1) 0 (bytesV l)) (first | exact ⟨c1, cx2, hI⟩ | exact ⟨d1, dx, drg⟩) (fail)
          all_goals
            have hD7 := hD2.lay hc7' z l (hopn l (by simp) rfl) hm7 hok
            have hc8 : Chg (fun b => b = p ∨ b = ms ∨ b = mo) w w7 := hc2.trans (hc7'.mono (fun i hi e => .inr (.inl e)))
            have hk1 := hsome (by simp)
            have hD8 : DiskAt w7 p ms mo (D.calm.kept (fs.take (k + 1))) := by rw [hk1]; exact hD7
            clear c0 c1 c2 c3 c4 hI hup d1 dx drg hlk hopn hnone hsome cx2 hD2 hm7
            go_wp2
            go_roundw
            case rel => exact ⟨k + 1, by omega, by go_num, hD8, hc8⟩
            case measure => simp [intOf]; omega
    · obtain rfl : k = fs.length := by omega
      rw [List.take_length] at hDr
      obtain ⟨c0, c1, c2, c3, c4⟩ := hDr.cells
      go_wp2_with
        (first
          | (refine wpList_clear Try.underlying84 Try.underlying3 rfl _ rfl mo rfl _ hDr.om ?_; intro w6 hm6 hc6))
      go_end0
      exact ⟨rfl, ⟨Dk.wiped_ok hDr.ok, (hc6.block p hDr.lt (fun e => hap.2 e.symm)).trans hDr.blk, hDr.sm.chg hc6 hDr.ne, hm6, hDr.ne⟩, hcr.then hc6 (fun _ _ e => .inr (.inr e))⟩
end Go.Proofs.Yteeamlidmkpohaa


/-
  The device as the laws' walks use it.
-/
set_option linter.unusedVariables false
set_option linter.unusedSimpArgs false
namespace Go.Proofs.Yteeamlidmkpohaa
open Go.RowKit Go.Sort

def DF (p ms mo : Nat) : Nat → Prop := fun b => b = p ∨ b = ms ∨ b = mo
/-- a disk of the law's own (w0: the world at the law's beginning) -/
structure Dev (w0 w : World) (p ms mo : Nat) (D : Dk) : Prop where
  at_ : DiskAt w p ms mo D
  g1 : w0.heap.size ≤ p
  g2 : w0.heap.size ≤ ms
  g3 : w0.heap.size ≤ mo
  be : Below w0.heap.size w0 w

section
variable {w0 w w' : World} {p ms mo : Nat} {D : Dk}
theorem Dev.ok (h : Dev w0 w p ms mo D) : D.Ok := h.at_.ok
theorem Dev.df (h : Dev w0 w p ms mo D) : ∀ k, DF p ms mo k → w0.heap.size ≤ k := fun k e => by
  have := h.g1; have := h.g2; have := h.g3
  rcases e with e | e | e <;> omega
theorem Dev.lt (h : Dev w0 w p ms mo D) : ∀ k, DF p ms mo k → k < w.heap.size := fun k e => by
  have := h.at_.lt; have := h.at_.sm.lt; have := h.at_.om.lt
  rcases e with e | e | e <;> omega
theorem Dev.below (h : Dev w0 w p ms mo D) (hb : Below w.heap.size w w') : Dev w0 w' p ms mo D := ⟨h.at_.below hb, h.g1, h.g2, h.g3, below_trans' h.be hb⟩
theorem Dev.drew (h : Dev w0 w p ms mo D) : Dev w0 w.drew p ms mo D := ⟨h.at_.drew, h.g1, h.g2, h.g3, h.be.drew⟩
/-- a step that turns it -/
theorem Dev.step {D' : Dk} (h : Dev w0 w p ms mo D) (hn : DiskAt w' p ms mo D') (hc : Chg (DF p ms mo) w w') : Dev w0 w' p ms mo D' :=
  ⟨hn, h.g1, h.g2, h.g3, h.be.trans (hc.below h.be.size (fun k _ e => h.df k e))⟩
/-- a step elsewhere -/
theorem Dev.chg {F : Nat → Prop} (h : Dev w0 w p ms mo D) (hc : Chg F w w') (hF : ∀ k, F k → w0.heap.size ≤ k) (hn : ∀ k, DF p ms mo k → ¬ F k) : Dev w0 w' p ms mo D :=
  ⟨h.at_.chg hc (hn p (.inl rfl)) (hn ms (.inr (.inl rfl))) (hn mo (.inr (.inr rfl))), h.g1, h.g2, h.g3, h.be.trans (hc.below h.be.size (fun k _ e => hF k e))⟩

theorem Dev.new_ (w : World) (hb : Below w0.heap.size w0 w) (n : Int) (h1 : 1 ≤ n) (h2 : n ≤ 262144) :
    Calls Try.prog 50 #[.int .i64 n] w fun e w' => e = .returned (.pointer (some ⟨w.heap.size + 2, 0, none⟩)) ∧ Dev w0 w' (w.heap.size + 2) w.heap.size (w.heap.size + 1) (Dk.new n) ∧ Below w.heap.size w w' := by
  refine (dnew_some w n h1 h2).mono ?_
  rintro e w' ⟨rfl, hd, hb2⟩
  have := hb.size
  exact ⟨rfl, ⟨hd, by omega, by omega, by omega, below_trans' hb hb2⟩, hb2⟩

theorem Dev.write0 (h : Dev w0 w p ms mo D) (k : Int) (hk : D.may k = 0) {v : Value} {l : List Int} (hv : BytesIs w v l) (hs : IsSec l) (hd : (D.write k l).down = false) :
    Calls Try.prog 52 #[.pointer (some ⟨p, 0, none⟩), .int .i64 k, v] w fun e w' => e = .returned (.int .i64 0) ∧ Dev w0 w' p ms mo (D.write k l) ∧ Chg (DF p ms mo) w w' := by
  refine (dwrite_ok w p ms mo D h.at_ k hk v l hv hs).mono ?_
  rintro e w' ⟨rfl, h1, hc⟩
  have hc' : Chg (DF p ms mo) w w' := hc.mono (fun k _ e => by rcases e with e | e; exact .inl e; exact .inr (.inr e))
  exact ⟨by rw [hd]; rfl, h.step h1 hc', hc'⟩
theorem Dev.write9 (h : Dev w0 w p ms mo D) (k : Int) (hk : D.may k = 0) {v : Value} {l : List Int} (hv : BytesIs w v l) (hs : IsSec l) (hd : (D.write k l).down = true) :
    Calls Try.prog 52 #[.pointer (some ⟨p, 0, none⟩), .int .i64 k, v] w fun e w' => e = .returned (.int .i64 9) ∧ Dev w0 w' p ms mo (D.write k l) ∧ Chg (DF p ms mo) w w' := by
  refine (dwrite_ok w p ms mo D h.at_ k hk v l hv hs).mono ?_
  rintro e w' ⟨rfl, h1, hc⟩
  have hc' : Chg (DF p ms mo) w w' := hc.mono (fun k _ e => by rcases e with e | e; exact .inl e; exact .inr (.inr e))
  exact ⟨by rw [hd]; rfl, h.step h1 hc', hc'⟩
theorem Dev.sync0 (h : Dev w0 w p ms mo D) (hd0 : D.down = false) (hd : D.sync.down = false) :
    Calls Try.prog 51 #[.pointer (some ⟨p, 0, none⟩)] w fun e w' => e = .returned (.int .i64 0) ∧ Dev w0 w' p ms mo D.sync ∧ Chg (DF p ms mo) w w' := by
  refine (dsync_ok w p ms mo D h.at_ hd0).mono ?_
  rintro e w' ⟨rfl, h1, hc⟩
  exact ⟨by rw [hd]; rfl, h.step h1 hc, hc⟩
theorem Dev.sync9 (h : Dev w0 w p ms mo D) (hd0 : D.down = false) (hd : D.sync.down = true) :
    Calls Try.prog 51 #[.pointer (some ⟨p, 0, none⟩)] w fun e w' => e = .returned (.int .i64 9) ∧ Dev w0 w' p ms mo D.sync ∧ Chg (DF p ms mo) w w' := by
  refine (dsync_ok w p ms mo D h.at_ hd0).mono ?_
  rintro e w' ⟨rfl, h1, hc⟩
  exact ⟨by rw [hd]; rfl, h.step h1 hc, hc⟩
theorem Dev.wake (h : Dev w0 w p ms mo D) {v : Value} {fs : List Int} (hf : IntsIs w v fs) (hne : fs ≠ [] → ∀ k, v.ownBlock = some k → ¬ DF p ms mo k) :
    Calls Try.prog 54 #[.pointer (some ⟨p, 0, none⟩), v] w fun e w' => e = .returned (.tuple #[]) ∧ Dev w0 w' p ms mo (D.wake fs) ∧ Chg (DF p ms mo) w w' := by
  refine (dwake_any w p ms mo D h.at_ v fs hf (fun hn k e => ⟨fun e2 => hne hn k e (.inl e2), fun e2 => hne hn k e (.inr (.inl e2)), fun e2 => hne hn k e (.inr (.inr e2))⟩)).mono ?_
  rintro e w' ⟨rfl, h1, hc⟩
  exact ⟨rfl, h.step h1 hc, hc⟩
theorem Dev.read (h : Dev w0 w p ms mo D) (k : Int) (hk : D.may k = 0) :
    Calls Try.prog 55 #[.pointer (some ⟨p, 0, none⟩), .int .i64 k] w fun e w' => ∃ v, e = .returned (.tuple #[v, .int .i64 0]) ∧ BytesIs w' v (D.latest k) ∧ w'.ownsRow w.heap.size 5 1 v 512 (bytesV (D.latest k)) ∧ Below w.heap.size w w' := by
  refine (dread_ok w p ms mo D h.at_ k hk).mono ?_
  rintro e w' ⟨v, rfl, ho, hb⟩
  exact ⟨v, rfl, BytesIs.of_own (Dk.latest_sec h.ok k).1 ho, ho, hb⟩
theorem Dev.arm (h : Dev w0 w p ms mo D) (n : Int) (hn : n ≤ 9223372036854775807) :
    Calls Try.prog 57 #[.pointer (some ⟨p, 0, none⟩), .int .i64 n] w fun e w' => e = .returned (.tuple #[]) ∧ Dev w0 w' p ms mo (D.arm n) ∧ Chg (DF p ms mo) w w' := by
  refine (darm_any w p ms mo D h.at_ n hn).mono ?_
  rintro e w' ⟨rfl, h1, hc⟩
  have hc' : Chg (DF p ms mo) w w' := hc.mono (fun k _ e => .inl e)
  exact ⟨rfl, h.step h1 hc', hc'⟩
end
theorem sameBytes_eq (w : World) (va vb : Value) (l : List Int) (ha : BytesIs w va l) (hb : BytesIs w vb l) :
    Calls Try.prog 58 #[va, vb] w fun e w' => e = .returned (.bool true) ∧ Below w.heap.size w w' := by
  refine (sameBytes_any w va vb l l ha hb).mono ?_
  rintro e w' ⟨rfl, h⟩
  exact ⟨ret_b (by simp), h⟩
theorem Dev.sectors {w0 w : World} {p ms mo : Nat} {D : Dk} (h : Dev w0 w p ms mo D) {n : Int} (hn : D.n = n) :
    Calls Try.prog 56 #[.pointer (some ⟨p, 0, none⟩)] w fun e w' => e = .returned (.int .i64 n) ∧ w = w' := hn ▸ dsectors_any w p ms mo D h.at_
theorem Dev.isDown {w0 w : World} {p ms mo : Nat} {D : Dk} (h : Dev w0 w p ms mo D) {d : Bool} (hn : D.down = d) :
    Calls Try.prog 59 #[.pointer (some ⟨p, 0, none⟩)] w fun e w' => e = .returned (.bool d) ∧ w = w' := hn ▸ ddown_any w p ms mo D h.at_
theorem Dev.writeNo {w0 w : World} {p ms mo : Nat} {D : Dk} (h : Dev w0 w p ms mo D) (k : Int) {c : Int} (hk : D.may k = c) (hc : c ≠ 0) (v : Value) :
    Calls Try.prog 52 #[.pointer (some ⟨p, 0, none⟩), .int .i64 k, v] w fun e w' => e = .returned (.int .i64 c) ∧ w = w' := by
  subst hk
  exact dwrite_no w p ms mo D h.at_ k hc v
theorem Dev.writeArg {w0 w : World} {p ms mo : Nat} {D : Dk} (h : Dev w0 w p ms mo D) (k : Int) (hk : D.may k = 0) (A : Option Addr) (n c : Nat) (hn : n ≠ 512) :
    Calls Try.prog 52 #[.pointer (some ⟨p, 0, none⟩), .int .i64 k, .slice A n c] w fun e w' => e = .returned (.int .i64 2) ∧ w = w' :=
  dwrite_arg w p ms mo D h.at_ k hk A n c hn
theorem Dev.readNo {w0 w : World} {p ms mo : Nat} {D : Dk} (h : Dev w0 w p ms mo D) (k : Int) {c : Int} (hk : D.may k = c) (hc : c ≠ 0) :
    Calls Try.prog 55 #[.pointer (some ⟨p, 0, none⟩), .int .i64 k] w fun e w' => e = .returned (.tuple #[.slice none 0 0, .int .i64 c]) ∧ w = w' := by
  subst hk
  exact dread_no w p ms mo D h.at_ k hc
theorem Dev.syncNo {w0 w : World} {p ms mo : Nat} {D : Dk} (h : Dev w0 w p ms mo D) (hd : D.down = true) :
    Calls Try.prog 51 #[.pointer (some ⟨p, 0, none⟩)] w fun e w' => e = .returned (.int .i64 9) ∧ w = w' := by
  have hm := may_any w p ms mo D h.at_ 0
  have hk : D.may 0 = 9 := by simp [Dk.may, hd]
  rw [hk] at hm
  go_enter Try.func51, Try.ntmps51
  go_wp2_with
    (first
      | (go_at_call 130; refine hm.mono ?_; rintro e w1 ⟨rfl, rfl⟩))
  go_ret
  exact ⟨rfl, rfl⟩
theorem own_fresh {w : World} {base : Nat} {e : TypeId} {size n : Nat} {v : Value} {xs : List Value} (h : w.ownsRow base e size v n xs) : ∀ k, v.ownBlock = some k → base ≤ k := fun k e => (h.lt k e).1
/-- a slice that is held while the disk is turned -/
theorem BytesIs.dev {w0 w w' : World} {p ms mo : Nat} {v : Value} {l : List Int} (h : BytesIs w v l) (hc : Chg (DF p ms mo) w w') (hn : ∀ k, v.ownBlock = some k → ¬ DF p ms mo k) : BytesIs w' v l := h.chg hc hn
end Go.Proofs.Yteeamlidmkpohaa


/-
  The device's first example.
-/
set_option linter.unusedVariables false
set_option linter.unusedSimpArgs false
namespace Go.Proofs.Yteeamlidmkpohaa
open Go.RowKit Go.Sort

theorem Dk.crash_calm {D : Dk} (h : D.armed = 0) : D.crash = D := by
  unfold Dk.crash
  rw [if_neg (by omega)]
theorem Dk.write_calm {D : Dk} (h : D.armed = 0) (k : Int) (l : List Int) : D.write k l = D.put k l := Dk.crash_calm (D := D.put k l) h
theorem Dk.sync_calm {D : Dk} (h : D.armed = 0) (hd : D.down = false) : D.sync = D.flush := by
  unfold Dk.sync
  rw [Dk.crash_calm h, if_neg (by rw [hd]; simp)]

abbrev awakeD : Dk := ((((((Dk.new 2).write 0 (fullL 1)).write 1 (fullL 1)).sync).write 0 (fullL 50)).write 1 (fullL 50))
theorem awake_0 : (((((((Dk.new 2).write 0 (fullL 1)).write 1 (fullL 1)).sync).write 0 (fullL 50)).write 1 (fullL 50)).wake [1]).latest 0 = fullL 1 := by
  rw [Dk.write_calm (by rfl), Dk.write_calm (by rfl), Dk.sync_calm (by rfl) (by rfl), Dk.write_calm (by rfl), Dk.write_calm (by rfl)]
  simp [Dk.latest, Dk.wake, Dk.kept, Dk.laid, Dk.wiped, Dk.put, Dk.flush, Dk.new]
theorem awake_1 : (((((((Dk.new 2).write 0 (fullL 1)).write 1 (fullL 1)).sync).write 0 (fullL 50)).write 1 (fullL 50)).wake [1]).latest 1 = fullL 50 := by
  rw [Dk.write_calm (by rfl), Dk.write_calm (by rfl), Dk.sync_calm (by rfl) (by rfl), Dk.write_calm (by rfl), Dk.write_calm (by rfl)]
  simp [Dk.latest, Dk.wake, Dk.kept, Dk.laid, Dk.wiped, Dk.put, Dk.flush, Dk.new]

theorem IntsIs.made {w : World} {g : Nat} {l : List Int} {t : TypeId} {cs : Array Value} (h : w.heap[g]? = some (.cells cs t (0, 0))) (hc : cs.toList = intsV l) (hl : l.length ≤ maxLen) : IntsIs w (.slice (some ⟨g, 0, none⟩) l.length l.length) l :=
  ⟨some ⟨g, 0, none⟩, l.length, rfl, Nat.le_refl _, hl, fun j u hu => ⟨_, rfl, cells_at h j u (by rw [hc]; exact hu)⟩⟩

set_option maxRecDepth 100000 in
set_option maxHeartbeats 400000 in
theorem awake08 (w : World) : Calls Try.prog 49 #[] w fun e w' => e = .returned (.bool true) ∧ Below w.heap.size w w' := by
  have hB := Below.refl w.heap.size w
  go_enter Try.func49, Try.ntmps49
  go_wp2_with
    (first
      | (go_at_call 50; refine (Dev.new_ _ hB 2 (by decide) (by decide)).mono ?_; rintro e w1 ⟨rfl, hD, _⟩)
      | (go_at_call 53; refine (full_any _ _ (by decide) (by decide)).mono ?_; rintro e w1 ⟨v, rfl, ho, hb⟩; replace hD := hD.below hb; have hv := BytesIs.of_own (fullL_sec _).1 ho; clear ho hb)
      | (go_at_call 52; refine (hD.write0 _ (by rfl) hv (fullL_sec _) (by rfl)).mono ?_; rintro e w1 ⟨rfl, hD1, _⟩; replace hD := hD1; clear hD1 hv)
      | (go_at_call 51; refine (hD.sync0 (by rfl) (by rfl)).mono ?_; rintro e w1 ⟨rfl, hD1, _⟩; replace hD := hD1; clear hD1))
  go_wp2_with
    (first
      | (go_at_call 54; refine ((hD.below (below_alloc' (Below.refl _ _) _)).wake (fs := [1]) (IntsIs.made (heap_alloc_new _ _) rfl (by decide)) (by intro _ k e h; have := hD.lt k h; simp [Value.ownBlock] at e; omega)).mono ?_; rintro e w1 ⟨rfl, hD1, _⟩; replace hD := hD1; clear hD1)
      | (go_at_call 55; refine (hD.read _ (by rfl)).mono ?_; rintro e w1 ⟨va, rfl, ha, ho, hb⟩; clear ho; replace hD := hD.below hb; rw [awake_0] at ha; clear hb)
      | (go_at_call 55; refine (hD.read _ (by rfl)).mono ?_; rintro e w1 ⟨vb, rfl, hbb, ho, hb⟩; clear ho; replace hD := hD.below hb; rw [awake_1] at hbb; replace ha := ha.below hb; clear hb))
  go_wp2_with
    (first
      | (go_at_call 53; refine (full_any _ _ (by decide) (by decide)).mono ?_; rintro e w1 ⟨v, rfl, ho, hb⟩; replace hD := hD.below hb; replace ha := ha.below hb; replace hbb := hbb.below hb; have hv := BytesIs.of_own (fullL_sec _).1 ho; clear ho hb)
      | (go_at_call 58; refine (sameBytes_eq _ _ _ _ ?_ hv).mono ?_; (first | exact ha | exact hbb); rintro e w1 ⟨rfl, hb⟩; replace hD := hD.below hb; replace ha := ha.below hb; replace hbb := hbb.below hb; clear hb hv)
      | (go_at_call 56; refine (hD.sectors (n := 2) (by rfl)).mono ?_; rintro e w1 ⟨rfl, rfl⟩)
      | (go_at_call 50; refine (dnew_none _ _ (by decide)).mono ?_; rintro e w1 ⟨rfl, rfl⟩)
      | (go_at_call 52; refine (hD.writeArg _ (by rfl) _ _ _ (by decide)).mono ?_; rintro e w1 ⟨rfl, rfl⟩))
  go_ret
  exact ⟨rfl, hD.be⟩
end Go.Proofs.Yteeamlidmkpohaa


/-
  Rows of one-cell elements: appending where there is room; marks; LentBytes, KeptBytes, OverBytes.
-/
set_option linter.unusedVariables false
set_option linter.unusedSimpArgs false
namespace Go.Proofs.Yteeamlidmkpohaa
open Go.RowKit Go.Sort

/-- a block of one-cell elements, known whole -/
def RowC (w : World) (g : Nat) (e : TypeId) (cs : List Value) : Prop := w.heap[g]? = some (.cells cs.toArray e (0, 0))
/-- a slice as it is read, cell by cell -/
def ValsIs (w : World) (v : Value) (vs : List Value) : Prop := ∃ A c, v = .slice A vs.length c ∧ vs.length ≤ c ∧ c ≤ maxLen ∧ CellsAt w A vs

section
variable {w w' : World} {g : Nat} {e : TypeId} {cs vs : List Value} {v : Value}
theorem RowC.lt (h : RowC w g e cs) : g < w.heap.size := (Array.getElem?_eq_some_iff.1 h).1
theorem RowC.chg {F : Nat → Prop} (h : RowC w g e cs) (hc : Chg F w w') (hF : ¬ F g) : RowC w' g e cs := (hc.block g h.lt hF).trans h
theorem RowC.below (h : RowC w g e cs) (hc : Below w.heap.size w w') : RowC w' g e cs := (hc.block g h.lt).trans h
theorem RowC.set (h : RowC w g e cs) (k : Nat) (x : Value) : RowC (w.setCell ⟨g, k, none⟩ x) g e (cs.set k x) := by
  unfold RowC
  rw [heap_setCell w g k _ _ _ _ h]
  congr 2
  apply Array.ext'
  simp
theorem RowC.cell (h : RowC w g e cs) (i : Nat) (u : Value) (hu : cs[i]? = some u) : w.cell? ⟨g, i, none⟩ = some u := by
  simp [World.cell?, show w.heap[g]? = _ from h, hu]
theorem RowC.free (h : RowC w g e cs) (i : Nat) : w.frozen? ⟨g, i, none⟩ = false := by
  simp [World.frozen?, show w.heap[g]? = _ from h]
theorem RowC.vals (h : RowC w g e cs) {n c : Nat} (hn : n ≤ cs.length) (hc : n ≤ c) (hm : c ≤ maxLen) : ValsIs w (.slice (some ⟨g, 0, none⟩) n c) (cs.take n) := by
  have hl : (cs.take n).length = n := by simp; omega
  refine ⟨some ⟨g, 0, none⟩, c, by rw [hl], by rw [hl]; exact hc, hm, fun j u hu => ⟨_, rfl, ?_⟩⟩
  have hj : j < n := by
    rcases Nat.lt_or_ge j n with h1 | h1
    · exact h1
    · rw [List.getElem?_eq_none (by rw [hl]; exact h1)] at hu; cases hu
  rw [List.getElem?_take_of_lt hj] at hu
  exact cells_at h j u hu
theorem ValsIs.chg {F : Nat → Prop} (h : ValsIs w v vs) (hc : Chg F w w') (hF : ∀ k, v.ownBlock = some k → ¬ F k) : ValsIs w' v vs := by
  obtain ⟨A, c, rfl, h1, hm, h2⟩ := h
  exact ⟨A, c, rfl, h1, hm, h2.chg hc (fun a e => hF _ (by subst e; rfl))⟩
theorem ValsIs.below (h : ValsIs w v vs) (hc : Below w.heap.size w w') : ValsIs w' v vs := h.chg (Chg.of_below (F := fun _ => False) hc) (fun _ _ => id)
theorem ValsIs.at_ {A : Option Addr} (h : CellsAt w A vs) {i : Nat} {u : Value} (hu : vs[i]? = some u) : ∃ ad, A = some ad ∧ w.cell? (ad.add i) = some u := h i u hu
theorem ValsIs.made {z : Value} (h : w.heap[g]? = some (.cells #[z] e (0, 0))) : ValsIs w (.slice (some ⟨g, 0, none⟩) 1 1) [z] :=
  ⟨some ⟨g, 0, none⟩, 1, rfl, Nat.le_refl _, by simp [maxLen], fun j u hu => ⟨_, rfl, cells_at h j u (by simpa using hu)⟩⟩
theorem BytesIs.vals {l : List Int} (h : BytesIs w v l) : ValsIs w v (bytesV l) := by
  obtain ⟨A, c, rfl, h1, hm, h2⟩ := h
  exact ⟨A, c, by rw [bytesV_len], by rw [bytesV_len]; exact h1, hm, h2⟩
theorem ValsIs.bytes {l : List Int} (h : ValsIs w v (bytesV l)) : BytesIs w v l := by
  obtain ⟨A, c, rfl, h1, hm, h2⟩ := h
  rw [bytesV_len] at h1
  exact ⟨A, c, by rw [bytesV_len], h1, hm, h2⟩
theorem intsV_len (l : List Int) : (intsV l).length = l.length := by simp [intsV]
theorem intsV_one (l : List Int) : ∀ u ∈ intsV l, u.oneCell' = true := by
  intro u hu
  simp [intsV] at hu
  obtain ⟨y, _, rfl⟩ := hu
  rfl
theorem IntsIs.vals {l : List Int} (h : IntsIs w v l) : ValsIs w v (intsV l) := by
  obtain ⟨A, c, rfl, h1, hm, h2⟩ := h
  exact ⟨A, c, by rw [intsV_len], by rw [intsV_len]; exact h1, hm, h2⟩
theorem ValsIs.ints {l : List Int} (h : ValsIs w v (intsV l)) : IntsIs w v l := by
  obtain ⟨A, c, rfl, h1, hm, h2⟩ := h
  rw [intsV_len] at h1
  exact ⟨A, c, by rw [intsV_len], h1, hm, h2⟩

/-- a row of cells stored into a block that is known whole -/
theorem RowC.sets : ∀ (vs cs : List Value) (o : Nat) (w : World), RowC w g e cs → o + vs.length ≤ cs.length → RowC (w.setCells g o vs) g e (cs.take o ++ vs ++ cs.drop (o + vs.length))
  | [], cs, o, w, h, _ => by
    show RowC w g e _
    simpa using h
  | v :: vs, cs, o, w, h, hl => by
    simp only [List.length_cons] at hl
    have h1 := RowC.sets vs (cs.set o v) (o + 1) (w.setCell ⟨g, o, none⟩ v) (h.set o v) (by rw [List.length_set]; omega)
    have e1 : (cs.set o v).take (o + 1) = cs.take o ++ [v] := by
      apply List.ext_getElem?
      intro j
      rcases Nat.lt_trichotomy j o with hj | hj | hj
      · rw [List.getElem?_take_of_lt (by omega), List.getElem?_set_ne (by omega), List.getElem?_append_left (by simp; omega), List.getElem?_take_of_lt hj]
      · subst hj
        rw [List.getElem?_take_of_lt (by omega), List.getElem?_set_self (by omega), List.getElem?_append_right (by simp; omega)]
        simp [Nat.min_eq_left (show j ≤ cs.length by omega)]
      · rw [List.getElem?_eq_none (by simp; omega), List.getElem?_eq_none (by simp; omega)]
    have e2 : (cs.set o v).drop (o + 1 + vs.length) = cs.drop (o + (vs.length + 1)) := by
      rw [List.drop_set_of_lt (by omega)]
      congr 1
      omega
    rw [e1, e2] at h1
    show RowC ((w.setCell ⟨g, o, none⟩ v).setCells g (o + 1) vs) g e _
    simpa using h1
end

section
variable {P : Program} {ops : Array Oper} {rest : List Oper} {o : Oper} {a : Act} {w : World} {Q : Exit → Act → World → Prop}
/-- append where there is room, into a block that is known whole -/
theorem wpList_app_room (hg : o.guard = none) (s x : Operand) (t e : TypeId) (i : TypeInfo) (ho : o.op = .call { callee := .builtin .append, args := #[s, x], argTypes := #[t, t] })
    (ht : P.underlying t = some (.slice e)) (hi : P.info? e = some i) (hsize : i.size = 1) (g n cap : Nat) (cs : List Value) (hs : a.eval s = .slice (some ⟨g, 0, none⟩) n cap) (hb : RowC w g e cs) (hcap : cs.length = cap)
    (v : Value) (vs : List Value) (hx : a.eval x = v) (hv : ValsIs w v vs) (h1 : ∀ u ∈ vs, u.oneCell' = true) (hroom : n + vs.length ≤ cap)
    (h : ∀ w', RowC w' g e (cs.take n ++ vs ++ cs.drop (n + vs.length)) → Chg (fun k => k = g) w w' → wpList P ops Q rest (a.put o.dst (.slice (some ⟨g, 0, none⟩) (n + vs.length) cap)) w') : wpList P ops Q (o :: rest) a w := by
  obtain ⟨A, c, rfl, hc1, hm, hA⟩ := hv
  have hsrc : Src P i.size t (.slice A vs.length c) vs.length vs w := by
    rw [hsize]
    cases A with
    | some ad => exact Src.ofSlice w ht ad vs.length c vs (by simp) (fun j u hu => by obtain ⟨ad', e, h2⟩ := hA j u hu; cases e; exact h2) h1
    | none =>
      cases vs with
      | nil => exact Src.ofNil w ht c
      | cons u r => obtain ⟨ad, e, _⟩ := hA 0 u rfl; cases e
  have hr := run_append_room_src w t t o.type e i ht hi g 0 n cap (.slice A vs.length c) vs.length vs hsrc hroom (fun j hj => by
    rw [hb.cell (0 + n * i.size + j) (cs[0 + n * i.size + j]'(by rw [hsize]; omega)) (List.getElem?_eq_getElem _)]; rfl) (fun j _ => hb.free _)
  rw [hsize] at hr
  simp only [Nat.zero_add, Nat.mul_one] at hr
  exact wpList_val hg (w' := w.setCells g n vs) (by simp [execOp, ho, hs, hx, hr, Result.andThen, resolve, invoke, builtin]) (h _ (RowC.sets vs cs n w hb (by omega)) (chg_setCells w g n vs))
/-- make, of one-cell elements (zc: the cell of a zero) -/
theorem wpList_mk1 (hg : o.guard = none) (x y : Operand) (t e : TypeId) (i : TypeInfo) (z zc : Value) (ho : o.op = Op.makeSlice t x y) (ht : P.underlying t = some (.slice e)) (hi : P.info? e = some i) (hz : i.zero = some z) (hsize : i.size = 1) (hz1 : z.cells = #[zc])
    (kl kc : IntKind) (L C : Int) (hx : a.eval x = .int kl L) (hy : a.eval y = .int kc C) (m n : Nat) (hm : L = m) (hn : C = n) (hmn : m ≤ n) (hb : i.bytes * n ≤ 281474976710656) (h63 : n ≤ maxLen)
    (h : ∀ w', RowC w' w.heap.size e (List.replicate n zc) → Below w.heap.size w w' → w'.heap.size = w.heap.size + 1 → wpList P ops Q rest (a.put o.dst (.slice (some ⟨w.heap.size, 0, none⟩) m n)) w') : wpList P ops Q (o :: rest) a w := by
  have hb' : (i.bytes : Int) * (n : Int) ≤ 281474976710656 := by
    have h : ((i.bytes * n : Nat) : Int) ≤ 281474976710656 := by omega
    rwa [Int.natCast_mul] at h
  have hr := run_make (P := P) w t e i z ht hi hz kl kc L C (by omega) (by omega) (by rw [hn]; exact hb') (by simp only [maxLen] at h63; omega)
  rw [hsize, Nat.mul_one, hz1, hm, hn] at hr
  simp only [Int.toNat_natCast] at hr
  rw [← hm, ← hn] at hr
  refine wpList_val hg (w' := w.alloc (.cells (madeCells #[zc] n) e)) (by simp only [execOp, ho, hx, hy]; simp [hr, Result.andThen]) (h _ ?_ (below_alloc' (Below.refl _ _) _) (by simp))
  unfold RowC
  rw [heap_alloc_new]
  congr 2
  apply Array.ext'
  rw [toList_madeCells_one]
theorem wpList_mk (hg : o.guard = none) (x y : Operand) (t e : TypeId) (i : TypeInfo) (z : Value) (ho : o.op = Op.makeSlice t x y) (ht : P.underlying t = some (.slice e)) (hi : P.info? e = some i) (hz : i.zero = some z) (hsize : i.size = 1) (hz1 : z.cells = #[z])
    (kl kc : IntKind) (L C : Int) (hx : a.eval x = .int kl L) (hy : a.eval y = .int kc C) (m n : Nat) (hm : L = m) (hn : C = n) (hmn : m ≤ n) (hb : i.bytes * n ≤ 281474976710656) (h63 : n ≤ maxLen)
    (h : ∀ w', RowC w' w.heap.size e (List.replicate n z) → Below w.heap.size w w' → w'.heap.size = w.heap.size + 1 → wpList P ops Q rest (a.put o.dst (.slice (some ⟨w.heap.size, 0, none⟩) m n)) w') : wpList P ops Q (o :: rest) a w :=
  wpList_mk1 hg x y t e i z z ho ht hi hz hsize hz1 kl kc L C hx hy m n hm hn hmn hb h63 h
end

/-! ### marks -/
def markI (k i : Int) : Int := 1000003 * (k + 7) + i
def markB (k i : Int) : Int := IntKind.u64.wrap ((1000003 * (k + 7) + i) * 11400714819323198485) / 72057594037927936 % 256
theorem mark_any (w : World) (k i : Int) (hk0 : 0 ≤ k) (hk : k ≤ 1000) (hi0 : 0 ≤ i) (hi : i ≤ 140737488355328) :
    Calls Try.prog 154 #[.int .i64 k, .int .i64 i] w fun e w' => e = .returned (.int .i64 (markI k i)) ∧ w = w' := by
  go_enter Try.func154, Try.ntmps154
  go_wp2
  go_ret
  exact ⟨rfl, rfl⟩
theorem markByte_any (w : World) (k i : Int) (hk0 : 0 ≤ k) (hk : k ≤ 1000) (hi0 : 0 ≤ i) (hi : i ≤ 140737488355328) :
    Calls Try.prog 144 #[.int .i64 k, .int .i64 i] w fun e w' => e = .returned (.int .u8 (markB k i)) ∧ w = w' := by
  go_enter Try.func144, Try.ntmps144
  go_wp2_with
    (first
      | (go_at_call 154; refine (mark_any _ _ _ hk0 hk hi0 hi).mono ?_; rintro e w1 ⟨rfl, rfl⟩; unfold markI))
  go_ret
  exact ⟨rfl, rfl⟩
end Go.Proofs.Yteeamlidmkpohaa


/-
  LentBytes, KeptBytes, OverBytes.
-/
set_option linter.unusedVariables false
set_option linter.unusedSimpArgs false
namespace Go.Proofs.Yteeamlidmkpohaa
open Go.RowKit Go.Sort

def marksB (k from' n : Nat) : List Int := (List.range n).map fun (i : Nat) => markB k ((from' + i : Nat) : Int)
theorem marksB_len (k f n : Nat) : (marksB k f n).length = n := by simp [marksB]
theorem marksB_succ (k f n : Nat) : marksB k f (n + 1) = marksB k f n ++ [markB k ((f + n : Nat) : Int)] := by simp [marksB, List.range_succ]

/-- block g holds l, and twelve marks behind it -/
def LentB (w : World) (g : Nat) (l : List Int) : Prop := RowC w g 5 (bytesV (l ++ marksB 1 0 12))

set_option maxRecDepth 100000
set_option maxHeartbeats 2000000 in
theorem lentBytes_any (w : World) (v : Value) (l : List Int) (hv : BytesIs w v l) (hlen : l.length ≤ 1000000) :
    Calls Try.prog 75 #[v] w fun e w' => e = .returned (.slice (some ⟨w.heap.size, 0, none⟩) l.length (l.length + 12)) ∧ LentB w' w.heap.size l ∧ Below w.heap.size w w' := by
  have hvv := hv.vals
  obtain ⟨A, c, rfl, hc, hm, hA⟩ := hv
  obtain ⟨ie, hi, hz, hsize, hby⟩ := info_parts (P := Try.prog) (e := 5) (z := .int .u8 0) (size := 1) (bytes := 1) (by kernel_rfl)
  have hvl : (bytesV l).length = l.length := bytesV_len l
  go_enter Try.func75, Try.ntmps75
  go_wp2_with
    (first
      | (refine wpList_mk rfl _ _ 47 5 ie (.int .u8 0) rfl Try.underlying47 hi hz hsize rfl .i64 .i64 0 _ rfl rfl 0 (l.length + 12) rfl (by simp) (by omega) (by rw [hby]; omega) (by simp only [maxLen]; omega) ?_; intro w1 hr hb hz1; have hvw := hvv.below hb)
      | (refine wpList_app_room rfl _ _ 47 5 ie rfl Try.underlying47 hi hsize w.heap.size 0 (l.length + 12) _ rfl hr (by simp) _ (bytesV l) rfl hvw (bytesV_one l) (by rw [hvl]; omega) ?_; intro w2 hr2 hc2))
  have hbe : Below w.heap.size w w2 := hb.trans (hc2.below (B := w.heap.size) (by omega) (fun k _ e => by omega))
  have e0 : (List.replicate (l.length + 12) (Value.int .u8 0)).take 0 ++ bytesV l ++ (List.replicate (l.length + 12) (Value.int .u8 0)).drop (0 + (bytesV l).length) = bytesV (l ++ marksB 1 0 0) ++ List.replicate (12 - 0) (Value.int .u8 0) := by
    rw [hvl]
    simp [marksB]
  rw [e0] at hr2
  clear e0 hc2 hr hb hz1 hvw hvv
  have hlt := hr2.lt
  go_loopw [3, 4] (fun s t wr => ∃ k : Nat, k ≤ 12 ∧ s = .slice (some ⟨w.heap.size, 0, none⟩) (l.length + k) (l.length + 12) ∧ t = .int .i64 k ∧ RowC wr w.heap.size 5 (bytesV (l ++ marksB 1 0 k) ++ List.replicate (12 - k) (.int .u8 0)) ∧ Below w.heap.size w wr) (fun _ t _ => 12 - (intOf t).toNat)
  case atStart => exact ⟨0, by omega, rfl, rfl, hr2, hbe⟩
  case round =>
    obtain ⟨k, hk, rfl, rfl, hrk, hbk⟩ := hrel
    clear hr2 hbe
    by_cases hlt : k < 12
    · have hlk : (bytesV (l ++ marksB 1 0 k) ++ List.replicate (12 - k) (Value.int .u8 0)).length = l.length + 12 := by simp [bytesV_len, marksB_len]; omega
      have hgl := hrk.lt
      go_wp2_with
        (first
          | (go_at_call 144; refine (markByte_any _ 1 k (by omega) (by omega) (by omega) (by omega)).mono ?_; rintro e w3 ⟨rfl, rfl⟩)
          | (refine wpList_app_room rfl _ _ 47 5 ie rfl Try.underlying47 hi hsize w.heap.size (l.length + k) (l.length + 12) _ rfl (hrk.below (below_alloc' (Below.refl _ _) _)) hlk _ [.int .u8 (markB 1 k)] rfl (ValsIs.made (heap_alloc_new _ _)) (by simp [Value.oneCell']) (by simp; omega) ?_; intro w4 hr4 hc4))
      go_roundw
      case rel =>
        have hb4 : Below w.heap.size w w4 := (below_alloc' hbk _).trans (hc4.below (B := w.heap.size) (by simp; omega) (fun k _ e => by omega))
        refine ⟨k + 1, by omega, rfl, by go_num, ?_, hb4⟩
        have e1 : ∀ (X : List Value), X.length = l.length + k → (X ++ List.replicate (12 - k) (Value.int .u8 0)).take (l.length + k) ++ [Value.int .u8 (markB 1 k)] ++ (X ++ List.replicate (12 - k) (Value.int .u8 0)).drop (l.length + k + [Value.int .u8 (markB 1 k)].length) = X ++ [Value.int .u8 (markB 1 k)] ++ List.replicate (12 - (k + 1)) (Value.int .u8 0) := by
          intro X hX
          rw [List.take_append_of_le_length (by omega), List.take_of_length_le (by omega)]
          rw [List.drop_append, List.drop_eq_nil_of_le (by simp; omega)]
          simp [hX]
          omega
        rw [e1 _ (by simp [bytesV_len, marksB_len])] at hr4
        rw [marksB_succ, ← List.append_assoc]
        simpa [bytesV] using hr4
      case measure => simp [intOf]; omega
    · obtain rfl : k = 12 := by omega
      go_wp2_with fail
      go_ret
      refine ⟨rfl, ?_, hbk⟩
      simpa [LentB] using hrk

theorem LentB.lo {w : World} {g : Nat} {l : List Int} (h : LentB w g l) {k : Nat} (hk : k < l.length) : w.cell? ⟨g, k, none⟩ = some (.int .u8 (l.getD k 0)) := by
  refine RowC.cell h k _ ?_
  simp only [bytesV, List.getElem?_map]
  rw [List.getElem?_append_left hk]
  simp [hk]
theorem LentB.hi {w : World} {g : Nat} {l : List Int} (h : LentB w g l) {j : Nat} (hj : j < 12) : w.cell? ⟨g, l.length + j, none⟩ = some (.int .u8 (markB 1 j)) := by
  refine RowC.cell h (l.length + j) _ ?_
  simp only [bytesV, List.getElem?_map]
  rw [List.getElem?_append_right (by omega), Nat.add_sub_cancel_left]
  simp [marksB, hj]
theorem LentB.lt {w : World} {g : Nat} {l : List Int} (h : LentB w g l) : g < w.heap.size := RowC.lt h
theorem LentB.chg {F : Nat → Prop} {w w' : World} {g : Nat} {l : List Int} (h : LentB w g l) (hc : Chg F w w') (hF : ¬ F g) : LentB w' g l := RowC.chg h hc hF
theorem LentB.below {w w' : World} {g : Nat} {l : List Int} (h : LentB w g l) (hc : Below w.heap.size w w') : LentB w' g l := RowC.below h hc
theorem LentB.bytes {w : World} {g : Nat} {l : List Int} (h : LentB w g l) (hl : l.length ≤ 1000000) : BytesIs w (.slice (some ⟨g, 0, none⟩) l.length (l.length + 12)) l := by
  have := RowC.vals (n := l.length) (c := l.length + 12) h (by simp [bytesV]) (by omega) (by simp only [maxLen]; omega)
  have e : (bytesV (l ++ marksB 1 0 12)).take l.length = bytesV l := by simp [bytesV]
  rw [e] at this
  exact this.bytes
theorem markByte_same (w : World) (k i : Int) (hk0 : 0 ≤ k) (hk : k ≤ 1000) (hi0 : 0 ≤ i) (hi : i ≤ 140737488355328) :
    Calls Try.prog 144 #[.int .i64 k, .int .i64 i] w fun e w' => e = .returned (.int .u8 (markB k i)) ∧ w' = w := (markByte_any w k i hk0 hk hi0 hi).mono fun e w' ⟨h1, h2⟩ => ⟨h1, h2.symm⟩

set_option maxRecDepth 100000
set_option maxHeartbeats 2000000 in
theorem keptBytes_any (w : World) (g : Nat) (vb : Value) (l : List Int) (hL : LentB w g l) (hv : BytesIs w vb l) (hlen : l.length ≤ 1000000) :
    Calls Try.prog 77 #[.slice (some ⟨g, 0, none⟩) l.length (l.length + 12), vb] w fun e w' => e = .returned (.bool true) ∧ Below w.heap.size w w' := by
  obtain ⟨B, c, rfl, hc, hm, hB⟩ := hv
  go_enter Try.func77, Try.ntmps77
  go_wp2_with fail
  go_loopw [6] (fun t wr => ∃ k : Nat, k ≤ l.length + 12 ∧ t = .int .i64 k ∧ Below w.heap.size w wr) (fun t _ => l.length + 12 - (intOf t).toNat)
  case atStart => exact ⟨0, by omega, rfl, Below.refl _ _⟩
  case round =>
    obtain ⟨k, hk, rfl, hbr⟩ := hrel
    by_cases hlt : k < l.length + 12
    · have hLr : LentB wr g l := RowC.below hL hbr
      by_cases hkl : k < l.length
      · obtain ⟨bd, rfl, hxb⟩ := BytesIs.at_ (c := c) (hB.below hbr) k hkl
        have hxa := hLr.lo hkl
        have h1 : decide ((k : Int) < (l.length : Int)) = true := by simpa using hkl
        have h2 : decide (l.length ≤ k) = false := by simpa using hkl
        have h1' : decide (k < l.length) = true := by simpa using hkl
        generalize l.getD k 0 = x at hxa hxb
        have HB := Lib.hid hbr
        have HL := Lib.hid hLr
        clear hbr hLr
        go_wp2_with fail
        go_quiet (fail)
        go_wp2_with fail
        go_roundw
        case rel => exact ⟨k + 1, by omega, by go_num, drewN_below HB.out _⟩
        case measure => simp [intOf]; omega
      · obtain ⟨j, rfl⟩ : ∃ j, k = l.length + j := ⟨k - l.length, by omega⟩
        have hxa := hLr.hi (j := j) (by omega)
        have h1 : decide ((l.length : Int) + (j : Int) < (l.length : Int)) = false := by simp; omega
        have h2 : decide ((l.length : Int) ≤ (l.length : Int) + (j : Int)) = true := by simp; omega
        have h1' : decide (l.length + j < l.length) = false := by simp
        have h2' : decide (l.length ≤ l.length + j) = true := by simp
        have hmk : ∀ (W : World) (i' : Int), i' = (j : Int) → Calls Try.prog 144 #[.int .i64 1, .int .i64 i'] W fun e w' => e = .returned (.int .u8 (markB 1 j)) ∧ w' = W := fun W i' e => by subst e; exact markByte_same W 1 j (by omega) (by omega) (by omega) (by omega)
        have HB := Lib.hid hbr
        have HL := Lib.hid hLr
        have HM := Lib.hid hmk
        generalize markB 1 j = x at hxa HM
        clear hbr hLr hmk
        go_wp2_with fail
        go_quiet ((go_at_call 144; exact Calls.quiet_of_same (HM.out _ _ (by omega))))
        go_wp2_with fail
        go_roundw
        case rel => exact ⟨l.length + j + 1, by omega, by go_num, drewN_below HB.out _⟩
        case measure => simp [intOf]; omega
    · obtain rfl : k = l.length + 12 := by omega
      go_wp2_with fail
      go_ret
      exact ⟨rfl, hbr⟩

set_option maxRecDepth 100000
set_option maxHeartbeats 1000000 in
theorem overBytes_any (w : World) (g : Nat) (l : List Int) (hL : LentB w g l) (hlen : l.length ≤ 1000000) :
    Calls Try.prog 78 #[.slice (some ⟨g, 0, none⟩) l.length (l.length + 12)] w fun e w' => e = .returned (.tuple #[]) ∧ Chg (fun b => b = g) w w' := by
  have hl0 : RowC w g 5 (bytesV (l ++ marksB 1 0 12)) := hL
  have hl1 : (bytesV (l ++ marksB 1 0 12)).length = l.length + 12 := by simp [bytesV, marksB_len]
  generalize bytesV (l ++ marksB 1 0 12) = cs0 at hl0 hl1
  have HL := Lib.hid hl1
  clear hl1 hL
  go_enter Try.func78, Try.ntmps78
  go_wp2_with fail
  go_loopw [3] (fun t wr => ∃ (k : Nat) (cs : List Value), k ≤ l.length + 12 ∧ t = .int .i64 k ∧ RowC wr g 5 cs ∧ cs.length = l.length + 12 ∧ Chg (fun b => b = g) w wr) (fun t _ => l.length + 12 - (intOf t).toNat)
  case atStart => exact ⟨0, cs0, by omega, rfl, hl0, HL.out, Chg.refl _ _⟩
  case round =>
    obtain ⟨k, cs, hk, rfl, hrk, hck, hcc⟩ := hrel
    by_cases hlt : k < l.length + 12
    · obtain ⟨u, hu⟩ : ∃ u, cs[k]? = some u := ⟨_, List.getElem?_eq_getElem (by omega)⟩
      have hxa := hrk.cell k u hu
      have hfa := hrk.free k
      have HC := Lib.hid hck
      have HR := Lib.hid hrk
      have HH := Lib.hid hcc
      clear hck hrk hcc hl0 hu
      go_wp2_with
        (first
          | (go_at_call 144; refine (markByte_any _ 2 k (by omega) (by omega) (by omega) (by omega)).mono ?_; rintro e w3 ⟨rfl, rfl⟩))
      go_roundw
      case rel => exact ⟨k + 1, _, by omega, by go_num, HR.out.set k _, by rw [List.length_set]; exact HC.out, HH.out.trans (chg_setCell _ _ _ _)⟩
      case measure => simp [intOf]; omega
    · obtain rfl : k = l.length + 12 := by omega
      go_wp2_with fail
      go_end0
      exact ⟨rfl, hcc⟩
end Go.Proofs.Yteeamlidmkpohaa


/-
  LentFates, KeptFates.
-/
set_option linter.unusedVariables false
set_option linter.unusedSimpArgs false
namespace Go.Proofs.Yteeamlidmkpohaa
open Go.RowKit Go.Sort

def marksI (k from' n : Nat) : List Int := (List.range n).map fun (i : Nat) => markI k ((from' + i : Nat) : Int)
theorem marksI_len (k f n : Nat) : (marksI k f n).length = n := by simp [marksI]
theorem marksI_succ (k f n : Nat) : marksI k f (n + 1) = marksI k f n ++ [markI k ((f + n : Nat) : Int)] := by simp [marksI, List.range_succ]

/-- block g of type e holds l, and twelve marks behind it -/
def LentI (w : World) (g : Nat) (e : TypeId) (l : List Int) : Prop := RowC w g e (intsV (l ++ marksI 1 0 12))
theorem LentI.lo {w : World} {g : Nat} {e : TypeId} {l : List Int} (h : LentI w g e l) {k : Nat} (hk : k < l.length) : w.cell? ⟨g, k, none⟩ = some (.int .i64 (l.getD k 0)) := by
  refine RowC.cell h k _ ?_
  simp only [intsV, List.getElem?_map]
  rw [List.getElem?_append_left hk]
  simp [hk]
theorem LentI.hi {w : World} {g : Nat} {e : TypeId} {l : List Int} (h : LentI w g e l) {j : Nat} (hj : j < 12) : w.cell? ⟨g, l.length + j, none⟩ = some (.int .i64 (markI 1 j)) := by
  refine RowC.cell h (l.length + j) _ ?_
  simp only [intsV, List.getElem?_map]
  rw [List.getElem?_append_right (by omega), Nat.add_sub_cancel_left]
  simp [marksI, hj]
theorem LentI.lt {w : World} {g : Nat} {e : TypeId} {l : List Int} (h : LentI w g e l) : g < w.heap.size := RowC.lt h
theorem LentI.chg {F : Nat → Prop} {w w' : World} {g : Nat} {e : TypeId} {l : List Int} (h : LentI w g e l) (hc : Chg F w w') (hF : ¬ F g) : LentI w' g e l := RowC.chg h hc hF
theorem LentI.below {w w' : World} {g : Nat} {e : TypeId} {l : List Int} (h : LentI w g e l) (hc : Below w.heap.size w w') : LentI w' g e l := RowC.below h hc
theorem LentI.ints {w : World} {g : Nat} {e : TypeId} {l : List Int} (h : LentI w g e l) (hl : l.length ≤ 1000000) : IntsIs w (.slice (some ⟨g, 0, none⟩) l.length (l.length + 12)) l := by
  have := RowC.vals (n := l.length) (c := l.length + 12) h (by simp [intsV]) (by omega) (by simp only [maxLen]; omega)
  have e : (intsV (l ++ marksI 1 0 12)).take l.length = intsV l := by simp [intsV]
  rw [e] at this
  exact this.ints

set_option maxRecDepth 100000
theorem markFate_any (w : World) (k i : Int) (hk0 : 0 ≤ k) (hk : k ≤ 1000) (hi0 : 0 ≤ i) (hi : i ≤ 140737488355328) :
    Calls Try.prog 177 #[.int .i64 k, .int .i64 i] w fun e w' => e = .returned (.agg #[.int .i64 (markI k i)]) ∧ Below w.heap.size w w' := by
  go_enter Try.func177, Try.ntmps177
  go_wp2_with
    (first
      | (go_at_call 154; refine (mark_any _ _ _ hk0 hk hi0 hi).mono ?_; rintro e w1 ⟨rfl, rfl⟩))
  exact bodyPost_ret (v := .agg #[.int .i64 (markI k i)]) (by simp [results, Try.results177, go_sem]) rfl ⟨rfl, below_alloc' (Below.refl _ _) _⟩

set_option maxRecDepth 100000
set_option maxHeartbeats 2000000 in
theorem lentFates_any (w : World) (v : Value) (l : List Int) (hv : IntsIs w v l) (hlen : l.length ≤ 1000000) :
    Calls Try.prog 142 #[v] w fun e w' => e = .returned (.slice (some ⟨w.heap.size, 0, none⟩) l.length (l.length + 12)) ∧ LentI w' w.heap.size 51 l ∧ Below w.heap.size w w' := by
  have hvv := hv.vals
  obtain ⟨A, c, rfl, hc, hm, hA⟩ := hv
  obtain ⟨ie, hi, hz, hsize, hby⟩ := info_parts (P := Try.prog) (e := 51) (z := .agg #[.int .i64 0]) (size := 1) (bytes := 8) (by kernel_rfl)
  have hvl : (intsV l).length = l.length := intsV_len l
  go_enter Try.func142, Try.ntmps142
  go_wp2_with
    (first
      | (refine wpList_mk1 rfl _ _ 37 51 ie (.agg #[.int .i64 0]) (.int .i64 0) rfl Try.underlying37 hi hz hsize rfl .i64 .i64 0 _ rfl rfl 0 (l.length + 12) rfl (by simp) (by omega) (by rw [hby]; omega) (by simp only [maxLen]; omega) ?_; intro w1 hr hb hz1; have hvw := hvv.below hb)
      | (refine wpList_app_room rfl _ _ 37 51 ie rfl Try.underlying37 hi hsize w.heap.size 0 (l.length + 12) _ rfl hr (by simp) _ (intsV l) rfl hvw (intsV_one l) (by rw [hvl]; omega) ?_; intro w2 hr2 hc2))
  have hbe : Below w.heap.size w w2 := hb.trans (hc2.below (B := w.heap.size) (by omega) (fun k _ e => by omega))
  have e0 : (List.replicate (l.length + 12) (Value.int .i64 0)).take 0 ++ intsV l ++ (List.replicate (l.length + 12) (Value.int .i64 0)).drop (0 + (intsV l).length) = intsV (l ++ marksI 1 0 0) ++ List.replicate (12 - 0) (Value.int .i64 0) := by
    rw [hvl]
    simp [marksI]
  rw [e0] at hr2
  clear e0 hc2 hr hb hz1 hvw hvv
  have hlt := hr2.lt
  go_loopw [3, 4] (fun s t wr => ∃ k : Nat, k ≤ 12 ∧ s = .slice (some ⟨w.heap.size, 0, none⟩) (l.length + k) (l.length + 12) ∧ t = .int .i64 k ∧ RowC wr w.heap.size 51 (intsV (l ++ marksI 1 0 k) ++ List.replicate (12 - k) (.int .i64 0)) ∧ Below w.heap.size w wr) (fun _ t _ => 12 - (intOf t).toNat)
  case atStart => exact ⟨0, by omega, rfl, rfl, hr2, hbe⟩
  case round =>
    obtain ⟨k, hk, rfl, rfl, hrk, hbk⟩ := hrel
    clear hr2 hbe
    by_cases hlt : k < 12
    · have hlk : (intsV (l ++ marksI 1 0 k) ++ List.replicate (12 - k) (Value.int .i64 0)).length = l.length + 12 := by simp [intsV_len, marksI_len]; omega
      have hgl := hrk.lt
      go_wp2_with
        (first
          | (go_at_call 177; refine (markFate_any _ 1 k (by omega) (by omega) (by omega) (by omega)).mono ?_; rintro e w3 ⟨rfl, hb3⟩; have hrk3 := hrk.below hb3; have hbk3 := below_trans' hbk hb3)
          | (refine wpList_app_room rfl _ _ 37 51 ie rfl Try.underlying37 hi hsize w.heap.size (l.length + k) (l.length + 12) _ rfl (hrk3.below (below_alloc' (Below.refl _ _) _)) hlk _ [.int .i64 (markI 1 k)] rfl (ValsIs.made (heap_alloc_new _ _)) (by simp [Value.oneCell']) (by simp; omega) ?_; intro w4 hr4 hc4))
      go_roundw
      case rel =>
        have hb4 : Below w.heap.size w w4 := (below_alloc' hbk3 _).trans (hc4.below (B := w.heap.size) (by have := hbk3.size; simp; omega) (fun k _ e => by omega))
        refine ⟨k + 1, by omega, rfl, by go_num, ?_, hb4⟩
        have e1 : ∀ (X : List Value), X.length = l.length + k → (X ++ List.replicate (12 - k) (Value.int .i64 0)).take (l.length + k) ++ [Value.int .i64 (markI 1 k)] ++ (X ++ List.replicate (12 - k) (Value.int .i64 0)).drop (l.length + k + [Value.int .i64 (markI 1 k)].length) = X ++ [Value.int .i64 (markI 1 k)] ++ List.replicate (12 - (k + 1)) (Value.int .i64 0) := by
          intro X hX
          rw [List.take_append_of_le_length (by omega), List.take_of_length_le (by omega)]
          rw [List.drop_append, List.drop_eq_nil_of_le (by simp; omega)]
          simp [hX]
          omega
        rw [e1 _ (by simp [intsV_len, marksI_len])] at hr4
        rw [marksI_succ, ← List.append_assoc]
        simpa [intsV] using hr4
      case measure => simp [intOf]; omega
    · obtain rfl : k = 12 := by omega
      go_wp2_with fail
      go_ret
      refine ⟨rfl, ?_, hbk⟩
      simpa [LentI] using hrk

set_option maxRecDepth 100000
set_option maxHeartbeats 2000000 in
theorem keptFates_any (w : World) (g : Nat) (vb : Value) (l : List Int) (hL : LentI w g 51 l) (hv : IntsIs w vb l) (hlen : l.length ≤ 1000000) :
    Calls Try.prog 143 #[.slice (some ⟨g, 0, none⟩) l.length (l.length + 12), vb] w fun e w' => e = .returned (.bool true) ∧ Below w.heap.size w w' := by
  obtain ⟨B, c, rfl, hc, hm, hB⟩ := hv
  go_enter Try.func143, Try.ntmps143
  go_wp2_with fail
  go_loopw [6] (fun t wr => ∃ k : Nat, k ≤ l.length + 12 ∧ t = .int .i64 k ∧ Below w.heap.size w wr) (fun t _ => l.length + 12 - (intOf t).toNat)
  case atStart => exact ⟨0, by omega, rfl, Below.refl _ _⟩
  case round =>
    obtain ⟨k, hk, rfl, hbr⟩ := hrel
    by_cases hlt : k < l.length + 12
    · have hLr : LentI wr g 51 l := RowC.below hL hbr
      by_cases hkl : k < l.length
      · obtain ⟨bd, rfl, hxb⟩ := IntsIs.at_ (hB.below hbr) k hkl
        have hxa := hLr.lo hkl
        have h1 : decide ((k : Int) < (l.length : Int)) = true := by simpa using hkl
        have h2 : decide (l.length ≤ k) = false := by simpa using hkl
        have h1' : decide (k < l.length) = true := by simpa using hkl
        generalize l.getD k 0 = x at hxa hxb
        have HB := Lib.hid hbr
        have HL := Lib.hid hLr
        clear hbr hLr
        go_wp2_with fail
        go_quiet (fail)
        go_wp2_with fail
        go_roundw
        case rel => exact ⟨k + 1, by omega, by go_num, drewN_below HB.out _⟩
        case measure => simp [intOf]; omega
      · obtain ⟨j, rfl⟩ : ∃ j, k = l.length + j := ⟨k - l.length, by omega⟩
        have hxa := hLr.hi (j := j) (by omega)
        have h1 : decide ((l.length : Int) + (j : Int) < (l.length : Int)) = false := by simp; omega
        have h2 : decide ((l.length : Int) ≤ (l.length : Int) + (j : Int)) = true := by simp; omega
        have h1' : decide (l.length + j < l.length) = false := by simp
        have h2' : decide (l.length ≤ l.length + j) = true := by simp
        have hmk : ∀ (W : World) (i' : Int), i' = (j : Int) → Calls Try.prog 177 #[.int .i64 1, .int .i64 i'] W fun e w' => e = .returned (.agg #[.int .i64 (markI 1 j)]) ∧ Below W.heap.size W w' := fun W i' e => by subst e; exact markFate_any W 1 j (by omega) (by omega) (by omega) (by omega)
        have HB := Lib.hid hbr
        have HL := Lib.hid hLr
        have HM := Lib.hid hmk
        generalize markI 1 j = x at hxa HM
        have hca := cell_regrown hxa
        clear hbr hLr hmk
        go_wp2_with fail
        refine wp_region_quiet_below (by kernel_rfl) (by kernel_rfl) ?_
        repeat (go_big_quiet_step (exact Calls.regrown_of (HM.out _ _ (by omega))))
        refine wpQuiet_nil ?_
        intro _ hw'
        obtain ⟨⟨dq, osq⟩, hw''⟩ := hw'
        subst hw''
        have hB := Lib.hid (below_trans' HB.out (below_regrown wr dq osq))
        generalize grow (redrawn wr dq) osq = W1 at hB ⊢
        clear hca hxa
        go_wp2_with fail
        go_roundw
        case rel => exact ⟨l.length + j + 1, by omega, by go_num, hB.out⟩
        case measure => simp [intOf]; omega
    · obtain rfl : k = l.length + 12 := by omega
      go_wp2_with fail
      go_ret
      exact ⟨rfl, hbr⟩

end Go.Proofs.Yteeamlidmkpohaa


/-
  append(s, make([]byte, m)...), onto a row of the call's own.
-/
set_option linter.unusedVariables false
set_option linter.unusedSimpArgs false
namespace Go.Proofs.Yteeamlidmkpohaa
open Go.RowKit Go.Sort

section
variable {P : Program} (w : World)
theorem zeroCells_one (z : Value) (n : Nat) : (Builtin.zeroCells #[z] n).toList = List.replicate n z := by
  apply List.ext_getElem?
  intro j
  by_cases hj : j < n
  · simp [Builtin.zeroCells, hj, Nat.mod_one]
  · simp [Builtin.zeroCells, hj]
theorem run_append_zeros (base : Nat) (t tx ty e : TypeId) (i : TypeInfo) (z : Value) (ht : P.underlying t = some (.slice e)) (hx : P.underlying tx = some (.int .i64)) (hi : P.info? e = some i) (hz : i.zero = some z)
    (hsize : i.size = 1) (hby : i.bytes = 1) (hzc : z.cells = #[z]) (hz1 : z.oneCell' = true)
    (v : Value) (n : Nat) (xs : List Value) (hown : w.ownsRow base e 1 v n xs)
    (m : Nat) (hm : 0 < m) (hb : n + m ≤ 70368744177664) (hbase : base ≤ w.heap.size) :
    ∃ v' w', (Builtin.append_ #[t, tx] ty #[v, .int .i64 (m : Int)]).run P w = .ok v' w' ∧ w'.ownsRow base e 1 v' (n + m) (xs ++ List.replicate m z) ∧ w.grownBy w' v.ownBlock := by
  have h63 : n + m ≤ maxLen := by simp only [maxLen]; omega
  have hlen : (xs ++ List.replicate m z).length = (n + m) * 1 := by rw [List.length_append, hown.1, List.length_replicate]; omega
  have hasI : IntKind.i64.wrap (m : Int) = (m : Int) := by rw [IntKind.wrap_i64]; omega
  have hneg : ¬ ((m : Int) < 0) := by omega
  have h48 : ¬ (281474976710656 < (m : Int)) := by omega
  have hm0 : m ≠ 0 := by omega
  have h63' : ¬ (9223372036854775807 < ((n : Int) + (m : Int))) := by omega
  have hzl := zeroCells_one z m
  have grown : ∀ (old : Nat), old < n + m → ∀ (row : Option Nat),
      (w.drew.alloc (.cells (xs.toArray ++ (List.replicate m z).toArray ++ Builtin.zeroCells z.cells (grownCap w (n + m) old e - (n + m))) e)).ownsRow base e 1
        (.slice (some ⟨w.heap.size, 0, none⟩) (n + m) (grownCap w (n + m) old e)) (n + m) (xs ++ List.replicate m z) ∧
      w.grownBy (w.drew.alloc (.cells (xs.toArray ++ (List.replicate m z).toArray ++ Builtin.zeroCells z.cells (grownCap w (n + m) old e - (n + m))) e)) row := by
    intro old ho row
    have hge := grownCap_ge w (n + m) old e
    have hcm : grownCap w (n + m) old e ≤ maxLen := grownCap_le_maxLen w (n + m) old e h63
    refine ⟨⟨hlen, .inr ⟨w.heap.size, _, _, rfl, hbase, heap_alloc_new w.drew _, hge, hcm, ?_, ?_⟩⟩, ⟨rfl, rfl, rfl, by simp, fun k hk _ => Below.heap_alloc w.drew _ _ hk⟩⟩
    · simp only [Array.size_append, List.size_toArray, size_zeroCells, hzc, hown.1, List.length_replicate]
      simp
      omega
    · simp only [Array.toList_append, List.append_assoc]
      rw [← List.append_assoc, ← hlen]
      exact List.take_left
  have hzarr : Builtin.zeroCells #[z] m = (List.replicate m z).toArray := by
    apply Array.ext'
    rw [hzl]
  rcases hown.2 with ⟨rfl, rfl⟩ | ⟨g, cap, cur, rfl, hbg, hg, hnc, hcm, hcs, htake⟩
  · have hxs : xs = [] := List.eq_nil_of_length_eq_zero (by simpa using hown.1)
    subst hxs
    have hgr := grown 0 (by omega) (Value.ownBlock (.slice none 0 0))
    have hfit : ¬ (281474976710656 < Builtin.nextslicecap m 0) := by rw [nextslicecap_zero hm]; omega
    refine ⟨_, _, ?_, hgr.1, hgr.2⟩
    simp only [Nat.zero_add] at *
    simp [Builtin.append_, run_underlying ht, run_underlying hx, sizeOf, typeInfo, zeroValue, hi, hz, hsize, hby, hasI, hneg, h48, hm0, hfit, Question.forced, run_firstCells_none, newRow, grownCap, asInt, asIntOf, hzc, hzarr]
    omega
  · by_cases hroom : n + m ≤ cap
    · have hrep1 : ∀ u ∈ List.replicate m z, u.oneCell' = true := fun u hu => by rw [List.mem_replicate] at hu; rw [hu.2]; exact hz1
      have hst := run_storeCells_at P g n e (List.replicate m z) 0 cur w hg (by simp; omega) hrep1
      simp only [Nat.add_zero] at hst
      refine ⟨.slice (some ⟨g, 0, none⟩) (n + m) cap, w.setRow g (cur.toList.take n ++ List.replicate m z ++ cur.toList.drop (n + (List.replicate m z).length)).toArray, ?_, ⟨hlen, .inr ⟨g, cap, _, rfl, hbg, setRow_heap w g cur _ e _ hg, hroom, hcm, ?_, ?_⟩⟩, ⟨rfl, rfl, rfl, by simp, fun k _ hk => setRow_other w g k _ (fun e => hk (by simp [Value.ownBlock, e]))⟩⟩
      · simp [Builtin.append_, run_underlying ht, run_underlying hx, sizeOf, typeInfo, zeroValue, hi, hz, hsize, hby, hasI, hneg, h48, hm0, hroom, asInt, asIntOf, hzc, hzarr, Addr.add_lit, hst]
      · simp only [List.size_toArray, List.length_append, List.length_take, List.length_drop, Array.length_toList, List.length_replicate]
        omega
      · have ht' : cur.toList.take n = xs := by simpa using htake
        rw [ht', ← hlen]
        exact List.take_left
    · have holds : ∀ j u, xs[j]? = some u → w.drew.cell? ((⟨g, 0, none⟩ : Addr).add j) = some u := fun j u hu => by simpa using hown.cells (g := g) rfl j u hu
      have hfo := run_firstCells_some (P := P) w.drew 1 n ⟨g, 0, none⟩ n cap xs hown.1 holds
      have hgr := grown cap (by omega) (Value.ownBlock (.slice (some ⟨g, 0, none⟩) n cap))
      have hfit : ¬ (281474976710656 < Builtin.nextslicecap (n + m) cap) := by
        have := growslice_fits (need := n + m) (old := cap) (bytes := 1) (by omega) (by omega)
        omega
      refine ⟨_, _, ?_, hgr.1, hgr.2⟩
      simp [Builtin.append_, run_underlying ht, run_underlying hx, sizeOf, typeInfo, zeroValue, hi, hz, hsize, hby, hasI, hneg, h48, hm0, hroom, hfit, h63', Question.forced, newRow, grownCap, asInt, asIntOf, hzc, hzarr, hfo]
theorem wpList_append_zeros {ops : Array Oper} {rest : List Oper} {o : Oper} {a : Act} {Q : Exit → Act → World → Prop} (hgd : o.guard = none) (s x : Operand) (t tx : TypeId)
    (ho : o.op = .call { callee := .builtin .append, args := #[s, x], argTypes := #[t, tx] })
    (base : Nat) (e : TypeId) (i : TypeInfo) (z : Value) (ht : P.underlying t = some (.slice e)) (hx : P.underlying tx = some (.int .i64)) (hi : P.info? e = some i) (hz : i.zero = some z)
    (hsize : i.size = 1) (hby : i.bytes = 1) (hzc : z.cells = #[z]) (hz1 : z.oneCell' = true)
    (v : Value) (n : Nat) (xs : List Value) (hs : a.eval s = v) (hown : w.ownsRow base e 1 v n xs)
    (m : Nat) (hxm : a.eval x = .int .i64 (m : Int)) (hm : 0 < m) (hb : n + m ≤ 70368744177664) (hbase : base ≤ w.heap.size)
    (h : ∀ v' w', w'.ownsRow base e 1 v' (n + m) (xs ++ List.replicate m z) → w.grownBy w' v.ownBlock → wpList P ops Q rest (a.put o.dst v') w') : wpList P ops Q (o :: rest) a w := by
  obtain ⟨v', w', hr, h2, h3⟩ := run_append_zeros (P := P) w base t tx o.type e i z ht hx hi hz hsize hby hzc hz1 v n xs hown m hm hb hbase
  exact wpList_val hgd (by simp [execOp, ho, hs, hxm, hr, Result.andThen, resolve, invoke, builtin]) (h v' w' h2 h3)
end
end Go.Proofs.Yteeamlidmkpohaa


/-
  The reference's disk in plain words: a list of sectors, and the disk that it tells.
-/
set_option linter.unusedVariables false
set_option linter.unusedSimpArgs false
namespace Go.Proofs.Yteeamlidmkpohaa
open Go.RowKit Go.Sort

/-- a sector that was written: its number, its latest and its safe bytes, is it open; and the slices that hold the bytes -/
structure RS where
  n : Int
  la : List Int
  sa : List Int
  op : Bool
  vl : Value
  vs : Value
def RS.cells (x : RS) : List Value := [.int .i64 x.n, x.vl, x.vs, .bool x.op]
def flat : List RS → List Value
  | [] => []
  | x :: r => x.cells ++ flat r
theorem flat_len : ∀ L : List RS, (flat L).length = L.length * 4
  | [] => rfl
  | x :: r => by simp [flat, RS.cells, flat_len r]; omega
theorem flat_append : ∀ (L M : List RS), flat (L ++ M) = flat L ++ flat M
  | [], M => rfl
  | x :: r, M => by simp [flat, flat_append r M]
theorem flat_at : ∀ (L : List RS) (i : Nat) (x : RS), L[i]? = some x → (flat L)[i * 4]? = some (.int .i64 x.n) ∧ (flat L)[i * 4 + 1]? = some x.vl ∧ (flat L)[i * 4 + 2]? = some x.vs ∧ (flat L)[i * 4 + 3]? = some (.bool x.op)
  | [], i, x, h => by simp at h
  | y :: r, 0, x, h => by
    simp at h
    subst h
    simp [flat, RS.cells]
  | y :: r, i + 1, x, h => by
    have h' : r[i]? = some x := by simpa using h
    have := flat_at r i x h'
    have e : ∀ j, (flat (y :: r))[(i + 1) * 4 + j]? = (flat r)[i * 4 + j]? := fun j => by
      rw [show (i + 1) * 4 + j = (i * 4 + j) + 4 by omega]
      simp [flat, RS.cells]
    exact ⟨by simpa using (e 0).trans this.1, (e 1).trans this.2.1, (e 2).trans this.2.2.1, (e 3).trans this.2.2.2⟩
theorem flat_set1 : ∀ (L : List RS) (i : Nat) (x : RS) (v : Value), L[i]? = some x → (flat L).set (i * 4 + 1) v = flat (L.set i { x with vl := v })
  | [], i, x, v, h => by simp at h
  | y :: r, 0, x, v, h => by
    simp at h
    subst h
    simp [flat, RS.cells]
  | y :: r, i + 1, x, v, h => by
    have h' : r[i]? = some x := by simpa using h
    have := flat_set1 r i x v h'
    rw [show (i + 1) * 4 + 1 = (i * 4 + 1) + 4 by omega]
    simp [flat, RS.cells, this]
theorem flat_set2 : ∀ (L : List RS) (i : Nat) (x : RS) (v : Value), L[i]? = some x → (flat L).set (i * 4 + 2) v = flat (L.set i { x with vs := v })
  | [], i, x, v, h => by simp at h
  | y :: r, 0, x, v, h => by
    simp at h
    subst h
    simp [flat, RS.cells]
  | y :: r, i + 1, x, v, h => by
    have h' : r[i]? = some x := by simpa using h
    have := flat_set2 r i x v h'
    rw [show (i + 1) * 4 + 2 = (i * 4 + 2) + 4 by omega]
    simp [flat, RS.cells, this]
theorem flat_set3 : ∀ (L : List RS) (i : Nat) (x : RS) (b : Bool), L[i]? = some x → (flat L).set (i * 4 + 3) (.bool b) = flat (L.set i { x with op := b })
  | [], i, x, v, h => by simp at h
  | y :: r, 0, x, v, h => by
    simp at h
    subst h
    simp [flat, RS.cells]
  | y :: r, i + 1, x, v, h => by
    have h' : r[i]? = some x := by simpa using h
    have := flat_set3 r i x v h'
    rw [show (i + 1) * 4 + 3 = (i * 4 + 3) + 4 by omega]
    simp [flat, RS.cells, this]

theorem flat_setA : ∀ (L : List RS) (i : Nat) (x : RS) (l : List Int) (v : Value) (b : Bool), L[i]? = some x → ((flat L).set (i * 4 + 1) v).set (i * 4 + 3) (.bool b) = flat (L.set i { x with la := l, op := b, vl := v })
  | [], i, x, l, v, b, h => by simp at h
  | y :: r, 0, x, l, v, b, h => by
    simp at h
    subst h
    simp [flat, RS.cells]
  | y :: r, i + 1, x, l, v, b, h => by
    have h' : r[i]? = some x := by simpa using h
    have := flat_setA r i x l v b h'
    rw [show (i + 1) * 4 + 1 = (i * 4 + 1) + 4 by omega, show (i + 1) * 4 + 3 = (i * 4 + 3) + 4 by omega]
    simp [flat, RS.cells, this]
theorem flat_setB : ∀ (L : List RS) (i : Nat) (x : RS) (l : List Int) (v : Value) (b : Bool), L[i]? = some x → ((flat L).set (i * 4 + 2) v).set (i * 4 + 3) (.bool b) = flat (L.set i { x with sa := l, op := b, vs := v })
  | [], i, x, l, v, b, h => by simp at h
  | y :: r, 0, x, l, v, b, h => by
    simp at h
    subst h
    simp [flat, RS.cells]
  | y :: r, i + 1, x, l, v, b, h => by
    have h' : r[i]? = some x := by simpa using h
    have := flat_setB r i x l v b h'
    rw [show (i + 1) * 4 + 2 = (i * 4 + 2) + 4 by omega, show (i + 1) * 4 + 3 = (i * 4 + 3) + 4 by omega]
    simp [flat, RS.cells, this]

/-- the list tells the disk -/
structure Rel (L : List RS) (D : Dk) : Prop where
  sec : ∀ (i : Nat) (x : RS), L[i]? = some x → IsSec x.la ∧ IsSec x.sa
  lat : ∀ (i : Nat) (x : RS), L[i]? = some x → D.latest x.n = x.la
  saf : ∀ (i : Nat) (x : RS), L[i]? = some x → (D.safe x.n).getD noughts = x.sa
  op : ∀ (i : Nat) (x : RS), L[i]? = some x → x.op = (D.opn x.n).isSome
  uniq : ∀ (i j : Nat) (x y : RS), L[i]? = some x → L[j]? = some y → x.n = y.n → i = j
  no : ∀ k : Int, (∀ (i : Nat) (x : RS), L[i]? = some x → x.n ≠ k) → D.opn k = none ∧ D.safe k = none
  rng : ∀ (i : Nat) (x : RS), L[i]? = some x → 0 ≤ x.n ∧ x.n < D.n

theorem pigeon : ∀ (n m : Nat) (f : Nat → Nat), (∀ i, i < m → f i < n) → (∀ i j, i < m → j < m → f i = f j → i = j) → m ≤ n
  | 0, m, f, h1, _ => by
    rcases Nat.eq_zero_or_pos m with h | h
    · omega
    · have := h1 0 h; omega
  | n + 1, 0, f, _, _ => by omega
  | n + 1, k + 1, f, h1, h2 => by
    have hk := h1 k (by omega)
    have := pigeon n k (fun i => if f i = n then f k else f i) (fun i hi => by
      have a := h1 i (by omega)
      have b : f i = f k → i = k := h2 i k (by omega) (by omega)
      by_cases e : f i = n
      · simp only [e, if_true]
        have : f k ≠ n := fun e2 => by have := b (by omega); omega
        omega
      · simp only [e, if_false]; omega) (fun i j hi hj e => by
      have a : f i = f k → i = k := h2 i k (by omega) (by omega)
      have b : f j = f k → j = k := h2 j k (by omega) (by omega)
      have c : f i = f j → i = j := h2 i j (by omega) (by omega)
      by_cases e1 : f i = n
      · by_cases e2 : f j = n
        · exact c (by omega)
        · simp only [e1, e2, if_true, if_false] at e
          have := b e.symm; omega
      · by_cases e2 : f j = n
        · simp only [e1, e2, if_true, if_false] at e
          have := a e; omega
        · simp only [e1, e2, if_false] at e
          exact c e)
    omega
theorem Rel.len {L : List RS} {D : Dk} (h : Rel L D) (hn : 0 ≤ D.n) : (L.length : Int) ≤ D.n := by
  have := pigeon D.n.toNat L.length (fun i => ((L[i]?).elim 0 RS.n).toNat) (fun i hi => by
    have e : L[i]? = some L[i] := List.getElem?_eq_getElem hi
    have := h.rng i _ e
    simp only [e, Option.elim_some]
    omega) (fun i j hi hj e => by
    have e1 : L[i]? = some L[i] := List.getElem?_eq_getElem hi
    have e2 : L[j]? = some L[j] := List.getElem?_eq_getElem hj
    have r1 := h.rng i _ e1
    have r2 := h.rng j _ e2
    simp only [e1, e2, Option.elim_some] at e
    exact h.uniq i j _ _ e1 e2 (by omega))
  omega

theorem Rel.congr {L : List RS} {D E : Dk} (h : Rel L D) (h1 : E.opn = D.opn) (h2 : E.safe = D.safe) (h3 : E.n = D.n) : Rel L E :=
  ⟨h.sec, fun i x e => by rw [← h.lat i x e]; simp [Dk.latest, h1, h2], fun i x e => by rw [h2]; exact h.saf i x e, fun i x e => by rw [h1]; exact h.op i x e, h.uniq, fun k hk => by rw [h1, h2]; exact h.no k hk, fun i x e => by rw [h3]; exact h.rng i x e⟩
theorem Rel.new (n : Int) : Rel [] (Dk.new n) := ⟨by simp, by simp, by simp, by simp, by simp, fun k _ => ⟨rfl, rfl⟩, by simp⟩

theorem put_latest (D : Dk) (k : Int) (l : List Int) (j : Int) : (D.put k l).latest j = if j = k then l else D.latest j := by
  by_cases e : j = k
  · simp [Dk.latest, Dk.put, e]
  · simp [Dk.latest, Dk.put, e]
/-- a sector is written anew -/
theorem Rel.put {L : List RS} {D : Dk} (h : Rel L D) {i : Nat} {x : RS} (hx : L[i]? = some x) {l : List Int} (hl : IsSec l) (v : Value) : Rel (L.set i { x with la := l, op := true, vl := v }) (D.put x.n l) := by
  have hi : i < L.length := (List.getElem?_eq_some_iff.1 hx).1
  have key : ∀ (j : Nat) (y : RS), (L.set i { x with la := l, op := true, vl := v })[j]? = some y → (j = i ∧ y = { x with la := l, op := true, vl := v }) ∨ (j ≠ i ∧ L[j]? = some y ∧ y.n ≠ x.n) := by
    intro j y hy
    by_cases e : j = i
    · subst e
      rw [List.getElem?_set_self hi] at hy
      cases hy
      exact .inl ⟨rfl, rfl⟩
    · rw [List.getElem?_set_ne (fun e2 => e e2.symm)] at hy
      exact .inr ⟨e, hy, fun e2 => e (h.uniq j i y x hy hx e2)⟩
  have old : ∀ (j : Nat) (y : RS), L[j]? = some y → ∃ z, (L.set i { x with la := l, op := true, vl := v })[j]? = some z ∧ z.n = y.n := by
    intro j y hy
    by_cases e : j = i
    · subst e
      rw [hx] at hy
      cases hy
      exact ⟨_, List.getElem?_set_self hi, rfl⟩
    · exact ⟨y, by rw [List.getElem?_set_ne (fun e2 => e e2.symm)]; exact hy, rfl⟩
  refine ⟨fun j y hy => ?_, fun j y hy => ?_, fun j y hy => ?_, fun j y hy => ?_, fun j m y z hy hz e => ?_, fun k hk => ?_, fun j y hy => ?_⟩
  · rcases key j y hy with ⟨rfl, rfl⟩ | ⟨_, h1, _⟩
    · exact ⟨hl, (h.sec j x hx).2⟩
    · exact h.sec j y h1
  · rcases key j y hy with ⟨rfl, rfl⟩ | ⟨_, h1, h2⟩
    · rw [put_latest, if_pos rfl]
    · rw [put_latest, if_neg h2]; exact h.lat j y h1
  · rcases key j y hy with ⟨rfl, rfl⟩ | ⟨_, h1, h2⟩
    · exact h.saf j x hx
    · exact h.saf j y h1
  · rcases key j y hy with ⟨rfl, rfl⟩ | ⟨_, h1, h2⟩
    · simp [Dk.put]
    · show _ = (if y.n = x.n then some l else D.opn y.n).isSome
      rw [if_neg h2]; exact h.op j y h1
  · rcases key j y hy with ⟨rfl, rfl⟩ | ⟨h0, h1, h2⟩
    · rcases key m z hz with ⟨rfl, rfl⟩ | ⟨_, h3, h4⟩
      · rfl
      · exact absurd e.symm h4
    · rcases key m z hz with ⟨rfl, rfl⟩ | ⟨_, h3, h4⟩
      · exact absurd e h2
      · exact h.uniq j m y z h1 h3 e
  · have hno := h.no k (fun j y hy => by obtain ⟨z, hz, e⟩ := old j y hy; rw [← e]; exact hk j z hz)
    have hne : k ≠ x.n := fun e => by
      obtain ⟨z, hz, e2⟩ := old i x hx
      exact hk i z hz (e2.trans e.symm)
    exact ⟨by show (if k = x.n then some l else D.opn k) = none; rw [if_neg hne]; exact hno.1, hno.2⟩
  · rcases key j y hy with ⟨rfl, rfl⟩ | ⟨_, h1, h2⟩
    · exact h.rng j x hx
    · exact h.rng j y h1
/-- a sector is written for the first time -/
theorem Rel.add {L : List RS} {D : Dk} (h : Rel L D) {k : Int} (k0 : 0 ≤ k) (k1 : k < D.n) (hk : ∀ (i : Nat) (x : RS), L[i]? = some x → x.n ≠ k) {l : List Int} (hl : IsSec l) (v u : Value) : Rel (L ++ [⟨k, l, noughts, true, v, u⟩]) (D.put k l) := by
  obtain ⟨ho, hs⟩ := h.no k hk
  have key : ∀ (j : Nat) (y : RS), (L ++ [⟨k, l, noughts, true, v, u⟩])[j]? = some y → (j = L.length ∧ y = ⟨k, l, noughts, true, v, u⟩) ∨ (L[j]? = some y ∧ y.n ≠ k) := by
    intro j y hy
    by_cases e : j < L.length
    · rw [List.getElem?_append_left e] at hy
      exact .inr ⟨hy, hk j y hy⟩
    · rw [List.getElem?_append_right (by omega)] at hy
      by_cases e2 : j = L.length
      · subst e2
        simp at hy
        exact .inl ⟨rfl, hy.symm⟩
      · rw [List.getElem?_eq_none (by simp; omega)] at hy
        cases hy
  refine ⟨fun j y hy => ?_, fun j y hy => ?_, fun j y hy => ?_, fun j y hy => ?_, fun j m y z hy hz e => ?_, fun m hm => ?_, fun j y hy => ?_⟩
  · rcases key j y hy with ⟨rfl, rfl⟩ | ⟨h1, h2⟩
    · exact ⟨hl, noughts_sec⟩
    · exact h.sec j y h1
  · rcases key j y hy with ⟨rfl, rfl⟩ | ⟨h1, h2⟩
    · rw [put_latest, if_pos rfl]
    · rw [put_latest, if_neg h2]; exact h.lat j y h1
  · rcases key j y hy with ⟨rfl, rfl⟩ | ⟨h1, h2⟩
    · show (D.safe k).getD noughts = noughts
      rw [hs]; rfl
    · exact h.saf j y h1
  · rcases key j y hy with ⟨rfl, rfl⟩ | ⟨h1, h2⟩
    · simp [Dk.put]
    · show _ = (if y.n = k then some l else D.opn y.n).isSome
      rw [if_neg h2]; exact h.op j y h1
  · rcases key j y hy with ⟨rfl, rfl⟩ | ⟨h1, h2⟩
    · rcases key m z hz with ⟨rfl, rfl⟩ | ⟨h3, h4⟩
      · rfl
      · exact absurd e.symm h4
    · rcases key m z hz with ⟨rfl, rfl⟩ | ⟨h3, h4⟩
      · exact absurd e h2
      · exact h.uniq j m y z h1 h3 e
  · have hne : m ≠ k := fun e => hm L.length ⟨k, l, noughts, true, v, u⟩ (by simp) e.symm
    have hno := h.no m (fun j y hy => hm j y (by rw [List.getElem?_append_left (List.getElem?_eq_some_iff.1 hy).1]; exact hy))
    exact ⟨by show (if m = k then some l else D.opn m) = none; rw [if_neg hne]; exact hno.1, hno.2⟩
  · rcases key j y hy with ⟨rfl, rfl⟩ | ⟨h1, h2⟩
    · exact ⟨k0, k1⟩
    · exact h.rng j y h1

/-- each of the first i turned -/
def upd (f : RS → RS) (i : Nat) (L : List RS) : List RS := (L.take i).map f ++ L.drop i
theorem upd_zero (f : RS → RS) (L : List RS) : upd f 0 L = L := by simp [upd]
theorem upd_all (f : RS → RS) (L : List RS) : upd f L.length L = L.map f := by simp [upd]
theorem upd_len (f : RS → RS) (i : Nat) (L : List RS) : (upd f i L).length = L.length := by simp [upd]; omega
theorem upd_at {f : RS → RS} {i : Nat} {L : List RS} {x : RS} (h : L[i]? = some x) : (upd f i L)[i]? = some x := by
  have hi := (List.getElem?_eq_some_iff.1 h).1
  unfold upd
  rw [List.getElem?_append_right (by simp; omega)]
  simp [Nat.min_eq_left (Nat.le_of_lt hi), h]
theorem upd_succ {f : RS → RS} {i : Nat} {L : List RS} {x : RS} (h : L[i]? = some x) : (upd f i L).set i (f x) = upd f (i + 1) L := by
  have hi := (List.getElem?_eq_some_iff.1 h).1
  apply List.ext_getElem?
  intro j
  unfold upd
  rw [List.getElem?_set]
  by_cases e : i = j
  · subst e
    rw [if_pos rfl, if_pos (by simp; omega)]
    rw [List.getElem?_append_left (by simp; omega)]
    rw [List.getElem?_map, List.getElem?_take_of_lt (by omega), h]
    rfl
  · rw [if_neg e]
    by_cases e2 : j < i
    · rw [List.getElem?_append_left (by simp; omega), List.getElem?_append_left (by simp; omega)]
      simp [e2, show j < i + 1 by omega]
    · rw [List.getElem?_append_right (by simp; omega), List.getElem?_append_right (by simp; omega)]
      simp [Nat.min_eq_left (Nat.le_of_lt hi), Nat.min_eq_left hi]
      congr 1
      omega

theorem map_rel {L : List RS} {D E : Dk} (h : Rel L D) (hN : E.n = D.n) (f : RS → RS) (hn : ∀ x, (f x).n = x.n) (hf : ∀ (i : Nat) (x : RS), L[i]? = some x → IsSec (f x).la ∧ IsSec (f x).sa ∧ E.latest x.n = (f x).la ∧ (E.safe x.n).getD noughts = (f x).sa ∧ (f x).op = (E.opn x.n).isSome)
    (hno : ∀ k, D.opn k = none → D.safe k = none → E.opn k = none ∧ E.safe k = none) : Rel (L.map f) E := by
  have key : ∀ (j : Nat) (y : RS), (L.map f)[j]? = some y → ∃ x, L[j]? = some x ∧ y = f x := fun j y hy => by
    rw [List.getElem?_map, Option.map_eq_some_iff] at hy
    obtain ⟨x, h1, h2⟩ := hy
    exact ⟨x, h1, h2.symm⟩
  refine ⟨fun j y hy => ?_, fun j y hy => ?_, fun j y hy => ?_, fun j y hy => ?_, fun j m y z hy hz e => ?_, fun m hm => ?_, fun j y hy => ?_⟩
  · obtain ⟨x, h1, rfl⟩ := key j y hy; exact ⟨(hf j x h1).1, (hf j x h1).2.1⟩
  · obtain ⟨x, h1, rfl⟩ := key j y hy; rw [hn]; exact (hf j x h1).2.2.1
  · obtain ⟨x, h1, rfl⟩ := key j y hy; rw [hn]; exact (hf j x h1).2.2.2.1
  · obtain ⟨x, h1, rfl⟩ := key j y hy; rw [hn]; exact (hf j x h1).2.2.2.2
  · obtain ⟨x, h1, rfl⟩ := key j y hy
    obtain ⟨x2, h3, rfl⟩ := key m z hz
    exact h.uniq j m x x2 h1 h3 (by rw [← hn x, ← hn x2]; exact e)
  · have := h.no m (fun j y hy => by rw [← hn y]; exact hm j (f y) (by rw [List.getElem?_map, hy]; rfl))
    exact hno m this.1 this.2
  · obtain ⟨x, h1, rfl⟩ := key j y hy; rw [hn, hN]; exact h.rng j x h1

def RS.flush (x : RS) : RS := { x with sa := x.la, vs := x.vl, op := false }
theorem Rel.flush {L : List RS} {D : Dk} (h : Rel L D) : Rel (L.map RS.flush) D.flush := by
  refine map_rel (E := D.flush) h rfl RS.flush (fun _ => rfl) (fun i x hx => ?_) (fun k h1 h2 => ⟨rfl, by simp [Dk.flush, Dk.wiped, Dk.laid, h1, h2]⟩)
  have hl := h.lat i x hx
  have e : (if (D.opn x.n).isSome = true then D.opn x.n else D.safe x.n).getD noughts = x.la := by
    rw [← hl]
    unfold Dk.latest
    cases D.opn x.n with
    | some l => simp
    | none => simp
  refine ⟨(h.sec i x hx).1, (h.sec i x hx).1, ?_, e, rfl⟩
  show _ = x.la; simpa [Dk.latest, Dk.flush, Dk.wiped, Dk.laid] using e
def RS.wake (fs : List Int) (x : RS) : RS := if x.op = true then (if fs.contains x.n = true then { x with sa := x.la, vs := x.vl, op := false } else { x with la := x.sa, vl := x.vs, op := false }) else x
theorem RS.wake_n (fs : List Int) (x : RS) : (x.wake fs).n = x.n := by
  unfold RS.wake
  split <;> (try split) <;> rfl
theorem Rel.wake {L : List RS} {D : Dk} (h : Rel L D) (fs : List Int) : Rel (L.map (RS.wake fs)) (D.wake fs) := by
  refine map_rel (E := D.wake fs) h rfl (RS.wake fs) (RS.wake_n fs) (fun i x hx => ?_) (fun k h1 h2 => ⟨rfl, by simp [Dk.wake, Dk.kept, Dk.wiped, Dk.laid, h1, h2]⟩)
  have hl := h.lat i x hx
  have hs := h.saf i x hx
  have ho := h.op i x hx
  obtain ⟨s1, s2⟩ := h.sec i x hx
  have e1 : (D.wake fs).latest x.n = (if (fs.contains x.n && (D.opn x.n).isSome) = true then D.opn x.n else D.safe x.n).getD noughts := rfl
  have e2 : (D.wake fs).safe x.n = (if (fs.contains x.n && (D.opn x.n).isSome) = true then D.opn x.n else D.safe x.n) := rfl
  have e3 : (D.wake fs).opn x.n = none := rfl
  rw [e1, e2, e3]
  unfold RS.wake
  unfold Dk.latest at hl
  cases hop : D.opn x.n with
  | some l =>
    rw [hop] at ho hl
    simp only [Option.isSome_some] at ho
    rw [if_pos ho]
    cases hc : fs.contains x.n with
    | true => simp at hl; simp [hl, s1]
    | false => simp [hs, s2]
  | none =>
    rw [hop] at ho hl
    simp at ho hl
    simp [ho]
    exact ⟨s1, s2, hl, hs⟩
end Go.Proofs.Yteeamlidmkpohaa


/-
  The reference's disk in memory, and its smaller functions.
-/
set_option linter.unusedVariables false
set_option linter.unusedSimpArgs false
namespace Go.Proofs.Yteeamlidmkpohaa
open Go.RowKit Go.Sort

theorem rowOwn_chg {F : Nat → Prop} {w w' : World} {base : Nat} {e : TypeId} {size n : Nat} {v : Value} {xs : List Value} (h : w.ownsRow base e size v n xs) (hc : Chg F w w') (hF : ∀ k, v.ownBlock = some k → ¬ F k) : w'.ownsRow base e size v n xs := by
  obtain ⟨h1, h2⟩ := h
  refine ⟨h1, ?_⟩
  rcases h2 with h2 | ⟨g, cap, cur, rfl, hg, hh, r⟩
  · exact .inl h2
  · exact .inr ⟨g, cap, cur, rfl, hg, (hc.block g (Array.getElem?_eq_some_iff.1 hh).1 (hF g rfl)).trans hh, r⟩
theorem rowOwn_below {w w' : World} {base : Nat} {e : TypeId} {size n : Nat} {v : Value} {xs : List Value} (h : w.ownsRow base e size v n xs) (hc : Below w.heap.size w w') : w'.ownsRow base e size v n xs :=
  rowOwn_chg h (Chg.of_below (F := fun _ => False) hc) (fun _ _ => id)
theorem rowOwn_block {w : World} {base : Nat} {e : TypeId} {size n : Nat} {v : Value} {xs : List Value} (h : w.ownsRow base e size v n xs) {k : Nat} (hk : v.ownBlock = some k) : ∃ cs, w.heap[k]? = some (.cells cs e (0, 0)) := by
  rcases h.2 with ⟨rfl, _⟩ | ⟨g, cap, cur, rfl, hg, hh, r⟩
  · cases hk
  · cases hk; exact ⟨_, hh⟩

/-- the blocks that a reference's disk writes -/
def MF (r : Nat) (lv : Value) : Nat → Prop := fun k => k = r ∨ lv.ownBlock = some k
/-- a row's bytes are what it says, in blocks of Y -/
structure RowAt (w : World) (Y : Nat → Prop) (x : RS) : Prop where
  la : BytesIs w x.vl x.la
  sa : BytesIs w x.vs x.sa
  yl : ∀ k, x.vl.ownBlock = some k → Y k
  ys : ∀ k, x.vs.ownBlock = some k → Y k
/-- block r is a reference's disk that tells D; its list is lv; its bytes lie in blocks of Y -/
structure RefR (w0 w : World) (r : Nat) (lv : Value) (L : List RS) (Y : Nat → Prop) (D : Dk) : Prop where
  blk : w.heap[r]? = some (.cells #[.int .i64 D.n, lv, .int .i64 D.armed, .bool D.down] 174 (0, 0))
  own : w.ownsRow w0.heap.size 179 4 lv L.length (flat L)
  rows : ∀ (i : Nat) (x : RS), L[i]? = some x → RowAt w Y x
  gr : w0.heap.size ≤ r
  y : ∀ k, Y k → w0.heap.size ≤ k ∧ k < w.heap.size ∧ k ≠ r ∧ lv.ownBlock ≠ some k
  sz : w0.heap.size ≤ w.heap.size
structure Ref (w0 w : World) (r : Nat) (lv : Value) (L : List RS) (Y : Nat → Prop) (D : Dk) : Prop extends RefR w0 w r lv L Y D where
  ok : D.Ok
  rel : Rel L D

section
variable {w0 w w' : World} {r : Nat} {lv : Value} {L : List RS} {Y : Nat → Prop} {D : Dk}
theorem RefR.lt (h : RefR w0 w r lv L Y D) : r < w.heap.size := (Array.getElem?_eq_some_iff.1 h.blk).1
theorem RefR.ne (h : RefR w0 w r lv L Y D) : lv.ownBlock ≠ some r := fun e => by
  obtain ⟨cs, hb⟩ := rowOwn_block h.own e
  rw [h.blk] at hb
  cases hb
theorem RefR.mf (h : RefR w0 w r lv L Y D) : ∀ k, MF r lv k → w0.heap.size ≤ k ∧ k < w.heap.size := fun k e => by
  rcases e with rfl | e
  · exact ⟨h.gr, h.lt⟩
  · exact h.own.lt k e
theorem Ref.len (h : Ref w0 w r lv L Y D) : L.length ≤ 262144 := by
  have := h.rel.len (by have := h.ok.n1; omega)
  have := h.ok.n2
  omega
theorem RefR.form (h : RefR w0 w r lv L Y D) : ∃ A c, lv = .slice A L.length c := by
  rcases h.own.2 with ⟨h1, h2⟩ | ⟨g, cap, cur, h1, _⟩
  · exact ⟨none, 0, by rw [h1, h2]⟩
  · exact ⟨_, _, h1⟩
theorem RefR.cells (h : RefR w0 w r lv L Y D) : w.cell? ⟨r, 0, none⟩ = some (.int .i64 D.n) ∧ w.cell? ⟨r, 1, none⟩ = some lv ∧ w.cell? ⟨r, 2, none⟩ = some (.int .i64 D.armed) ∧ w.cell? ⟨r, 3, none⟩ = some (.bool D.down) := by
  refine ⟨?_, ?_, ?_, ?_⟩ <;> simp [World.cell?, h.blk]
theorem RefR.free (h : RefR w0 w r lv L Y D) (i : Nat) : w.frozen? ⟨r, i, none⟩ = false := by
  simp [World.frozen?, h.blk]
theorem RowAt.chg {F : Nat → Prop} {x : RS} (h : RowAt w Y x) (hc : Chg F w w') (hY : ∀ k, Y k → ¬ F k) : RowAt w' Y x :=
  ⟨h.la.chg hc (fun k e => hY k (h.yl k e)), h.sa.chg hc (fun k e => hY k (h.ys k e)), h.yl, h.ys⟩
theorem RowAt.more {Y' : Nat → Prop} {x : RS} (h : RowAt w Y x) (hY : ∀ k, Y k → Y' k) : RowAt w Y' x :=
  ⟨h.la, h.sa, fun k e => hY k (h.yl k e), fun k e => hY k (h.ys k e)⟩
/-- a step elsewhere -/
theorem RefR.chg {F : Nat → Prop} (h : RefR w0 w r lv L Y D) (hc : Chg F w w') (hM : ∀ k, MF r lv k → ¬ F k) (hY : ∀ k, Y k → ¬ F k) : RefR w0 w' r lv L Y D :=
  ⟨(hc.block r h.lt (hM r (.inl rfl))).trans h.blk, rowOwn_chg h.own hc (fun k e => hM k (.inr e)), fun i x hx => (h.rows i x hx).chg hc hY, h.gr, fun k e => ⟨(h.y k e).1, Nat.lt_of_lt_of_le (h.y k e).2.1 hc.size, (h.y k e).2.2⟩, Nat.le_trans h.sz hc.size⟩
theorem RefR.below (h : RefR w0 w r lv L Y D) (hc : Below w.heap.size w w') : RefR w0 w' r lv L Y D := h.chg (Chg.of_below (F := fun _ => False) hc) (fun _ _ => id) (fun _ _ => id)
theorem RefR.drew (h : RefR w0 w r lv L Y D) : RefR w0 w.drew r lv L Y D := h.chg (F := fun _ => False) (Chg.refl _ _).drew (fun _ _ => id) (fun _ _ => id)
theorem RefR.drewN (h : RefR w0 w r lv L Y D) (n : Nat) : RefR w0 (w.drewN n) r lv L Y D := h.chg (F := fun _ => False) ((Chg.refl _ _).drewN n) (fun _ _ => id) (fun _ _ => id)
theorem Ref.chg {F : Nat → Prop} (h : Ref w0 w r lv L Y D) (hc : Chg F w w') (hM : ∀ k, MF r lv k → ¬ F k) (hY : ∀ k, Y k → ¬ F k) : Ref w0 w' r lv L Y D :=
  ⟨h.toRefR.chg hc hM hY, h.ok, h.rel⟩
theorem Ref.below (h : Ref w0 w r lv L Y D) (hc : Below w.heap.size w w') : Ref w0 w' r lv L Y D := h.chg (Chg.of_below (F := fun _ => False) hc) (fun _ _ => id) (fun _ _ => id)
theorem Ref.alloc (h : Ref w0 w r lv L Y D) (ob : Obj) : Ref w0 (w.alloc ob) r lv L Y D := h.below (below_alloc' (Below.refl _ _) ob)
theorem Ref.drew (h : Ref w0 w r lv L Y D) : Ref w0 w.drew r lv L Y D := h.chg (F := fun _ => False) (Chg.refl _ _).drew (fun _ _ => id) (fun _ _ => id)
/-- its own block is written -/
theorem Ref.self (h : Ref w0 w r lv L Y D) {D' : Dk} (i : Nat) (v : Value) (hD : D'.Ok) (e1 : D'.opn = D.opn) (e2 : D'.safe = D.safe) (e3 : D'.n = D.n)
    (hb : (#[.int .i64 D.n, lv, .int .i64 D.armed, .bool D.down] : Array Value).setIfInBounds i v = #[.int .i64 D'.n, lv, .int .i64 D'.armed, .bool D'.down]) : Ref w0 (w.setCell ⟨r, i, none⟩ v) r lv L Y D' := by
  have hc := chg_setCell w r i v
  refine ⟨⟨?_, rowOwn_chg h.own hc (fun k e => fun e2 => h.ne (by rw [e, e2])), fun i x hx => (h.rows i x hx).chg hc (fun k e => (h.y k e).2.2.1), h.gr, fun k e => ⟨(h.y k e).1, by simpa using (h.y k e).2.1, (h.y k e).2.2⟩, by simpa using h.sz⟩, hD, h.rel.congr e1 e2 e3⟩
  rw [heap_setCell w r i v _ _ _ h.blk, hb]
theorem Ref.setArmed (h : Ref w0 w r lv L Y D) (a : Int) (h1 : 0 ≤ a) (h2 : a ≤ 9223372036854775807) : Ref w0 (w.setCell ⟨r, 2, none⟩ (.int .i64 a)) r lv L Y { D with armed := a } :=
  h.self 2 _ ⟨h.ok.n1, h.ok.n2, h.ok.s, h.ok.o, h1, h2⟩ rfl rfl rfl rfl
theorem Ref.setDown (h : Ref w0 w r lv L Y D) (d : Bool) : Ref w0 (w.setCell ⟨r, 3, none⟩ (.bool d)) r lv L Y { D with down := d } :=
  h.self 3 _ ⟨h.ok.n1, h.ok.n2, h.ok.s, h.ok.o, h.ok.a1, h.ok.a2⟩ rfl rfl rfl rfl
end

section
variable {w0 w : World} {r : Nat} {lv : Value} {L : List RS} {Y : Nat → Prop} {D : Dk}

set_option maxRecDepth 100000
theorem rnew_none (w : World) (n : Int) (h : n < 1 ∨ 262144 < n) :
    Calls Try.prog 70 #[.int .i64 n] w fun e w' => e = .returned (.pointer none) ∧ w = w' := by
  rcases h with h | h
  · go_enter Try.func70, Try.ntmps70
    go_wp2
    go_ret
    exact ⟨rfl, rfl⟩
  · have h2 : ¬ n < 1 := by omega
    go_enter Try.func70, Try.ntmps70
    go_wp2
    go_ret
    exact ⟨rfl, rfl⟩
theorem Ref.new (w0 w : World) (hb : Below w0.heap.size w0 w) (n : Int) (h1 : 1 ≤ n) (h2 : n ≤ 262144) :
    Calls Try.prog 70 #[.int .i64 n] w fun e w' => e = .returned (.pointer (some ⟨w.heap.size, 0, none⟩)) ∧ Ref w0 w' w.heap.size (.slice none 0 0) [] (fun _ => False) (Dk.new n) ∧ Below w.heap.size w w' := by
  go_enter Try.func70, Try.ntmps70
  go_wp2
  go_ret
  refine ⟨rfl, ⟨⟨?_, World.ownsRow_nil _ _ _ _, by simp, hb.size, fun _ h => h.elim, by have := hb.size; simp; omega⟩, ⟨h1, h2, (by intro k l h; simp [Dk.new] at h), (by intro k l h; simp [Dk.new] at h), (by simp [Dk.new]), (by simp [Dk.new])⟩, Rel.new n⟩, below_alloc' (Below.refl _ _) _⟩
  exact heap_alloc_new w _
theorem Ref.isDown (h : Ref w0 w r lv L Y D) : Calls Try.prog 72 #[.pointer (some ⟨r, 0, none⟩)] w fun e w' => e = .returned (.bool D.down) ∧ w = w' := by
  obtain ⟨c0, c1, c2, c3⟩ := h.cells
  go_enter Try.func72, Try.ntmps72
  go_wp2
  go_ret
  exact ⟨rfl, rfl⟩
theorem Ref.sectors (h : Ref w0 w r lv L Y D) : Calls Try.prog 112 #[.pointer (some ⟨r, 0, none⟩)] w fun e w' => e = .returned (.int .i64 D.n) ∧ w = w' := by
  obtain ⟨c0, c1, c2, c3⟩ := h.cells
  go_enter Try.func112, Try.ntmps112
  go_wp2
  go_ret
  exact ⟨rfl, rfl⟩
set_option maxHeartbeats 400000 in
theorem Ref.arm (h : Ref w0 w r lv L Y D) (n : Int) (hn : n ≤ 9223372036854775807) :
    Calls Try.prog 140 #[.pointer (some ⟨r, 0, none⟩), .int .i64 n] w fun e w' => e = .returned (.tuple #[]) ∧ Ref w0 w' r lv L Y (D.arm n) ∧ Chg (fun b => b = r) w w' := by
  obtain ⟨c0, c1, c2, c3⟩ := h.cells
  have f2 := h.free 2
  cases hd : D.down with
  | true =>
    rw [hd] at c3
    have e : D.arm n = D := by simp [Dk.arm, hd]
    rw [e]
    go_enter Try.func140, Try.ntmps140
    go_wp2
    go_end0
    exact ⟨rfl, h, Chg.refl _ _⟩
  | false =>
    rw [hd] at c3
    by_cases h1 : 0 < n
    · have e : D.arm n = { D with armed := n } := by simp [Dk.arm, hd, h1]
      rw [e]
      go_enter Try.func140, Try.ntmps140
      go_wp2
      go_end0
      exact ⟨rfl, h.setArmed n (by omega) hn, chg_setCell _ _ _ _⟩
    · have e : D.arm n = { D with armed := 0 } := by simp [Dk.arm, hd, h1]
      rw [e]
      by_cases h4 : n = 0
      · subst h4
        clear h1
        go_enter Try.func140, Try.ntmps140
        go_wp2
        go_end0
        exact ⟨rfl, h.setArmed 0 (by omega) (by omega), chg_setCell _ _ _ _⟩
      · have h2 : n < 0 := by omega
        clear h1 h4
        go_enter Try.func140, Try.ntmps140
        go_wp2
        go_end0
        exact ⟨rfl, h.setArmed 0 (by omega) (by omega), chg_setCell _ _ _ _⟩
set_option maxHeartbeats 400000 in
theorem Ref.crashes (h : Ref w0 w r lv L Y D) (hd : D.down = false) :
    Calls Try.prog 176 #[.pointer (some ⟨r, 0, none⟩)] w fun e w' => e = .returned (.bool D.crash.down) ∧ Ref w0 w' r lv L Y D.crash ∧ Chg (fun b => b = r) w w' := by
  obtain ⟨c0, c1, c2, c3⟩ := h.cells
  have f2 := h.free 2
  have f3 := h.free 3
  have ha := h.ok.a2
  have ha1 := h.ok.a1
  by_cases h1 : 0 < D.armed
  · go_enter Try.func176, Try.ntmps176
    go_wp2
    go_ret
    have e : D.crash = { D with armed := D.armed - 1, down := (D.armed - 1 == 0) } := by simp [Dk.crash, h1]; rfl
    rw [e]
    exact ⟨rfl, (h.setArmed (D.armed - 1) (by omega) (by omega)).setDown _, (chg_setCell _ _ _ _).trans (chg_setCell _ _ _ _)⟩
  · have h2 : D.armed < 1 := by omega
    have e : D.crash = D := by simp [Dk.crash, h1]
    rw [e, hd]
    go_enter Try.func176, Try.ntmps176
    go_wp2
    go_ret
    exact ⟨rfl, h, Chg.refl _ _⟩

/-- a row of the list, as a walk reads it -/
theorem RefR.row (h : RefR w0 w r lv L Y D) {i : Nat} (hi : i < L.length) : ∃ g c x, lv = .slice (some ⟨g, 0, none⟩) L.length c ∧ L[i]? = some x ∧ w.cell? ⟨g, i * 4, none⟩ = some (.int .i64 x.n) ∧ w.cell? ⟨g, i * 4 + 1, none⟩ = some x.vl ∧ w.cell? ⟨g, i * 4 + 2, none⟩ = some x.vs ∧ w.cell? ⟨g, i * 4 + 3, none⟩ = some (.bool x.op) := by
  have hx : L[i]? = some L[i] := List.getElem?_eq_getElem hi
  obtain ⟨g, cap, rfl, _, _⟩ := h.own.form (by omega)
  obtain ⟨a0, a1, a2, a3⟩ := flat_at L i _ hx
  have q : ∀ j, j < 4 → w.cell? ⟨g, i * 4 + j, none⟩ = (flat L)[i * 4 + j]? := fun j hj => h.own.cellAt (i * 4 + j) (by omega)
  exact ⟨g, cap, _, rfl, hx, (q 0 (by omega)).trans a0, (q 1 (by omega)).trans a1, (q 2 (by omega)).trans a2, (q 3 (by omega)).trans a3⟩

set_option maxHeartbeats 1000000 in
theorem Ref.find_at (h : Ref w0 w r lv L Y D) (i : Nat) (x : RS) (hx : L[i]? = some x) :
    Calls Try.prog 145 #[.pointer (some ⟨r, 0, none⟩), .int .i64 x.n] w fun e w' => e = .returned (.int .i64 i) ∧ w = w' := by
  obtain ⟨c0, c1, c2, c3⟩ := h.cells
  have hi : i < L.length := (List.getElem?_eq_some_iff.1 hx).1
  have hlen := h.len
  obtain ⟨A, c, rfl⟩ := h.form
  go_enter Try.func145, Try.ntmps145
  go_wp2
  go_loop [5] (fun t => ∃ k : Nat, k ≤ i ∧ t = .int .i64 k) (fun t => i - (intOf t).toNat)
  case atStart => exact ⟨0, by omega, rfl⟩
  case round =>
    obtain ⟨k, hk, rfl⟩ := hrel
    obtain ⟨g, c', y, hv, hy, d0, d1, d2, d3⟩ := h.row (i := k) (by omega)
    cases hv
    have hlt : k < L.length := by omega
    by_cases e : y.n = x.n
    · obtain rfl : k = i := h.rel.uniq k i y x hy hx e
      rw [hx] at hy
      cases hy
      have H := Lib.hid hx
      clear hx e
      go_wp2
      go_ret
      exact ⟨rfl, rfl⟩
    · have hki : k < i := by
        rcases Nat.lt_or_eq_of_le hk with h1 | h1
        · exact h1
        · subst h1
          rw [hx] at hy
          cases hy
          exact absurd rfl e
      have e1 : (y.n == x.n) = false := by simpa using e
      have H := Lib.hid hx
      have H2 := Lib.hid hy
      clear hx hy
      go_wp2
      go_round
      case rel => exact ⟨k + 1, by omega, by go_num⟩
      case measure => simp [intOf]; omega
set_option maxHeartbeats 1000000 in
theorem Ref.find_no (h : Ref w0 w r lv L Y D) (n : Int) (hn : ∀ (i : Nat) (x : RS), L[i]? = some x → x.n ≠ n) :
    Calls Try.prog 145 #[.pointer (some ⟨r, 0, none⟩), .int .i64 n] w fun e w' => e = .returned (.int .i64 (-1)) ∧ w = w' := by
  obtain ⟨c0, c1, c2, c3⟩ := h.cells
  have hlen := h.len
  obtain ⟨A, c, rfl⟩ := h.form
  have HN := Lib.hid hn
  clear hn
  go_enter Try.func145, Try.ntmps145
  go_wp2
  go_loop [5] (fun t => ∃ k : Nat, k ≤ L.length ∧ t = .int .i64 k) (fun t => L.length - (intOf t).toNat)
  case atStart => exact ⟨0, by omega, rfl⟩
  case round =>
    obtain ⟨k, hk, rfl⟩ := hrel
    by_cases hlt : k < L.length
    · obtain ⟨g, c', y, hv, hy, d0, d1, d2, d3⟩ := h.row hlt
      cases hv
      have e := HN.out k y hy
      have e1 : (y.n == n) = false := by simpa using e
      have H2 := Lib.hid hy
      clear hy
      go_wp2
      go_round
      case rel => exact ⟨k + 1, by omega, by go_num⟩
      case measure => simp [intOf]; omega
    · obtain rfl : k = L.length := by omega
      go_wp2
      go_ret
      exact ⟨rfl, rfl⟩
end
end Go.Proofs.Yteeamlidmkpohaa


/-
  The reference's disk: Read.
-/
set_option linter.unusedVariables false
set_option linter.unusedSimpArgs false
namespace Go.Proofs.Yteeamlidmkpohaa
open Go.RowKit Go.Sort

theorem may_zero {D : Dk} {k : Int} (h : D.may k = 0) : D.down = false ∧ 0 ≤ k ∧ k < D.n := by
  unfold Dk.may at h
  split at h
  · cases h
  · split at h
    · cases h
    · split at h
      · cases h
      · exact ⟨by simpa using ‹¬D.down = true›, by omega, by omega⟩
theorem mk512 (W : World) : (Instr.makeSlice 47 (.int .i64 512) (.int .i64 512)).run Try.prog W = .ok (.slice (some ⟨W.heap.size, 0, none⟩) 512 512) (W.alloc (.cells (madeCells #[.int .u8 0] 512) 5)) := Go.run_make_row' (P := Try.prog) 47 5 (.int .u8 0) 1 Try.underlying47 (by kernel_rfl) rfl .i64 .i64 512 (by omega) (by omega) W

section
variable {w0 w : World} {r : Nat} {lv : Value} {L : List RS} {Y : Nat → Prop} {D : Dk}
set_option maxRecDepth 100000
set_option maxHeartbeats 1000000 in
theorem Ref.readNo (h : Ref w0 w r lv L Y D) (k : Int) {c : Int} (hk : D.may k = c) (hc : c ≠ 0) :
    Calls Try.prog 141 #[.pointer (some ⟨r, 0, none⟩), .int .i64 k] w fun e w' => e = .returned (.tuple #[.slice none 0 0, .int .i64 c]) ∧ w = w' := by
  obtain ⟨c0, c1, c2, c3⟩ := h.cells
  cases hd : D.down with
  | true =>
    obtain rfl : c = 9 := by rw [← hk]; simp [Dk.may, hd]
    rw [hd] at c3
    clear hk
    go_enter Try.func141, Try.ntmps141
    go_wp2
    exact bodyPost_ret (v := .tuple #[.slice none 0 0, .int .i64 9]) (by simp [results, Try.results141, go_sem]) rfl ⟨rfl, rfl⟩
  | false =>
    rw [hd] at c3
    by_cases h1 : k < 0
    · obtain rfl : c = 6 := by rw [← hk]; simp [Dk.may, hd, h1]
      clear hk
      go_enter Try.func141, Try.ntmps141
      go_wp2
      exact bodyPost_ret (v := .tuple #[.slice none 0 0, .int .i64 6]) (by simp [results, Try.results141, go_sem]) rfl ⟨rfl, rfl⟩
    · by_cases h2 : D.n ≤ k
      · obtain rfl : c = 6 := by rw [← hk]; simp [Dk.may, hd, h2]
        clear hk
        go_enter Try.func141, Try.ntmps141
        go_wp2
        exact bodyPost_ret (v := .tuple #[.slice none 0 0, .int .i64 6]) (by simp [results, Try.results141, go_sem]) rfl ⟨rfl, rfl⟩
      · exact absurd (by rw [← hk, Dk.may, hd, if_neg (by simp), if_neg (by omega), if_neg (by omega)]) hc
set_option maxHeartbeats 1000000 in
theorem Ref.read (h : Ref w0 w r lv L Y D) (k : Int) (hk : D.may k = 0) :
    Calls Try.prog 141 #[.pointer (some ⟨r, 0, none⟩), .int .i64 k] w fun e w' => ∃ v, e = .returned (.tuple #[v, .int .i64 0]) ∧ BytesIs w' v (D.latest k) ∧ (∀ b, v.ownBlock = some b → w.heap.size ≤ b) ∧ Below w.heap.size w w' := by
  obtain ⟨hd, k0, k1⟩ := may_zero hk
  obtain ⟨c0, c1, c2, c3⟩ := h.cells
  rw [hd] at c3
  have hsec := Dk.latest_sec h.ok k
  obtain ⟨ie, hi, hz, hsize, hby⟩ := info_parts (P := Try.prog) (e := 5) (z := .int .u8 0) (size := 1) (bytes := 1) (by kernel_rfl)
  have hmk := mk512
  by_cases hex : ∃ (i : Nat) (x : RS), L[i]? = some x ∧ x.n = k
  · obtain ⟨i, x, hx, rfl⟩ := hex
    have hlt : i < L.length := (List.getElem?_eq_some_iff.1 hx).1
    have hfind := h.find_at i x hx
    obtain ⟨g, c, y, rfl, hy, d0, d1, d2, d3⟩ := h.row hlt
    rw [hx] at hy
    cases hy
    have hlat := h.rel.lat i x hx
    rw [hlat] at hsec ⊢
    obtain ⟨A, cl, hvl, hcl, hcm, hA⟩ := (h.rows i x hx).la
    rw [hsec.1] at hvl hcl
    rw [hvl] at d1
    have hlen := h.len
    have HF := Lib.hid hfind
    have HX := Lib.hid hx
    have HV := Lib.hid hvl
    have HH := Lib.hid hlat
    clear hfind hx hvl hlat hk
    obtain ⟨ad, rfl⟩ : ∃ ad, A = some ad := by
      obtain ⟨ad, e, _⟩ := hA 0 (.int .u8 (x.la.getD 0 0)) (by simp [bytesV, hsec.1])
      exact ⟨ad, e⟩
    have hal := below_alloc' (Below.refl _ w) (.cells #[] 5)
    have a1 := (hal.cell (p := ⟨r, 1, none⟩) h.lt).trans c1
    have a2 := (hal.cell (p := ⟨g, i * 4 + 1, none⟩) (cell_lt d1)).trans d1
    go_enter Try.func141, Try.ntmps141
    go_wp2_with
      (first
        | (go_at_call 145; refine HF.out.mono ?_; rintro e w1 ⟨rfl, rfl⟩)
        | (refine wpList_val rfl (run_empty47 _) ?_)
        | (refine wpList_append_own _ rfl _ _ 47 rfl w.heap.size 5 ie (.int .u8 0) 1 1 Try.underlying47 hi hz hsize hby rfl (by decide) (.slice (some ⟨w.heap.size, 0, none⟩) 0 0) 0 [] ?_ ?_ ad 512 cl (bytesV x.la) ?_ ?_ ?_ (bytesV_one _) (by decide) (by decide) ?_ ?_
           · rfl
           · exact ownsRow_empty (Nat.le_refl _) (heap_alloc_new w _)
           · rfl
           · rw [bytesV_len, hsec.1]
           · intro j u hj
             obtain ⟨ad', e, h1⟩ := hA j u hj
             cases e
             exact ((below_alloc' (Below.refl _ w) (.cells #[] 5)).cell (cell_lt h1)).trans h1
           · simp
           intro v' w2 hown hgr _))
    refine bodyPost_ret (v := .tuple #[v', .int .i64 0]) (by simp [results, Try.results141, go_sem]) rfl ⟨v', rfl, BytesIs.of_own hsec.1 (by simpa using hown), fun b e => (hown.lt b e).1, ?_⟩
    exact below_grown (below_alloc' (Below.refl _ _) _) hgr (by intro k e; simp [Value.ownBlock] at e; omega)
  · have hno : ∀ (i : Nat) (x : RS), L[i]? = some x → x.n ≠ k := fun i x hx e => hex ⟨i, x, hx, e⟩
    have hfind := h.find_no k hno
    obtain ⟨e1, e2⟩ := h.rel.no k hno
    have hlat : D.latest k = noughts := by simp [Dk.latest, e1, e2]
    rw [hlat]
    have HF := Lib.hid hfind
    clear hfind hno hex hlat e1 e2 hk hsec
    go_enter Try.func141, Try.ntmps141
    go_wp2_with
      (first
        | (go_at_call 145; refine HF.out.mono ?_; rintro e w1 ⟨rfl, rfl⟩))
    refine bodyPost_ret (v := .tuple #[.slice (some ⟨w.heap.size, 0, none⟩) 512 512, .int .i64 0]) (by simp [results, Try.results141, go_sem]) rfl ⟨_, rfl, ?_, fun b e => by simp [Value.ownBlock] at e; omega, below_alloc' (Below.refl _ _) _⟩
    exact BytesIs.of_own (base := 0) List.length_replicate ((rowB_made w 512).own (Nat.zero_le _) List.length_replicate (by decide))
end
end Go.Proofs.Yteeamlidmkpohaa
