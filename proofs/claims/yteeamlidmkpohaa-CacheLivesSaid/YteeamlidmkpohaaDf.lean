/-
  The device: Wake.
-/
import Derived.Test.YteeamlidmkpohaaDe
set_option linter.unusedVariables false
set_option linter.unusedSimpArgs false
namespace Go.Proofs.Yteeamlidmkpohaa
open Go.RowKit Go.Sort

def intsV (l : List Int) : List Value := l.map (Value.int .i64 ·)
/-- a slice of ints, or of structs of one int, as it is read -/
def IntsIs (w : World) (v : Value) (l : List Int) : Prop := ∃ A c, v = .slice A l.length c ∧ l.length ≤ c ∧ c ≤ maxLen ∧ CellsAt w A (intsV l)
theorem IntsIs.chg {F : Nat → Prop} {w w' : World} {v : Value} {l : List Int} (h : IntsIs w v l) (hc : Chg F w w') (hF : ∀ k, v.ownBlock = some k → ¬ F k) : IntsIs w' v l := by
  obtain ⟨A, c, rfl, h1, hm, h2⟩ := h
  exact ⟨A, c, rfl, h1, hm, h2.chg hc (fun a e => hF _ (by subst e; rfl))⟩
theorem IntsIs.at_ {w : World} {A : Option Addr} {l : List Int} (h : CellsAt w A (intsV l)) (i : Nat) (hi : i < l.length) : ∃ ad, A = some ad ∧ w.cell? (ad.add i) = some (.int .i64 (l.getD i 0)) := by
  obtain ⟨ad, e, h1⟩ := h i (.int .i64 (l.getD i 0)) (by simp [intsV, hi])
  exact ⟨ad, e, h1⟩
theorem IntsIs.below {w w' : World} {v : Value} {l : List Int} (h : IntsIs w v l) (hc : Below w.heap.size w w') : IntsIs w' v l := h.chg (Chg.of_below (F := fun _ => False) hc) (fun _ _ => id)
theorem IntsIs.lt {w : World} {v : Value} {l : List Int} (h : IntsIs w v l) (hl : l ≠ []) : ∀ k, v.ownBlock = some k → k < w.heap.size := by
  obtain ⟨A, c, rfl, _, _, hA⟩ := h
  intro k e
  obtain ⟨ad, rfl, hx⟩ := IntsIs.at_ hA 0 (List.length_pos_iff.2 hl)
  have := cell_lt hx
  rw [add_block] at this
  simp [Value.ownBlock] at e
  omega
theorem IntsIs.nil (w : World) : IntsIs w (.slice none 0 0) [] := ⟨none, 0, rfl, Nat.le_refl _, by simp [maxLen], fun j u h => by simp [intsV] at h⟩

def Dk.kept (D : Dk) (fs : List Int) : Dk := D.laid fun x => fs.contains x && (D.opn x).isSome
def Dk.wake (D : Dk) (fs : List Int) : Dk := { (D.kept fs).wiped with armed := 0, down := false }
def Dk.calm (D : Dk) : Dk := { D with armed := 0, down := false }
theorem Dk.calm_ok {D : Dk} (h : D.Ok) : D.calm.Ok := ⟨h.n1, h.n2, h.s, h.o, by simp [Dk.calm], by simp [Dk.calm]⟩

theorem zc162 : Try.zeroCells162 = secA noughts := by kernel_rfl
theorem zc_size : Try.zeroCells162.size = 512 := by rw [zc162, secA_size]; exact noughts_sec.1
theorem look_up {P : Program} {t e : TypeId} (ht : P.underlying t = some (.map 3 e)) (h3 : P.underlying 3 = some (.int .i64)) {b : Nat} {f : Int → Option Value} (k : Int) (z : Value) (hz : ∀ w, (zeroValue e).run P w = .ok z w) :
    ∀ W, MapIs W b f → (Instr.lookup t (.map (some b)) (.int .i64 k) true).run P W = .ok (.tuple #[(f k).getD z, .bool (f k).isSome]) W := fun W hm => (run_lookup ht h3 hm k z (hz W)).1
theorem run_alloc_arr {P : Program} (t : TypeId) (z : Array Value) (w : World) (hz : (zeroValue t).run P w = .ok (.agg z) w) : (Instr.alloc t true (.tuple #[])).run P w = .ok (.pointer (some ⟨w.heap.size, 0, none⟩)) (w.alloc (.cells z t)) := by
  simp [Instr.alloc, hz, newVar, newRow, newObj, Sem.run, Result.andThen, Value.cells]
theorem chg_setCells (w : World) (b o : Nat) (vs : List Value) : Chg (fun k => k = b) w (w.setCells b o vs) := by
  induction vs generalizing w o with
  | nil => exact Chg.refl _ _
  | cons v r ih => exact (chg_setCell w b o v).trans (ih _ _)

theorem DiskAt.drew {w : World} {p ms mo : Nat} {D : Dk} (h : DiskAt w p ms mo D) : DiskAt w.drew p ms mo D := ⟨h.ok, h.blk, h.sm, h.om, h.ne⟩
theorem take_contains {fs : List Int} {k : Nat} {z : Int} (hk : k < fs.length) (hz : fs.getD k 0 = z) (x : Int) : (fs.take (k + 1)).contains x = ((fs.take k).contains x || x == z) := by
  have e : fs[k]? = some z := by
    rw [List.getElem?_eq_getElem hk]
    simp [List.getD, hk] at hz
    rw [hz]
  rw [List.take_add_one, e]
  rw [Bool.eq_iff_iff]
  simp [or_comm]
theorem kept_none {D : Dk} {fs : List Int} {k : Nat} {z : Int} (hk : k < fs.length) (hz : fs.getD k 0 = z) (h : (D.opn z).isSome = false) : D.calm.kept (fs.take (k + 1)) = D.calm.kept (fs.take k) := by
  unfold Dk.kept
  congr 1
  funext x
  rw [take_contains hk hz]
  by_cases e : x = z
  · subst e
    show (_ && (D.opn x).isSome) = (_ && (D.opn x).isSome)
    rw [h]; simp
  · have : (x == z) = false := by simpa using e
    rw [this, Bool.or_false]
theorem kept_some {D : Dk} {fs : List Int} {k : Nat} {z : Int} (hk : k < fs.length) (hz : fs.getD k 0 = z) (h : (D.opn z).isSome = true) : D.calm.kept (fs.take (k + 1)) = D.calm.laid (fun x => (fs.take k).contains x && (D.opn x).isSome || x == z) := by
  unfold Dk.kept
  congr 1
  funext x
  rw [take_contains hk hz]
  by_cases e : x = z
  · subst e
    show (_ && (D.opn x).isSome) = _
    rw [h]; simp
  · have : (x == z) = false := by simpa using e
    rw [this, Bool.or_false, Bool.or_false]
    rfl

theorem there_162 {w : World} {g : Nat} {cs : Array Value} (h : w.heap[g]? = some (.cells cs 162 (0, 0))) (hs : cs.size = 512) : w.there g 0 512 := fun j hj => by
  simp [World.cell?, World.frozen?, h, hs, hj]

set_option maxRecDepth 100000 in
set_option maxHeartbeats 4000000 in
theorem dwake_any (w : World) (p ms mo : Nat) (D : Dk) (h : DiskAt w p ms mo D) (v : Value) (fs : List Int) (hf : IntsIs w v fs) (hne0 : fs ≠ [] → ∀ k, v.ownBlock = some k → k ≠ p ∧ k ≠ ms ∧ k ≠ mo) :
    Calls Try.prog 54 #[.pointer (some ⟨p, 0, none⟩), v] w fun e w' => e = .returned (.tuple #[]) ∧ DiskAt w' p ms mo (D.wake fs) ∧ Chg (fun b => b = p ∨ b = ms ∨ b = mo) w w' := by
  obtain ⟨A, c, rfl, hc, hm, hA⟩ := hf
  obtain ⟨c0, c1, c2, c3, c4⟩ := h.cells
  have f3 := h.free 3
  have f4 := h.free 4
  have hn1 := h.ok.n1
  have hz : (D.n == 0) = false := by simp; omega
  have hwk : D.wake fs = (D.calm.kept fs).wiped := rfl
  rw [hwk]
  clear hwk
  go_enter Try.func54, Try.ntmps54
  go_wp2
  have hD1 : DiskAt ((w.setCell ⟨p, 4, none⟩ (.bool false)).setCell ⟨p, 3, none⟩ (.int .i64 0)) p ms mo D.calm := (h.setDown false).setArmed 0 (by omega) (by omega)
  have hc1 : Chg (fun b => b = p ∨ b = ms ∨ b = mo) w ((w.setCell ⟨p, 4, none⟩ (.bool false)).setCell ⟨p, 3, none⟩ (.int .i64 0)) := ((chg_setCell w p 4 _).trans (chg_setCell _ p 3 _)).mono (fun _ _ e => .inl e)
  generalize (w.setCell ⟨p, 4, none⟩ (.bool false)).setCell ⟨p, 3, none⟩ (.int .i64 0) = wa at hD1 hc1 ⊢
  clear c0 c1 c2 c3 c4 f3 f4 hz
  have hok := hD1.ok
  have hap := h.apart
  have hnem := h.ne
  have hl1 := h.lt
  have hl2 := h.sm.lt
  have hl3 := h.om.lt
  have hlen : fs.length ≤ 9223372036854775807 := by simp only [maxLen] at hm; omega
  go_loopw [25] (fun x wr => ∃ k : Nat, k ≤ fs.length ∧ x = .int .i64 k ∧ DiskAt wr p ms mo (D.calm.kept (fs.take k)) ∧ Chg (fun b => b = p ∨ b = ms ∨ b = mo) w wr) (fun x _ => fs.length - (intOf x).toNat)
  case atStart => exact ⟨0, by omega, rfl, (by rw [List.take_zero]; exact hD1), hc1⟩
  case round =>
    obtain ⟨k, hk, rfl, hDr, hcr⟩ := hrel
    by_cases hlt : k < fs.length
    · have hne := hne0 (by rintro rfl; simp at hlt)
      clear hne0
      obtain ⟨ad, rfl, hxa⟩ := IntsIs.at_ (hA.chg hcr (fun a e => by subst e; have := hne a.block rfl; omega)) k hlt
      generalize hz : fs.getD k 0 = z at hxa
      have hsz := hcr.size
      have hxb := heap_alloc_new wr (.cells #[.int .i64 z] 51)
      have hDb := hDr.alloc (.cells #[.int .i64 z] 51)
      have hsec : IsSec ((D.opn z).getD noughts) := by
        cases ho : D.opn z with
        | none => exact noughts_sec
        | some l => exact hok.o z l ho
      have hlk := look_up Try.underlying84 Try.underlying3 (b := mo) (f := fun x => ((D.calm.kept (fs.take k)).opn x).map secV) z (secV noughts) (e := 162) zero162
      have eg : (((D.calm.kept (fs.take k)).opn z).map secV).getD (secV noughts) = secV ((D.opn z).getD noughts) := by
        show ((D.opn z).map secV).getD (secV noughts) = _
        cases D.opn z <;> rfl
      have eb : (((D.calm.kept (fs.take k)).opn z).map secV).isSome = (D.opn z).isSome := by
        show ((D.opn z).map secV).isSome = _
        cases D.opn z <;> rfl
      rw [eg, eb] at hlk
      have hopn : ∀ l, (D.opn z).isSome = true → (D.opn z).getD noughts = l → (D.calm).opn z = some l := fun l h1 h2 => by
        show D.opn z = some l
        cases ho : D.opn z with
        | none => rw [ho] at h1; cases h1
        | some m => rw [ho] at h2; rw [← h2]; rfl
      have hnone : (D.opn z).isSome = false → D.calm.kept (fs.take (k + 1)) = D.calm.kept (fs.take k) := fun e => kept_none hlt hz e
      have hsome : (D.opn z).isSome = true → D.calm.kept (fs.take (k + 1)) = D.calm.laid (fun x => (fs.take k).contains x && (D.opn x).isSome || x == z) := fun e => kept_some hlt hz e
      generalize (D.opn z).getD noughts = l at hsec hlk hopn
      generalize (D.opn z).isSome = ob at hlk hopn hnone hsome
      go_wp2
      have hbs : (wr.alloc (.cells #[.int .i64 z] 51)).heap.size = wr.heap.size + 1 := by simp
      have hcb : Chg (fun b => b = p ∨ b = ms ∨ b = mo) w (wr.alloc (.cells #[.int .i64 z] 51)) := hcr.alloc _
      generalize wr.heap.size = g at hsz hxb hbs ⊢
      generalize wr.alloc (.cells #[.int .i64 z] 51) = wb at hxb hDb hbs hcb ⊢
      obtain ⟨c0, c1, c2, c3, c4⟩ := hDb.cells
      have cx : wb.cell? ⟨g, 0, none⟩ = some (.int .i64 z) := by simp [World.cell?, hxb]
      have hblk := heap_alloc_new wb (.cells Try.zeroCells162 162)
      rw [hbs] at hblk
      have hth : (wb.alloc (.cells Try.zeroCells162 162)).drew.there (g + 1) 0 512 := there_162 hblk zc_size
      have hsz1 : (Try.prog.info? 162).map (·.size) = some (secA l).size := size162' hsec.1
      have hone := bytesV_one l
      have hone2 := secA_one l
      have hs512 : (secA l).size = 512 := by rw [secA_size]; exact hsec.1
      have hb512 : (bytesV l).length = 512 := by rw [bytesV_len]; exact hsec.1
      have hD1 : DiskAt (wb.alloc (.cells Try.zeroCells162 162)).drew p ms mo (D.calm.kept (fs.take k)) := (DiskAt.alloc hDb (.cells Try.zeroCells162 162)).drew
      have hchg := chg_setCells (wb.alloc (.cells Try.zeroCells162 162)).drew (g + 1) 0 (bytesV l)
      have hD2 := hD1.chg hchg (by omega) (by omega) (by omega)
      have S0 : wb.drew.cell? ⟨p, 2, none⟩ = some (.map (some mo)) ∧ wb.drew.cell? ⟨g, 0, none⟩ = some (.int .i64 z) ∧ MapIs wb.drew mo (fun x => ((D.calm.kept (fs.take k)).opn x).map secV) := ⟨c2, cx, hDb.om⟩
      have cx1 : (wb.alloc (.cells Try.zeroCells162 162)).drew.cell? ⟨g, 0, none⟩ = some (.int .i64 z) := (World.cell?_alloc_some wb ⟨g, 0, none⟩ _ (by rw [cx]; rfl)).trans cx
      have S1 := And.intro hD1.cells.2.2.1 (And.intro cx1 hD1.om)
      have cx2 := (hchg.cell (p := ⟨g, 0, none⟩) (by have := cell_lt cx1; exact this) (by simp only; omega)).trans cx1
      have S2 := And.intro hD2.cells.2.2.1 (And.intro cx2 hD2.om)
      go_region_held3 (fun w' => w'.cell? ⟨p, 2, none⟩ = some (.map (some mo)) ∧ w'.cell? ⟨g, 0, none⟩ = some (.int .i64 z) ∧ MapIs w' mo (fun x => ((D.calm.kept (fs.take k)).opn x).map secV)) (first | exact S0 | exact S1 | exact S2) (fail)
      all_goals
        have hI := World.rangeAt_setCells_same (wb.alloc (.cells Try.zeroCells162 162)).drew (g + 1) 0 (bytesV l) (by rw [hb512]; exact hth)
        have hc2 : Chg (fun b => b = p ∨ b = ms ∨ b = mo) w ((wb.alloc (.cells Try.zeroCells162 162)).drew.setCells (g + 1) 0 (bytesV l)) := ((hcb.alloc (.cells Try.zeroCells162 162)).drew).then hchg (fun i hi e => by omega)
        generalize (wb.alloc (.cells Try.zeroCells162 162)).drew.setCells (g + 1) 0 (bytesV l) = w2 at hI hc2 hD2 cx2 ⊢
        clear S0 S1 S2 cx1 hD1 hchg hth hblk c0 c1 c2 c3 c4 cx hxb hbs hxa
        obtain ⟨c0, c1, c2, c3, c4⟩ := hD2.cells
        cases ob with
        | false =>
          go_wp2
          go_roundw
          case rel => exact ⟨k + 1, by omega, by go_num, hnone rfl ▸ hD2, hc2⟩
          case measure => simp [intOf]; omega
        | true =>
          go_wp2
          obtain ⟨w7, hup, hm7, hc7⟩ := map_update w2.drew Try.underlying84 Try.underlying3 hD2.sm z (.agg (bytesV l).toArray)
          have hc7' : Chg (fun i => i = ms) w2 w7 := ((Chg.refl _ w2).drew).trans hc7
          have hsz := hsz1
          rw [hs512, ← hb512] at hsz
          have hu162 : Try.prog.underlying 162 = some (.array 512 5) := Try.underlying162
          have d1 : w7.cell? ⟨p, 1, none⟩ = some (.map (some ms)) := (hc7'.cell (p := ⟨p, 1, none⟩) hD2.lt (fun e => hap.1 e.symm)).trans c1
          have dx : w7.cell? ⟨g, 0, none⟩ = some (.int .i64 z) := (hc7'.cell (p := ⟨g, 0, none⟩) (cell_lt cx2) (by simp only; omega)).trans cx2
          have drg : w7.rangeAt (g + 1) 0 (bytesV l) := fun j u hu => (hc7'.cell (p := ⟨g + 1, 0 + j, none⟩) (cell_lt (a := ⟨g + 1, 0 + j, none⟩) (hI j u hu)) (by simp only; omega)).trans (hI j u hu)
          go_region_held3 (fun w' => w'.cell? ⟨p, 1, none⟩ = some (.map (some ms)) ∧ w'.cell? ⟨g, 0, none⟩ = some (.int .i64 z) ∧ w'.rangeAt (g + 1) 0 (bytesV l)) (first | exact ⟨c1, cx2, hI⟩ | exact ⟨d1, dx, drg⟩) (fail)
          all_goals
            have hD7 := hD2.lay hc7' z l (hopn l (by simp) rfl) hm7 hok
            have hc8 : Chg (fun b => b = p ∨ b = ms ∨ b = mo) w w7 := hc2.trans (hc7'.mono (fun i hi e => .inr (.inl e)))
            have hk1 := hsome (by simp)
            have hD8 : DiskAt w7 p ms mo (D.calm.kept (fs.take (k + 1))) := by rw [hk1]; exact hD7
            clear c0 c1 c2 c3 c4 hI hup d1 dx drg hlk hopn hnone hsome cx2 hD2 hm7
            go_wp2
            go_roundw
            case rel => exact ⟨k + 1, by omega, by go_num, hD8, hc8⟩
            case measure => simp [intOf]; omega
    · obtain rfl : k = fs.length := by omega
      rw [List.take_length] at hDr
      obtain ⟨c0, c1, c2, c3, c4⟩ := hDr.cells
      go_wp2_with
        (first
          | (refine wpList_clear Try.underlying84 Try.underlying3 rfl _ rfl mo rfl _ hDr.om ?_; intro w6 hm6 hc6))
      go_end0
      exact ⟨rfl, ⟨Dk.wiped_ok hDr.ok, (hc6.block p hDr.lt (fun e => hap.2 e.symm)).trans hDr.blk, hDr.sm.chg hc6 hDr.ne, hm6, hDr.ne⟩, hcr.then hc6 (fun _ _ e => .inr (.inr e))⟩
end Go.Proofs.Yteeamlidmkpohaa
