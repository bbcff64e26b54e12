/-
  The device: Sync.
-/
import Derived.Test.YteeamlidmkpohaaDd
set_option linter.unusedVariables false
set_option linter.unusedSimpArgs false
namespace Go.Proofs.Yteeamlidmkpohaa
open Go.RowKit Go.Sort

/-- the safe ones, as far as the open ones of T have been laid over them -/
def Dk.laid (D : Dk) (T : Int → Bool) : Dk := { D with safe := fun x => if T x = true then D.opn x else D.safe x }
def Dk.wiped (D : Dk) : Dk := { D with opn := fun _ => none }
def Dk.flush (D : Dk) : Dk := (D.laid fun x => (D.opn x).isSome).wiped
def Dk.sync (D : Dk) : Dk := if D.crash.down = true then D.crash else D.crash.flush
theorem Dk.laid_ok {D : Dk} (h : D.Ok) (T : Int → Bool) : (D.laid T).Ok :=
  ⟨h.n1, h.n2, fun x m hm => by
    simp only [Dk.laid] at hm
    by_cases e : T x = true
    · rw [if_pos e] at hm; exact h.o x m hm
    · rw [if_neg e] at hm; exact h.s x m hm, h.o, h.a1, h.a2⟩
theorem Dk.wiped_ok {D : Dk} (h : D.Ok) : D.wiped.Ok := ⟨h.n1, h.n2, h.s, fun x m hm => by simp [Dk.wiped] at hm, h.a1, h.a2⟩
theorem Dk.flush_ok {D : Dk} (h : D.Ok) : D.flush.Ok := Dk.wiped_ok (Dk.laid_ok h _)

/-- one more is laid -/
theorem DiskAt.lay {w w' : World} {p ms mo : Nat} {D : Dk} {T : Int → Bool} (h : DiskAt w p ms mo (D.laid T)) (hc : Chg (fun i => i = ms) w w') (k : Int) (l : List Int) (hk : D.opn k = some l)
    (hm : MapIs w' ms (fun x => if x = k then some (secV l) else ((D.laid T).safe x).map secV)) (hD : D.Ok) : DiskAt w' p ms mo (D.laid fun x => T x || x == k) :=
  ⟨Dk.laid_ok hD _, (hc.block p h.lt (fun e => h.apart.1 e.symm)).trans h.blk, hm.congr (fun x => by
    simp only [Dk.laid]
    by_cases e : x = k
    · subst e; simp [hk]
    · rw [if_neg e]
      have : (x == k) = false := by simpa using e
      simp [this]), h.om.chg hc (fun e => h.ne e.symm), h.ne⟩

theorem cells_162 {w : World} {g : Nat} {l : List Int} (h : w.heap[g]? = some (.cells (secA l) 162 (0, 0))) : w.rangeAt g 0 (bytesV l) := fun j u hu => by
  have := cells_at h j u (by simpa [secA] using hu)
  rwa [Addr.add_mid] at this

set_option maxRecDepth 100000 in
set_option maxHeartbeats 4000000 in
theorem dsync_ok (w : World) (p ms mo : Nat) (D : Dk) (h : DiskAt w p ms mo D) (hd0 : D.down = false) :
    Calls Try.prog 51 #[.pointer (some ⟨p, 0, none⟩)] w fun e w' => e = .returned (.int .i64 (errOf D.sync.down)) ∧ DiskAt w' p ms mo D.sync ∧ Chg (fun b => b = p ∨ b = ms ∨ b = mo) w w' := by
  have hm := may_any w p ms mo D h 0
  have hmay : D.may 0 = 0 := by have := h.ok.n1; simp [Dk.may, hd0]; omega
  rw [hmay] at hm
  cases hd : D.crash.down with
  | true =>
    have es : D.sync = D.crash := by simp [Dk.sync, hd]
    rw [es]
    go_enter Try.func51, Try.ntmps51
    go_wp2_with
      (first
        | (go_at_call 130; refine hm.mono ?_; rintro e w1 ⟨rfl, rfl⟩)
        | (go_at_call 131; refine (crash_any _ p ms mo D h).mono ?_; rintro e w3 ⟨rfl, hD3, hc3⟩; rw [hd]))
    go_ret
    exact ⟨by rw [hd]; rfl, hD3, hc3.mono (fun _ _ e => .inl e)⟩
  | false =>
    have es : D.sync = D.crash.flush := by simp [Dk.sync, hd]
    have hdf : D.crash.flush.down = false := hd
    rw [es]
    go_enter Try.func51, Try.ntmps51
    go_wp2_with
      (first
        | (go_at_call 130; refine hm.mono ?_; rintro e w1 ⟨rfl, rfl⟩)
        | (go_at_call 131; refine (crash_any _ p ms mo D h).mono ?_; rintro e w3 ⟨rfl, hD3, hc3⟩; rw [hd]; obtain ⟨c0, c1, c2, c3, c4⟩ := hD3.cells)
        | (refine wpList_range_map Try.underlying84 Try.underlying3 rfl _ rfl mo rfl _ hD3.om ?_; intro ob hit; go_simp))
    have hB : w.heap.size ≤ w3.heap.size := hc3.size
    have hD4 := hD3.alloc ob
    have hc4 : Chg (fun b => b = p ∨ b = ms ∨ b = mo) w (w3.alloc ob) := (hc3.mono (fun _ _ e => .inl e)).alloc ob
    have hlt := hD3.lt
    have hltm := hD3.sm.lt
    have hlto := hD3.om.lt
    have hok := hD3.ok
    generalize hit0 : w3.heap.size = it at hit hB hlt hltm hlto ⊢
    generalize w3.alloc ob = wa at hit hD4 hc4 ⊢
    clear hD3 hc3 hm c0 c1 c2 c3 c4 es
    generalize hE : D.crash = E at *
    go_loopw [4] (fun x wr => ∃ T : Int → Bool, (∀ k, T k = true → (E.opn k).isSome = true) ∧ IterIs wr it mo (fun k => (E.opn k).map secV) T ∧ DiskAt wr p ms mo (E.laid T) ∧ Chg (fun b => b = p ∨ b = ms ∨ b = mo) w wr) (fun _ wr => leftOf wr it mo)
    case atStart => exact ⟨fun _ => false, fun k e => (Bool.noConfusion e), hit, hD4, hc4⟩
    case round =>
      obtain ⟨T, hT, hI, hDr, hcr⟩ := hrel
      rcases run_next (P := Try.prog) hI 0 with ⟨hall, w5, hnx, hc5⟩ | ⟨k, v, w5, hkv, hTk, hnx, hc5, hI5, hlf, hen⟩
      · have hD5 := hDr.chg hc5 id id id
        obtain ⟨c0, c1, c2, c3, c4⟩ := hD5.cells
        have hTT : ∀ x, T x = (E.opn x).isSome := fun x => by
          cases ho : E.opn x with
          | none =>
            cases ht : T x with
            | false => rfl
            | true => have := hT x ht; rw [ho] at this; exact absurd this (by simp)
          | some l => exact hall x (secV l) (by simp [ho])
        go_wp2_with
          (first
            | (refine wpList_clear Try.underlying84 Try.underlying3 rfl _ rfl mo rfl _ hD5.om ?_; intro w6 hm6 hc6))
        go_ret
        subst hE
        refine ⟨by rw [hdf]; rfl, ⟨Dk.flush_ok hok, (hc6.block p hD5.lt (fun e => hD5.apart.2 e.symm)).trans hD5.blk, (hD5.sm.chg hc6 hD5.ne).congr (fun x => by simp only [Dk.laid, Dk.flush, Dk.wiped, hTT]), hm6, hD5.ne⟩, (hcr.then hc5 (fun _ _ e => e.elim)).then hc6 (fun _ _ e => .inr (.inr e))⟩
      · obtain ⟨l, hol, rfl⟩ := Option.map_eq_some_iff.1 hkv
        have hsec := hok.o k l hol
        have hr := hcr.size
        obtain ⟨li1, li2, li3⟩ := hI.lt
        have hD5 := (hDr.chg hc5 (by omega) (by omega) (by omega)).alloc (.cells (secA l) 162)
        obtain ⟨c0, c1, c2, c3, c4⟩ := hD5.cells
        have hblk := heap_alloc_new w5 (.cells (secA l) 162)
        have hrg := cells_162 hblk
        have hn512 : (secA noughts).size = (secA l).size := by rw [secA_size, noughts_sec.1, secA_size, hsec.1]
        go_wp2_with
          (first
            | (refine wpList_alloc_arr rfl 162 rfl (secA noughts) (zero162 _) ?_)
            | (refine wpList_store_new rfl 162 _ _ rfl (secA l) (secA noughts) 162 rfl rfl (size162' hsec.1) hn512 (secA_one _) ?_))
        go_simp
        have hI6 := (hI5.chg (F := fun _ => False) ((Chg.refl _ w5).alloc (.cells (secA l) 162)) id id)
        have hc6 : Chg (fun x => x = it) wr (w5.alloc (.cells (secA l) 162)) := hc5.alloc _
        have hlf6 : leftOf (w5.alloc (.cells (secA l) 162)) it mo < leftOf wr it mo := by rw [hI6.2]; exact hlf
        have hg5 : wr.heap.size ≤ w5.heap.size := hc5.size
        generalize w5.heap.size = g at hblk hrg hg5 ⊢
        generalize w5.alloc (.cells (secA l) 162) = w6 at *
        obtain ⟨w7, hup, hm7, hc7⟩ := map_update w6.drew Try.underlying84 Try.underlying3 hD5.sm k (.agg (bytesV l).toArray)
        have hc7' : Chg (fun i => i = ms) w6 w7 := ((Chg.refl _ w6).drew).trans hc7
        have hap := hDr.apart
        have hne := hDr.ne
        have hltp := hDr.lt
        have hltms := hDr.sm.lt
        have hsz : (Try.prog.info? 162).map (·.size) = some (bytesV l).length := by rw [bytesV_len, hsec.1]; exact size162
        have hu162 : Try.prog.underlying 162 = some (.array 512 5) := Try.underlying162
        have d1 : w7.cell? ⟨p, 1, none⟩ = some (.map (some ms)) := (hc7'.cell (p := ⟨p, 1, none⟩) hD5.lt (fun e => hap.1 e.symm)).trans c1
        have drg : w7.rangeAt g 0 (bytesV l) := fun j u hu => (hc7'.cell (p := ⟨g, 0 + j, none⟩) (cell_lt (a := ⟨g, 0 + j, none⟩) (hrg j u hu)) (by simp only; omega)).trans (hrg j u hu)
        go_region_held3 (fun w' => w'.cell? ⟨p, 1, none⟩ = some (.map (some ms)) ∧ w'.rangeAt g 0 (bytesV l)) (first | exact ⟨c1, hrg⟩ | exact ⟨d1, drg⟩) (fail)
        have hI7 := hI6.1.chg hc7' (by omega) (fun e => hne e.symm)
        have hD7 := hD5.lay hc7' k l hol hm7 hok
        have hT7 : ∀ x, (T x || x == k) = true → (E.opn x).isSome = true := fun x e => by
          rcases Bool.or_eq_true_iff.1 e with e | e
          · exact hT x e
          · have e : x = k := by simpa using e
            rw [e, hol]; rfl
        have hc8 : Chg (fun b => b = p ∨ b = ms ∨ b = mo) w w7 := (hcr.then hc6 (fun i hi e => by omega)).then hc7' (fun i hi e => .inr (.inl e))
        have hlf7 : leftOf w7 it mo < leftOf wr it mo := by rw [hI7.2]; exact hlf6
        clear c0 c1 c2 c3 c4 hblk hrg hup d1 drg hnx hen
        go_roundw
        case rel => exact ⟨_, _, _, _, _, _, _, _, _, _, _, _, _, ⟨fun x => T x || x == k, hT7, hI7.1, hD7, hc8⟩, rfl⟩
        case measure => exact hlf7
end Go.Proofs.Yteeamlidmkpohaa
