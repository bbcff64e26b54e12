/-
  DevNumbers: each set of sectors, of three that are written.
-/
import Derived.Test.YteeamlidmkpohaaZab
import Derived.Test.YteeamlidmkpohaaZae
import Derived.Test.YteeamlidmkpohaaZah
import Derived.Deep.RegionHeld3
set_option linter.unusedVariables false
set_option linter.unusedSimpArgs false
set_option maxRecDepth 100000
namespace Go.Proofs.Yteeamlidmkpohaa
open Go.RowKit Go.Sort

/-- a disk whose sectors were written by 'full' alone, told by their bytes -/
structure St (D : Dk) (n : Int) (s o : Int → Option Int) : Prop where
  n : D.n = n
  a : D.armed = 0
  d : D.down = false
  s : ∀ j, D.safe j = (s j).map fullL
  o : ∀ j, D.opn j = (o j).map fullL
theorem St.new (n : Int) : St (Dk.new n) n (fun _ => none) (fun _ => none) := ⟨rfl, rfl, rfl, fun _ => rfl, fun _ => rfl⟩
theorem St.write {D : Dk} {n : Int} {s o : Int → Option Int} (h : St D n s o) (k b : Int) : St (D.write k (fullL b)) n s (fun j => if j = k then some b else o j) := by
  rw [Dk.write_calm h.a]
  refine ⟨h.n, h.a, h.d, h.s, fun j => ?_⟩
  show (if j = k then some (fullL b) else D.opn j) = _
  by_cases e : j = k
  · simp [e]
  · simp [e, h.o]
theorem St.sync {D : Dk} {n : Int} {s o : Int → Option Int} (h : St D n s o) : St D.sync n (fun j => if (o j).isSome = true then o j else s j) (fun _ => none) := by
  rw [Dk.sync_calm h.a h.d]
  refine ⟨h.n, h.a, h.d, fun j => ?_, fun _ => rfl⟩
  show (if (D.opn j).isSome = true then D.opn j else D.safe j) = _
  rw [h.o, h.s, Option.isSome_map]
  split <;> rfl
theorem St.wake {D : Dk} {n : Int} {s o : Int → Option Int} (h : St D n s o) (fs : List Int) : St (D.wake fs) n (fun j => if (fs.contains j && (o j).isSome) = true then o j else s j) (fun _ => none) := by
  refine ⟨h.n, rfl, rfl, fun j => ?_, fun _ => rfl⟩
  show (if (fs.contains j && (D.opn j).isSome) = true then D.opn j else D.safe j) = _
  rw [h.o, h.s, Option.isSome_map]
  split <;> rfl
theorem St.latest {D : Dk} {n : Int} {s o : Int → Option Int} (h : St D n s o) {k b : Int} (e : ((o k).orElse fun _ => s k) = some b) : D.latest k = fullL b := by
  unfold Dk.latest
  rw [h.o, h.s]
  cases ho : o k with
  | some x => rw [ho] at e; simp at e; simp [e]
  | none => rw [ho] at e; simp at e; simp [e]
theorem St.may {D : Dk} {n : Int} {s o : Int → Option Int} (h : St D n s o) {k : Int} (h1 : 0 ≤ k) (h2 : k < n) : D.may k = 0 := may_ok h.d (by rw [h.n]; exact h2) h1

theorem IntsIs.of_own {w : World} {base : Nat} {v : Value} {n : Nat} {l : List Int} {t : TypeId} (hl : l.length = n) (h : w.ownsRow base t 1 v n (intsV l)) : IntsIs w v l := by
  subst hl
  rcases h.2 with ⟨rfl, h0⟩ | ⟨g, cap, cur, rfl, hb, hg, hn, hm, hs, ht⟩
  · exact ⟨none, 0, by rw [h0], by omega, by simp [maxLen], fun j u hu => by
      have : l = [] := List.eq_nil_of_length_eq_zero h0
      subst this; simp [intsV] at hu⟩
  · exact ⟨some ⟨g, 0, none⟩, cap, rfl, hn, hm, fun j u hu => ⟨_, rfl, h.cells (g := g) rfl j u hu⟩⟩

section
variable {w0 w : World} {p ms mo : Nat} {D : Dk} {n : Int} {s o : Int → Option Int}
theorem Dev.writeS (h : Dev w0 w p ms mo D) (hS : St D n s o) (k b : Int) (h1 : 0 ≤ k) (h2 : k < n) {v : Value} (hv : BytesIs w v (fullL b)) :
    Calls Try.prog 52 #[.pointer (some ⟨p, 0, none⟩), .int .i64 k, v] w fun e w' => e = .returned (.int .i64 0) ∧ (∃ D', Dev w0 w' p ms mo D' ∧ St D' n s (fun j => if j = k then some b else o j)) ∧ Chg (DF p ms mo) w w' := by
  refine (h.write0 k (hS.may h1 h2) hv (fullL_sec _) (hS.write _ _).d).mono ?_
  rintro e w' ⟨rfl, h1, hc⟩
  exact ⟨rfl, ⟨_, h1, hS.write k b⟩, hc⟩
theorem Dev.syncS (h : Dev w0 w p ms mo D) (hS : St D n s o) :
    Calls Try.prog 51 #[.pointer (some ⟨p, 0, none⟩)] w fun e w' => e = .returned (.int .i64 0) ∧ (∃ D', Dev w0 w' p ms mo D' ∧ St D' n (fun j => if (o j).isSome = true then o j else s j) (fun _ => none)) ∧ Chg (DF p ms mo) w w' := by
  refine (h.sync0 hS.d hS.sync.d).mono ?_
  rintro e w' ⟨rfl, h1, hc⟩
  exact ⟨rfl, ⟨_, h1, hS.sync⟩, hc⟩
theorem Dev.wakeS (h : Dev w0 w p ms mo D) (hS : St D n s o) {v : Value} {fs : List Int} (hf : IntsIs w v fs) (hne : fs ≠ [] → ∀ k, v.ownBlock = some k → ¬ DF p ms mo k) :
    Calls Try.prog 54 #[.pointer (some ⟨p, 0, none⟩), v] w fun e w' => e = .returned (.tuple #[]) ∧ (∃ D', Dev w0 w' p ms mo D' ∧ St D' n (fun j => if (fs.contains j && (o j).isSome) = true then o j else s j) (fun _ => none)) ∧ Chg (DF p ms mo) w w' := by
  refine (h.wake hf hne).mono ?_
  rintro e w' ⟨rfl, h1, hc⟩
  exact ⟨rfl, ⟨_, h1, hS.wake fs⟩, hc⟩
theorem Dev.readS (h : Dev w0 w p ms mo D) (hS : St D n s o) (k b : Int) (h1 : 0 ≤ k) (h2 : k < n) (e : ((o k).orElse fun _ => s k) = some b) :
    Calls Try.prog 55 #[.pointer (some ⟨p, 0, none⟩), .int .i64 k] w fun e w' => ∃ v, e = .returned (.tuple #[v, .int .i64 0]) ∧ BytesIs w' v (fullL b) ∧ Below w.heap.size w w' := by
  refine (h.read k (hS.may h1 h2)).mono ?_
  rintro e' w' ⟨v, rfl, hv, _, hb⟩
  rw [hS.latest e] at hv
  exact ⟨v, rfl, hv, hb⟩
end

theorem own_chg {F : Nat → Prop} {w w' : World} {base : Nat} {e : TypeId} {size n : Nat} {v : Value} {xs : List Value} (h : w.ownsRow base e size v n xs) (hc : Chg F w w') (hF : ∀ k, v.ownBlock = some k → ¬ F k) : w'.ownsRow base e size v n xs := by
  obtain ⟨h1, h2⟩ := h
  refine ⟨h1, ?_⟩
  rcases h2 with h2 | ⟨g, cap, cur, rfl, hg, hh, r⟩
  · exact .inl h2
  · exact .inr ⟨g, cap, cur, rfl, hg, (hc.block g (Array.getElem?_eq_some_iff.1 hh).1 (hF g rfl)).trans hh, r⟩
theorem own_below {w w' : World} {base : Nat} {e : TypeId} {size n : Nat} {v : Value} {xs : List Value} (h : w.ownsRow base e size v n xs) (hc : Below w.heap.size w w') : w'.ownsRow base e size v n xs :=
  own_chg h (Chg.of_below (F := fun _ => False) hc) (fun _ _ => id)

set_option maxHeartbeats 4000000 in
theorem fates_ok (w : World) : Calls Try.prog 60 #[] w fun e w' => e = .returned (.bool true) ∧ Below w.heap.size w w' := by
  have hB := Below.refl w.heap.size w
  obtain ⟨ie, hi, hz, hsize, hby⟩ := info_parts (P := Try.prog) (e := 51) (z := .agg #[.int .i64 0]) (size := 1) (bytes := 8) (by kernel_rfl)
  have k0 : bits .and .i64 0 1 = 0 := by decide +kernel
  have k1 : bits .and .i64 1 1 = 1 := by decide +kernel
  have k2 : bits .and .i64 2 1 = 0 := by decide +kernel
  have k3 : bits .and .i64 3 1 = 1 := by decide +kernel
  have k4 : bits .and .i64 4 1 = 0 := by decide +kernel
  have k5 : bits .and .i64 5 1 = 1 := by decide +kernel
  have k6 : bits .and .i64 6 1 = 0 := by decide +kernel
  have k7 : bits .and .i64 7 1 = 1 := by decide +kernel
  go_enter Try.func60, Try.ntmps60
  go_wp2
  go_loopw [1] (fun x wr => ∃ k : Nat, k ≤ 8 ∧ x = .int .i64 k ∧ Below w.heap.size w wr) (fun x _ => 8 - (intOf x).toNat)
  case atStart => exact ⟨0, by omega, rfl, hB⟩
  case round =>
    clear hB
    obtain ⟨k, hk, rfl, hB⟩ := hrel
    by_cases hlt : k < 8
    · have h8 : k = 0 ∨ k = 1 ∨ k = 2 ∨ k = 3 ∨ k = 4 ∨ k = 5 ∨ k = 6 ∨ k = 7 := by omega
      rcases h8 with rfl | rfl | rfl | rfl | rfl | rfl | rfl | rfl
      · go_wp2_with
          (first
            | (go_at_call 50; refine (Dev.new_ _ hB 3 (by decide) (by decide)).mono ?_; rintro e w2 ⟨rfl, hD, hb2⟩; clear hb2; generalize wr.heap.size + 2 = p at hD ⊢; generalize wr.heap.size + 1 = mo at hD ⊢; generalize wr.heap.size = ms at hD ⊢))
        have hS := St.new 3
        refine wp_loop_rounds 4 ?_
        iterate 4
          rw [rounds_succ]
          go_wp2_with
            (first
              | (go_at_call 53; refine (full_any _ _ (by decide) (by decide)).mono ?_; rintro e w1 ⟨v, rfl, ho, hb⟩; replace hD := hD.below hb; have hv := BytesIs.of_own (fullL_sec _).1 ho; clear ho hb)
              | (go_at_call 52; refine (hD.writeS hS _ _ (by decide) (by decide) hv).mono ?_; rintro e w1 ⟨rfl, ⟨D', hD', hS'⟩, hb⟩; replace hD := hD'; replace hS := hS'; clear hD' hS' hv hb)
              | (go_at_call 51; refine (hD.syncS hS).mono ?_; rintro e w1 ⟨rfl, ⟨D', hD', hS'⟩, hb⟩; replace hD := hD'; replace hS := hS'; clear hD' hS' hb))
        obtain ⟨B0, hB1⟩ : ∃ B0, B0 = w1.heap.size := ⟨_, rfl⟩
        have hdf := hD.lt
        rw [← hB1] at hdf
        have hsz : B0 ≤ w1.heap.size := by omega
        have hB0 : w.heap.size ≤ B0 := by have := hD.be.size; omega
        clear hB1
        have hl : w1.ownsRow B0 51 1 (.slice none 0 0) 0 (intsV []) := World.ownsRow_nil w1 B0 51 1
        refine wp_loop_rounds 4 ?_
        rw [rounds_succ]
        go_wp2_with
          (first
            | (go_at_call 53; refine (full_any _ _ (by decide) (by decide)).mono ?_; rintro e w1 ⟨v, rfl, ho, hb⟩; replace hD := hD.below hb; replace hl := own_below hl hb; replace hsz := Nat.le_trans hsz hb.size; have hv := BytesIs.of_own (fullL_sec _).1 ho; clear ho hb)
            | (go_at_call 52; refine (hD.writeS hS _ _ (by decide) (by decide) hv).mono ?_; rintro e w1 ⟨rfl, ⟨D', hD', hS'⟩, hb⟩; replace hl := own_chg hl hb (fun k e e2 => by have := (hl.lt k e).1; have := hdf k e2; omega); replace hsz := Nat.le_trans hsz hb.size; replace hD := hD'; replace hS := hS'; clear hD' hS' hv hb)
            | (refine wpList_append_own _ rfl _ _ 37 rfl B0 51 ie (.agg #[.int .i64 0]) 1 8 Try.underlying37 hi hz hsize hby rfl (by decide) _ _ _ rfl (hl.alloc _) _ 2 2 [.int .i64 2, .int .i64 2] rfl rfl (fun j u hj => cells_at (heap_alloc_new _ _) j u hj) (by simp [Value.oneCell']) (by decide) (by decide) (by simp; omega) ?_; intro v2 w2 hown hgr _; have hD2 := (hD.below (below_alloc' (Below.refl _ _) (.cells #[.int .i64 2, .int .i64 2] 51))); have hcg : Chg (fun b => B0 ≤ b) _ w2 := (Chg.refl _ _).grown hgr (fun k e _ => ((hl.alloc (.cells #[.int .i64 2, .int .i64 2] 51)).lt k e).1); replace hD := hD2.chg hcg (fun k e => Nat.le_trans hB0 e) (fun k e e2 => by have := hdf k e; omega); replace hl := hown; replace hsz : B0 ≤ w2.heap.size := Nat.le_trans hsz (by have := hcg.size; simp at this; omega); clear hown hgr hD2 hcg))
        rw [rounds_succ]
        go_wp2_with
          (first
            | (go_at_call 53; refine (full_any _ _ (by decide) (by decide)).mono ?_; rintro e w1 ⟨v, rfl, ho, hb⟩; replace hD := hD.below hb; replace hl := own_below hl hb; replace hsz := Nat.le_trans hsz hb.size; have hv := BytesIs.of_own (fullL_sec _).1 ho; clear ho hb)
            | (go_at_call 52; refine (hD.writeS hS _ _ (by decide) (by decide) hv).mono ?_; rintro e w1 ⟨rfl, ⟨D', hD', hS'⟩, hb⟩; replace hl := own_chg hl hb (fun k e e2 => by have := (hl.lt k e).1; have := hdf k e2; omega); replace hsz := Nat.le_trans hsz hb.size; replace hD := hD'; replace hS := hS'; clear hD' hS' hv hb)
            | (refine wpList_append_own _ rfl _ _ 37 rfl B0 51 ie (.agg #[.int .i64 0]) 1 8 Try.underlying37 hi hz hsize hby rfl (by decide) _ _ _ rfl (hl.alloc _) _ 2 2 [.int .i64 1, .int .i64 1] rfl rfl (fun j u hj => cells_at (heap_alloc_new _ _) j u hj) (by simp [Value.oneCell']) (by decide) (by decide) (by simp; omega) ?_; intro v2 w2 hown hgr _; have hD2 := (hD.below (below_alloc' (Below.refl _ _) (.cells #[.int .i64 1, .int .i64 1] 51))); have hcg : Chg (fun b => B0 ≤ b) _ w2 := (Chg.refl _ _).grown hgr (fun k e _ => ((hl.alloc (.cells #[.int .i64 1, .int .i64 1] 51)).lt k e).1); replace hD := hD2.chg hcg (fun k e => Nat.le_trans hB0 e) (fun k e e2 => by have := hdf k e; omega); replace hl := hown; replace hsz : B0 ≤ w2.heap.size := Nat.le_trans hsz (by have := hcg.size; simp at this; omega); clear hown hgr hD2 hcg))
        rw [rounds_succ]
        go_wp2_with
          (first
            | (go_at_call 53; refine (full_any _ _ (by decide) (by decide)).mono ?_; rintro e w1 ⟨v, rfl, ho, hb⟩; replace hD := hD.below hb; replace hl := own_below hl hb; replace hsz := Nat.le_trans hsz hb.size; have hv := BytesIs.of_own (fullL_sec _).1 ho; clear ho hb)
            | (go_at_call 52; refine (hD.writeS hS _ _ (by decide) (by decide) hv).mono ?_; rintro e w1 ⟨rfl, ⟨D', hD', hS'⟩, hb⟩; replace hl := own_chg hl hb (fun k e e2 => by have := (hl.lt k e).1; have := hdf k e2; omega); replace hsz := Nat.le_trans hsz hb.size; replace hD := hD'; replace hS := hS'; clear hD' hS' hv hb)
            | (refine wpList_append_own _ rfl _ _ 37 rfl B0 51 ie (.agg #[.int .i64 0]) 1 8 Try.underlying37 hi hz hsize hby rfl (by decide) _ _ _ rfl (hl.alloc _) _ 2 2 [.int .i64 0, .int .i64 0] rfl rfl (fun j u hj => cells_at (heap_alloc_new _ _) j u hj) (by simp [Value.oneCell']) (by decide) (by decide) (by simp; omega) ?_; intro v2 w2 hown hgr _; have hD2 := (hD.below (below_alloc' (Below.refl _ _) (.cells #[.int .i64 0, .int .i64 0] 51))); have hcg : Chg (fun b => B0 ≤ b) _ w2 := (Chg.refl _ _).grown hgr (fun k e _ => ((hl.alloc (.cells #[.int .i64 0, .int .i64 0] 51)).lt k e).1); replace hD := hD2.chg hcg (fun k e => Nat.le_trans hB0 e) (fun k e e2 => by have := hdf k e; omega); replace hl := hown; replace hsz : B0 ≤ w2.heap.size := Nat.le_trans hsz (by have := hcg.size; simp at this; omega); clear hown hgr hD2 hcg))
        rw [rounds_succ]
        go_wp2_with
          (first
            | (go_at_call 54; refine (hD.wakeS hS (IntsIs.of_own (l := []) rfl hl) (fun _ k e e2 => by have := (hl.lt k e).1; have := hdf k e2; omega)).mono ?_; rintro e w1 ⟨rfl, ⟨D', hD', hS'⟩, hb⟩; replace hD := hD'; replace hS := hS'; clear hD' hS' hl hb))
        refine wp_loop_rounds 4 ?_
        rw [rounds_succ]
        go_wp2_with
          (first
            | (go_at_call 55; refine (hD.readS hS _ 0 (by decide) (by decide) (by rfl)).mono ?_; rintro e w1 ⟨va, rfl, ha, hb⟩; replace hD := hD.below hb; clear hb)
            | (go_at_call 53; refine (full_any _ _ (by decide) (by decide)).mono ?_; rintro e w1 ⟨v, rfl, ho, hb⟩; replace hD := hD.below hb; replace ha := ha.below hb; have hv := BytesIs.of_own (fullL_sec _).1 ho; clear ho hb)
            | (go_at_call 58; refine (sameBytes_eq _ _ _ _ ha hv).mono ?_; rintro e w1 ⟨rfl, hb⟩; replace hD := hD.below hb; clear hb ha hv))
        rw [rounds_succ]
        go_wp2_with
          (first
            | (go_at_call 55; refine (hD.readS hS _ 1 (by decide) (by decide) (by rfl)).mono ?_; rintro e w1 ⟨va, rfl, ha, hb⟩; replace hD := hD.below hb; clear hb)
            | (go_at_call 53; refine (full_any _ _ (by decide) (by decide)).mono ?_; rintro e w1 ⟨v, rfl, ho, hb⟩; replace hD := hD.below hb; replace ha := ha.below hb; have hv := BytesIs.of_own (fullL_sec _).1 ho; clear ho hb)
            | (go_at_call 58; refine (sameBytes_eq _ _ _ _ ha hv).mono ?_; rintro e w1 ⟨rfl, hb⟩; replace hD := hD.below hb; clear hb ha hv))
        rw [rounds_succ]
        go_wp2_with
          (first
            | (go_at_call 55; refine (hD.readS hS _ 2 (by decide) (by decide) (by rfl)).mono ?_; rintro e w1 ⟨va, rfl, ha, hb⟩; replace hD := hD.below hb; clear hb)
            | (go_at_call 53; refine (full_any _ _ (by decide) (by decide)).mono ?_; rintro e w1 ⟨v, rfl, ho, hb⟩; replace hD := hD.below hb; replace ha := ha.below hb; have hv := BytesIs.of_own (fullL_sec _).1 ho; clear ho hb)
            | (go_at_call 58; refine (sameBytes_eq _ _ _ _ ha hv).mono ?_; rintro e w1 ⟨rfl, hb⟩; replace hD := hD.below hb; clear hb ha hv))
        rw [rounds_succ]
        go_wp2
        go_roundw
        case rel => exact ⟨1, by omega, by go_num, hD.be⟩
        case measure => simp [intOf]
      · go_wp2_with
          (first
            | (go_at_call 50; refine (Dev.new_ _ hB 3 (by decide) (by decide)).mono ?_; rintro e w2 ⟨rfl, hD, hb2⟩; clear hb2; generalize wr.heap.size + 2 = p at hD ⊢; generalize wr.heap.size + 1 = mo at hD ⊢; generalize wr.heap.size = ms at hD ⊢))
        have hS := St.new 3
        refine wp_loop_rounds 4 ?_
        iterate 4
          rw [rounds_succ]
          go_wp2_with
            (first
              | (go_at_call 53; refine (full_any _ _ (by decide) (by decide)).mono ?_; rintro e w1 ⟨v, rfl, ho, hb⟩; replace hD := hD.below hb; have hv := BytesIs.of_own (fullL_sec _).1 ho; clear ho hb)
              | (go_at_call 52; refine (hD.writeS hS _ _ (by decide) (by decide) hv).mono ?_; rintro e w1 ⟨rfl, ⟨D', hD', hS'⟩, hb⟩; replace hD := hD'; replace hS := hS'; clear hD' hS' hv hb)
              | (go_at_call 51; refine (hD.syncS hS).mono ?_; rintro e w1 ⟨rfl, ⟨D', hD', hS'⟩, hb⟩; replace hD := hD'; replace hS := hS'; clear hD' hS' hb))
        obtain ⟨B0, hB1⟩ : ∃ B0, B0 = w1.heap.size := ⟨_, rfl⟩
        have hdf := hD.lt
        rw [← hB1] at hdf
        have hsz : B0 ≤ w1.heap.size := by omega
        have hB0 : w.heap.size ≤ B0 := by have := hD.be.size; omega
        clear hB1
        have hl : w1.ownsRow B0 51 1 (.slice none 0 0) 0 (intsV []) := World.ownsRow_nil w1 B0 51 1
        refine wp_loop_rounds 4 ?_
        rw [rounds_succ]
        go_wp2_with
          (first
            | (go_at_call 53; refine (full_any _ _ (by decide) (by decide)).mono ?_; rintro e w1 ⟨v, rfl, ho, hb⟩; replace hD := hD.below hb; replace hl := own_below hl hb; replace hsz := Nat.le_trans hsz hb.size; have hv := BytesIs.of_own (fullL_sec _).1 ho; clear ho hb)
            | (go_at_call 52; refine (hD.writeS hS _ _ (by decide) (by decide) hv).mono ?_; rintro e w1 ⟨rfl, ⟨D', hD', hS'⟩, hb⟩; replace hl := own_chg hl hb (fun k e e2 => by have := (hl.lt k e).1; have := hdf k e2; omega); replace hsz := Nat.le_trans hsz hb.size; replace hD := hD'; replace hS := hS'; clear hD' hS' hv hb)
            | (refine wpList_append_own _ rfl _ _ 37 rfl B0 51 ie (.agg #[.int .i64 0]) 1 8 Try.underlying37 hi hz hsize hby rfl (by decide) _ _ _ rfl (hl.alloc _) _ 2 2 [.int .i64 2, .int .i64 2] rfl rfl (fun j u hj => cells_at (heap_alloc_new _ _) j u hj) (by simp [Value.oneCell']) (by decide) (by decide) (by simp; omega) ?_; intro v2 w2 hown hgr _; have hD2 := (hD.below (below_alloc' (Below.refl _ _) (.cells #[.int .i64 2, .int .i64 2] 51))); have hcg : Chg (fun b => B0 ≤ b) _ w2 := (Chg.refl _ _).grown hgr (fun k e _ => ((hl.alloc (.cells #[.int .i64 2, .int .i64 2] 51)).lt k e).1); replace hD := hD2.chg hcg (fun k e => Nat.le_trans hB0 e) (fun k e e2 => by have := hdf k e; omega); replace hl := hown; replace hsz : B0 ≤ w2.heap.size := Nat.le_trans hsz (by have := hcg.size; simp at this; omega); clear hown hgr hD2 hcg))
        rw [rounds_succ]
        go_wp2_with
          (first
            | (go_at_call 53; refine (full_any _ _ (by decide) (by decide)).mono ?_; rintro e w1 ⟨v, rfl, ho, hb⟩; replace hD := hD.below hb; replace hl := own_below hl hb; replace hsz := Nat.le_trans hsz hb.size; have hv := BytesIs.of_own (fullL_sec _).1 ho; clear ho hb)
            | (go_at_call 52; refine (hD.writeS hS _ _ (by decide) (by decide) hv).mono ?_; rintro e w1 ⟨rfl, ⟨D', hD', hS'⟩, hb⟩; replace hl := own_chg hl hb (fun k e e2 => by have := (hl.lt k e).1; have := hdf k e2; omega); replace hsz := Nat.le_trans hsz hb.size; replace hD := hD'; replace hS := hS'; clear hD' hS' hv hb)
            | (refine wpList_append_own _ rfl _ _ 37 rfl B0 51 ie (.agg #[.int .i64 0]) 1 8 Try.underlying37 hi hz hsize hby rfl (by decide) _ _ _ rfl (hl.alloc _) _ 2 2 [.int .i64 1, .int .i64 1] rfl rfl (fun j u hj => cells_at (heap_alloc_new _ _) j u hj) (by simp [Value.oneCell']) (by decide) (by decide) (by simp; omega) ?_; intro v2 w2 hown hgr _; have hD2 := (hD.below (below_alloc' (Below.refl _ _) (.cells #[.int .i64 1, .int .i64 1] 51))); have hcg : Chg (fun b => B0 ≤ b) _ w2 := (Chg.refl _ _).grown hgr (fun k e _ => ((hl.alloc (.cells #[.int .i64 1, .int .i64 1] 51)).lt k e).1); replace hD := hD2.chg hcg (fun k e => Nat.le_trans hB0 e) (fun k e e2 => by have := hdf k e; omega); replace hl := hown; replace hsz : B0 ≤ w2.heap.size := Nat.le_trans hsz (by have := hcg.size; simp at this; omega); clear hown hgr hD2 hcg))
        rw [rounds_succ]
        go_wp2_with
          (first
            | (go_at_call 53; refine (full_any _ _ (by decide) (by decide)).mono ?_; rintro e w1 ⟨v, rfl, ho, hb⟩; replace hD := hD.below hb; replace hl := own_below hl hb; replace hsz := Nat.le_trans hsz hb.size; have hv := BytesIs.of_own (fullL_sec _).1 ho; clear ho hb)
            | (go_at_call 52; refine (hD.writeS hS _ _ (by decide) (by decide) hv).mono ?_; rintro e w1 ⟨rfl, ⟨D', hD', hS'⟩, hb⟩; replace hl := own_chg hl hb (fun k e e2 => by have := (hl.lt k e).1; have := hdf k e2; omega); replace hsz := Nat.le_trans hsz hb.size; replace hD := hD'; replace hS := hS'; clear hD' hS' hv hb)
            | (refine wpList_append_own _ rfl _ _ 37 rfl B0 51 ie (.agg #[.int .i64 0]) 1 8 Try.underlying37 hi hz hsize hby rfl (by decide) _ _ _ rfl (hl.alloc _) _ 2 2 [.int .i64 0, .int .i64 0] rfl rfl (fun j u hj => cells_at (heap_alloc_new _ _) j u hj) (by simp [Value.oneCell']) (by decide) (by decide) (by simp; omega) ?_; intro v2 w2 hown hgr _; have hD2 := (hD.below (below_alloc' (Below.refl _ _) (.cells #[.int .i64 0, .int .i64 0] 51))); have hcg : Chg (fun b => B0 ≤ b) _ w2 := (Chg.refl _ _).grown hgr (fun k e _ => ((hl.alloc (.cells #[.int .i64 0, .int .i64 0] 51)).lt k e).1); replace hD := hD2.chg hcg (fun k e => Nat.le_trans hB0 e) (fun k e e2 => by have := hdf k e; omega); replace hl := hown; replace hsz : B0 ≤ w2.heap.size := Nat.le_trans hsz (by have := hcg.size; simp at this; omega); clear hown hgr hD2 hcg))
        rw [rounds_succ]
        go_wp2_with
          (first
            | (go_at_call 54; refine (hD.wakeS hS (IntsIs.of_own (l := [0, 0]) rfl hl) (fun _ k e e2 => by have := (hl.lt k e).1; have := hdf k e2; omega)).mono ?_; rintro e w1 ⟨rfl, ⟨D', hD', hS'⟩, hb⟩; replace hD := hD'; replace hS := hS'; clear hD' hS' hl hb))
        refine wp_loop_rounds 4 ?_
        rw [rounds_succ]
        go_wp2_with
          (first
            | (go_at_call 55; refine (hD.readS hS _ 100 (by decide) (by decide) (by rfl)).mono ?_; rintro e w1 ⟨va, rfl, ha, hb⟩; replace hD := hD.below hb; clear hb)
            | (go_at_call 53; refine (full_any _ _ (by decide) (by decide)).mono ?_; rintro e w1 ⟨v, rfl, ho, hb⟩; replace hD := hD.below hb; replace ha := ha.below hb; have hv := BytesIs.of_own (fullL_sec _).1 ho; clear ho hb)
            | (go_at_call 58; refine (sameBytes_eq _ _ _ _ ha hv).mono ?_; rintro e w1 ⟨rfl, hb⟩; replace hD := hD.below hb; clear hb ha hv))
        rw [rounds_succ]
        go_wp2_with
          (first
            | (go_at_call 55; refine (hD.readS hS _ 1 (by decide) (by decide) (by rfl)).mono ?_; rintro e w1 ⟨va, rfl, ha, hb⟩; replace hD := hD.below hb; clear hb)
            | (go_at_call 53; refine (full_any _ _ (by decide) (by decide)).mono ?_; rintro e w1 ⟨v, rfl, ho, hb⟩; replace hD := hD.below hb; replace ha := ha.below hb; have hv := BytesIs.of_own (fullL_sec _).1 ho; clear ho hb)
            | (go_at_call 58; refine (sameBytes_eq _ _ _ _ ha hv).mono ?_; rintro e w1 ⟨rfl, hb⟩; replace hD := hD.below hb; clear hb ha hv))
        rw [rounds_succ]
        go_wp2_with
          (first
            | (go_at_call 55; refine (hD.readS hS _ 2 (by decide) (by decide) (by rfl)).mono ?_; rintro e w1 ⟨va, rfl, ha, hb⟩; replace hD := hD.below hb; clear hb)
            | (go_at_call 53; refine (full_any _ _ (by decide) (by decide)).mono ?_; rintro e w1 ⟨v, rfl, ho, hb⟩; replace hD := hD.below hb; replace ha := ha.below hb; have hv := BytesIs.of_own (fullL_sec _).1 ho; clear ho hb)
            | (go_at_call 58; refine (sameBytes_eq _ _ _ _ ha hv).mono ?_; rintro e w1 ⟨rfl, hb⟩; replace hD := hD.below hb; clear hb ha hv))
        rw [rounds_succ]
        go_wp2
        go_roundw
        case rel => exact ⟨2, by omega, by go_num, hD.be⟩
        case measure => simp [intOf]
      · go_wp2_with
          (first
            | (go_at_call 50; refine (Dev.new_ _ hB 3 (by decide) (by decide)).mono ?_; rintro e w2 ⟨rfl, hD, hb2⟩; clear hb2; generalize wr.heap.size + 2 = p at hD ⊢; generalize wr.heap.size + 1 = mo at hD ⊢; generalize wr.heap.size = ms at hD ⊢))
        have hS := St.new 3
        refine wp_loop_rounds 4 ?_
        iterate 4
          rw [rounds_succ]
          go_wp2_with
            (first
              | (go_at_call 53; refine (full_any _ _ (by decide) (by decide)).mono ?_; rintro e w1 ⟨v, rfl, ho, hb⟩; replace hD := hD.below hb; have hv := BytesIs.of_own (fullL_sec _).1 ho; clear ho hb)
              | (go_at_call 52; refine (hD.writeS hS _ _ (by decide) (by decide) hv).mono ?_; rintro e w1 ⟨rfl, ⟨D', hD', hS'⟩, hb⟩; replace hD := hD'; replace hS := hS'; clear hD' hS' hv hb)
              | (go_at_call 51; refine (hD.syncS hS).mono ?_; rintro e w1 ⟨rfl, ⟨D', hD', hS'⟩, hb⟩; replace hD := hD'; replace hS := hS'; clear hD' hS' hb))
        obtain ⟨B0, hB1⟩ : ∃ B0, B0 = w1.heap.size := ⟨_, rfl⟩
        have hdf := hD.lt
        rw [← hB1] at hdf
        have hsz : B0 ≤ w1.heap.size := by omega
        have hB0 : w.heap.size ≤ B0 := by have := hD.be.size; omega
        clear hB1
        have hl : w1.ownsRow B0 51 1 (.slice none 0 0) 0 (intsV []) := World.ownsRow_nil w1 B0 51 1
        refine wp_loop_rounds 4 ?_
        rw [rounds_succ]
        go_wp2_with
          (first
            | (go_at_call 53; refine (full_any _ _ (by decide) (by decide)).mono ?_; rintro e w1 ⟨v, rfl, ho, hb⟩; replace hD := hD.below hb; replace hl := own_below hl hb; replace hsz := Nat.le_trans hsz hb.size; have hv := BytesIs.of_own (fullL_sec _).1 ho; clear ho hb)
            | (go_at_call 52; refine (hD.writeS hS _ _ (by decide) (by decide) hv).mono ?_; rintro e w1 ⟨rfl, ⟨D', hD', hS'⟩, hb⟩; replace hl := own_chg hl hb (fun k e e2 => by have := (hl.lt k e).1; have := hdf k e2; omega); replace hsz := Nat.le_trans hsz hb.size; replace hD := hD'; replace hS := hS'; clear hD' hS' hv hb)
            | (refine wpList_append_own _ rfl _ _ 37 rfl B0 51 ie (.agg #[.int .i64 0]) 1 8 Try.underlying37 hi hz hsize hby rfl (by decide) _ _ _ rfl (hl.alloc _) _ 2 2 [.int .i64 2, .int .i64 2] rfl rfl (fun j u hj => cells_at (heap_alloc_new _ _) j u hj) (by simp [Value.oneCell']) (by decide) (by decide) (by simp; omega) ?_; intro v2 w2 hown hgr _; have hD2 := (hD.below (below_alloc' (Below.refl _ _) (.cells #[.int .i64 2, .int .i64 2] 51))); have hcg : Chg (fun b => B0 ≤ b) _ w2 := (Chg.refl _ _).grown hgr (fun k e _ => ((hl.alloc (.cells #[.int .i64 2, .int .i64 2] 51)).lt k e).1); replace hD := hD2.chg hcg (fun k e => Nat.le_trans hB0 e) (fun k e e2 => by have := hdf k e; omega); replace hl := hown; replace hsz : B0 ≤ w2.heap.size := Nat.le_trans hsz (by have := hcg.size; simp at this; omega); clear hown hgr hD2 hcg))
        rw [rounds_succ]
        go_wp2_with
          (first
            | (go_at_call 53; refine (full_any _ _ (by decide) (by decide)).mono ?_; rintro e w1 ⟨v, rfl, ho, hb⟩; replace hD := hD.below hb; replace hl := own_below hl hb; replace hsz := Nat.le_trans hsz hb.size; have hv := BytesIs.of_own (fullL_sec _).1 ho; clear ho hb)
            | (go_at_call 52; refine (hD.writeS hS _ _ (by decide) (by decide) hv).mono ?_; rintro e w1 ⟨rfl, ⟨D', hD', hS'⟩, hb⟩; replace hl := own_chg hl hb (fun k e e2 => by have := (hl.lt k e).1; have := hdf k e2; omega); replace hsz := Nat.le_trans hsz hb.size; replace hD := hD'; replace hS := hS'; clear hD' hS' hv hb)
            | (refine wpList_append_own _ rfl _ _ 37 rfl B0 51 ie (.agg #[.int .i64 0]) 1 8 Try.underlying37 hi hz hsize hby rfl (by decide) _ _ _ rfl (hl.alloc _) _ 2 2 [.int .i64 1, .int .i64 1] rfl rfl (fun j u hj => cells_at (heap_alloc_new _ _) j u hj) (by simp [Value.oneCell']) (by decide) (by decide) (by simp; omega) ?_; intro v2 w2 hown hgr _; have hD2 := (hD.below (below_alloc' (Below.refl _ _) (.cells #[.int .i64 1, .int .i64 1] 51))); have hcg : Chg (fun b => B0 ≤ b) _ w2 := (Chg.refl _ _).grown hgr (fun k e _ => ((hl.alloc (.cells #[.int .i64 1, .int .i64 1] 51)).lt k e).1); replace hD := hD2.chg hcg (fun k e => Nat.le_trans hB0 e) (fun k e e2 => by have := hdf k e; omega); replace hl := hown; replace hsz : B0 ≤ w2.heap.size := Nat.le_trans hsz (by have := hcg.size; simp at this; omega); clear hown hgr hD2 hcg))
        rw [rounds_succ]
        go_wp2_with
          (first
            | (go_at_call 53; refine (full_any _ _ (by decide) (by decide)).mono ?_; rintro e w1 ⟨v, rfl, ho, hb⟩; replace hD := hD.below hb; replace hl := own_below hl hb; replace hsz := Nat.le_trans hsz hb.size; have hv := BytesIs.of_own (fullL_sec _).1 ho; clear ho hb)
            | (go_at_call 52; refine (hD.writeS hS _ _ (by decide) (by decide) hv).mono ?_; rintro e w1 ⟨rfl, ⟨D', hD', hS'⟩, hb⟩; replace hl := own_chg hl hb (fun k e e2 => by have := (hl.lt k e).1; have := hdf k e2; omega); replace hsz := Nat.le_trans hsz hb.size; replace hD := hD'; replace hS := hS'; clear hD' hS' hv hb)
            | (refine wpList_append_own _ rfl _ _ 37 rfl B0 51 ie (.agg #[.int .i64 0]) 1 8 Try.underlying37 hi hz hsize hby rfl (by decide) _ _ _ rfl (hl.alloc _) _ 2 2 [.int .i64 0, .int .i64 0] rfl rfl (fun j u hj => cells_at (heap_alloc_new _ _) j u hj) (by simp [Value.oneCell']) (by decide) (by decide) (by simp; omega) ?_; intro v2 w2 hown hgr _; have hD2 := (hD.below (below_alloc' (Below.refl _ _) (.cells #[.int .i64 0, .int .i64 0] 51))); have hcg : Chg (fun b => B0 ≤ b) _ w2 := (Chg.refl _ _).grown hgr (fun k e _ => ((hl.alloc (.cells #[.int .i64 0, .int .i64 0] 51)).lt k e).1); replace hD := hD2.chg hcg (fun k e => Nat.le_trans hB0 e) (fun k e e2 => by have := hdf k e; omega); replace hl := hown; replace hsz : B0 ≤ w2.heap.size := Nat.le_trans hsz (by have := hcg.size; simp at this; omega); clear hown hgr hD2 hcg))
        rw [rounds_succ]
        go_wp2_with
          (first
            | (go_at_call 54; refine (hD.wakeS hS (IntsIs.of_own (l := [1, 1]) rfl hl) (fun _ k e e2 => by have := (hl.lt k e).1; have := hdf k e2; omega)).mono ?_; rintro e w1 ⟨rfl, ⟨D', hD', hS'⟩, hb⟩; replace hD := hD'; replace hS := hS'; clear hD' hS' hl hb))
        refine wp_loop_rounds 4 ?_
        rw [rounds_succ]
        go_wp2_with
          (first
            | (go_at_call 55; refine (hD.readS hS _ 0 (by decide) (by decide) (by rfl)).mono ?_; rintro e w1 ⟨va, rfl, ha, hb⟩; replace hD := hD.below hb; clear hb)
            | (go_at_call 53; refine (full_any _ _ (by decide) (by decide)).mono ?_; rintro e w1 ⟨v, rfl, ho, hb⟩; replace hD := hD.below hb; replace ha := ha.below hb; have hv := BytesIs.of_own (fullL_sec _).1 ho; clear ho hb)
            | (go_at_call 58; refine (sameBytes_eq _ _ _ _ ha hv).mono ?_; rintro e w1 ⟨rfl, hb⟩; replace hD := hD.below hb; clear hb ha hv))
        rw [rounds_succ]
        go_wp2_with
          (first
            | (go_at_call 55; refine (hD.readS hS _ 101 (by decide) (by decide) (by rfl)).mono ?_; rintro e w1 ⟨va, rfl, ha, hb⟩; replace hD := hD.below hb; clear hb)
            | (go_at_call 53; refine (full_any _ _ (by decide) (by decide)).mono ?_; rintro e w1 ⟨v, rfl, ho, hb⟩; replace hD := hD.below hb; replace ha := ha.below hb; have hv := BytesIs.of_own (fullL_sec _).1 ho; clear ho hb)
            | (go_at_call 58; refine (sameBytes_eq _ _ _ _ ha hv).mono ?_; rintro e w1 ⟨rfl, hb⟩; replace hD := hD.below hb; clear hb ha hv))
        rw [rounds_succ]
        go_wp2_with
          (first
            | (go_at_call 55; refine (hD.readS hS _ 2 (by decide) (by decide) (by rfl)).mono ?_; rintro e w1 ⟨va, rfl, ha, hb⟩; replace hD := hD.below hb; clear hb)
            | (go_at_call 53; refine (full_any _ _ (by decide) (by decide)).mono ?_; rintro e w1 ⟨v, rfl, ho, hb⟩; replace hD := hD.below hb; replace ha := ha.below hb; have hv := BytesIs.of_own (fullL_sec _).1 ho; clear ho hb)
            | (go_at_call 58; refine (sameBytes_eq _ _ _ _ ha hv).mono ?_; rintro e w1 ⟨rfl, hb⟩; replace hD := hD.below hb; clear hb ha hv))
        rw [rounds_succ]
        go_wp2
        go_roundw
        case rel => exact ⟨3, by omega, by go_num, hD.be⟩
        case measure => simp [intOf]
      · go_wp2_with
          (first
            | (go_at_call 50; refine (Dev.new_ _ hB 3 (by decide) (by decide)).mono ?_; rintro e w2 ⟨rfl, hD, hb2⟩; clear hb2; generalize wr.heap.size + 2 = p at hD ⊢; generalize wr.heap.size + 1 = mo at hD ⊢; generalize wr.heap.size = ms at hD ⊢))
        have hS := St.new 3
        refine wp_loop_rounds 4 ?_
        iterate 4
          rw [rounds_succ]
          go_wp2_with
            (first
              | (go_at_call 53; refine (full_any _ _ (by decide) (by decide)).mono ?_; rintro e w1 ⟨v, rfl, ho, hb⟩; replace hD := hD.below hb; have hv := BytesIs.of_own (fullL_sec _).1 ho; clear ho hb)
              | (go_at_call 52; refine (hD.writeS hS _ _ (by decide) (by decide) hv).mono ?_; rintro e w1 ⟨rfl, ⟨D', hD', hS'⟩, hb⟩; replace hD := hD'; replace hS := hS'; clear hD' hS' hv hb)
              | (go_at_call 51; refine (hD.syncS hS).mono ?_; rintro e w1 ⟨rfl, ⟨D', hD', hS'⟩, hb⟩; replace hD := hD'; replace hS := hS'; clear hD' hS' hb))
        obtain ⟨B0, hB1⟩ : ∃ B0, B0 = w1.heap.size := ⟨_, rfl⟩
        have hdf := hD.lt
        rw [← hB1] at hdf
        have hsz : B0 ≤ w1.heap.size := by omega
        have hB0 : w.heap.size ≤ B0 := by have := hD.be.size; omega
        clear hB1
        have hl : w1.ownsRow B0 51 1 (.slice none 0 0) 0 (intsV []) := World.ownsRow_nil w1 B0 51 1
        refine wp_loop_rounds 4 ?_
        rw [rounds_succ]
        go_wp2_with
          (first
            | (go_at_call 53; refine (full_any _ _ (by decide) (by decide)).mono ?_; rintro e w1 ⟨v, rfl, ho, hb⟩; replace hD := hD.below hb; replace hl := own_below hl hb; replace hsz := Nat.le_trans hsz hb.size; have hv := BytesIs.of_own (fullL_sec _).1 ho; clear ho hb)
            | (go_at_call 52; refine (hD.writeS hS _ _ (by decide) (by decide) hv).mono ?_; rintro e w1 ⟨rfl, ⟨D', hD', hS'⟩, hb⟩; replace hl := own_chg hl hb (fun k e e2 => by have := (hl.lt k e).1; have := hdf k e2; omega); replace hsz := Nat.le_trans hsz hb.size; replace hD := hD'; replace hS := hS'; clear hD' hS' hv hb)
            | (refine wpList_append_own _ rfl _ _ 37 rfl B0 51 ie (.agg #[.int .i64 0]) 1 8 Try.underlying37 hi hz hsize hby rfl (by decide) _ _ _ rfl (hl.alloc _) _ 2 2 [.int .i64 2, .int .i64 2] rfl rfl (fun j u hj => cells_at (heap_alloc_new _ _) j u hj) (by simp [Value.oneCell']) (by decide) (by decide) (by simp; omega) ?_; intro v2 w2 hown hgr _; have hD2 := (hD.below (below_alloc' (Below.refl _ _) (.cells #[.int .i64 2, .int .i64 2] 51))); have hcg : Chg (fun b => B0 ≤ b) _ w2 := (Chg.refl _ _).grown hgr (fun k e _ => ((hl.alloc (.cells #[.int .i64 2, .int .i64 2] 51)).lt k e).1); replace hD := hD2.chg hcg (fun k e => Nat.le_trans hB0 e) (fun k e e2 => by have := hdf k e; omega); replace hl := hown; replace hsz : B0 ≤ w2.heap.size := Nat.le_trans hsz (by have := hcg.size; simp at this; omega); clear hown hgr hD2 hcg))
        rw [rounds_succ]
        go_wp2_with
          (first
            | (go_at_call 53; refine (full_any _ _ (by decide) (by decide)).mono ?_; rintro e w1 ⟨v, rfl, ho, hb⟩; replace hD := hD.below hb; replace hl := own_below hl hb; replace hsz := Nat.le_trans hsz hb.size; have hv := BytesIs.of_own (fullL_sec _).1 ho; clear ho hb)
            | (go_at_call 52; refine (hD.writeS hS _ _ (by decide) (by decide) hv).mono ?_; rintro e w1 ⟨rfl, ⟨D', hD', hS'⟩, hb⟩; replace hl := own_chg hl hb (fun k e e2 => by have := (hl.lt k e).1; have := hdf k e2; omega); replace hsz := Nat.le_trans hsz hb.size; replace hD := hD'; replace hS := hS'; clear hD' hS' hv hb)
            | (refine wpList_append_own _ rfl _ _ 37 rfl B0 51 ie (.agg #[.int .i64 0]) 1 8 Try.underlying37 hi hz hsize hby rfl (by decide) _ _ _ rfl (hl.alloc _) _ 2 2 [.int .i64 1, .int .i64 1] rfl rfl (fun j u hj => cells_at (heap_alloc_new _ _) j u hj) (by simp [Value.oneCell']) (by decide) (by decide) (by simp; omega) ?_; intro v2 w2 hown hgr _; have hD2 := (hD.below (below_alloc' (Below.refl _ _) (.cells #[.int .i64 1, .int .i64 1] 51))); have hcg : Chg (fun b => B0 ≤ b) _ w2 := (Chg.refl _ _).grown hgr (fun k e _ => ((hl.alloc (.cells #[.int .i64 1, .int .i64 1] 51)).lt k e).1); replace hD := hD2.chg hcg (fun k e => Nat.le_trans hB0 e) (fun k e e2 => by have := hdf k e; omega); replace hl := hown; replace hsz : B0 ≤ w2.heap.size := Nat.le_trans hsz (by have := hcg.size; simp at this; omega); clear hown hgr hD2 hcg))
        rw [rounds_succ]
        go_wp2_with
          (first
            | (go_at_call 53; refine (full_any _ _ (by decide) (by decide)).mono ?_; rintro e w1 ⟨v, rfl, ho, hb⟩; replace hD := hD.below hb; replace hl := own_below hl hb; replace hsz := Nat.le_trans hsz hb.size; have hv := BytesIs.of_own (fullL_sec _).1 ho; clear ho hb)
            | (go_at_call 52; refine (hD.writeS hS _ _ (by decide) (by decide) hv).mono ?_; rintro e w1 ⟨rfl, ⟨D', hD', hS'⟩, hb⟩; replace hl := own_chg hl hb (fun k e e2 => by have := (hl.lt k e).1; have := hdf k e2; omega); replace hsz := Nat.le_trans hsz hb.size; replace hD := hD'; replace hS := hS'; clear hD' hS' hv hb)
            | (refine wpList_append_own _ rfl _ _ 37 rfl B0 51 ie (.agg #[.int .i64 0]) 1 8 Try.underlying37 hi hz hsize hby rfl (by decide) _ _ _ rfl (hl.alloc _) _ 2 2 [.int .i64 0, .int .i64 0] rfl rfl (fun j u hj => cells_at (heap_alloc_new _ _) j u hj) (by simp [Value.oneCell']) (by decide) (by decide) (by simp; omega) ?_; intro v2 w2 hown hgr _; have hD2 := (hD.below (below_alloc' (Below.refl _ _) (.cells #[.int .i64 0, .int .i64 0] 51))); have hcg : Chg (fun b => B0 ≤ b) _ w2 := (Chg.refl _ _).grown hgr (fun k e _ => ((hl.alloc (.cells #[.int .i64 0, .int .i64 0] 51)).lt k e).1); replace hD := hD2.chg hcg (fun k e => Nat.le_trans hB0 e) (fun k e e2 => by have := hdf k e; omega); replace hl := hown; replace hsz : B0 ≤ w2.heap.size := Nat.le_trans hsz (by have := hcg.size; simp at this; omega); clear hown hgr hD2 hcg))
        rw [rounds_succ]
        go_wp2_with
          (first
            | (go_at_call 54; refine (hD.wakeS hS (IntsIs.of_own (l := [1, 1, 0, 0]) rfl hl) (fun _ k e e2 => by have := (hl.lt k e).1; have := hdf k e2; omega)).mono ?_; rintro e w1 ⟨rfl, ⟨D', hD', hS'⟩, hb⟩; replace hD := hD'; replace hS := hS'; clear hD' hS' hl hb))
        refine wp_loop_rounds 4 ?_
        rw [rounds_succ]
        go_wp2_with
          (first
            | (go_at_call 55; refine (hD.readS hS _ 100 (by decide) (by decide) (by rfl)).mono ?_; rintro e w1 ⟨va, rfl, ha, hb⟩; replace hD := hD.below hb; clear hb)
            | (go_at_call 53; refine (full_any _ _ (by decide) (by decide)).mono ?_; rintro e w1 ⟨v, rfl, ho, hb⟩; replace hD := hD.below hb; replace ha := ha.below hb; have hv := BytesIs.of_own (fullL_sec _).1 ho; clear ho hb)
            | (go_at_call 58; refine (sameBytes_eq _ _ _ _ ha hv).mono ?_; rintro e w1 ⟨rfl, hb⟩; replace hD := hD.below hb; clear hb ha hv))
        rw [rounds_succ]
        go_wp2_with
          (first
            | (go_at_call 55; refine (hD.readS hS _ 101 (by decide) (by decide) (by rfl)).mono ?_; rintro e w1 ⟨va, rfl, ha, hb⟩; replace hD := hD.below hb; clear hb)
            | (go_at_call 53; refine (full_any _ _ (by decide) (by decide)).mono ?_; rintro e w1 ⟨v, rfl, ho, hb⟩; replace hD := hD.below hb; replace ha := ha.below hb; have hv := BytesIs.of_own (fullL_sec _).1 ho; clear ho hb)
            | (go_at_call 58; refine (sameBytes_eq _ _ _ _ ha hv).mono ?_; rintro e w1 ⟨rfl, hb⟩; replace hD := hD.below hb; clear hb ha hv))
        rw [rounds_succ]
        go_wp2_with
          (first
            | (go_at_call 55; refine (hD.readS hS _ 2 (by decide) (by decide) (by rfl)).mono ?_; rintro e w1 ⟨va, rfl, ha, hb⟩; replace hD := hD.below hb; clear hb)
            | (go_at_call 53; refine (full_any _ _ (by decide) (by decide)).mono ?_; rintro e w1 ⟨v, rfl, ho, hb⟩; replace hD := hD.below hb; replace ha := ha.below hb; have hv := BytesIs.of_own (fullL_sec _).1 ho; clear ho hb)
            | (go_at_call 58; refine (sameBytes_eq _ _ _ _ ha hv).mono ?_; rintro e w1 ⟨rfl, hb⟩; replace hD := hD.below hb; clear hb ha hv))
        rw [rounds_succ]
        go_wp2
        go_roundw
        case rel => exact ⟨4, by omega, by go_num, hD.be⟩
        case measure => simp [intOf]
      · go_wp2_with
          (first
            | (go_at_call 50; refine (Dev.new_ _ hB 3 (by decide) (by decide)).mono ?_; rintro e w2 ⟨rfl, hD, hb2⟩; clear hb2; generalize wr.heap.size + 2 = p at hD ⊢; generalize wr.heap.size + 1 = mo at hD ⊢; generalize wr.heap.size = ms at hD ⊢))
        have hS := St.new 3
        refine wp_loop_rounds 4 ?_
        iterate 4
          rw [rounds_succ]
          go_wp2_with
            (first
              | (go_at_call 53; refine (full_any _ _ (by decide) (by decide)).mono ?_; rintro e w1 ⟨v, rfl, ho, hb⟩; replace hD := hD.below hb; have hv := BytesIs.of_own (fullL_sec _).1 ho; clear ho hb)
              | (go_at_call 52; refine (hD.writeS hS _ _ (by decide) (by decide) hv).mono ?_; rintro e w1 ⟨rfl, ⟨D', hD', hS'⟩, hb⟩; replace hD := hD'; replace hS := hS'; clear hD' hS' hv hb)
              | (go_at_call 51; refine (hD.syncS hS).mono ?_; rintro e w1 ⟨rfl, ⟨D', hD', hS'⟩, hb⟩; replace hD := hD'; replace hS := hS'; clear hD' hS' hb))
        obtain ⟨B0, hB1⟩ : ∃ B0, B0 = w1.heap.size := ⟨_, rfl⟩
        have hdf := hD.lt
        rw [← hB1] at hdf
        have hsz : B0 ≤ w1.heap.size := by omega
        have hB0 : w.heap.size ≤ B0 := by have := hD.be.size; omega
        clear hB1
        have hl : w1.ownsRow B0 51 1 (.slice none 0 0) 0 (intsV []) := World.ownsRow_nil w1 B0 51 1
        refine wp_loop_rounds 4 ?_
        rw [rounds_succ]
        go_wp2_with
          (first
            | (go_at_call 53; refine (full_any _ _ (by decide) (by decide)).mono ?_; rintro e w1 ⟨v, rfl, ho, hb⟩; replace hD := hD.below hb; replace hl := own_below hl hb; replace hsz := Nat.le_trans hsz hb.size; have hv := BytesIs.of_own (fullL_sec _).1 ho; clear ho hb)
            | (go_at_call 52; refine (hD.writeS hS _ _ (by decide) (by decide) hv).mono ?_; rintro e w1 ⟨rfl, ⟨D', hD', hS'⟩, hb⟩; replace hl := own_chg hl hb (fun k e e2 => by have := (hl.lt k e).1; have := hdf k e2; omega); replace hsz := Nat.le_trans hsz hb.size; replace hD := hD'; replace hS := hS'; clear hD' hS' hv hb)
            | (refine wpList_append_own _ rfl _ _ 37 rfl B0 51 ie (.agg #[.int .i64 0]) 1 8 Try.underlying37 hi hz hsize hby rfl (by decide) _ _ _ rfl (hl.alloc _) _ 2 2 [.int .i64 2, .int .i64 2] rfl rfl (fun j u hj => cells_at (heap_alloc_new _ _) j u hj) (by simp [Value.oneCell']) (by decide) (by decide) (by simp; omega) ?_; intro v2 w2 hown hgr _; have hD2 := (hD.below (below_alloc' (Below.refl _ _) (.cells #[.int .i64 2, .int .i64 2] 51))); have hcg : Chg (fun b => B0 ≤ b) _ w2 := (Chg.refl _ _).grown hgr (fun k e _ => ((hl.alloc (.cells #[.int .i64 2, .int .i64 2] 51)).lt k e).1); replace hD := hD2.chg hcg (fun k e => Nat.le_trans hB0 e) (fun k e e2 => by have := hdf k e; omega); replace hl := hown; replace hsz : B0 ≤ w2.heap.size := Nat.le_trans hsz (by have := hcg.size; simp at this; omega); clear hown hgr hD2 hcg))
        rw [rounds_succ]
        go_wp2_with
          (first
            | (go_at_call 53; refine (full_any _ _ (by decide) (by decide)).mono ?_; rintro e w1 ⟨v, rfl, ho, hb⟩; replace hD := hD.below hb; replace hl := own_below hl hb; replace hsz := Nat.le_trans hsz hb.size; have hv := BytesIs.of_own (fullL_sec _).1 ho; clear ho hb)
            | (go_at_call 52; refine (hD.writeS hS _ _ (by decide) (by decide) hv).mono ?_; rintro e w1 ⟨rfl, ⟨D', hD', hS'⟩, hb⟩; replace hl := own_chg hl hb (fun k e e2 => by have := (hl.lt k e).1; have := hdf k e2; omega); replace hsz := Nat.le_trans hsz hb.size; replace hD := hD'; replace hS := hS'; clear hD' hS' hv hb)
            | (refine wpList_append_own _ rfl _ _ 37 rfl B0 51 ie (.agg #[.int .i64 0]) 1 8 Try.underlying37 hi hz hsize hby rfl (by decide) _ _ _ rfl (hl.alloc _) _ 2 2 [.int .i64 1, .int .i64 1] rfl rfl (fun j u hj => cells_at (heap_alloc_new _ _) j u hj) (by simp [Value.oneCell']) (by decide) (by decide) (by simp; omega) ?_; intro v2 w2 hown hgr _; have hD2 := (hD.below (below_alloc' (Below.refl _ _) (.cells #[.int .i64 1, .int .i64 1] 51))); have hcg : Chg (fun b => B0 ≤ b) _ w2 := (Chg.refl _ _).grown hgr (fun k e _ => ((hl.alloc (.cells #[.int .i64 1, .int .i64 1] 51)).lt k e).1); replace hD := hD2.chg hcg (fun k e => Nat.le_trans hB0 e) (fun k e e2 => by have := hdf k e; omega); replace hl := hown; replace hsz : B0 ≤ w2.heap.size := Nat.le_trans hsz (by have := hcg.size; simp at this; omega); clear hown hgr hD2 hcg))
        rw [rounds_succ]
        go_wp2_with
          (first
            | (go_at_call 53; refine (full_any _ _ (by decide) (by decide)).mono ?_; rintro e w1 ⟨v, rfl, ho, hb⟩; replace hD := hD.below hb; replace hl := own_below hl hb; replace hsz := Nat.le_trans hsz hb.size; have hv := BytesIs.of_own (fullL_sec _).1 ho; clear ho hb)
            | (go_at_call 52; refine (hD.writeS hS _ _ (by decide) (by decide) hv).mono ?_; rintro e w1 ⟨rfl, ⟨D', hD', hS'⟩, hb⟩; replace hl := own_chg hl hb (fun k e e2 => by have := (hl.lt k e).1; have := hdf k e2; omega); replace hsz := Nat.le_trans hsz hb.size; replace hD := hD'; replace hS := hS'; clear hD' hS' hv hb)
            | (refine wpList_append_own _ rfl _ _ 37 rfl B0 51 ie (.agg #[.int .i64 0]) 1 8 Try.underlying37 hi hz hsize hby rfl (by decide) _ _ _ rfl (hl.alloc _) _ 2 2 [.int .i64 0, .int .i64 0] rfl rfl (fun j u hj => cells_at (heap_alloc_new _ _) j u hj) (by simp [Value.oneCell']) (by decide) (by decide) (by simp; omega) ?_; intro v2 w2 hown hgr _; have hD2 := (hD.below (below_alloc' (Below.refl _ _) (.cells #[.int .i64 0, .int .i64 0] 51))); have hcg : Chg (fun b => B0 ≤ b) _ w2 := (Chg.refl _ _).grown hgr (fun k e _ => ((hl.alloc (.cells #[.int .i64 0, .int .i64 0] 51)).lt k e).1); replace hD := hD2.chg hcg (fun k e => Nat.le_trans hB0 e) (fun k e e2 => by have := hdf k e; omega); replace hl := hown; replace hsz : B0 ≤ w2.heap.size := Nat.le_trans hsz (by have := hcg.size; simp at this; omega); clear hown hgr hD2 hcg))
        rw [rounds_succ]
        go_wp2_with
          (first
            | (go_at_call 54; refine (hD.wakeS hS (IntsIs.of_own (l := [2, 2]) rfl hl) (fun _ k e e2 => by have := (hl.lt k e).1; have := hdf k e2; omega)).mono ?_; rintro e w1 ⟨rfl, ⟨D', hD', hS'⟩, hb⟩; replace hD := hD'; replace hS := hS'; clear hD' hS' hl hb))
        refine wp_loop_rounds 4 ?_
        rw [rounds_succ]
        go_wp2_with
          (first
            | (go_at_call 55; refine (hD.readS hS _ 0 (by decide) (by decide) (by rfl)).mono ?_; rintro e w1 ⟨va, rfl, ha, hb⟩; replace hD := hD.below hb; clear hb)
            | (go_at_call 53; refine (full_any _ _ (by decide) (by decide)).mono ?_; rintro e w1 ⟨v, rfl, ho, hb⟩; replace hD := hD.below hb; replace ha := ha.below hb; have hv := BytesIs.of_own (fullL_sec _).1 ho; clear ho hb)
            | (go_at_call 58; refine (sameBytes_eq _ _ _ _ ha hv).mono ?_; rintro e w1 ⟨rfl, hb⟩; replace hD := hD.below hb; clear hb ha hv))
        rw [rounds_succ]
        go_wp2_with
          (first
            | (go_at_call 55; refine (hD.readS hS _ 1 (by decide) (by decide) (by rfl)).mono ?_; rintro e w1 ⟨va, rfl, ha, hb⟩; replace hD := hD.below hb; clear hb)
            | (go_at_call 53; refine (full_any _ _ (by decide) (by decide)).mono ?_; rintro e w1 ⟨v, rfl, ho, hb⟩; replace hD := hD.below hb; replace ha := ha.below hb; have hv := BytesIs.of_own (fullL_sec _).1 ho; clear ho hb)
            | (go_at_call 58; refine (sameBytes_eq _ _ _ _ ha hv).mono ?_; rintro e w1 ⟨rfl, hb⟩; replace hD := hD.below hb; clear hb ha hv))
        rw [rounds_succ]
        go_wp2_with
          (first
            | (go_at_call 55; refine (hD.readS hS _ 102 (by decide) (by decide) (by rfl)).mono ?_; rintro e w1 ⟨va, rfl, ha, hb⟩; replace hD := hD.below hb; clear hb)
            | (go_at_call 53; refine (full_any _ _ (by decide) (by decide)).mono ?_; rintro e w1 ⟨v, rfl, ho, hb⟩; replace hD := hD.below hb; replace ha := ha.below hb; have hv := BytesIs.of_own (fullL_sec _).1 ho; clear ho hb)
            | (go_at_call 58; refine (sameBytes_eq _ _ _ _ ha hv).mono ?_; rintro e w1 ⟨rfl, hb⟩; replace hD := hD.below hb; clear hb ha hv))
        rw [rounds_succ]
        go_wp2
        go_roundw
        case rel => exact ⟨5, by omega, by go_num, hD.be⟩
        case measure => simp [intOf]
      · go_wp2_with
          (first
            | (go_at_call 50; refine (Dev.new_ _ hB 3 (by decide) (by decide)).mono ?_; rintro e w2 ⟨rfl, hD, hb2⟩; clear hb2; generalize wr.heap.size + 2 = p at hD ⊢; generalize wr.heap.size + 1 = mo at hD ⊢; generalize wr.heap.size = ms at hD ⊢))
        have hS := St.new 3
        refine wp_loop_rounds 4 ?_
        iterate 4
          rw [rounds_succ]
          go_wp2_with
            (first
              | (go_at_call 53; refine (full_any _ _ (by decide) (by decide)).mono ?_; rintro e w1 ⟨v, rfl, ho, hb⟩; replace hD := hD.below hb; have hv := BytesIs.of_own (fullL_sec _).1 ho; clear ho hb)
              | (go_at_call 52; refine (hD.writeS hS _ _ (by decide) (by decide) hv).mono ?_; rintro e w1 ⟨rfl, ⟨D', hD', hS'⟩, hb⟩; replace hD := hD'; replace hS := hS'; clear hD' hS' hv hb)
              | (go_at_call 51; refine (hD.syncS hS).mono ?_; rintro e w1 ⟨rfl, ⟨D', hD', hS'⟩, hb⟩; replace hD := hD'; replace hS := hS'; clear hD' hS' hb))
        obtain ⟨B0, hB1⟩ : ∃ B0, B0 = w1.heap.size := ⟨_, rfl⟩
        have hdf := hD.lt
        rw [← hB1] at hdf
        have hsz : B0 ≤ w1.heap.size := by omega
        have hB0 : w.heap.size ≤ B0 := by have := hD.be.size; omega
        clear hB1
        have hl : w1.ownsRow B0 51 1 (.slice none 0 0) 0 (intsV []) := World.ownsRow_nil w1 B0 51 1
        refine wp_loop_rounds 4 ?_
        rw [rounds_succ]
        go_wp2_with
          (first
            | (go_at_call 53; refine (full_any _ _ (by decide) (by decide)).mono ?_; rintro e w1 ⟨v, rfl, ho, hb⟩; replace hD := hD.below hb; replace hl := own_below hl hb; replace hsz := Nat.le_trans hsz hb.size; have hv := BytesIs.of_own (fullL_sec _).1 ho; clear ho hb)
            | (go_at_call 52; refine (hD.writeS hS _ _ (by decide) (by decide) hv).mono ?_; rintro e w1 ⟨rfl, ⟨D', hD', hS'⟩, hb⟩; replace hl := own_chg hl hb (fun k e e2 => by have := (hl.lt k e).1; have := hdf k e2; omega); replace hsz := Nat.le_trans hsz hb.size; replace hD := hD'; replace hS := hS'; clear hD' hS' hv hb)
            | (refine wpList_append_own _ rfl _ _ 37 rfl B0 51 ie (.agg #[.int .i64 0]) 1 8 Try.underlying37 hi hz hsize hby rfl (by decide) _ _ _ rfl (hl.alloc _) _ 2 2 [.int .i64 2, .int .i64 2] rfl rfl (fun j u hj => cells_at (heap_alloc_new _ _) j u hj) (by simp [Value.oneCell']) (by decide) (by decide) (by simp; omega) ?_; intro v2 w2 hown hgr _; have hD2 := (hD.below (below_alloc' (Below.refl _ _) (.cells #[.int .i64 2, .int .i64 2] 51))); have hcg : Chg (fun b => B0 ≤ b) _ w2 := (Chg.refl _ _).grown hgr (fun k e _ => ((hl.alloc (.cells #[.int .i64 2, .int .i64 2] 51)).lt k e).1); replace hD := hD2.chg hcg (fun k e => Nat.le_trans hB0 e) (fun k e e2 => by have := hdf k e; omega); replace hl := hown; replace hsz : B0 ≤ w2.heap.size := Nat.le_trans hsz (by have := hcg.size; simp at this; omega); clear hown hgr hD2 hcg))
        rw [rounds_succ]
        go_wp2_with
          (first
            | (go_at_call 53; refine (full_any _ _ (by decide) (by decide)).mono ?_; rintro e w1 ⟨v, rfl, ho, hb⟩; replace hD := hD.below hb; replace hl := own_below hl hb; replace hsz := Nat.le_trans hsz hb.size; have hv := BytesIs.of_own (fullL_sec _).1 ho; clear ho hb)
            | (go_at_call 52; refine (hD.writeS hS _ _ (by decide) (by decide) hv).mono ?_; rintro e w1 ⟨rfl, ⟨D', hD', hS'⟩, hb⟩; replace hl := own_chg hl hb (fun k e e2 => by have := (hl.lt k e).1; have := hdf k e2; omega); replace hsz := Nat.le_trans hsz hb.size; replace hD := hD'; replace hS := hS'; clear hD' hS' hv hb)
            | (refine wpList_append_own _ rfl _ _ 37 rfl B0 51 ie (.agg #[.int .i64 0]) 1 8 Try.underlying37 hi hz hsize hby rfl (by decide) _ _ _ rfl (hl.alloc _) _ 2 2 [.int .i64 1, .int .i64 1] rfl rfl (fun j u hj => cells_at (heap_alloc_new _ _) j u hj) (by simp [Value.oneCell']) (by decide) (by decide) (by simp; omega) ?_; intro v2 w2 hown hgr _; have hD2 := (hD.below (below_alloc' (Below.refl _ _) (.cells #[.int .i64 1, .int .i64 1] 51))); have hcg : Chg (fun b => B0 ≤ b) _ w2 := (Chg.refl _ _).grown hgr (fun k e _ => ((hl.alloc (.cells #[.int .i64 1, .int .i64 1] 51)).lt k e).1); replace hD := hD2.chg hcg (fun k e => Nat.le_trans hB0 e) (fun k e e2 => by have := hdf k e; omega); replace hl := hown; replace hsz : B0 ≤ w2.heap.size := Nat.le_trans hsz (by have := hcg.size; simp at this; omega); clear hown hgr hD2 hcg))
        rw [rounds_succ]
        go_wp2_with
          (first
            | (go_at_call 53; refine (full_any _ _ (by decide) (by decide)).mono ?_; rintro e w1 ⟨v, rfl, ho, hb⟩; replace hD := hD.below hb; replace hl := own_below hl hb; replace hsz := Nat.le_trans hsz hb.size; have hv := BytesIs.of_own (fullL_sec _).1 ho; clear ho hb)
            | (go_at_call 52; refine (hD.writeS hS _ _ (by decide) (by decide) hv).mono ?_; rintro e w1 ⟨rfl, ⟨D', hD', hS'⟩, hb⟩; replace hl := own_chg hl hb (fun k e e2 => by have := (hl.lt k e).1; have := hdf k e2; omega); replace hsz := Nat.le_trans hsz hb.size; replace hD := hD'; replace hS := hS'; clear hD' hS' hv hb)
            | (refine wpList_append_own _ rfl _ _ 37 rfl B0 51 ie (.agg #[.int .i64 0]) 1 8 Try.underlying37 hi hz hsize hby rfl (by decide) _ _ _ rfl (hl.alloc _) _ 2 2 [.int .i64 0, .int .i64 0] rfl rfl (fun j u hj => cells_at (heap_alloc_new _ _) j u hj) (by simp [Value.oneCell']) (by decide) (by decide) (by simp; omega) ?_; intro v2 w2 hown hgr _; have hD2 := (hD.below (below_alloc' (Below.refl _ _) (.cells #[.int .i64 0, .int .i64 0] 51))); have hcg : Chg (fun b => B0 ≤ b) _ w2 := (Chg.refl _ _).grown hgr (fun k e _ => ((hl.alloc (.cells #[.int .i64 0, .int .i64 0] 51)).lt k e).1); replace hD := hD2.chg hcg (fun k e => Nat.le_trans hB0 e) (fun k e e2 => by have := hdf k e; omega); replace hl := hown; replace hsz : B0 ≤ w2.heap.size := Nat.le_trans hsz (by have := hcg.size; simp at this; omega); clear hown hgr hD2 hcg))
        rw [rounds_succ]
        go_wp2_with
          (first
            | (go_at_call 54; refine (hD.wakeS hS (IntsIs.of_own (l := [2, 2, 0, 0]) rfl hl) (fun _ k e e2 => by have := (hl.lt k e).1; have := hdf k e2; omega)).mono ?_; rintro e w1 ⟨rfl, ⟨D', hD', hS'⟩, hb⟩; replace hD := hD'; replace hS := hS'; clear hD' hS' hl hb))
        refine wp_loop_rounds 4 ?_
        rw [rounds_succ]
        go_wp2_with
          (first
            | (go_at_call 55; refine (hD.readS hS _ 100 (by decide) (by decide) (by rfl)).mono ?_; rintro e w1 ⟨va, rfl, ha, hb⟩; replace hD := hD.below hb; clear hb)
            | (go_at_call 53; refine (full_any _ _ (by decide) (by decide)).mono ?_; rintro e w1 ⟨v, rfl, ho, hb⟩; replace hD := hD.below hb; replace ha := ha.below hb; have hv := BytesIs.of_own (fullL_sec _).1 ho; clear ho hb)
            | (go_at_call 58; refine (sameBytes_eq _ _ _ _ ha hv).mono ?_; rintro e w1 ⟨rfl, hb⟩; replace hD := hD.below hb; clear hb ha hv))
        rw [rounds_succ]
        go_wp2_with
          (first
            | (go_at_call 55; refine (hD.readS hS _ 1 (by decide) (by decide) (by rfl)).mono ?_; rintro e w1 ⟨va, rfl, ha, hb⟩; replace hD := hD.below hb; clear hb)
            | (go_at_call 53; refine (full_any _ _ (by decide) (by decide)).mono ?_; rintro e w1 ⟨v, rfl, ho, hb⟩; replace hD := hD.below hb; replace ha := ha.below hb; have hv := BytesIs.of_own (fullL_sec _).1 ho; clear ho hb)
            | (go_at_call 58; refine (sameBytes_eq _ _ _ _ ha hv).mono ?_; rintro e w1 ⟨rfl, hb⟩; replace hD := hD.below hb; clear hb ha hv))
        rw [rounds_succ]
        go_wp2_with
          (first
            | (go_at_call 55; refine (hD.readS hS _ 102 (by decide) (by decide) (by rfl)).mono ?_; rintro e w1 ⟨va, rfl, ha, hb⟩; replace hD := hD.below hb; clear hb)
            | (go_at_call 53; refine (full_any _ _ (by decide) (by decide)).mono ?_; rintro e w1 ⟨v, rfl, ho, hb⟩; replace hD := hD.below hb; replace ha := ha.below hb; have hv := BytesIs.of_own (fullL_sec _).1 ho; clear ho hb)
            | (go_at_call 58; refine (sameBytes_eq _ _ _ _ ha hv).mono ?_; rintro e w1 ⟨rfl, hb⟩; replace hD := hD.below hb; clear hb ha hv))
        rw [rounds_succ]
        go_wp2
        go_roundw
        case rel => exact ⟨6, by omega, by go_num, hD.be⟩
        case measure => simp [intOf]
      · go_wp2_with
          (first
            | (go_at_call 50; refine (Dev.new_ _ hB 3 (by decide) (by decide)).mono ?_; rintro e w2 ⟨rfl, hD, hb2⟩; clear hb2; generalize wr.heap.size + 2 = p at hD ⊢; generalize wr.heap.size + 1 = mo at hD ⊢; generalize wr.heap.size = ms at hD ⊢))
        have hS := St.new 3
        refine wp_loop_rounds 4 ?_
        iterate 4
          rw [rounds_succ]
          go_wp2_with
            (first
              | (go_at_call 53; refine (full_any _ _ (by decide) (by decide)).mono ?_; rintro e w1 ⟨v, rfl, ho, hb⟩; replace hD := hD.below hb; have hv := BytesIs.of_own (fullL_sec _).1 ho; clear ho hb)
              | (go_at_call 52; refine (hD.writeS hS _ _ (by decide) (by decide) hv).mono ?_; rintro e w1 ⟨rfl, ⟨D', hD', hS'⟩, hb⟩; replace hD := hD'; replace hS := hS'; clear hD' hS' hv hb)
              | (go_at_call 51; refine (hD.syncS hS).mono ?_; rintro e w1 ⟨rfl, ⟨D', hD', hS'⟩, hb⟩; replace hD := hD'; replace hS := hS'; clear hD' hS' hb))
        obtain ⟨B0, hB1⟩ : ∃ B0, B0 = w1.heap.size := ⟨_, rfl⟩
        have hdf := hD.lt
        rw [← hB1] at hdf
        have hsz : B0 ≤ w1.heap.size := by omega
        have hB0 : w.heap.size ≤ B0 := by have := hD.be.size; omega
        clear hB1
        have hl : w1.ownsRow B0 51 1 (.slice none 0 0) 0 (intsV []) := World.ownsRow_nil w1 B0 51 1
        refine wp_loop_rounds 4 ?_
        rw [rounds_succ]
        go_wp2_with
          (first
            | (go_at_call 53; refine (full_any _ _ (by decide) (by decide)).mono ?_; rintro e w1 ⟨v, rfl, ho, hb⟩; replace hD := hD.below hb; replace hl := own_below hl hb; replace hsz := Nat.le_trans hsz hb.size; have hv := BytesIs.of_own (fullL_sec _).1 ho; clear ho hb)
            | (go_at_call 52; refine (hD.writeS hS _ _ (by decide) (by decide) hv).mono ?_; rintro e w1 ⟨rfl, ⟨D', hD', hS'⟩, hb⟩; replace hl := own_chg hl hb (fun k e e2 => by have := (hl.lt k e).1; have := hdf k e2; omega); replace hsz := Nat.le_trans hsz hb.size; replace hD := hD'; replace hS := hS'; clear hD' hS' hv hb)
            | (refine wpList_append_own _ rfl _ _ 37 rfl B0 51 ie (.agg #[.int .i64 0]) 1 8 Try.underlying37 hi hz hsize hby rfl (by decide) _ _ _ rfl (hl.alloc _) _ 2 2 [.int .i64 2, .int .i64 2] rfl rfl (fun j u hj => cells_at (heap_alloc_new _ _) j u hj) (by simp [Value.oneCell']) (by decide) (by decide) (by simp; omega) ?_; intro v2 w2 hown hgr _; have hD2 := (hD.below (below_alloc' (Below.refl _ _) (.cells #[.int .i64 2, .int .i64 2] 51))); have hcg : Chg (fun b => B0 ≤ b) _ w2 := (Chg.refl _ _).grown hgr (fun k e _ => ((hl.alloc (.cells #[.int .i64 2, .int .i64 2] 51)).lt k e).1); replace hD := hD2.chg hcg (fun k e => Nat.le_trans hB0 e) (fun k e e2 => by have := hdf k e; omega); replace hl := hown; replace hsz : B0 ≤ w2.heap.size := Nat.le_trans hsz (by have := hcg.size; simp at this; omega); clear hown hgr hD2 hcg))
        rw [rounds_succ]
        go_wp2_with
          (first
            | (go_at_call 53; refine (full_any _ _ (by decide) (by decide)).mono ?_; rintro e w1 ⟨v, rfl, ho, hb⟩; replace hD := hD.below hb; replace hl := own_below hl hb; replace hsz := Nat.le_trans hsz hb.size; have hv := BytesIs.of_own (fullL_sec _).1 ho; clear ho hb)
            | (go_at_call 52; refine (hD.writeS hS _ _ (by decide) (by decide) hv).mono ?_; rintro e w1 ⟨rfl, ⟨D', hD', hS'⟩, hb⟩; replace hl := own_chg hl hb (fun k e e2 => by have := (hl.lt k e).1; have := hdf k e2; omega); replace hsz := Nat.le_trans hsz hb.size; replace hD := hD'; replace hS := hS'; clear hD' hS' hv hb)
            | (refine wpList_append_own _ rfl _ _ 37 rfl B0 51 ie (.agg #[.int .i64 0]) 1 8 Try.underlying37 hi hz hsize hby rfl (by decide) _ _ _ rfl (hl.alloc _) _ 2 2 [.int .i64 1, .int .i64 1] rfl rfl (fun j u hj => cells_at (heap_alloc_new _ _) j u hj) (by simp [Value.oneCell']) (by decide) (by decide) (by simp; omega) ?_; intro v2 w2 hown hgr _; have hD2 := (hD.below (below_alloc' (Below.refl _ _) (.cells #[.int .i64 1, .int .i64 1] 51))); have hcg : Chg (fun b => B0 ≤ b) _ w2 := (Chg.refl _ _).grown hgr (fun k e _ => ((hl.alloc (.cells #[.int .i64 1, .int .i64 1] 51)).lt k e).1); replace hD := hD2.chg hcg (fun k e => Nat.le_trans hB0 e) (fun k e e2 => by have := hdf k e; omega); replace hl := hown; replace hsz : B0 ≤ w2.heap.size := Nat.le_trans hsz (by have := hcg.size; simp at this; omega); clear hown hgr hD2 hcg))
        rw [rounds_succ]
        go_wp2_with
          (first
            | (go_at_call 53; refine (full_any _ _ (by decide) (by decide)).mono ?_; rintro e w1 ⟨v, rfl, ho, hb⟩; replace hD := hD.below hb; replace hl := own_below hl hb; replace hsz := Nat.le_trans hsz hb.size; have hv := BytesIs.of_own (fullL_sec _).1 ho; clear ho hb)
            | (go_at_call 52; refine (hD.writeS hS _ _ (by decide) (by decide) hv).mono ?_; rintro e w1 ⟨rfl, ⟨D', hD', hS'⟩, hb⟩; replace hl := own_chg hl hb (fun k e e2 => by have := (hl.lt k e).1; have := hdf k e2; omega); replace hsz := Nat.le_trans hsz hb.size; replace hD := hD'; replace hS := hS'; clear hD' hS' hv hb)
            | (refine wpList_append_own _ rfl _ _ 37 rfl B0 51 ie (.agg #[.int .i64 0]) 1 8 Try.underlying37 hi hz hsize hby rfl (by decide) _ _ _ rfl (hl.alloc _) _ 2 2 [.int .i64 0, .int .i64 0] rfl rfl (fun j u hj => cells_at (heap_alloc_new _ _) j u hj) (by simp [Value.oneCell']) (by decide) (by decide) (by simp; omega) ?_; intro v2 w2 hown hgr _; have hD2 := (hD.below (below_alloc' (Below.refl _ _) (.cells #[.int .i64 0, .int .i64 0] 51))); have hcg : Chg (fun b => B0 ≤ b) _ w2 := (Chg.refl _ _).grown hgr (fun k e _ => ((hl.alloc (.cells #[.int .i64 0, .int .i64 0] 51)).lt k e).1); replace hD := hD2.chg hcg (fun k e => Nat.le_trans hB0 e) (fun k e e2 => by have := hdf k e; omega); replace hl := hown; replace hsz : B0 ≤ w2.heap.size := Nat.le_trans hsz (by have := hcg.size; simp at this; omega); clear hown hgr hD2 hcg))
        rw [rounds_succ]
        go_wp2_with
          (first
            | (go_at_call 54; refine (hD.wakeS hS (IntsIs.of_own (l := [2, 2, 1, 1]) rfl hl) (fun _ k e e2 => by have := (hl.lt k e).1; have := hdf k e2; omega)).mono ?_; rintro e w1 ⟨rfl, ⟨D', hD', hS'⟩, hb⟩; replace hD := hD'; replace hS := hS'; clear hD' hS' hl hb))
        refine wp_loop_rounds 4 ?_
        rw [rounds_succ]
        go_wp2_with
          (first
            | (go_at_call 55; refine (hD.readS hS _ 0 (by decide) (by decide) (by rfl)).mono ?_; rintro e w1 ⟨va, rfl, ha, hb⟩; replace hD := hD.below hb; clear hb)
            | (go_at_call 53; refine (full_any _ _ (by decide) (by decide)).mono ?_; rintro e w1 ⟨v, rfl, ho, hb⟩; replace hD := hD.below hb; replace ha := ha.below hb; have hv := BytesIs.of_own (fullL_sec _).1 ho; clear ho hb)
            | (go_at_call 58; refine (sameBytes_eq _ _ _ _ ha hv).mono ?_; rintro e w1 ⟨rfl, hb⟩; replace hD := hD.below hb; clear hb ha hv))
        rw [rounds_succ]
        go_wp2_with
          (first
            | (go_at_call 55; refine (hD.readS hS _ 101 (by decide) (by decide) (by rfl)).mono ?_; rintro e w1 ⟨va, rfl, ha, hb⟩; replace hD := hD.below hb; clear hb)
            | (go_at_call 53; refine (full_any _ _ (by decide) (by decide)).mono ?_; rintro e w1 ⟨v, rfl, ho, hb⟩; replace hD := hD.below hb; replace ha := ha.below hb; have hv := BytesIs.of_own (fullL_sec _).1 ho; clear ho hb)
            | (go_at_call 58; refine (sameBytes_eq _ _ _ _ ha hv).mono ?_; rintro e w1 ⟨rfl, hb⟩; replace hD := hD.below hb; clear hb ha hv))
        rw [rounds_succ]
        go_wp2_with
          (first
            | (go_at_call 55; refine (hD.readS hS _ 102 (by decide) (by decide) (by rfl)).mono ?_; rintro e w1 ⟨va, rfl, ha, hb⟩; replace hD := hD.below hb; clear hb)
            | (go_at_call 53; refine (full_any _ _ (by decide) (by decide)).mono ?_; rintro e w1 ⟨v, rfl, ho, hb⟩; replace hD := hD.below hb; replace ha := ha.below hb; have hv := BytesIs.of_own (fullL_sec _).1 ho; clear ho hb)
            | (go_at_call 58; refine (sameBytes_eq _ _ _ _ ha hv).mono ?_; rintro e w1 ⟨rfl, hb⟩; replace hD := hD.below hb; clear hb ha hv))
        rw [rounds_succ]
        go_wp2
        go_roundw
        case rel => exact ⟨7, by omega, by go_num, hD.be⟩
        case measure => simp [intOf]
      · go_wp2_with
          (first
            | (go_at_call 50; refine (Dev.new_ _ hB 3 (by decide) (by decide)).mono ?_; rintro e w2 ⟨rfl, hD, hb2⟩; clear hb2; generalize wr.heap.size + 2 = p at hD ⊢; generalize wr.heap.size + 1 = mo at hD ⊢; generalize wr.heap.size = ms at hD ⊢))
        have hS := St.new 3
        refine wp_loop_rounds 4 ?_
        iterate 4
          rw [rounds_succ]
          go_wp2_with
            (first
              | (go_at_call 53; refine (full_any _ _ (by decide) (by decide)).mono ?_; rintro e w1 ⟨v, rfl, ho, hb⟩; replace hD := hD.below hb; have hv := BytesIs.of_own (fullL_sec _).1 ho; clear ho hb)
              | (go_at_call 52; refine (hD.writeS hS _ _ (by decide) (by decide) hv).mono ?_; rintro e w1 ⟨rfl, ⟨D', hD', hS'⟩, hb⟩; replace hD := hD'; replace hS := hS'; clear hD' hS' hv hb)
              | (go_at_call 51; refine (hD.syncS hS).mono ?_; rintro e w1 ⟨rfl, ⟨D', hD', hS'⟩, hb⟩; replace hD := hD'; replace hS := hS'; clear hD' hS' hb))
        obtain ⟨B0, hB1⟩ : ∃ B0, B0 = w1.heap.size := ⟨_, rfl⟩
        have hdf := hD.lt
        rw [← hB1] at hdf
        have hsz : B0 ≤ w1.heap.size := by omega
        have hB0 : w.heap.size ≤ B0 := by have := hD.be.size; omega
        clear hB1
        have hl : w1.ownsRow B0 51 1 (.slice none 0 0) 0 (intsV []) := World.ownsRow_nil w1 B0 51 1
        refine wp_loop_rounds 4 ?_
        rw [rounds_succ]
        go_wp2_with
          (first
            | (go_at_call 53; refine (full_any _ _ (by decide) (by decide)).mono ?_; rintro e w1 ⟨v, rfl, ho, hb⟩; replace hD := hD.below hb; replace hl := own_below hl hb; replace hsz := Nat.le_trans hsz hb.size; have hv := BytesIs.of_own (fullL_sec _).1 ho; clear ho hb)
            | (go_at_call 52; refine (hD.writeS hS _ _ (by decide) (by decide) hv).mono ?_; rintro e w1 ⟨rfl, ⟨D', hD', hS'⟩, hb⟩; replace hl := own_chg hl hb (fun k e e2 => by have := (hl.lt k e).1; have := hdf k e2; omega); replace hsz := Nat.le_trans hsz hb.size; replace hD := hD'; replace hS := hS'; clear hD' hS' hv hb)
            | (refine wpList_append_own _ rfl _ _ 37 rfl B0 51 ie (.agg #[.int .i64 0]) 1 8 Try.underlying37 hi hz hsize hby rfl (by decide) _ _ _ rfl (hl.alloc _) _ 2 2 [.int .i64 2, .int .i64 2] rfl rfl (fun j u hj => cells_at (heap_alloc_new _ _) j u hj) (by simp [Value.oneCell']) (by decide) (by decide) (by simp; omega) ?_; intro v2 w2 hown hgr _; have hD2 := (hD.below (below_alloc' (Below.refl _ _) (.cells #[.int .i64 2, .int .i64 2] 51))); have hcg : Chg (fun b => B0 ≤ b) _ w2 := (Chg.refl _ _).grown hgr (fun k e _ => ((hl.alloc (.cells #[.int .i64 2, .int .i64 2] 51)).lt k e).1); replace hD := hD2.chg hcg (fun k e => Nat.le_trans hB0 e) (fun k e e2 => by have := hdf k e; omega); replace hl := hown; replace hsz : B0 ≤ w2.heap.size := Nat.le_trans hsz (by have := hcg.size; simp at this; omega); clear hown hgr hD2 hcg))
        rw [rounds_succ]
        go_wp2_with
          (first
            | (go_at_call 53; refine (full_any _ _ (by decide) (by decide)).mono ?_; rintro e w1 ⟨v, rfl, ho, hb⟩; replace hD := hD.below hb; replace hl := own_below hl hb; replace hsz := Nat.le_trans hsz hb.size; have hv := BytesIs.of_own (fullL_sec _).1 ho; clear ho hb)
            | (go_at_call 52; refine (hD.writeS hS _ _ (by decide) (by decide) hv).mono ?_; rintro e w1 ⟨rfl, ⟨D', hD', hS'⟩, hb⟩; replace hl := own_chg hl hb (fun k e e2 => by have := (hl.lt k e).1; have := hdf k e2; omega); replace hsz := Nat.le_trans hsz hb.size; replace hD := hD'; replace hS := hS'; clear hD' hS' hv hb)
            | (refine wpList_append_own _ rfl _ _ 37 rfl B0 51 ie (.agg #[.int .i64 0]) 1 8 Try.underlying37 hi hz hsize hby rfl (by decide) _ _ _ rfl (hl.alloc _) _ 2 2 [.int .i64 1, .int .i64 1] rfl rfl (fun j u hj => cells_at (heap_alloc_new _ _) j u hj) (by simp [Value.oneCell']) (by decide) (by decide) (by simp; omega) ?_; intro v2 w2 hown hgr _; have hD2 := (hD.below (below_alloc' (Below.refl _ _) (.cells #[.int .i64 1, .int .i64 1] 51))); have hcg : Chg (fun b => B0 ≤ b) _ w2 := (Chg.refl _ _).grown hgr (fun k e _ => ((hl.alloc (.cells #[.int .i64 1, .int .i64 1] 51)).lt k e).1); replace hD := hD2.chg hcg (fun k e => Nat.le_trans hB0 e) (fun k e e2 => by have := hdf k e; omega); replace hl := hown; replace hsz : B0 ≤ w2.heap.size := Nat.le_trans hsz (by have := hcg.size; simp at this; omega); clear hown hgr hD2 hcg))
        rw [rounds_succ]
        go_wp2_with
          (first
            | (go_at_call 53; refine (full_any _ _ (by decide) (by decide)).mono ?_; rintro e w1 ⟨v, rfl, ho, hb⟩; replace hD := hD.below hb; replace hl := own_below hl hb; replace hsz := Nat.le_trans hsz hb.size; have hv := BytesIs.of_own (fullL_sec _).1 ho; clear ho hb)
            | (go_at_call 52; refine (hD.writeS hS _ _ (by decide) (by decide) hv).mono ?_; rintro e w1 ⟨rfl, ⟨D', hD', hS'⟩, hb⟩; replace hl := own_chg hl hb (fun k e e2 => by have := (hl.lt k e).1; have := hdf k e2; omega); replace hsz := Nat.le_trans hsz hb.size; replace hD := hD'; replace hS := hS'; clear hD' hS' hv hb)
            | (refine wpList_append_own _ rfl _ _ 37 rfl B0 51 ie (.agg #[.int .i64 0]) 1 8 Try.underlying37 hi hz hsize hby rfl (by decide) _ _ _ rfl (hl.alloc _) _ 2 2 [.int .i64 0, .int .i64 0] rfl rfl (fun j u hj => cells_at (heap_alloc_new _ _) j u hj) (by simp [Value.oneCell']) (by decide) (by decide) (by simp; omega) ?_; intro v2 w2 hown hgr _; have hD2 := (hD.below (below_alloc' (Below.refl _ _) (.cells #[.int .i64 0, .int .i64 0] 51))); have hcg : Chg (fun b => B0 ≤ b) _ w2 := (Chg.refl _ _).grown hgr (fun k e _ => ((hl.alloc (.cells #[.int .i64 0, .int .i64 0] 51)).lt k e).1); replace hD := hD2.chg hcg (fun k e => Nat.le_trans hB0 e) (fun k e e2 => by have := hdf k e; omega); replace hl := hown; replace hsz : B0 ≤ w2.heap.size := Nat.le_trans hsz (by have := hcg.size; simp at this; omega); clear hown hgr hD2 hcg))
        rw [rounds_succ]
        go_wp2_with
          (first
            | (go_at_call 54; refine (hD.wakeS hS (IntsIs.of_own (l := [2, 2, 1, 1, 0, 0]) rfl hl) (fun _ k e e2 => by have := (hl.lt k e).1; have := hdf k e2; omega)).mono ?_; rintro e w1 ⟨rfl, ⟨D', hD', hS'⟩, hb⟩; replace hD := hD'; replace hS := hS'; clear hD' hS' hl hb))
        refine wp_loop_rounds 4 ?_
        rw [rounds_succ]
        go_wp2_with
          (first
            | (go_at_call 55; refine (hD.readS hS _ 100 (by decide) (by decide) (by rfl)).mono ?_; rintro e w1 ⟨va, rfl, ha, hb⟩; replace hD := hD.below hb; clear hb)
            | (go_at_call 53; refine (full_any _ _ (by decide) (by decide)).mono ?_; rintro e w1 ⟨v, rfl, ho, hb⟩; replace hD := hD.below hb; replace ha := ha.below hb; have hv := BytesIs.of_own (fullL_sec _).1 ho; clear ho hb)
            | (go_at_call 58; refine (sameBytes_eq _ _ _ _ ha hv).mono ?_; rintro e w1 ⟨rfl, hb⟩; replace hD := hD.below hb; clear hb ha hv))
        rw [rounds_succ]
        go_wp2_with
          (first
            | (go_at_call 55; refine (hD.readS hS _ 101 (by decide) (by decide) (by rfl)).mono ?_; rintro e w1 ⟨va, rfl, ha, hb⟩; replace hD := hD.below hb; clear hb)
            | (go_at_call 53; refine (full_any _ _ (by decide) (by decide)).mono ?_; rintro e w1 ⟨v, rfl, ho, hb⟩; replace hD := hD.below hb; replace ha := ha.below hb; have hv := BytesIs.of_own (fullL_sec _).1 ho; clear ho hb)
            | (go_at_call 58; refine (sameBytes_eq _ _ _ _ ha hv).mono ?_; rintro e w1 ⟨rfl, hb⟩; replace hD := hD.below hb; clear hb ha hv))
        rw [rounds_succ]
        go_wp2_with
          (first
            | (go_at_call 55; refine (hD.readS hS _ 102 (by decide) (by decide) (by rfl)).mono ?_; rintro e w1 ⟨va, rfl, ha, hb⟩; replace hD := hD.below hb; clear hb)
            | (go_at_call 53; refine (full_any _ _ (by decide) (by decide)).mono ?_; rintro e w1 ⟨v, rfl, ho, hb⟩; replace hD := hD.below hb; replace ha := ha.below hb; have hv := BytesIs.of_own (fullL_sec _).1 ho; clear ho hb)
            | (go_at_call 58; refine (sameBytes_eq _ _ _ _ ha hv).mono ?_; rintro e w1 ⟨rfl, hb⟩; replace hD := hD.below hb; clear hb ha hv))
        rw [rounds_succ]
        go_wp2
        go_roundw
        case rel => exact ⟨8, by omega, by go_num, hD.be⟩
        case measure => simp [intOf]
    · obtain rfl : k = 8 := by omega
      go_wp2
      go_ret
      exact ⟨rfl, hB⟩
end Go.Proofs.Yteeamlidmkpohaa


/-
  BlobNumbers.
-/
set_option linter.unusedVariables false
set_option linter.unusedSimpArgs false
set_option maxRecDepth 100000
namespace Go.Proofs.Yteeamlidmkpohaa
open Go.RowKit Go.Sort

def flat20 : List Do20 → List Value
  | [] => []
  | x :: l => .int .i64 x.op :: .int .i64 x.at_ :: .int .i64 x.n :: .int .u8 x.byte :: flat20 l
theorem flat20_at : ∀ (l : List Do20) (i : Nat) (x : Do20), l[i]? = some x → (flat20 l)[i * 4]? = some (.int .i64 x.op) ∧ (flat20 l)[i * 4 + 1]? = some (.int .i64 x.at_) ∧ (flat20 l)[i * 4 + 2]? = some (.int .i64 x.n) ∧ (flat20 l)[i * 4 + 3]? = some (.int .u8 x.byte)
  | [], i, x, h => by simp at h
  | y :: l, 0, x, h => by
    simp only [List.getElem?_cons_zero, Option.some.injEq] at h
    subst h
    simp [flat20]
  | y :: l, i + 1, x, h => by
    have := flat20_at l i x (by simpa using h)
    have e : (i + 1) * 4 = i * 4 + 4 := by omega
    rw [e]
    simpa [flat20] using this
theorem dos20_lit {w : World} {g : Nat} {l : List Do20} {cs : Array Value} {t : TypeId} {fr : Nat × Nat} (hb : w.heap[g]? = some (.cells cs t fr)) (hcs : cs.toList = flat20 l) (hl : l.length ≤ maxLen) (hx : ∀ x ∈ l, x.Ok) : Do20sIs w (.slice (some ⟨g, 0, none⟩) l.length l.length) l := by
  refine ⟨some ⟨g, 0, none⟩, l.length, rfl, Nat.le_refl _, hl, fun i x h => ⟨_, rfl, ?_⟩⟩
  obtain ⟨a0, a1, a2, a3⟩ := flat20_at l i x h
  rw [← hcs, Array.getElem?_toList] at a0 a1 a2 a3
  have hk := hx x (List.mem_of_getElem? h)
  have e : (⟨g, 0, none⟩ : Addr).add (i * 4) = ⟨g, i * 4, none⟩ := by unfold Addr.add; split <;> simp_all
  rw [e]
  exact ⟨by simpa [World.cell?, hb] using a0, by simpa [World.cell?, hb] using a1, by simpa [World.cell?, hb] using a2, by simpa [World.cell?, hb] using a3, hk⟩
def lit5 (z n k : Int) : List Do20 := [⟨0, 0, 4, 1⟩, ⟨4, 0, k, 0⟩, ⟨0, z, n, 9⟩, ⟨2, z, n, 0⟩, ⟨2, 0, 4, 0⟩]
def lit2 (x y : Int) : List Do20 := [⟨2, x, y, 0⟩, ⟨0, x, 1, 5⟩]
theorem in64s {k : Int} (h1 : -1000 ≤ k) (h2 : k ≤ 1000) : In64 k := by unfold In64; omega
theorem okq {o a n b : Int} (h1 : In64 o) (h2 : In64 a) (h3 : In64 n) (h4 : 0 ≤ b) (h5 : b ≤ 255) : (⟨o, a, n, b⟩ : Do20).Ok := ⟨h1, h2, h3, h4, h5⟩
theorem lit5_is (W : World) (z n k : Int) (hz : In64 z) (hn : In64 n) (hk : In64 k) :
    Do20sIs (W.alloc (.cells #[.int .i64 0, .int .i64 0, .int .i64 4, .int .u8 1, .int .i64 4, .int .i64 0, .int .i64 k, .int .u8 0, .int .i64 0, .int .i64 z, .int .i64 n, .int .u8 9, .int .i64 2, .int .i64 z, .int .i64 n, .int .u8 0, .int .i64 2, .int .i64 0, .int .i64 4, .int .u8 0] 144)) (.slice (some ⟨W.heap.size, 0, none⟩) 5 5) (lit5 z n k) := by
  refine dos20_lit (l := lit5 z n k) (heap_alloc_new _ _) rfl (by simp [lit5, maxLen]) ?_
  intro x hx
  simp only [lit5, List.mem_cons, List.not_mem_nil, or_false] at hx
  rcases hx with rfl | rfl | rfl | rfl | rfl
  all_goals exact okq (in64s (by decide) (by decide)) (by first | exact hz | exact in64s (by decide) (by decide)) (by first | exact hn | exact hk | exact in64s (by decide) (by decide)) (by decide) (by decide)
theorem lit2_isd (W : World) (x y : Int) (hx : In64 x) (hy : In64 y) :
    Do20sIs (W.alloc (.cells #[.int .i64 2, .int .i64 x, .int .i64 y, .int .u8 0, .int .i64 0, .int .i64 x, .int .i64 1, .int .u8 5] 144)).drew (.slice (some ⟨W.heap.size, 0, none⟩) 2 2) (lit2 x y) := by
  refine Do20sIs.below (dos20_lit (l := lit2 x y) (heap_alloc_new W (.cells #[.int .i64 2, .int .i64 x, .int .i64 y, .int .u8 0, .int .i64 0, .int .i64 x, .int .i64 1, .int .u8 5] 144)) rfl (by simp [lit2, maxLen]) ?_) (Below.refl _ _).drew
  intro q hq
  simp only [lit2, List.mem_cons, List.not_mem_nil, or_false] at hq
  rcases hq with rfl | rfl
  all_goals exact okq (in64s (by decide) (by decide)) hx (by first | exact hy | exact in64s (by decide) (by decide)) (by decide) (by decide)
theorem blives_c (w : World) (n size : Int) {v : Value} {l : List Do20} (hl : Do20sIs w v l) (hn : In64 n) (hs : In64 size) :
    Calls Try.prog 24 #[.int .i64 n, .int .i64 size, v] w fun e w' => e = .returned (.bool true) ∧ Below w.heap.size w w' :=
  blobLives_row w ⟨rfl, hn⟩ ⟨rfl, hs⟩ hl
def ends8 : List Int := [-9223372036854775808, -1, 0, 4, 5, 1024, 1025, 9223372036854775807]
theorem ends8_in (i : Nat) : In64 (ends8.getD i 0) := by
  have : ∀ x ∈ ends8, In64 x := by simp [ends8, In64]
  by_cases h : i < ends8.length
  · rw [List.getD_eq_getElem?_getD, List.getElem?_eq_getElem h]
    exact this _ (List.getElem_mem h)
  · rw [List.getD_eq_getElem?_getD, List.getElem?_eq_none (by omega)]
    simp [In64]
theorem bn_1 : (Dk.new 1025).rrcode 1 1024 = 0 := by kernel_rfl
theorem new1025 : (Dk.new 1025).Ok := ⟨by decide, by decide, (by intro k l h; simp [Dk.new] at h), (by intro k l h; simp [Dk.new] at h), (by simp [Dk.new]), (by simp [Dk.new])⟩
theorem bn_2 : ((Dk.new 1025).rrow 1 1024).length = 524288 := by
  unfold Dk.rrow
  rw [if_pos bn_1, Dk.row_len new1025]
  rfl
theorem bn_3 : (Dk.new 1025).rrcode 0 1025 = 2 := by kernel_rfl

set_option maxHeartbeats 4000000 in
theorem blobNumbers_row (w : World) : Calls Try.prog 25 #[] w fun e w' => e = .returned (.bool true) ∧ Below w.heap.size w w' := by
  go_enter Try.func25, Try.ntmps25
  go_wp2
  go_loopw [1] (fun x wr => ∃ z : Int, -2 ≤ z ∧ z ≤ 7 ∧ x = .int .i64 z ∧ Below w.heap.size w wr) (fun x _ => (7 - intOf x).toNat)
  case atStart => exact ⟨-2, by omega, by omega, rfl, Below.refl _ _⟩
  case round =>
    obtain ⟨z, hz1, hz7, rfl, hB⟩ := hrel
    by_cases hlt : z < 7
    · have hd1 : decide (z < 7) = true := by simpa using hlt
      go_wp2
      go_loopw [2] (fun x wq => ∃ n : Int, -1 ≤ n ∧ n ≤ 7 ∧ x = .int .i64 n ∧ Below w.heap.size w wq) (fun x _ => (7 - intOf x).toNat)
      case atStart => exact ⟨-1, by omega, by omega, rfl, hB⟩
      case round =>
        clear hB
        obtain ⟨n, hn1, hn7, rfl, hB⟩ := hrel
        by_cases hlt2 : n < 7
        · have hd2 : decide (n < 7) = true := by simpa using hlt2
          go_wp2
          go_loopw [3] (fun x wp => ∃ b : Nat, b ≤ 5 ∧ x = .int .i64 b ∧ Below w.heap.size w wp) (fun x _ => 5 - (intOf x).toNat)
          case atStart => exact ⟨0, by omega, rfl, hB⟩
          case round =>
            clear hB
            obtain ⟨b, hb, rfl, hB⟩ := hrel
            by_cases hlt3 : b < 5
            · go_wp2_with fail
              have hd := lit5_is wr z n b (in64s (by omega) (by omega)) (in64s (by omega) (by omega)) (in64s (by omega) (by omega))
              have hb2 := below_alloc' hB (.cells #[.int .i64 0, .int .i64 0, .int .i64 4, .int .u8 1, .int .i64 4, .int .i64 0, .int .i64 (b : Int), .int .u8 0, .int .i64 0, .int .i64 z, .int .i64 n, .int .u8 9, .int .i64 2, .int .i64 z, .int .i64 n, .int .u8 0, .int .i64 2, .int .i64 0, .int .i64 4, .int .u8 0] 144)
              generalize wr.alloc (.cells #[.int .i64 0, .int .i64 0, .int .i64 4, .int .u8 1, .int .i64 4, .int .i64 0, .int .i64 (b : Int), .int .u8 0, .int .i64 0, .int .i64 z, .int .i64 n, .int .u8 9, .int .i64 2, .int .i64 z, .int .i64 n, .int .u8 0, .int .i64 2, .int .i64 0, .int .i64 4, .int .u8 0] 144) = W at hd hb2 ⊢
              generalize wr.heap.size = g1 at hd ⊢
              have HD := Lib.hid hd
              have HB2 := Lib.hid hb2
              clear hd hb2
              go_wp2_with (go_at_call 24; refine (blives_c _ _ _ HD.out (in64s (by decide) (by decide)) (in64s (by omega) (by omega))).mono ?_; rintro e w4 ⟨rfl, hb4⟩; have hB4 := below_trans' HB2.out hb4)
              go_roundw
              case rel => exact ⟨b + 1, by omega, by go_num, hB4⟩
              case measure => simp [intOf]; omega
            · go_wp2
              go_roundw
              case rel => exact ⟨n + 1, by omega, by omega, rfl, hB⟩
              case measure => simp [intOf]; omega
        · go_wp2
          go_roundw
          case rel => exact ⟨z + 1, by omega, by omega, rfl, hB⟩
          case measure => simp [intOf]; omega
    · have h6 : z = 7 := by omega
      rw [h6]
      clear h6 hlt hz1 hz7
      go_wp2_with fail
      have hx : IntsIs (wr.alloc (.cells #[.int .i64 (-9223372036854775808), .int .i64 (-1), .int .i64 0, .int .i64 4, .int .i64 5, .int .i64 1024, .int .i64 1025, .int .i64 9223372036854775807] 3)) (.slice (some ⟨wr.heap.size, 0, none⟩) 8 8) ends8 := IntsIs.made (l := ends8) (heap_alloc_new wr _) rfl (by simp [maxLen, ends8])
      have hb1 := below_alloc' hB (.cells #[.int .i64 (-9223372036854775808), .int .i64 (-1), .int .i64 0, .int .i64 4, .int .i64 5, .int .i64 1024, .int .i64 1025, .int .i64 9223372036854775807] 3)
      generalize wr.alloc (.cells #[.int .i64 (-9223372036854775808), .int .i64 (-1), .int .i64 0, .int .i64 4, .int .i64 5, .int .i64 1024, .int .i64 1025, .int .i64 9223372036854775807] 3) = W at hx hb1 ⊢
      generalize wr.heap.size = g at hx ⊢
      obtain ⟨A, cp, hA, h7, hm, hcs⟩ := hx
      cases hA
      clear h7 hm hB
      have hend : ∀ (V : World), Below W.heap.size W V → ∀ i < 8, V.cell? ⟨g, i, none⟩ = some (.int .i64 (ends8.getD i 0)) := fun V hV i hi => by
        obtain ⟨ad, e, hc⟩ := IntsIs.at_ hcs i hi
        cases e
        have e2 : (⟨g, 0, none⟩ : Addr).add i = ⟨g, i, none⟩ := by unfold Addr.add; split <;> simp_all
        rw [e2] at hc
        exact (hV.cell (p := ⟨g, i, none⟩) (cell_lt hc)).trans hc
      have HE := Lib.hid hend
      have HB1 := Lib.hid hb1
      clear hend hcs hb1
      go_loopw [5] (fun x wq => ∃ i : Nat, i ≤ 8 ∧ x = .int .i64 i ∧ Below W.heap.size W wq) (fun x _ => 8 - (intOf x).toNat)
      case atStart => exact ⟨0, by omega, rfl, Below.refl _ _⟩
      case round =>
        obtain ⟨i, hi, rfl, hB⟩ := hrel
        by_cases hlt : i < 8
        · have hd1 : decide ((i : Int) < 8) = true := by simp; omega
          go_wp2
          go_loopw [6] (fun x wq => ∃ k : Nat, k ≤ 8 ∧ x = .int .i64 k ∧ Below W.heap.size W wq) (fun x _ => 8 - (intOf x).toNat)
          case atStart => exact ⟨0, by omega, rfl, hB⟩
          case round =>
            clear hB
            obtain ⟨k, hk, rfl, hB⟩ := hrel
            by_cases hlt2 : k < 8
            · have c1 := HE.out _ hB i hlt
              have c2 := HE.out _ hB k hlt2
              obtain ⟨x, hx⟩ : ∃ x, x = ends8.getD i 0 := ⟨_, rfl⟩
              obtain ⟨y, hy⟩ : ∃ y, y = ends8.getD k 0 := ⟨_, rfl⟩
              have HX : Hid (In64 x) := Lib.hid (by rw [hx]; exact ends8_in i)
              have HY : Hid (In64 y) := Lib.hid (by rw [hy]; exact ends8_in k)
              rw [← hx] at c1
              rw [← hy] at c2
              have hh : ∀ V : World, Below W.heap.size W V → V.cell? ⟨g, i, none⟩ = some (.int .i64 x) ∧ V.cell? ⟨g, k, none⟩ = some (.int .i64 y) := fun V hV => ⟨by rw [hx]; exact HE.out V hV i hlt, by rw [hy]; exact HE.out V hV k hlt2⟩
              have HH := Lib.hid hh
              have hba := (below_alloc' hB (.cells #[.int .i64 2, .int .i64 x, .int .i64 y, .int .u8 0, .int .i64 0, .int .i64 x, .int .i64 1, .int .u8 5] 144)).drew
              have HBA := Lib.hid hba
              clear hx hy hh hba hd1
              have hi7 : (i : Int) < 8 := by omega
              go_wp2_with fail
              go_region_held3 (fun w' => w'.cell? ⟨g, i, none⟩ = some (.int .i64 x) ∧ w'.cell? ⟨g, k, none⟩ = some (.int .i64 y)) (first | exact ⟨c1, c2⟩ | exact HH.out _ HBA.out | exact HH.out _ hB5) ((go_at_call 24; refine (blives_c _ _ _ (lit2_isd _ _ _ HX.out HY.out) (in64s (by decide) (by decide)) (in64s (by decide) (by decide))).mono ?_; rintro e w5 ⟨rfl, hb5⟩; have hB5 := below_trans' HBA.out hb5))
              go_wp2
              go_roundw
              case rel => exact ⟨k + 1, by omega, by go_num, hB5⟩
              case measure => simp [intOf]; omega
            · go_wp2
              go_roundw
              case rel => exact ⟨i + 1, by omega, by go_num, hB⟩
              case measure => simp [intOf]; omega
        · have h7 : (i : Int) = 8 := by omega
          rw [h7]
          clear h7 hlt hi
          have HB := Lib.hid (below_trans' HB1.out hB)
          clear hB
          go_wp2_with
            (first
              | (go_at_call 50; refine (Dev.newF _ HB.out 1025 (by decide) (by decide)).mono ?_; rintro e w6 ⟨p, ms, mo, rfl, hD, hn, hb⟩; clear hn hb)
              | (go_at_call 65; refine (CD.newF hD 5 (by decide) (by decide)).mono ?_; rintro e w7 ⟨c, mk, rfl, hC, hn, hb⟩; have hS : Sq w w7 p ms mo c mk (Dk.new 1025) 0 := ⟨_, _, hC, FitN.new⟩; clear hn hb hC hD)
              | (go_at_call 115; have hq := hS8; refine (hS8.bread 0 1025 (by decide)).mono ?_; rw [bn_3]; rintro e w9 ⟨v9, rfl, ho9, hS9, hc9⟩; clear hq ho9)
              | (go_at_call 115; refine (hS.bread 1 1024 (by decide)).mono ?_; rw [bn_1, bn_2]; rintro e w8 ⟨v8, rfl, ho8, hS8, hc8⟩; obtain ⟨g8, cap8, rfl⟩ := ownsRow_succ (k := 524287) ho8; clear ho8 hc8)
              | (go_at_call 114; refine (awake20 _).mono ?_; rintro e w10 ⟨rfl, hb10⟩))
          go_ret
          exact ⟨rfl, hS9.be.trans (hb10.mono hS9.be.size)⟩
end Go.Proofs.Yteeamlidmkpohaa
