/-
  DevNumbers: each set of sectors, of three that are written.
-/
import Derived.Test.YteeamlidmkpohaaDh
import Derived.Test.YteeamlidmkpohaaDi
set_option linter.unusedVariables false
set_option linter.unusedSimpArgs false
set_option maxRecDepth 100000
namespace Go.Proofs.Yteeamlidmkpohaa
open Go.RowKit Go.Sort

/-- a disk whose sectors were written by 'full' alone, told by their bytes -/
structure St (D : Dk) (n : Int) (s o : Int → Option Int) : Prop where
  n : D.n = n
  a : D.armed = 0
  d : D.down = false
  s : ∀ j, D.safe j = (s j).map fullL
  o : ∀ j, D.opn j = (o j).map fullL
theorem St.new (n : Int) : St (Dk.new n) n (fun _ => none) (fun _ => none) := ⟨rfl, rfl, rfl, fun _ => rfl, fun _ => rfl⟩
theorem St.write {D : Dk} {n : Int} {s o : Int → Option Int} (h : St D n s o) (k b : Int) : St (D.write k (fullL b)) n s (fun j => if j = k then some b else o j) := by
  rw [Dk.write_calm h.a]
  refine ⟨h.n, h.a, h.d, h.s, fun j => ?_⟩
  show (if j = k then some (fullL b) else D.opn j) = _
  by_cases e : j = k
  · simp [e]
  · simp [e, h.o]
theorem St.sync {D : Dk} {n : Int} {s o : Int → Option Int} (h : St D n s o) : St D.sync n (fun j => if (o j).isSome = true then o j else s j) (fun _ => none) := by
  rw [Dk.sync_calm h.a h.d]
  refine ⟨h.n, h.a, h.d, fun j => ?_, fun _ => rfl⟩
  show (if (D.opn j).isSome = true then D.opn j else D.safe j) = _
  rw [h.o, h.s, Option.isSome_map]
  split <;> rfl
theorem St.wake {D : Dk} {n : Int} {s o : Int → Option Int} (h : St D n s o) (fs : List Int) : St (D.wake fs) n (fun j => if (fs.contains j && (o j).isSome) = true then o j else s j) (fun _ => none) := by
  refine ⟨h.n, rfl, rfl, fun j => ?_, fun _ => rfl⟩
  show (if (fs.contains j && (D.opn j).isSome) = true then D.opn j else D.safe j) = _
  rw [h.o, h.s, Option.isSome_map]
  split <;> rfl
theorem St.latest {D : Dk} {n : Int} {s o : Int → Option Int} (h : St D n s o) {k b : Int} (e : ((o k).orElse fun _ => s k) = some b) : D.latest k = fullL b := by
  unfold Dk.latest
  rw [h.o, h.s]
  cases ho : o k with
  | some x => rw [ho] at e; simp at e; simp [e]
  | none => rw [ho] at e; simp at e; simp [e]
theorem St.may {D : Dk} {n : Int} {s o : Int → Option Int} (h : St D n s o) {k : Int} (h1 : 0 ≤ k) (h2 : k < n) : D.may k = 0 := may_ok h.d (by rw [h.n]; exact h2) h1

theorem IntsIs.of_own {w : World} {base : Nat} {v : Value} {n : Nat} {l : List Int} {t : TypeId} (hl : l.length = n) (h : w.ownsRow base t 1 v n (intsV l)) : IntsIs w v l := by
  subst hl
  rcases h.2 with ⟨rfl, h0⟩ | ⟨g, cap, cur, rfl, hb, hg, hn, hm, hs, ht⟩
  · exact ⟨none, 0, by rw [h0], by omega, by simp [maxLen], fun j u hu => by
      have : l = [] := List.eq_nil_of_length_eq_zero h0
      subst this; simp [intsV] at hu⟩
  · exact ⟨some ⟨g, 0, none⟩, cap, rfl, hn, hm, fun j u hu => ⟨_, rfl, h.cells (g := g) rfl j u hu⟩⟩

section
variable {w0 w : World} {p ms mo : Nat} {D : Dk} {n : Int} {s o : Int → Option Int}
theorem Dev.writeS (h : Dev w0 w p ms mo D) (hS : St D n s o) (k b : Int) (h1 : 0 ≤ k) (h2 : k < n) {v : Value} (hv : BytesIs w v (fullL b)) :
    Calls Try.prog 52 #[.pointer (some ⟨p, 0, none⟩), .int .i64 k, v] w fun e w' => e = .returned (.int .i64 0) ∧ (∃ D', Dev w0 w' p ms mo D' ∧ St D' n s (fun j => if j = k then some b else o j)) ∧ Chg (DF p ms mo) w w' := by
  refine (h.write0 k (hS.may h1 h2) hv (fullL_sec _) (hS.write _ _).d).mono ?_
  rintro e w' ⟨rfl, h1, hc⟩
  exact ⟨rfl, ⟨_, h1, hS.write k b⟩, hc⟩
theorem Dev.syncS (h : Dev w0 w p ms mo D) (hS : St D n s o) :
    Calls Try.prog 51 #[.pointer (some ⟨p, 0, none⟩)] w fun e w' => e = .returned (.int .i64 0) ∧ (∃ D', Dev w0 w' p ms mo D' ∧ St D' n (fun j => if (o j).isSome = true then o j else s j) (fun _ => none)) ∧ Chg (DF p ms mo) w w' := by
  refine (h.sync0 hS.d hS.sync.d).mono ?_
  rintro e w' ⟨rfl, h1, hc⟩
  exact ⟨rfl, ⟨_, h1, hS.sync⟩, hc⟩
theorem Dev.wakeS (h : Dev w0 w p ms mo D) (hS : St D n s o) {v : Value} {fs : List Int} (hf : IntsIs w v fs) (hne : fs ≠ [] → ∀ k, v.ownBlock = some k → ¬ DF p ms mo k) :
    Calls Try.prog 54 #[.pointer (some ⟨p, 0, none⟩), v] w fun e w' => e = .returned (.tuple #[]) ∧ (∃ D', Dev w0 w' p ms mo D' ∧ St D' n (fun j => if (fs.contains j && (o j).isSome) = true then o j else s j) (fun _ => none)) ∧ Chg (DF p ms mo) w w' := by
  refine (h.wake hf hne).mono ?_
  rintro e w' ⟨rfl, h1, hc⟩
  exact ⟨rfl, ⟨_, h1, hS.wake fs⟩, hc⟩
theorem Dev.readS (h : Dev w0 w p ms mo D) (hS : St D n s o) (k b : Int) (h1 : 0 ≤ k) (h2 : k < n) (e : ((o k).orElse fun _ => s k) = some b) :
    Calls Try.prog 55 #[.pointer (some ⟨p, 0, none⟩), .int .i64 k] w fun e w' => ∃ v, e = .returned (.tuple #[v, .int .i64 0]) ∧ BytesIs w' v (fullL b) ∧ Below w.heap.size w w' := by
  refine (h.read k (hS.may h1 h2)).mono ?_
  rintro e' w' ⟨v, rfl, hv, _, hb⟩
  rw [hS.latest e] at hv
  exact ⟨v, rfl, hv, hb⟩
end

theorem own_chg {F : Nat → Prop} {w w' : World} {base : Nat} {e : TypeId} {size n : Nat} {v : Value} {xs : List Value} (h : w.ownsRow base e size v n xs) (hc : Chg F w w') (hF : ∀ k, v.ownBlock = some k → ¬ F k) : w'.ownsRow base e size v n xs := by
  obtain ⟨h1, h2⟩ := h
  refine ⟨h1, ?_⟩
  rcases h2 with h2 | ⟨g, cap, cur, rfl, hg, hh, r⟩
  · exact .inl h2
  · exact .inr ⟨g, cap, cur, rfl, hg, (hc.block g (Array.getElem?_eq_some_iff.1 hh).1 (hF g rfl)).trans hh, r⟩
theorem own_below {w w' : World} {base : Nat} {e : TypeId} {size n : Nat} {v : Value} {xs : List Value} (h : w.ownsRow base e size v n xs) (hc : Below w.heap.size w w') : w'.ownsRow base e size v n xs :=
  own_chg h (Chg.of_below (F := fun _ => False) hc) (fun _ _ => id)

set_option maxHeartbeats 4000000 in
theorem fates_ok (w : World) : Calls Try.prog 60 #[] w fun e w' => e = .returned (.bool true) ∧ Below w.heap.size w w' := by
  have hB := Below.refl w.heap.size w
  obtain ⟨ie, hi, hz, hsize, hby⟩ := info_parts (P := Try.prog) (e := 51) (z := .agg #[.int .i64 0]) (size := 1) (bytes := 8) (by kernel_rfl)
  have k0 : bits .and .i64 0 1 = 0 := by decide +kernel
  have k1 : bits .and .i64 1 1 = 1 := by decide +kernel
  have k2 : bits .and .i64 2 1 = 0 := by decide +kernel
  have k3 : bits .and .i64 3 1 = 1 := by decide +kernel
  have k4 : bits .and .i64 4 1 = 0 := by decide +kernel
  have k5 : bits .and .i64 5 1 = 1 := by decide +kernel
  have k6 : bits .and .i64 6 1 = 0 := by decide +kernel
  have k7 : bits .and .i64 7 1 = 1 := by decide +kernel
  go_enter Try.func60, Try.ntmps60
  go_wp2
  go_loopw [1] (fun x wr => ∃ k : Nat, k ≤ 8 ∧ x = .int .i64 k ∧ Below w.heap.size w wr) (fun x _ => 8 - (intOf x).toNat)
  case atStart => exact ⟨0, by omega, rfl, hB⟩
  case round =>
    clear hB
    obtain ⟨k, hk, rfl, hB⟩ := hrel
    by_cases hlt : k < 8
    · have h8 : k = 0 ∨ k = 1 ∨ k = 2 ∨ k = 3 ∨ k = 4 ∨ k = 5 ∨ k = 6 ∨ k = 7 := by omega
      rcases h8 with rfl | rfl | rfl | rfl | rfl | rfl | rfl | rfl
      · go_wp2_with
          (first
            | (go_at_call 50; refine (Dev.new_ _ hB 3 (by decide) (by decide)).mono ?_; rintro e w2 ⟨rfl, hD, hb2⟩; clear hb2; generalize wr.heap.size + 2 = p at hD ⊢; generalize wr.heap.size + 1 = mo at hD ⊢; generalize wr.heap.size = ms at hD ⊢))
        have hS := St.new 3
        refine wp_loop_rounds 4 ?_
        iterate 4
          rw [rounds_succ]
          go_wp2_with
            (first
              | (go_at_call 53; refine (full_any _ _ (by decide) (by decide)).mono ?_; rintro e w1 ⟨v, rfl, ho, hb⟩; replace hD := hD.below hb; have hv := BytesIs.of_own (fullL_sec _).1 ho; clear ho hb)
              | (go_at_call 52; refine (hD.writeS hS _ _ (by decide) (by decide) hv).mono ?_; rintro e w1 ⟨rfl, ⟨D', hD', hS'⟩, hb⟩; replace hD := hD'; replace hS := hS'; clear hD' hS' hv hb)
              | (go_at_call 51; refine (hD.syncS hS).mono ?_; rintro e w1 ⟨rfl, ⟨D', hD', hS'⟩, hb⟩; replace hD := hD'; replace hS := hS'; clear hD' hS' hb))
        obtain ⟨B0, hB1⟩ : ∃ B0, B0 = w1.heap.size := ⟨_, rfl⟩
        have hdf := hD.lt
        rw [← hB1] at hdf
        have hsz : B0 ≤ w1.heap.size := by omega
        have hB0 : w.heap.size ≤ B0 := by have := hD.be.size; omega
        clear hB1
        have hl : w1.ownsRow B0 51 1 (.slice none 0 0) 0 (intsV []) := World.ownsRow_nil w1 B0 51 1
        refine wp_loop_rounds 4 ?_
        rw [rounds_succ]
        go_wp2_with
          (first
            | (go_at_call 53; refine (full_any _ _ (by decide) (by decide)).mono ?_; rintro e w1 ⟨v, rfl, ho, hb⟩; replace hD := hD.below hb; replace hl := own_below hl hb; replace hsz := Nat.le_trans hsz hb.size; have hv := BytesIs.of_own (fullL_sec _).1 ho; clear ho hb)
            | (go_at_call 52; refine (hD.writeS hS _ _ (by decide) (by decide) hv).mono ?_; rintro e w1 ⟨rfl, ⟨D', hD', hS'⟩, hb⟩; replace hl := own_chg hl hb (fun k e e2 => by have := (hl.lt k e).1; have := hdf k e2; omega); replace hsz := Nat.le_trans hsz hb.size; replace hD := hD'; replace hS := hS'; clear hD' hS' hv hb)
            | (refine wpList_append_own _ rfl _ _ 37 rfl B0 51 ie (.agg #[.int .i64 0]) 1 8 Try.underlying37 hi hz hsize hby rfl (by decide) _ _ _ rfl (hl.alloc _) _ 2 2 [.int .i64 2, .int .i64 2] rfl rfl (fun j u hj => cells_at (heap_alloc_new _ _) j u hj) (by simp [Value.oneCell']) (by decide) (by decide) (by simp; omega) ?_; intro v2 w2 hown hgr _; have hD2 := (hD.below (below_alloc' (Below.refl _ _) (.cells #[.int .i64 2, .int .i64 2] 51))); have hcg : Chg (fun b => B0 ≤ b) _ w2 := (Chg.refl _ _).grown hgr (fun k e _ => ((hl.alloc (.cells #[.int .i64 2, .int .i64 2] 51)).lt k e).1); replace hD := hD2.chg hcg (fun k e => Nat.le_trans hB0 e) (fun k e e2 => by have := hdf k e; omega); replace hl := hown; replace hsz : B0 ≤ w2.heap.size := Nat.le_trans hsz (by have := hcg.size; simp at this; omega); clear hown hgr hD2 hcg))
        rw [rounds_succ]
        go_wp2_with
          (first
            | (go_at_call 53; refine (full_any _ _ (by decide) (by decide)).mono ?_; rintro e w1 ⟨v, rfl, ho, hb⟩; replace hD := hD.below hb; replace hl := own_below hl hb; replace hsz := Nat.le_trans hsz hb.size; have hv := BytesIs.of_own (fullL_sec _).1 ho; clear ho hb)
            | (go_at_call 52; refine (hD.writeS hS _ _ (by decide) (by decide) hv).mono ?_; rintro e w1 ⟨rfl, ⟨D', hD', hS'⟩, hb⟩; replace hl := own_chg hl hb (fun k e e2 => by have := (hl.lt k e).1; have := hdf k e2; omega); replace hsz := Nat.le_trans hsz hb.size; replace hD := hD'; replace hS := hS'; clear hD' hS' hv hb)
            | (refine wpList_append_own _ rfl _ _ 37 rfl B0 51 ie (.agg #[.int .i64 0]) 1 8 Try.underlying37 hi hz hsize hby rfl (by decide) _ _ _ rfl (hl.alloc _) _ 2 2 [.int .i64 1, .int .i64 1] rfl rfl (fun j u hj => cells_at (heap_alloc_new _ _) j u hj) (by simp [Value.oneCell']) (by decide) (by decide) (by simp; omega) ?_; intro v2 w2 hown hgr _; have hD2 := (hD.below (below_alloc' (Below.refl _ _) (.cells #[.int .i64 1, .int .i64 1] 51))); have hcg : Chg (fun b => B0 ≤ b) _ w2 := (Chg.refl _ _).grown hgr (fun k e _ => ((hl.alloc (.cells #[.int .i64 1, .int .i64 1] 51)).lt k e).1); replace hD := hD2.chg hcg (fun k e => Nat.le_trans hB0 e) (fun k e e2 => by have := hdf k e; omega); replace hl := hown; replace hsz : B0 ≤ w2.heap.size := Nat.le_trans hsz (by have := hcg.size; simp at this; omega); clear hown hgr hD2 hcg))
        rw [rounds_succ]
        go_wp2_with
          (first
            | (go_at_call 53; refine (full_any _ _ (by decide) (by decide)).mono ?_; rintro e w1 ⟨v, rfl, ho, hb⟩; replace hD := hD.below hb; replace hl := own_below hl hb; replace hsz := Nat.le_trans hsz hb.size; have hv := BytesIs.of_own (fullL_sec _).1 ho; clear ho hb)
            | (go_at_call 52; refine (hD.writeS hS _ _ (by decide) (by decide) hv).mono ?_; rintro e w1 ⟨rfl, ⟨D', hD', hS'⟩, hb⟩; replace hl := own_chg hl hb (fun k e e2 => by have := (hl.lt k e).1; have := hdf k e2; omega); replace hsz := Nat.le_trans hsz hb.size; replace hD := hD'; replace hS := hS'; clear hD' hS' hv hb)
            | (refine wpList_append_own _ rfl _ _ 37 rfl B0 51 ie (.agg #[.int .i64 0]) 1 8 Try.underlying37 hi hz hsize hby rfl (by decide) _ _ _ rfl (hl.alloc _) _ 2 2 [.int .i64 0, .int .i64 0] rfl rfl (fun j u hj => cells_at (heap_alloc_new _ _) j u hj) (by simp [Value.oneCell']) (by decide) (by decide) (by simp; omega) ?_; intro v2 w2 hown hgr _; have hD2 := (hD.below (below_alloc' (Below.refl _ _) (.cells #[.int .i64 0, .int .i64 0] 51))); have hcg : Chg (fun b => B0 ≤ b) _ w2 := (Chg.refl _ _).grown hgr (fun k e _ => ((hl.alloc (.cells #[.int .i64 0, .int .i64 0] 51)).lt k e).1); replace hD := hD2.chg hcg (fun k e => Nat.le_trans hB0 e) (fun k e e2 => by have := hdf k e; omega); replace hl := hown; replace hsz : B0 ≤ w2.heap.size := Nat.le_trans hsz (by have := hcg.size; simp at this; omega); clear hown hgr hD2 hcg))
        rw [rounds_succ]
        go_wp2_with
          (first
            | (go_at_call 54; refine (hD.wakeS hS (IntsIs.of_own (l := []) rfl hl) (fun _ k e e2 => by have := (hl.lt k e).1; have := hdf k e2; omega)).mono ?_; rintro e w1 ⟨rfl, ⟨D', hD', hS'⟩, hb⟩; replace hD := hD'; replace hS := hS'; clear hD' hS' hl hb))
        refine wp_loop_rounds 4 ?_
        rw [rounds_succ]
        go_wp2_with
          (first
            | (go_at_call 55; refine (hD.readS hS _ 0 (by decide) (by decide) (by rfl)).mono ?_; rintro e w1 ⟨va, rfl, ha, hb⟩; replace hD := hD.below hb; clear hb)
            | (go_at_call 53; refine (full_any _ _ (by decide) (by decide)).mono ?_; rintro e w1 ⟨v, rfl, ho, hb⟩; replace hD := hD.below hb; replace ha := ha.below hb; have hv := BytesIs.of_own (fullL_sec _).1 ho; clear ho hb)
            | (go_at_call 58; refine (sameBytes_eq _ _ _ _ ha hv).mono ?_; rintro e w1 ⟨rfl, hb⟩; replace hD := hD.below hb; clear hb ha hv))
        rw [rounds_succ]
        go_wp2_with
          (first
            | (go_at_call 55; refine (hD.readS hS _ 1 (by decide) (by decide) (by rfl)).mono ?_; rintro e w1 ⟨va, rfl, ha, hb⟩; replace hD := hD.below hb; clear hb)
            | (go_at_call 53; refine (full_any _ _ (by decide) (by decide)).mono ?_; rintro e w1 ⟨v, rfl, ho, hb⟩; replace hD := hD.below hb; replace ha := ha.below hb; have hv := BytesIs.of_own (fullL_sec _).1 ho; clear ho hb)
            | (go_at_call 58; refine (sameBytes_eq _ _ _ _ ha hv).mono ?_; rintro e w1 ⟨rfl, hb⟩; replace hD := hD.below hb; clear hb ha hv))
        rw [rounds_succ]
        go_wp2_with
          (first
            | (go_at_call 55; refine (hD.readS hS _ 2 (by decide) (by decide) (by rfl)).mono ?_; rintro e w1 ⟨va, rfl, ha, hb⟩; replace hD := hD.below hb; clear hb)
            | (go_at_call 53; refine (full_any _ _ (by decide) (by decide)).mono ?_; rintro e w1 ⟨v, rfl, ho, hb⟩; replace hD := hD.below hb; replace ha := ha.below hb; have hv := BytesIs.of_own (fullL_sec _).1 ho; clear ho hb)
            | (go_at_call 58; refine (sameBytes_eq _ _ _ _ ha hv).mono ?_; rintro e w1 ⟨rfl, hb⟩; replace hD := hD.below hb; clear hb ha hv))
        rw [rounds_succ]
        go_wp2
        go_roundw
        case rel => exact ⟨1, by omega, by go_num, hD.be⟩
        case measure => simp [intOf]
      · go_wp2_with
          (first
            | (go_at_call 50; refine (Dev.new_ _ hB 3 (by decide) (by decide)).mono ?_; rintro e w2 ⟨rfl, hD, hb2⟩; clear hb2; generalize wr.heap.size + 2 = p at hD ⊢; generalize wr.heap.size + 1 = mo at hD ⊢; generalize wr.heap.size = ms at hD ⊢))
        have hS := St.new 3
        refine wp_loop_rounds 4 ?_
        iterate 4
          rw [rounds_succ]
          go_wp2_with
            (first
              | (go_at_call 53; refine (full_any _ _ (by decide) (by decide)).mono ?_; rintro e w1 ⟨v, rfl, ho, hb⟩; replace hD := hD.below hb; have hv := BytesIs.of_own (fullL_sec _).1 ho; clear ho hb)
              | (go_at_call 52; refine (hD.writeS hS _ _ (by decide) (by decide) hv).mono ?_; rintro e w1 ⟨rfl, ⟨D', hD', hS'⟩, hb⟩; replace hD := hD'; replace hS := hS'; clear hD' hS' hv hb)
              | (go_at_call 51; refine (hD.syncS hS).mono ?_; rintro e w1 ⟨rfl, ⟨D', hD', hS'⟩, hb⟩; replace hD := hD'; replace hS := hS'; clear hD' hS' hb))
        obtain ⟨B0, hB1⟩ : ∃ B0, B0 = w1.heap.size := ⟨_, rfl⟩
        have hdf := hD.lt
        rw [← hB1] at hdf
        have hsz : B0 ≤ w1.heap.size := by omega
        have hB0 : w.heap.size ≤ B0 := by have := hD.be.size; omega
        clear hB1
        have hl : w1.ownsRow B0 51 1 (.slice none 0 0) 0 (intsV []) := World.ownsRow_nil w1 B0 51 1
        refine wp_loop_rounds 4 ?_
        rw [rounds_succ]
        go_wp2_with
          (first
            | (go_at_call 53; refine (full_any _ _ (by decide) (by decide)).mono ?_; rintro e w1 ⟨v, rfl, ho, hb⟩; replace hD := hD.below hb; replace hl := own_below hl hb; replace hsz := Nat.le_trans hsz hb.size; have hv := BytesIs.of_own (fullL_sec _).1 ho; clear ho hb)
            | (go_at_call 52; refine (hD.writeS hS _ _ (by decide) (by decide) hv).mono ?_; rintro e w1 ⟨rfl, ⟨D', hD', hS'⟩, hb⟩; replace hl := own_chg hl hb (fun k e e2 => by have := (hl.lt k e).1; have := hdf k e2; omega); replace hsz := Nat.le_trans hsz hb.size; replace hD := hD'; replace hS := hS'; clear hD' hS' hv hb)
            | (refine wpList_append_own _ rfl _ _ 37 rfl B0 51 ie (.agg #[.int .i64 0]) 1 8 Try.underlying37 hi hz hsize hby rfl (by decide) _ _ _ rfl (hl.alloc _) _ 2 2 [.int .i64 2, .int .i64 2] rfl rfl (fun j u hj => cells_at (heap_alloc_new _ _) j u hj) (by simp [Value.oneCell']) (by decide) (by decide) (by simp; omega) ?_; intro v2 w2 hown hgr _; have hD2 := (hD.below (below_alloc' (Below.refl _ _) (.cells #[.int .i64 2, .int .i64 2] 51))); have hcg : Chg (fun b => B0 ≤ b) _ w2 := (Chg.refl _ _).grown hgr (fun k e _ => ((hl.alloc (.cells #[.int .i64 2, .int .i64 2] 51)).lt k e).1); replace hD := hD2.chg hcg (fun k e => Nat.le_trans hB0 e) (fun k e e2 => by have := hdf k e; omega); replace hl := hown; replace hsz : B0 ≤ w2.heap.size := Nat.le_trans hsz (by have := hcg.size; simp at this; omega); clear hown hgr hD2 hcg))
        rw [rounds_succ]
        go_wp2_with
          (first
            | (go_at_call 53; refine (full_any _ _ (by decide) (by decide)).mono ?_; rintro e w1 ⟨v, rfl, ho, hb⟩; replace hD := hD.below hb; replace hl := own_below hl hb; replace hsz := Nat.le_trans hsz hb.size; have hv := BytesIs.of_own (fullL_sec _).1 ho; clear ho hb)
            | (go_at_call 52; refine (hD.writeS hS _ _ (by decide) (by decide) hv).mono ?_; rintro e w1 ⟨rfl, ⟨D', hD', hS'⟩, hb⟩; replace hl := own_chg hl hb (fun k e e2 => by have := (hl.lt k e).1; have := hdf k e2; omega); replace hsz := Nat.le_trans hsz hb.size; replace hD := hD'; replace hS := hS'; clear hD' hS' hv hb)
            | (refine wpList_append_own _ rfl _ _ 37 rfl B0 51 ie (.agg #[.int .i64 0]) 1 8 Try.underlying37 hi hz hsize hby rfl (by decide) _ _ _ rfl (hl.alloc _) _ 2 2 [.int .i64 1, .int .i64 1] rfl rfl (fun j u hj => cells_at (heap_alloc_new _ _) j u hj) (by simp [Value.oneCell']) (by decide) (by decide) (by simp; omega) ?_; intro v2 w2 hown hgr _; have hD2 := (hD.below (below_alloc' (Below.refl _ _) (.cells #[.int .i64 1, .int .i64 1] 51))); have hcg : Chg (fun b => B0 ≤ b) _ w2 := (Chg.refl _ _).grown hgr (fun k e _ => ((hl.alloc (.cells #[.int .i64 1, .int .i64 1] 51)).lt k e).1); replace hD := hD2.chg hcg (fun k e => Nat.le_trans hB0 e) (fun k e e2 => by have := hdf k e; omega); replace hl := hown; replace hsz : B0 ≤ w2.heap.size := Nat.le_trans hsz (by have := hcg.size; simp at this; omega); clear hown hgr hD2 hcg))
        rw [rounds_succ]
        go_wp2_with
          (first
            | (go_at_call 53; refine (full_any _ _ (by decide) (by decide)).mono ?_; rintro e w1 ⟨v, rfl, ho, hb⟩; replace hD := hD.below hb; replace hl := own_below hl hb; replace hsz := Nat.le_trans hsz hb.size; have hv := BytesIs.of_own (fullL_sec _).1 ho; clear ho hb)
            | (go_at_call 52; refine (hD.writeS hS _ _ (by decide) (by decide) hv).mono ?_; rintro e w1 ⟨rfl, ⟨D', hD', hS'⟩, hb⟩; replace hl := own_chg hl hb (fun k e e2 => by have := (hl.lt k e).1; have := hdf k e2; omega); replace hsz := Nat.le_trans hsz hb.size; replace hD := hD'; replace hS := hS'; clear hD' hS' hv hb)
            | (refine wpList_append_own _ rfl _ _ 37 rfl B0 51 ie (.agg #[.int .i64 0]) 1 8 Try.underlying37 hi hz hsize hby rfl (by decide) _ _ _ rfl (hl.alloc _) _ 2 2 [.int .i64 0, .int .i64 0] rfl rfl (fun j u hj => cells_at (heap_alloc_new _ _) j u hj) (by simp [Value.oneCell']) (by decide) (by decide) (by simp; omega) ?_; intro v2 w2 hown hgr _; have hD2 := (hD.below (below_alloc' (Below.refl _ _) (.cells #[.int .i64 0, .int .i64 0] 51))); have hcg : Chg (fun b => B0 ≤ b) _ w2 := (Chg.refl _ _).grown hgr (fun k e _ => ((hl.alloc (.cells #[.int .i64 0, .int .i64 0] 51)).lt k e).1); replace hD := hD2.chg hcg (fun k e => Nat.le_trans hB0 e) (fun k e e2 => by have := hdf k e; omega); replace hl := hown; replace hsz : B0 ≤ w2.heap.size := Nat.le_trans hsz (by have := hcg.size; simp at this; omega); clear hown hgr hD2 hcg))
        rw [rounds_succ]
        go_wp2_with
          (first
            | (go_at_call 54; refine (hD.wakeS hS (IntsIs.of_own (l := [0, 0]) rfl hl) (fun _ k e e2 => by have := (hl.lt k e).1; have := hdf k e2; omega)).mono ?_; rintro e w1 ⟨rfl, ⟨D', hD', hS'⟩, hb⟩; replace hD := hD'; replace hS := hS'; clear hD' hS' hl hb))
        refine wp_loop_rounds 4 ?_
        rw [rounds_succ]
        go_wp2_with
          (first
            | (go_at_call 55; refine (hD.readS hS _ 100 (by decide) (by decide) (by rfl)).mono ?_; rintro e w1 ⟨va, rfl, ha, hb⟩; replace hD := hD.below hb; clear hb)
            | (go_at_call 53; refine (full_any _ _ (by decide) (by decide)).mono ?_; rintro e w1 ⟨v, rfl, ho, hb⟩; replace hD := hD.below hb; replace ha := ha.below hb; have hv := BytesIs.of_own (fullL_sec _).1 ho; clear ho hb)
            | (go_at_call 58; refine (sameBytes_eq _ _ _ _ ha hv).mono ?_; rintro e w1 ⟨rfl, hb⟩; replace hD := hD.below hb; clear hb ha hv))
        rw [rounds_succ]
        go_wp2_with
          (first
            | (go_at_call 55; refine (hD.readS hS _ 1 (by decide) (by decide) (by rfl)).mono ?_; rintro e w1 ⟨va, rfl, ha, hb⟩; replace hD := hD.below hb; clear hb)
            | (go_at_call 53; refine (full_any _ _ (by decide) (by decide)).mono ?_; rintro e w1 ⟨v, rfl, ho, hb⟩; replace hD := hD.below hb; replace ha := ha.below hb; have hv := BytesIs.of_own (fullL_sec _).1 ho; clear ho hb)
            | (go_at_call 58; refine (sameBytes_eq _ _ _ _ ha hv).mono ?_; rintro e w1 ⟨rfl, hb⟩; replace hD := hD.below hb; clear hb ha hv))
        rw [rounds_succ]
        go_wp2_with
          (first
            | (go_at_call 55; refine (hD.readS hS _ 2 (by decide) (by decide) (by rfl)).mono ?_; rintro e w1 ⟨va, rfl, ha, hb⟩; replace hD := hD.below hb; clear hb)
            | (go_at_call 53; refine (full_any _ _ (by decide) (by decide)).mono ?_; rintro e w1 ⟨v, rfl, ho, hb⟩; replace hD := hD.below hb; replace ha := ha.below hb; have hv := BytesIs.of_own (fullL_sec _).1 ho; clear ho hb)
            | (go_at_call 58; refine (sameBytes_eq _ _ _ _ ha hv).mono ?_; rintro e w1 ⟨rfl, hb⟩; replace hD := hD.below hb; clear hb ha hv))
        rw [rounds_succ]
        go_wp2
        go_roundw
        case rel => exact ⟨2, by omega, by go_num, hD.be⟩
        case measure => simp [intOf]
      · go_wp2_with
          (first
            | (go_at_call 50; refine (Dev.new_ _ hB 3 (by decide) (by decide)).mono ?_; rintro e w2 ⟨rfl, hD, hb2⟩; clear hb2; generalize wr.heap.size + 2 = p at hD ⊢; generalize wr.heap.size + 1 = mo at hD ⊢; generalize wr.heap.size = ms at hD ⊢))
        have hS := St.new 3
        refine wp_loop_rounds 4 ?_
        iterate 4
          rw [rounds_succ]
          go_wp2_with
            (first
              | (go_at_call 53; refine (full_any _ _ (by decide) (by decide)).mono ?_; rintro e w1 ⟨v, rfl, ho, hb⟩; replace hD := hD.below hb; have hv := BytesIs.of_own (fullL_sec _).1 ho; clear ho hb)
              | (go_at_call 52; refine (hD.writeS hS _ _ (by decide) (by decide) hv).mono ?_; rintro e w1 ⟨rfl, ⟨D', hD', hS'⟩, hb⟩; replace hD := hD'; replace hS := hS'; clear hD' hS' hv hb)
              | (go_at_call 51; refine (hD.syncS hS).mono ?_; rintro e w1 ⟨rfl, ⟨D', hD', hS'⟩, hb⟩; replace hD := hD'; replace hS := hS'; clear hD' hS' hb))
        obtain ⟨B0, hB1⟩ : ∃ B0, B0 = w1.heap.size := ⟨_, rfl⟩
        have hdf := hD.lt
        rw [← hB1] at hdf
        have hsz : B0 ≤ w1.heap.size := by omega
        have hB0 : w.heap.size ≤ B0 := by have := hD.be.size; omega
        clear hB1
        have hl : w1.ownsRow B0 51 1 (.slice none 0 0) 0 (intsV []) := World.ownsRow_nil w1 B0 51 1
        refine wp_loop_rounds 4 ?_
        rw [rounds_succ]
        go_wp2_with
          (first
            | (go_at_call 53; refine (full_any _ _ (by decide) (by decide)).mono ?_; rintro e w1 ⟨v, rfl, ho, hb⟩; replace hD := hD.below hb; replace hl := own_below hl hb; replace hsz := Nat.le_trans hsz hb.size; have hv := BytesIs.of_own (fullL_sec _).1 ho; clear ho hb)
            | (go_at_call 52; refine (hD.writeS hS _ _ (by decide) (by decide) hv).mono ?_; rintro e w1 ⟨rfl, ⟨D', hD', hS'⟩, hb⟩; replace hl := own_chg hl hb (fun k e e2 => by have := (hl.lt k e).1; have := hdf k e2; omega); replace hsz := Nat.le_trans hsz hb.size; replace hD := hD'; replace hS := hS'; clear hD' hS' hv hb)
            | (refine wpList_append_own _ rfl _ _ 37 rfl B0 51 ie (.agg #[.int .i64 0]) 1 8 Try.underlying37 hi hz hsize hby rfl (by decide) _ _ _ rfl (hl.alloc _) _ 2 2 [.int .i64 2, .int .i64 2] rfl rfl (fun j u hj => cells_at (heap_alloc_new _ _) j u hj) (by simp [Value.oneCell']) (by decide) (by decide) (by simp; omega) ?_; intro v2 w2 hown hgr _; have hD2 := (hD.below (below_alloc' (Below.refl _ _) (.cells #[.int .i64 2, .int .i64 2] 51))); have hcg : Chg (fun b => B0 ≤ b) _ w2 := (Chg.refl _ _).grown hgr (fun k e _ => ((hl.alloc (.cells #[.int .i64 2, .int .i64 2] 51)).lt k e).1); replace hD := hD2.chg hcg (fun k e => Nat.le_trans hB0 e) (fun k e e2 => by have := hdf k e; omega); replace hl := hown; replace hsz : B0 ≤ w2.heap.size := Nat.le_trans hsz (by have := hcg.size; simp at this; omega); clear hown hgr hD2 hcg))
        rw [rounds_succ]
        go_wp2_with
          (first
            | (go_at_call 53; refine (full_any _ _ (by decide) (by decide)).mono ?_; rintro e w1 ⟨v, rfl, ho, hb⟩; replace hD := hD.below hb; replace hl := own_below hl hb; replace hsz := Nat.le_trans hsz hb.size; have hv := BytesIs.of_own (fullL_sec _).1 ho; clear ho hb)
            | (go_at_call 52; refine (hD.writeS hS _ _ (by decide) (by decide) hv).mono ?_; rintro e w1 ⟨rfl, ⟨D', hD', hS'⟩, hb⟩; replace hl := own_chg hl hb (fun k e e2 => by have := (hl.lt k e).1; have := hdf k e2; omega); replace hsz := Nat.le_trans hsz hb.size; replace hD := hD'; replace hS := hS'; clear hD' hS' hv hb)
            | (refine wpList_append_own _ rfl _ _ 37 rfl B0 51 ie (.agg #[.int .i64 0]) 1 8 Try.underlying37 hi hz hsize hby rfl (by decide) _ _ _ rfl (hl.alloc _) _ 2 2 [.int .i64 1, .int .i64 1] rfl rfl (fun j u hj => cells_at (heap_alloc_new _ _) j u hj) (by simp [Value.oneCell']) (by decide) (by decide) (by simp; omega) ?_; intro v2 w2 hown hgr _; have hD2 := (hD.below (below_alloc' (Below.refl _ _) (.cells #[.int .i64 1, .int .i64 1] 51))); have hcg : Chg (fun b => B0 ≤ b) _ w2 := (Chg.refl _ _).grown hgr (fun k e _ => ((hl.alloc (.cells #[.int .i64 1, .int .i64 1] 51)).lt k e).1); replace hD := hD2.chg hcg (fun k e => Nat.le_trans hB0 e) (fun k e e2 => by have := hdf k e; omega); replace hl := hown; replace hsz : B0 ≤ w2.heap.size := Nat.le_trans hsz (by have := hcg.size; simp at this; omega); clear hown hgr hD2 hcg))
        rw [rounds_succ]
        go_wp2_with
          (first
            | (go_at_call 53; refine (full_any _ _ (by decide) (by decide)).mono ?_; rintro e w1 ⟨v, rfl, ho, hb⟩; replace hD := hD.below hb; replace hl := own_below hl hb; replace hsz := Nat.le_trans hsz hb.size; have hv := BytesIs.of_own (fullL_sec _).1 ho; clear ho hb)
            | (go_at_call 52; refine (hD.writeS hS _ _ (by decide) (by decide) hv).mono ?_; rintro e w1 ⟨rfl, ⟨D', hD', hS'⟩, hb⟩; replace hl := own_chg hl hb (fun k e e2 => by have := (hl.lt k e).1; have := hdf k e2; omega); replace hsz := Nat.le_trans hsz hb.size; replace hD := hD'; replace hS := hS'; clear hD' hS' hv hb)
            | (refine wpList_append_own _ rfl _ _ 37 rfl B0 51 ie (.agg #[.int .i64 0]) 1 8 Try.underlying37 hi hz hsize hby rfl (by decide) _ _ _ rfl (hl.alloc _) _ 2 2 [.int .i64 0, .int .i64 0] rfl rfl (fun j u hj => cells_at (heap_alloc_new _ _) j u hj) (by simp [Value.oneCell']) (by decide) (by decide) (by simp; omega) ?_; intro v2 w2 hown hgr _; have hD2 := (hD.below (below_alloc' (Below.refl _ _) (.cells #[.int .i64 0, .int .i64 0] 51))); have hcg : Chg (fun b => B0 ≤ b) _ w2 := (Chg.refl _ _).grown hgr (fun k e _ => ((hl.alloc (.cells #[.int .i64 0, .int .i64 0] 51)).lt k e).1); replace hD := hD2.chg hcg (fun k e => Nat.le_trans hB0 e) (fun k e e2 => by have := hdf k e; omega); replace hl := hown; replace hsz : B0 ≤ w2.heap.size := Nat.le_trans hsz (by have := hcg.size; simp at this; omega); clear hown hgr hD2 hcg))
        rw [rounds_succ]
        go_wp2_with
          (first
            | (go_at_call 54; refine (hD.wakeS hS (IntsIs.of_own (l := [1, 1]) rfl hl) (fun _ k e e2 => by have := (hl.lt k e).1; have := hdf k e2; omega)).mono ?_; rintro e w1 ⟨rfl, ⟨D', hD', hS'⟩, hb⟩; replace hD := hD'; replace hS := hS'; clear hD' hS' hl hb))
        refine wp_loop_rounds 4 ?_
        rw [rounds_succ]
        go_wp2_with
          (first
            | (go_at_call 55; refine (hD.readS hS _ 0 (by decide) (by decide) (by rfl)).mono ?_; rintro e w1 ⟨va, rfl, ha, hb⟩; replace hD := hD.below hb; clear hb)
            | (go_at_call 53; refine (full_any _ _ (by decide) (by decide)).mono ?_; rintro e w1 ⟨v, rfl, ho, hb⟩; replace hD := hD.below hb; replace ha := ha.below hb; have hv := BytesIs.of_own (fullL_sec _).1 ho; clear ho hb)
            | (go_at_call 58; refine (sameBytes_eq _ _ _ _ ha hv).mono ?_; rintro e w1 ⟨rfl, hb⟩; replace hD := hD.below hb; clear hb ha hv))
        rw [rounds_succ]
        go_wp2_with
          (first
            | (go_at_call 55; refine (hD.readS hS _ 101 (by decide) (by decide) (by rfl)).mono ?_; rintro e w1 ⟨va, rfl, ha, hb⟩; replace hD := hD.below hb; clear hb)
            | (go_at_call 53; refine (full_any _ _ (by decide) (by decide)).mono ?_; rintro e w1 ⟨v, rfl, ho, hb⟩; replace hD := hD.below hb; replace ha := ha.below hb; have hv := BytesIs.of_own (fullL_sec _).1 ho; clear ho hb)
            | (go_at_call 58; refine (sameBytes_eq _ _ _ _ ha hv).mono ?_; rintro e w1 ⟨rfl, hb⟩; replace hD := hD.below hb; clear hb ha hv))
        rw [rounds_succ]
        go_wp2_with
          (first
            | (go_at_call 55; refine (hD.readS hS _ 2 (by decide) (by decide) (by rfl)).mono ?_; rintro e w1 ⟨va, rfl, ha, hb⟩; replace hD := hD.below hb; clear hb)
            | (go_at_call 53; refine (full_any _ _ (by decide) (by decide)).mono ?_; rintro e w1 ⟨v, rfl, ho, hb⟩; replace hD := hD.below hb; replace ha := ha.below hb; have hv := BytesIs.of_own (fullL_sec _).1 ho; clear ho hb)
            | (go_at_call 58; refine (sameBytes_eq _ _ _ _ ha hv).mono ?_; rintro e w1 ⟨rfl, hb⟩; replace hD := hD.below hb; clear hb ha hv))
        rw [rounds_succ]
        go_wp2
        go_roundw
        case rel => exact ⟨3, by omega, by go_num, hD.be⟩
        case measure => simp [intOf]
      · go_wp2_with
          (first
            | (go_at_call 50; refine (Dev.new_ _ hB 3 (by decide) (by decide)).mono ?_; rintro e w2 ⟨rfl, hD, hb2⟩; clear hb2; generalize wr.heap.size + 2 = p at hD ⊢; generalize wr.heap.size + 1 = mo at hD ⊢; generalize wr.heap.size = ms at hD ⊢))
        have hS := St.new 3
        refine wp_loop_rounds 4 ?_
        iterate 4
          rw [rounds_succ]
          go_wp2_with
            (first
              | (go_at_call 53; refine (full_any _ _ (by decide) (by decide)).mono ?_; rintro e w1 ⟨v, rfl, ho, hb⟩; replace hD := hD.below hb; have hv := BytesIs.of_own (fullL_sec _).1 ho; clear ho hb)
              | (go_at_call 52; refine (hD.writeS hS _ _ (by decide) (by decide) hv).mono ?_; rintro e w1 ⟨rfl, ⟨D', hD', hS'⟩, hb⟩; replace hD := hD'; replace hS := hS'; clear hD' hS' hv hb)
              | (go_at_call 51; refine (hD.syncS hS).mono ?_; rintro e w1 ⟨rfl, ⟨D', hD', hS'⟩, hb⟩; replace hD := hD'; replace hS := hS'; clear hD' hS' hb))
        obtain ⟨B0, hB1⟩ : ∃ B0, B0 = w1.heap.size := ⟨_, rfl⟩
        have hdf := hD.lt
        rw [← hB1] at hdf
        have hsz : B0 ≤ w1.heap.size := by omega
        have hB0 : w.heap.size ≤ B0 := by have := hD.be.size; omega
        clear hB1
        have hl : w1.ownsRow B0 51 1 (.slice none 0 0) 0 (intsV []) := World.ownsRow_nil w1 B0 51 1
        refine wp_loop_rounds 4 ?_
        rw [rounds_succ]
        go_wp2_with
          (first
            | (go_at_call 53; refine (full_any _ _ (by decide) (by decide)).mono ?_; rintro e w1 ⟨v, rfl, ho, hb⟩; replace hD := hD.below hb; replace hl := own_below hl hb; replace hsz := Nat.le_trans hsz hb.size; have hv := BytesIs.of_own (fullL_sec _).1 ho; clear ho hb)
            | (go_at_call 52; refine (hD.writeS hS _ _ (by decide) (by decide) hv).mono ?_; rintro e w1 ⟨rfl, ⟨D', hD', hS'⟩, hb⟩; replace hl := own_chg hl hb (fun k e e2 => by have := (hl.lt k e).1; have := hdf k e2; omega); replace hsz := Nat.le_trans hsz hb.size; replace hD := hD'; replace hS := hS'; clear hD' hS' hv hb)
            | (refine wpList_append_own _ rfl _ _ 37 rfl B0 51 ie (.agg #[.int .i64 0]) 1 8 Try.underlying37 hi hz hsize hby rfl (by decide) _ _ _ rfl (hl.alloc _) _ 2 2 [.int .i64 2, .int .i64 2] rfl rfl (fun j u hj => cells_at (heap_alloc_new _ _) j u hj) (by simp [Value.oneCell']) (by decide) (by decide) (by simp; omega) ?_; intro v2 w2 hown hgr _; have hD2 := (hD.below (below_alloc' (Below.refl _ _) (.cells #[.int .i64 2, .int .i64 2] 51))); have hcg : Chg (fun b => B0 ≤ b) _ w2 := (Chg.refl _ _).grown hgr (fun k e _ => ((hl.alloc (.cells #[.int .i64 2, .int .i64 2] 51)).lt k e).1); replace hD := hD2.chg hcg (fun k e => Nat.le_trans hB0 e) (fun k e e2 => by have := hdf k e; omega); replace hl := hown; replace hsz : B0 ≤ w2.heap.size := Nat.le_trans hsz (by have := hcg.size; simp at this; omega); clear hown hgr hD2 hcg))
        rw [rounds_succ]
        go_wp2_with
          (first
            | (go_at_call 53; refine (full_any _ _ (by decide) (by decide)).mono ?_; rintro e w1 ⟨v, rfl, ho, hb⟩; replace hD := hD.below hb; replace hl := own_below hl hb; replace hsz := Nat.le_trans hsz hb.size; have hv := BytesIs.of_own (fullL_sec _).1 ho; clear ho hb)
            | (go_at_call 52; refine (hD.writeS hS _ _ (by decide) (by decide) hv).mono ?_; rintro e w1 ⟨rfl, ⟨D', hD', hS'⟩, hb⟩; replace hl := own_chg hl hb (fun k e e2 => by have := (hl.lt k e).1; have := hdf k e2; omega); replace hsz := Nat.le_trans hsz hb.size; replace hD := hD'; replace hS := hS'; clear hD' hS' hv hb)
            | (refine wpList_append_own _ rfl _ _ 37 rfl B0 51 ie (.agg #[.int .i64 0]) 1 8 Try.underlying37 hi hz hsize hby rfl (by decide) _ _ _ rfl (hl.alloc _) _ 2 2 [.int .i64 1, .int .i64 1] rfl rfl (fun j u hj => cells_at (heap_alloc_new _ _) j u hj) (by simp [Value.oneCell']) (by decide) (by decide) (by simp; omega) ?_; intro v2 w2 hown hgr _; have hD2 := (hD.below (below_alloc' (Below.refl _ _) (.cells #[.int .i64 1, .int .i64 1] 51))); have hcg : Chg (fun b => B0 ≤ b) _ w2 := (Chg.refl _ _).grown hgr (fun k e _ => ((hl.alloc (.cells #[.int .i64 1, .int .i64 1] 51)).lt k e).1); replace hD := hD2.chg hcg (fun k e => Nat.le_trans hB0 e) (fun k e e2 => by have := hdf k e; omega); replace hl := hown; replace hsz : B0 ≤ w2.heap.size := Nat.le_trans hsz (by have := hcg.size; simp at this; omega); clear hown hgr hD2 hcg))
        rw [rounds_succ]
        go_wp2_with
          (first
            | (go_at_call 53; refine (full_any _ _ (by decide) (by decide)).mono ?_; rintro e w1 ⟨v, rfl, ho, hb⟩; replace hD := hD.below hb; replace hl := own_below hl hb; replace hsz := Nat.le_trans hsz hb.size; have hv := BytesIs.of_own (fullL_sec _).1 ho; clear ho hb)
            | (go_at_call 52; refine (hD.writeS hS _ _ (by decide) (by decide) hv).mono ?_; rintro e w1 ⟨rfl, ⟨D', hD', hS'⟩, hb⟩; replace hl := own_chg hl hb (fun k e e2 => by have := (hl.lt k e).1; have := hdf k e2; omega); replace hsz := Nat.le_trans hsz hb.size; replace hD := hD'; replace hS := hS'; clear hD' hS' hv hb)
            | (refine wpList_append_own _ rfl _ _ 37 rfl B0 51 ie (.agg #[.int .i64 0]) 1 8 Try.underlying37 hi hz hsize hby rfl (by decide) _ _ _ rfl (hl.alloc _) _ 2 2 [.int .i64 0, .int .i64 0] rfl rfl (fun j u hj => cells_at (heap_alloc_new _ _) j u hj) (by simp [Value.oneCell']) (by decide) (by decide) (by simp; omega) ?_; intro v2 w2 hown hgr _; have hD2 := (hD.below (below_alloc' (Below.refl _ _) (.cells #[.int .i64 0, .int .i64 0] 51))); have hcg : Chg (fun b => B0 ≤ b) _ w2 := (Chg.refl _ _).grown hgr (fun k e _ => ((hl.alloc (.cells #[.int .i64 0, .int .i64 0] 51)).lt k e).1); replace hD := hD2.chg hcg (fun k e => Nat.le_trans hB0 e) (fun k e e2 => by have := hdf k e; omega); replace hl := hown; replace hsz : B0 ≤ w2.heap.size := Nat.le_trans hsz (by have := hcg.size; simp at this; omega); clear hown hgr hD2 hcg))
        rw [rounds_succ]
        go_wp2_with
          (first
            | (go_at_call 54; refine (hD.wakeS hS (IntsIs.of_own (l := [1, 1, 0, 0]) rfl hl) (fun _ k e e2 => by have := (hl.lt k e).1; have := hdf k e2; omega)).mono ?_; rintro e w1 ⟨rfl, ⟨D', hD', hS'⟩, hb⟩; replace hD := hD'; replace hS := hS'; clear hD' hS' hl hb))
        refine wp_loop_rounds 4 ?_
        rw [rounds_succ]
        go_wp2_with
          (first
            | (go_at_call 55; refine (hD.readS hS _ 100 (by decide) (by decide) (by rfl)).mono ?_; rintro e w1 ⟨va, rfl, ha, hb⟩; replace hD := hD.below hb; clear hb)
            | (go_at_call 53; refine (full_any _ _ (by decide) (by decide)).mono ?_; rintro e w1 ⟨v, rfl, ho, hb⟩; replace hD := hD.below hb; replace ha := ha.below hb; have hv := BytesIs.of_own (fullL_sec _).1 ho; clear ho hb)
            | (go_at_call 58; refine (sameBytes_eq _ _ _ _ ha hv).mono ?_; rintro e w1 ⟨rfl, hb⟩; replace hD := hD.below hb; clear hb ha hv))
        rw [rounds_succ]
        go_wp2_with
          (first
            | (go_at_call 55; refine (hD.readS hS _ 101 (by decide) (by decide) (by rfl)).mono ?_; rintro e w1 ⟨va, rfl, ha, hb⟩; replace hD := hD.below hb; clear hb)
            | (go_at_call 53; refine (full_any _ _ (by decide) (by decide)).mono ?_; rintro e w1 ⟨v, rfl, ho, hb⟩; replace hD := hD.below hb; replace ha := ha.below hb; have hv := BytesIs.of_own (fullL_sec _).1 ho; clear ho hb)
            | (go_at_call 58; refine (sameBytes_eq _ _ _ _ ha hv).mono ?_; rintro e w1 ⟨rfl, hb⟩; replace hD := hD.below hb; clear hb ha hv))
        rw [rounds_succ]
        go_wp2_with
          (first
            | (go_at_call 55; refine (hD.readS hS _ 2 (by decide) (by decide) (by rfl)).mono ?_; rintro e w1 ⟨va, rfl, ha, hb⟩; replace hD := hD.below hb; clear hb)
            | (go_at_call 53; refine (full_any _ _ (by decide) (by decide)).mono ?_; rintro e w1 ⟨v, rfl, ho, hb⟩; replace hD := hD.below hb; replace ha := ha.below hb; have hv := BytesIs.of_own (fullL_sec _).1 ho; clear ho hb)
            | (go_at_call 58; refine (sameBytes_eq _ _ _ _ ha hv).mono ?_; rintro e w1 ⟨rfl, hb⟩; replace hD := hD.below hb; clear hb ha hv))
        rw [rounds_succ]
        go_wp2
        go_roundw
        case rel => exact ⟨4, by omega, by go_num, hD.be⟩
        case measure => simp [intOf]
      · go_wp2_with
          (first
            | (go_at_call 50; refine (Dev.new_ _ hB 3 (by decide) (by decide)).mono ?_; rintro e w2 ⟨rfl, hD, hb2⟩; clear hb2; generalize wr.heap.size + 2 = p at hD ⊢; generalize wr.heap.size + 1 = mo at hD ⊢; generalize wr.heap.size = ms at hD ⊢))
        have hS := St.new 3
        refine wp_loop_rounds 4 ?_
        iterate 4
          rw [rounds_succ]
          go_wp2_with
            (first
              | (go_at_call 53; refine (full_any _ _ (by decide) (by decide)).mono ?_; rintro e w1 ⟨v, rfl, ho, hb⟩; replace hD := hD.below hb; have hv := BytesIs.of_own (fullL_sec _).1 ho; clear ho hb)
              | (go_at_call 52; refine (hD.writeS hS _ _ (by decide) (by decide) hv).mono ?_; rintro e w1 ⟨rfl, ⟨D', hD', hS'⟩, hb⟩; replace hD := hD'; replace hS := hS'; clear hD' hS' hv hb)
              | (go_at_call 51; refine (hD.syncS hS).mono ?_; rintro e w1 ⟨rfl, ⟨D', hD', hS'⟩, hb⟩; replace hD := hD'; replace hS := hS'; clear hD' hS' hb))
        obtain ⟨B0, hB1⟩ : ∃ B0, B0 = w1.heap.size := ⟨_, rfl⟩
        have hdf := hD.lt
        rw [← hB1] at hdf
        have hsz : B0 ≤ w1.heap.size := by omega
        have hB0 : w.heap.size ≤ B0 := by have := hD.be.size; omega
        clear hB1
        have hl : w1.ownsRow B0 51 1 (.slice none 0 0) 0 (intsV []) := World.ownsRow_nil w1 B0 51 1
        refine wp_loop_rounds 4 ?_
        rw [rounds_succ]
        go_wp2_with
          (first
            | (go_at_call 53; refine (full_any _ _ (by decide) (by decide)).mono ?_; rintro e w1 ⟨v, rfl, ho, hb⟩; replace hD := hD.below hb; replace hl := own_below hl hb; replace hsz := Nat.le_trans hsz hb.size; have hv := BytesIs.of_own (fullL_sec _).1 ho; clear ho hb)
            | (go_at_call 52; refine (hD.writeS hS _ _ (by decide) (by decide) hv).mono ?_; rintro e w1 ⟨rfl, ⟨D', hD', hS'⟩, hb⟩; replace hl := own_chg hl hb (fun k e e2 => by have := (hl.lt k e).1; have := hdf k e2; omega); replace hsz := Nat.le_trans hsz hb.size; replace hD := hD'; replace hS := hS'; clear hD' hS' hv hb)
            | (refine wpList_append_own _ rfl _ _ 37 rfl B0 51 ie (.agg #[.int .i64 0]) 1 8 Try.underlying37 hi hz hsize hby rfl (by decide) _ _ _ rfl (hl.alloc _) _ 2 2 [.int .i64 2, .int .i64 2] rfl rfl (fun j u hj => cells_at (heap_alloc_new _ _) j u hj) (by simp [Value.oneCell']) (by decide) (by decide) (by simp; omega) ?_; intro v2 w2 hown hgr _; have hD2 := (hD.below (below_alloc' (Below.refl _ _) (.cells #[.int .i64 2, .int .i64 2] 51))); have hcg : Chg (fun b => B0 ≤ b) _ w2 := (Chg.refl _ _).grown hgr (fun k e _ => ((hl.alloc (.cells #[.int .i64 2, .int .i64 2] 51)).lt k e).1); replace hD := hD2.chg hcg (fun k e => Nat.le_trans hB0 e) (fun k e e2 => by have := hdf k e; omega); replace hl := hown; replace hsz : B0 ≤ w2.heap.size := Nat.le_trans hsz (by have := hcg.size; simp at this; omega); clear hown hgr hD2 hcg))
        rw [rounds_succ]
        go_wp2_with
          (first
            | (go_at_call 53; refine (full_any _ _ (by decide) (by decide)).mono ?_; rintro e w1 ⟨v, rfl, ho, hb⟩; replace hD := hD.below hb; replace hl := own_below hl hb; replace hsz := Nat.le_trans hsz hb.size; have hv := BytesIs.of_own (fullL_sec _).1 ho; clear ho hb)
            | (go_at_call 52; refine (hD.writeS hS _ _ (by decide) (by decide) hv).mono ?_; rintro e w1 ⟨rfl, ⟨D', hD', hS'⟩, hb⟩; replace hl := own_chg hl hb (fun k e e2 => by have := (hl.lt k e).1; have := hdf k e2; omega); replace hsz := Nat.le_trans hsz hb.size; replace hD := hD'; replace hS := hS'; clear hD' hS' hv hb)
            | (refine wpList_append_own _ rfl _ _ 37 rfl B0 51 ie (.agg #[.int .i64 0]) 1 8 Try.underlying37 hi hz hsize hby rfl (by decide) _ _ _ rfl (hl.alloc _) _ 2 2 [.int .i64 1, .int .i64 1] rfl rfl (fun j u hj => cells_at (heap_alloc_new _ _) j u hj) (by simp [Value.oneCell']) (by decide) (by decide) (by simp; omega) ?_; intro v2 w2 hown hgr _; have hD2 := (hD.below (below_alloc' (Below.refl _ _) (.cells #[.int .i64 1, .int .i64 1] 51))); have hcg : Chg (fun b => B0 ≤ b) _ w2 := (Chg.refl _ _).grown hgr (fun k e _ => ((hl.alloc (.cells #[.int .i64 1, .int .i64 1] 51)).lt k e).1); replace hD := hD2.chg hcg (fun k e => Nat.le_trans hB0 e) (fun k e e2 => by have := hdf k e; omega); replace hl := hown; replace hsz : B0 ≤ w2.heap.size := Nat.le_trans hsz (by have := hcg.size; simp at this; omega); clear hown hgr hD2 hcg))
        rw [rounds_succ]
        go_wp2_with
          (first
            | (go_at_call 53; refine (full_any _ _ (by decide) (by decide)).mono ?_; rintro e w1 ⟨v, rfl, ho, hb⟩; replace hD := hD.below hb; replace hl := own_below hl hb; replace hsz := Nat.le_trans hsz hb.size; have hv := BytesIs.of_own (fullL_sec _).1 ho; clear ho hb)
            | (go_at_call 52; refine (hD.writeS hS _ _ (by decide) (by decide) hv).mono ?_; rintro e w1 ⟨rfl, ⟨D', hD', hS'⟩, hb⟩; replace hl := own_chg hl hb (fun k e e2 => by have := (hl.lt k e).1; have := hdf k e2; omega); replace hsz := Nat.le_trans hsz hb.size; replace hD := hD'; replace hS := hS'; clear hD' hS' hv hb)
            | (refine wpList_append_own _ rfl _ _ 37 rfl B0 51 ie (.agg #[.int .i64 0]) 1 8 Try.underlying37 hi hz hsize hby rfl (by decide) _ _ _ rfl (hl.alloc _) _ 2 2 [.int .i64 0, .int .i64 0] rfl rfl (fun j u hj => cells_at (heap_alloc_new _ _) j u hj) (by simp [Value.oneCell']) (by decide) (by decide) (by simp; omega) ?_; intro v2 w2 hown hgr _; have hD2 := (hD.below (below_alloc' (Below.refl _ _) (.cells #[.int .i64 0, .int .i64 0] 51))); have hcg : Chg (fun b => B0 ≤ b) _ w2 := (Chg.refl _ _).grown hgr (fun k e _ => ((hl.alloc (.cells #[.int .i64 0, .int .i64 0] 51)).lt k e).1); replace hD := hD2.chg hcg (fun k e => Nat.le_trans hB0 e) (fun k e e2 => by have := hdf k e; omega); replace hl := hown; replace hsz : B0 ≤ w2.heap.size := Nat.le_trans hsz (by have := hcg.size; simp at this; omega); clear hown hgr hD2 hcg))
        rw [rounds_succ]
        go_wp2_with
          (first
            | (go_at_call 54; refine (hD.wakeS hS (IntsIs.of_own (l := [2, 2]) rfl hl) (fun _ k e e2 => by have := (hl.lt k e).1; have := hdf k e2; omega)).mono ?_; rintro e w1 ⟨rfl, ⟨D', hD', hS'⟩, hb⟩; replace hD := hD'; replace hS := hS'; clear hD' hS' hl hb))
        refine wp_loop_rounds 4 ?_
        rw [rounds_succ]
        go_wp2_with
          (first
            | (go_at_call 55; refine (hD.readS hS _ 0 (by decide) (by decide) (by rfl)).mono ?_; rintro e w1 ⟨va, rfl, ha, hb⟩; replace hD := hD.below hb; clear hb)
            | (go_at_call 53; refine (full_any _ _ (by decide) (by decide)).mono ?_; rintro e w1 ⟨v, rfl, ho, hb⟩; replace hD := hD.below hb; replace ha := ha.below hb; have hv := BytesIs.of_own (fullL_sec _).1 ho; clear ho hb)
            | (go_at_call 58; refine (sameBytes_eq _ _ _ _ ha hv).mono ?_; rintro e w1 ⟨rfl, hb⟩; replace hD := hD.below hb; clear hb ha hv))
        rw [rounds_succ]
        go_wp2_with
          (first
            | (go_at_call 55; refine (hD.readS hS _ 1 (by decide) (by decide) (by rfl)).mono ?_; rintro e w1 ⟨va, rfl, ha, hb⟩; replace hD := hD.below hb; clear hb)
            | (go_at_call 53; refine (full_any _ _ (by decide) (by decide)).mono ?_; rintro e w1 ⟨v, rfl, ho, hb⟩; replace hD := hD.below hb; replace ha := ha.below hb; have hv := BytesIs.of_own (fullL_sec _).1 ho; clear ho hb)
            | (go_at_call 58; refine (sameBytes_eq _ _ _ _ ha hv).mono ?_; rintro e w1 ⟨rfl, hb⟩; replace hD := hD.below hb; clear hb ha hv))
        rw [rounds_succ]
        go_wp2_with
          (first
            | (go_at_call 55; refine (hD.readS hS _ 102 (by decide) (by decide) (by rfl)).mono ?_; rintro e w1 ⟨va, rfl, ha, hb⟩; replace hD := hD.below hb; clear hb)
            | (go_at_call 53; refine (full_any _ _ (by decide) (by decide)).mono ?_; rintro e w1 ⟨v, rfl, ho, hb⟩; replace hD := hD.below hb; replace ha := ha.below hb; have hv := BytesIs.of_own (fullL_sec _).1 ho; clear ho hb)
            | (go_at_call 58; refine (sameBytes_eq _ _ _ _ ha hv).mono ?_; rintro e w1 ⟨rfl, hb⟩; replace hD := hD.below hb; clear hb ha hv))
        rw [rounds_succ]
        go_wp2
        go_roundw
        case rel => exact ⟨5, by omega, by go_num, hD.be⟩
        case measure => simp [intOf]
      · go_wp2_with
          (first
            | (go_at_call 50; refine (Dev.new_ _ hB 3 (by decide) (by decide)).mono ?_; rintro e w2 ⟨rfl, hD, hb2⟩; clear hb2; generalize wr.heap.size + 2 = p at hD ⊢; generalize wr.heap.size + 1 = mo at hD ⊢; generalize wr.heap.size = ms at hD ⊢))
        have hS := St.new 3
        refine wp_loop_rounds 4 ?_
        iterate 4
          rw [rounds_succ]
          go_wp2_with
            (first
              | (go_at_call 53; refine (full_any _ _ (by decide) (by decide)).mono ?_; rintro e w1 ⟨v, rfl, ho, hb⟩; replace hD := hD.below hb; have hv := BytesIs.of_own (fullL_sec _).1 ho; clear ho hb)
              | (go_at_call 52; refine (hD.writeS hS _ _ (by decide) (by decide) hv).mono ?_; rintro e w1 ⟨rfl, ⟨D', hD', hS'⟩, hb⟩; replace hD := hD'; replace hS := hS'; clear hD' hS' hv hb)
              | (go_at_call 51; refine (hD.syncS hS).mono ?_; rintro e w1 ⟨rfl, ⟨D', hD', hS'⟩, hb⟩; replace hD := hD'; replace hS := hS'; clear hD' hS' hb))
        obtain ⟨B0, hB1⟩ : ∃ B0, B0 = w1.heap.size := ⟨_, rfl⟩
        have hdf := hD.lt
        rw [← hB1] at hdf
        have hsz : B0 ≤ w1.heap.size := by omega
        have hB0 : w.heap.size ≤ B0 := by have := hD.be.size; omega
        clear hB1
        have hl : w1.ownsRow B0 51 1 (.slice none 0 0) 0 (intsV []) := World.ownsRow_nil w1 B0 51 1
        refine wp_loop_rounds 4 ?_
        rw [rounds_succ]
        go_wp2_with
          (first
            | (go_at_call 53; refine (full_any _ _ (by decide) (by decide)).mono ?_; rintro e w1 ⟨v, rfl, ho, hb⟩; replace hD := hD.below hb; replace hl := own_below hl hb; replace hsz := Nat.le_trans hsz hb.size; have hv := BytesIs.of_own (fullL_sec _).1 ho; clear ho hb)
            | (go_at_call 52; refine (hD.writeS hS _ _ (by decide) (by decide) hv).mono ?_; rintro e w1 ⟨rfl, ⟨D', hD', hS'⟩, hb⟩; replace hl := own_chg hl hb (fun k e e2 => by have := (hl.lt k e).1; have := hdf k e2; omega); replace hsz := Nat.le_trans hsz hb.size; replace hD := hD'; replace hS := hS'; clear hD' hS' hv hb)
            | (refine wpList_append_own _ rfl _ _ 37 rfl B0 51 ie (.agg #[.int .i64 0]) 1 8 Try.underlying37 hi hz hsize hby rfl (by decide) _ _ _ rfl (hl.alloc _) _ 2 2 [.int .i64 2, .int .i64 2] rfl rfl (fun j u hj => cells_at (heap_alloc_new _ _) j u hj) (by simp [Value.oneCell']) (by decide) (by decide) (by simp; omega) ?_; intro v2 w2 hown hgr _; have hD2 := (hD.below (below_alloc' (Below.refl _ _) (.cells #[.int .i64 2, .int .i64 2] 51))); have hcg : Chg (fun b => B0 ≤ b) _ w2 := (Chg.refl _ _).grown hgr (fun k e _ => ((hl.alloc (.cells #[.int .i64 2, .int .i64 2] 51)).lt k e).1); replace hD := hD2.chg hcg (fun k e => Nat.le_trans hB0 e) (fun k e e2 => by have := hdf k e; omega); replace hl := hown; replace hsz : B0 ≤ w2.heap.size := Nat.le_trans hsz (by have := hcg.size; simp at this; omega); clear hown hgr hD2 hcg))
        rw [rounds_succ]
        go_wp2_with
          (first
            | (go_at_call 53; refine (full_any _ _ (by decide) (by decide)).mono ?_; rintro e w1 ⟨v, rfl, ho, hb⟩; replace hD := hD.below hb; replace hl := own_below hl hb; replace hsz := Nat.le_trans hsz hb.size; have hv := BytesIs.of_own (fullL_sec _).1 ho; clear ho hb)
            | (go_at_call 52; refine (hD.writeS hS _ _ (by decide) (by decide) hv).mono ?_; rintro e w1 ⟨rfl, ⟨D', hD', hS'⟩, hb⟩; replace hl := own_chg hl hb (fun k e e2 => by have := (hl.lt k e).1; have := hdf k e2; omega); replace hsz := Nat.le_trans hsz hb.size; replace hD := hD'; replace hS := hS'; clear hD' hS' hv hb)
            | (refine wpList_append_own _ rfl _ _ 37 rfl B0 51 ie (.agg #[.int .i64 0]) 1 8 Try.underlying37 hi hz hsize hby rfl (by decide) _ _ _ rfl (hl.alloc _) _ 2 2 [.int .i64 1, .int .i64 1] rfl rfl (fun j u hj => cells_at (heap_alloc_new _ _) j u hj) (by simp [Value.oneCell']) (by decide) (by decide) (by simp; omega) ?_; intro v2 w2 hown hgr _; have hD2 := (hD.below (below_alloc' (Below.refl _ _) (.cells #[.int .i64 1, .int .i64 1] 51))); have hcg : Chg (fun b => B0 ≤ b) _ w2 := (Chg.refl _ _).grown hgr (fun k e _ => ((hl.alloc (.cells #[.int .i64 1, .int .i64 1] 51)).lt k e).1); replace hD := hD2.chg hcg (fun k e => Nat.le_trans hB0 e) (fun k e e2 => by have := hdf k e; omega); replace hl := hown; replace hsz : B0 ≤ w2.heap.size := Nat.le_trans hsz (by have := hcg.size; simp at this; omega); clear hown hgr hD2 hcg))
        rw [rounds_succ]
        go_wp2_with
          (first
            | (go_at_call 53; refine (full_any _ _ (by decide) (by decide)).mono ?_; rintro e w1 ⟨v, rfl, ho, hb⟩; replace hD := hD.below hb; replace hl := own_below hl hb; replace hsz := Nat.le_trans hsz hb.size; have hv := BytesIs.of_own (fullL_sec _).1 ho; clear ho hb)
            | (go_at_call 52; refine (hD.writeS hS _ _ (by decide) (by decide) hv).mono ?_; rintro e w1 ⟨rfl, ⟨D', hD', hS'⟩, hb⟩; replace hl := own_chg hl hb (fun k e e2 => by have := (hl.lt k e).1; have := hdf k e2; omega); replace hsz := Nat.le_trans hsz hb.size; replace hD := hD'; replace hS := hS'; clear hD' hS' hv hb)
            | (refine wpList_append_own _ rfl _ _ 37 rfl B0 51 ie (.agg #[.int .i64 0]) 1 8 Try.underlying37 hi hz hsize hby rfl (by decide) _ _ _ rfl (hl.alloc _) _ 2 2 [.int .i64 0, .int .i64 0] rfl rfl (fun j u hj => cells_at (heap_alloc_new _ _) j u hj) (by simp [Value.oneCell']) (by decide) (by decide) (by simp; omega) ?_; intro v2 w2 hown hgr _; have hD2 := (hD.below (below_alloc' (Below.refl _ _) (.cells #[.int .i64 0, .int .i64 0] 51))); have hcg : Chg (fun b => B0 ≤ b) _ w2 := (Chg.refl _ _).grown hgr (fun k e _ => ((hl.alloc (.cells #[.int .i64 0, .int .i64 0] 51)).lt k e).1); replace hD := hD2.chg hcg (fun k e => Nat.le_trans hB0 e) (fun k e e2 => by have := hdf k e; omega); replace hl := hown; replace hsz : B0 ≤ w2.heap.size := Nat.le_trans hsz (by have := hcg.size; simp at this; omega); clear hown hgr hD2 hcg))
        rw [rounds_succ]
        go_wp2_with
          (first
            | (go_at_call 54; refine (hD.wakeS hS (IntsIs.of_own (l := [2, 2, 0, 0]) rfl hl) (fun _ k e e2 => by have := (hl.lt k e).1; have := hdf k e2; omega)).mono ?_; rintro e w1 ⟨rfl, ⟨D', hD', hS'⟩, hb⟩; replace hD := hD'; replace hS := hS'; clear hD' hS' hl hb))
        refine wp_loop_rounds 4 ?_
        rw [rounds_succ]
        go_wp2_with
          (first
            | (go_at_call 55; refine (hD.readS hS _ 100 (by decide) (by decide) (by rfl)).mono ?_; rintro e w1 ⟨va, rfl, ha, hb⟩; replace hD := hD.below hb; clear hb)
            | (go_at_call 53; refine (full_any _ _ (by decide) (by decide)).mono ?_; rintro e w1 ⟨v, rfl, ho, hb⟩; replace hD := hD.below hb; replace ha := ha.below hb; have hv := BytesIs.of_own (fullL_sec _).1 ho; clear ho hb)
            | (go_at_call 58; refine (sameBytes_eq _ _ _ _ ha hv).mono ?_; rintro e w1 ⟨rfl, hb⟩; replace hD := hD.below hb; clear hb ha hv))
        rw [rounds_succ]
        go_wp2_with
          (first
            | (go_at_call 55; refine (hD.readS hS _ 1 (by decide) (by decide) (by rfl)).mono ?_; rintro e w1 ⟨va, rfl, ha, hb⟩; replace hD := hD.below hb; clear hb)
            | (go_at_call 53; refine (full_any _ _ (by decide) (by decide)).mono ?_; rintro e w1 ⟨v, rfl, ho, hb⟩; replace hD := hD.below hb; replace ha := ha.below hb; have hv := BytesIs.of_own (fullL_sec _).1 ho; clear ho hb)
            | (go_at_call 58; refine (sameBytes_eq _ _ _ _ ha hv).mono ?_; rintro e w1 ⟨rfl, hb⟩; replace hD := hD.below hb; clear hb ha hv))
        rw [rounds_succ]
        go_wp2_with
          (first
            | (go_at_call 55; refine (hD.readS hS _ 102 (by decide) (by decide) (by rfl)).mono ?_; rintro e w1 ⟨va, rfl, ha, hb⟩; replace hD := hD.below hb; clear hb)
            | (go_at_call 53; refine (full_any _ _ (by decide) (by decide)).mono ?_; rintro e w1 ⟨v, rfl, ho, hb⟩; replace hD := hD.below hb; replace ha := ha.below hb; have hv := BytesIs.of_own (fullL_sec _).1 ho; clear ho hb)
            | (go_at_call 58; refine (sameBytes_eq _ _ _ _ ha hv).mono ?_; rintro e w1 ⟨rfl, hb⟩; replace hD := hD.below hb; clear hb ha hv))
        rw [rounds_succ]
        go_wp2
        go_roundw
        case rel => exact ⟨6, by omega, by go_num, hD.be⟩
        case measure => simp [intOf]
      · go_wp2_with
          (first
            | (go_at_call 50; refine (Dev.new_ _ hB 3 (by decide) (by decide)).mono ?_; rintro e w2 ⟨rfl, hD, hb2⟩; clear hb2; generalize wr.heap.size + 2 = p at hD ⊢; generalize wr.heap.size + 1 = mo at hD ⊢; generalize wr.heap.size = ms at hD ⊢))
        have hS := St.new 3
        refine wp_loop_rounds 4 ?_
        iterate 4
          rw [rounds_succ]
          go_wp2_with
            (first
              | (go_at_call 53; refine (full_any _ _ (by decide) (by decide)).mono ?_; rintro e w1 ⟨v, rfl, ho, hb⟩; replace hD := hD.below hb; have hv := BytesIs.of_own (fullL_sec _).1 ho; clear ho hb)
              | (go_at_call 52; refine (hD.writeS hS _ _ (by decide) (by decide) hv).mono ?_; rintro e w1 ⟨rfl, ⟨D', hD', hS'⟩, hb⟩; replace hD := hD'; replace hS := hS'; clear hD' hS' hv hb)
              | (go_at_call 51; refine (hD.syncS hS).mono ?_; rintro e w1 ⟨rfl, ⟨D', hD', hS'⟩, hb⟩; replace hD := hD'; replace hS := hS'; clear hD' hS' hb))
        obtain ⟨B0, hB1⟩ : ∃ B0, B0 = w1.heap.size := ⟨_, rfl⟩
        have hdf := hD.lt
        rw [← hB1] at hdf
        have hsz : B0 ≤ w1.heap.size := by omega
        have hB0 : w.heap.size ≤ B0 := by have := hD.be.size; omega
        clear hB1
        have hl : w1.ownsRow B0 51 1 (.slice none 0 0) 0 (intsV []) := World.ownsRow_nil w1 B0 51 1
        refine wp_loop_rounds 4 ?_
        rw [rounds_succ]
        go_wp2_with
          (first
            | (go_at_call 53; refine (full_any _ _ (by decide) (by decide)).mono ?_; rintro e w1 ⟨v, rfl, ho, hb⟩; replace hD := hD.below hb; replace hl := own_below hl hb; replace hsz := Nat.le_trans hsz hb.size; have hv := BytesIs.of_own (fullL_sec _).1 ho; clear ho hb)
            | (go_at_call 52; refine (hD.writeS hS _ _ (by decide) (by decide) hv).mono ?_; rintro e w1 ⟨rfl, ⟨D', hD', hS'⟩, hb⟩; replace hl := own_chg hl hb (fun k e e2 => by have := (hl.lt k e).1; have := hdf k e2; omega); replace hsz := Nat.le_trans hsz hb.size; replace hD := hD'; replace hS := hS'; clear hD' hS' hv hb)
            | (refine wpList_append_own _ rfl _ _ 37 rfl B0 51 ie (.agg #[.int .i64 0]) 1 8 Try.underlying37 hi hz hsize hby rfl (by decide) _ _ _ rfl (hl.alloc _) _ 2 2 [.int .i64 2, .int .i64 2] rfl rfl (fun j u hj => cells_at (heap_alloc_new _ _) j u hj) (by simp [Value.oneCell']) (by decide) (by decide) (by simp; omega) ?_; intro v2 w2 hown hgr _; have hD2 := (hD.below (below_alloc' (Below.refl _ _) (.cells #[.int .i64 2, .int .i64 2] 51))); have hcg : Chg (fun b => B0 ≤ b) _ w2 := (Chg.refl _ _).grown hgr (fun k e _ => ((hl.alloc (.cells #[.int .i64 2, .int .i64 2] 51)).lt k e).1); replace hD := hD2.chg hcg (fun k e => Nat.le_trans hB0 e) (fun k e e2 => by have := hdf k e; omega); replace hl := hown; replace hsz : B0 ≤ w2.heap.size := Nat.le_trans hsz (by have := hcg.size; simp at this; omega); clear hown hgr hD2 hcg))
        rw [rounds_succ]
        go_wp2_with
          (first
            | (go_at_call 53; refine (full_any _ _ (by decide) (by decide)).mono ?_; rintro e w1 ⟨v, rfl, ho, hb⟩; replace hD := hD.below hb; replace hl := own_below hl hb; replace hsz := Nat.le_trans hsz hb.size; have hv := BytesIs.of_own (fullL_sec _).1 ho; clear ho hb)
            | (go_at_call 52; refine (hD.writeS hS _ _ (by decide) (by decide) hv).mono ?_; rintro e w1 ⟨rfl, ⟨D', hD', hS'⟩, hb⟩; replace hl := own_chg hl hb (fun k e e2 => by have := (hl.lt k e).1; have := hdf k e2; omega); replace hsz := Nat.le_trans hsz hb.size; replace hD := hD'; replace hS := hS'; clear hD' hS' hv hb)
            | (refine wpList_append_own _ rfl _ _ 37 rfl B0 51 ie (.agg #[.int .i64 0]) 1 8 Try.underlying37 hi hz hsize hby rfl (by decide) _ _ _ rfl (hl.alloc _) _ 2 2 [.int .i64 1, .int .i64 1] rfl rfl (fun j u hj => cells_at (heap_alloc_new _ _) j u hj) (by simp [Value.oneCell']) (by decide) (by decide) (by simp; omega) ?_; intro v2 w2 hown hgr _; have hD2 := (hD.below (below_alloc' (Below.refl _ _) (.cells #[.int .i64 1, .int .i64 1] 51))); have hcg : Chg (fun b => B0 ≤ b) _ w2 := (Chg.refl _ _).grown hgr (fun k e _ => ((hl.alloc (.cells #[.int .i64 1, .int .i64 1] 51)).lt k e).1); replace hD := hD2.chg hcg (fun k e => Nat.le_trans hB0 e) (fun k e e2 => by have := hdf k e; omega); replace hl := hown; replace hsz : B0 ≤ w2.heap.size := Nat.le_trans hsz (by have := hcg.size; simp at this; omega); clear hown hgr hD2 hcg))
        rw [rounds_succ]
        go_wp2_with
          (first
            | (go_at_call 53; refine (full_any _ _ (by decide) (by decide)).mono ?_; rintro e w1 ⟨v, rfl, ho, hb⟩; replace hD := hD.below hb; replace hl := own_below hl hb; replace hsz := Nat.le_trans hsz hb.size; have hv := BytesIs.of_own (fullL_sec _).1 ho; clear ho hb)
            | (go_at_call 52; refine (hD.writeS hS _ _ (by decide) (by decide) hv).mono ?_; rintro e w1 ⟨rfl, ⟨D', hD', hS'⟩, hb⟩; replace hl := own_chg hl hb (fun k e e2 => by have := (hl.lt k e).1; have := hdf k e2; omega); replace hsz := Nat.le_trans hsz hb.size; replace hD := hD'; replace hS := hS'; clear hD' hS' hv hb)
            | (refine wpList_append_own _ rfl _ _ 37 rfl B0 51 ie (.agg #[.int .i64 0]) 1 8 Try.underlying37 hi hz hsize hby rfl (by decide) _ _ _ rfl (hl.alloc _) _ 2 2 [.int .i64 0, .int .i64 0] rfl rfl (fun j u hj => cells_at (heap_alloc_new _ _) j u hj) (by simp [Value.oneCell']) (by decide) (by decide) (by simp; omega) ?_; intro v2 w2 hown hgr _; have hD2 := (hD.below (below_alloc' (Below.refl _ _) (.cells #[.int .i64 0, .int .i64 0] 51))); have hcg : Chg (fun b => B0 ≤ b) _ w2 := (Chg.refl _ _).grown hgr (fun k e _ => ((hl.alloc (.cells #[.int .i64 0, .int .i64 0] 51)).lt k e).1); replace hD := hD2.chg hcg (fun k e => Nat.le_trans hB0 e) (fun k e e2 => by have := hdf k e; omega); replace hl := hown; replace hsz : B0 ≤ w2.heap.size := Nat.le_trans hsz (by have := hcg.size; simp at this; omega); clear hown hgr hD2 hcg))
        rw [rounds_succ]
        go_wp2_with
          (first
            | (go_at_call 54; refine (hD.wakeS hS (IntsIs.of_own (l := [2, 2, 1, 1]) rfl hl) (fun _ k e e2 => by have := (hl.lt k e).1; have := hdf k e2; omega)).mono ?_; rintro e w1 ⟨rfl, ⟨D', hD', hS'⟩, hb⟩; replace hD := hD'; replace hS := hS'; clear hD' hS' hl hb))
        refine wp_loop_rounds 4 ?_
        rw [rounds_succ]
        go_wp2_with
          (first
            | (go_at_call 55; refine (hD.readS hS _ 0 (by decide) (by decide) (by rfl)).mono ?_; rintro e w1 ⟨va, rfl, ha, hb⟩; replace hD := hD.below hb; clear hb)
            | (go_at_call 53; refine (full_any _ _ (by decide) (by decide)).mono ?_; rintro e w1 ⟨v, rfl, ho, hb⟩; replace hD := hD.below hb; replace ha := ha.below hb; have hv := BytesIs.of_own (fullL_sec _).1 ho; clear ho hb)
            | (go_at_call 58; refine (sameBytes_eq _ _ _ _ ha hv).mono ?_; rintro e w1 ⟨rfl, hb⟩; replace hD := hD.below hb; clear hb ha hv))
        rw [rounds_succ]
        go_wp2_with
          (first
            | (go_at_call 55; refine (hD.readS hS _ 101 (by decide) (by decide) (by rfl)).mono ?_; rintro e w1 ⟨va, rfl, ha, hb⟩; replace hD := hD.below hb; clear hb)
            | (go_at_call 53; refine (full_any _ _ (by decide) (by decide)).mono ?_; rintro e w1 ⟨v, rfl, ho, hb⟩; replace hD := hD.below hb; replace ha := ha.below hb; have hv := BytesIs.of_own (fullL_sec _).1 ho; clear ho hb)
            | (go_at_call 58; refine (sameBytes_eq _ _ _ _ ha hv).mono ?_; rintro e w1 ⟨rfl, hb⟩; replace hD := hD.below hb; clear hb ha hv))
        rw [rounds_succ]
        go_wp2_with
          (first
            | (go_at_call 55; refine (hD.readS hS _ 102 (by decide) (by decide) (by rfl)).mono ?_; rintro e w1 ⟨va, rfl, ha, hb⟩; replace hD := hD.below hb; clear hb)
            | (go_at_call 53; refine (full_any _ _ (by decide) (by decide)).mono ?_; rintro e w1 ⟨v, rfl, ho, hb⟩; replace hD := hD.below hb; replace ha := ha.below hb; have hv := BytesIs.of_own (fullL_sec _).1 ho; clear ho hb)
            | (go_at_call 58; refine (sameBytes_eq _ _ _ _ ha hv).mono ?_; rintro e w1 ⟨rfl, hb⟩; replace hD := hD.below hb; clear hb ha hv))
        rw [rounds_succ]
        go_wp2
        go_roundw
        case rel => exact ⟨7, by omega, by go_num, hD.be⟩
        case measure => simp [intOf]
      · go_wp2_with
          (first
            | (go_at_call 50; refine (Dev.new_ _ hB 3 (by decide) (by decide)).mono ?_; rintro e w2 ⟨rfl, hD, hb2⟩; clear hb2; generalize wr.heap.size + 2 = p at hD ⊢; generalize wr.heap.size + 1 = mo at hD ⊢; generalize wr.heap.size = ms at hD ⊢))
        have hS := St.new 3
        refine wp_loop_rounds 4 ?_
        iterate 4
          rw [rounds_succ]
          go_wp2_with
            (first
              | (go_at_call 53; refine (full_any _ _ (by decide) (by decide)).mono ?_; rintro e w1 ⟨v, rfl, ho, hb⟩; replace hD := hD.below hb; have hv := BytesIs.of_own (fullL_sec _).1 ho; clear ho hb)
              | (go_at_call 52; refine (hD.writeS hS _ _ (by decide) (by decide) hv).mono ?_; rintro e w1 ⟨rfl, ⟨D', hD', hS'⟩, hb⟩; replace hD := hD'; replace hS := hS'; clear hD' hS' hv hb)
              | (go_at_call 51; refine (hD.syncS hS).mono ?_; rintro e w1 ⟨rfl, ⟨D', hD', hS'⟩, hb⟩; replace hD := hD'; replace hS := hS'; clear hD' hS' hb))
        obtain ⟨B0, hB1⟩ : ∃ B0, B0 = w1.heap.size := ⟨_, rfl⟩
        have hdf := hD.lt
        rw [← hB1] at hdf
        have hsz : B0 ≤ w1.heap.size := by omega
        have hB0 : w.heap.size ≤ B0 := by have := hD.be.size; omega
        clear hB1
        have hl : w1.ownsRow B0 51 1 (.slice none 0 0) 0 (intsV []) := World.ownsRow_nil w1 B0 51 1
        refine wp_loop_rounds 4 ?_
        rw [rounds_succ]
        go_wp2_with
          (first
            | (go_at_call 53; refine (full_any _ _ (by decide) (by decide)).mono ?_; rintro e w1 ⟨v, rfl, ho, hb⟩; replace hD := hD.below hb; replace hl := own_below hl hb; replace hsz := Nat.le_trans hsz hb.size; have hv := BytesIs.of_own (fullL_sec _).1 ho; clear ho hb)
            | (go_at_call 52; refine (hD.writeS hS _ _ (by decide) (by decide) hv).mono ?_; rintro e w1 ⟨rfl, ⟨D', hD', hS'⟩, hb⟩; replace hl := own_chg hl hb (fun k e e2 => by have := (hl.lt k e).1; have := hdf k e2; omega); replace hsz := Nat.le_trans hsz hb.size; replace hD := hD'; replace hS := hS'; clear hD' hS' hv hb)
            | (refine wpList_append_own _ rfl _ _ 37 rfl B0 51 ie (.agg #[.int .i64 0]) 1 8 Try.underlying37 hi hz hsize hby rfl (by decide) _ _ _ rfl (hl.alloc _) _ 2 2 [.int .i64 2, .int .i64 2] rfl rfl (fun j u hj => cells_at (heap_alloc_new _ _) j u hj) (by simp [Value.oneCell']) (by decide) (by decide) (by simp; omega) ?_; intro v2 w2 hown hgr _; have hD2 := (hD.below (below_alloc' (Below.refl _ _) (.cells #[.int .i64 2, .int .i64 2] 51))); have hcg : Chg (fun b => B0 ≤ b) _ w2 := (Chg.refl _ _).grown hgr (fun k e _ => ((hl.alloc (.cells #[.int .i64 2, .int .i64 2] 51)).lt k e).1); replace hD := hD2.chg hcg (fun k e => Nat.le_trans hB0 e) (fun k e e2 => by have := hdf k e; omega); replace hl := hown; replace hsz : B0 ≤ w2.heap.size := Nat.le_trans hsz (by have := hcg.size; simp at this; omega); clear hown hgr hD2 hcg))
        rw [rounds_succ]
        go_wp2_with
          (first
            | (go_at_call 53; refine (full_any _ _ (by decide) (by decide)).mono ?_; rintro e w1 ⟨v, rfl, ho, hb⟩; replace hD := hD.below hb; replace hl := own_below hl hb; replace hsz := Nat.le_trans hsz hb.size; have hv := BytesIs.of_own (fullL_sec _).1 ho; clear ho hb)
            | (go_at_call 52; refine (hD.writeS hS _ _ (by decide) (by decide) hv).mono ?_; rintro e w1 ⟨rfl, ⟨D', hD', hS'⟩, hb⟩; replace hl := own_chg hl hb (fun k e e2 => by have := (hl.lt k e).1; have := hdf k e2; omega); replace hsz := Nat.le_trans hsz hb.size; replace hD := hD'; replace hS := hS'; clear hD' hS' hv hb)
            | (refine wpList_append_own _ rfl _ _ 37 rfl B0 51 ie (.agg #[.int .i64 0]) 1 8 Try.underlying37 hi hz hsize hby rfl (by decide) _ _ _ rfl (hl.alloc _) _ 2 2 [.int .i64 1, .int .i64 1] rfl rfl (fun j u hj => cells_at (heap_alloc_new _ _) j u hj) (by simp [Value.oneCell']) (by decide) (by decide) (by simp; omega) ?_; intro v2 w2 hown hgr _; have hD2 := (hD.below (below_alloc' (Below.refl _ _) (.cells #[.int .i64 1, .int .i64 1] 51))); have hcg : Chg (fun b => B0 ≤ b) _ w2 := (Chg.refl _ _).grown hgr (fun k e _ => ((hl.alloc (.cells #[.int .i64 1, .int .i64 1] 51)).lt k e).1); replace hD := hD2.chg hcg (fun k e => Nat.le_trans hB0 e) (fun k e e2 => by have := hdf k e; omega); replace hl := hown; replace hsz : B0 ≤ w2.heap.size := Nat.le_trans hsz (by have := hcg.size; simp at this; omega); clear hown hgr hD2 hcg))
        rw [rounds_succ]
        go_wp2_with
          (first
            | (go_at_call 53; refine (full_any _ _ (by decide) (by decide)).mono ?_; rintro e w1 ⟨v, rfl, ho, hb⟩; replace hD := hD.below hb; replace hl := own_below hl hb; replace hsz := Nat.le_trans hsz hb.size; have hv := BytesIs.of_own (fullL_sec _).1 ho; clear ho hb)
            | (go_at_call 52; refine (hD.writeS hS _ _ (by decide) (by decide) hv).mono ?_; rintro e w1 ⟨rfl, ⟨D', hD', hS'⟩, hb⟩; replace hl := own_chg hl hb (fun k e e2 => by have := (hl.lt k e).1; have := hdf k e2; omega); replace hsz := Nat.le_trans hsz hb.size; replace hD := hD'; replace hS := hS'; clear hD' hS' hv hb)
            | (refine wpList_append_own _ rfl _ _ 37 rfl B0 51 ie (.agg #[.int .i64 0]) 1 8 Try.underlying37 hi hz hsize hby rfl (by decide) _ _ _ rfl (hl.alloc _) _ 2 2 [.int .i64 0, .int .i64 0] rfl rfl (fun j u hj => cells_at (heap_alloc_new _ _) j u hj) (by simp [Value.oneCell']) (by decide) (by decide) (by simp; omega) ?_; intro v2 w2 hown hgr _; have hD2 := (hD.below (below_alloc' (Below.refl _ _) (.cells #[.int .i64 0, .int .i64 0] 51))); have hcg : Chg (fun b => B0 ≤ b) _ w2 := (Chg.refl _ _).grown hgr (fun k e _ => ((hl.alloc (.cells #[.int .i64 0, .int .i64 0] 51)).lt k e).1); replace hD := hD2.chg hcg (fun k e => Nat.le_trans hB0 e) (fun k e e2 => by have := hdf k e; omega); replace hl := hown; replace hsz : B0 ≤ w2.heap.size := Nat.le_trans hsz (by have := hcg.size; simp at this; omega); clear hown hgr hD2 hcg))
        rw [rounds_succ]
        go_wp2_with
          (first
            | (go_at_call 54; refine (hD.wakeS hS (IntsIs.of_own (l := [2, 2, 1, 1, 0, 0]) rfl hl) (fun _ k e e2 => by have := (hl.lt k e).1; have := hdf k e2; omega)).mono ?_; rintro e w1 ⟨rfl, ⟨D', hD', hS'⟩, hb⟩; replace hD := hD'; replace hS := hS'; clear hD' hS' hl hb))
        refine wp_loop_rounds 4 ?_
        rw [rounds_succ]
        go_wp2_with
          (first
            | (go_at_call 55; refine (hD.readS hS _ 100 (by decide) (by decide) (by rfl)).mono ?_; rintro e w1 ⟨va, rfl, ha, hb⟩; replace hD := hD.below hb; clear hb)
            | (go_at_call 53; refine (full_any _ _ (by decide) (by decide)).mono ?_; rintro e w1 ⟨v, rfl, ho, hb⟩; replace hD := hD.below hb; replace ha := ha.below hb; have hv := BytesIs.of_own (fullL_sec _).1 ho; clear ho hb)
            | (go_at_call 58; refine (sameBytes_eq _ _ _ _ ha hv).mono ?_; rintro e w1 ⟨rfl, hb⟩; replace hD := hD.below hb; clear hb ha hv))
        rw [rounds_succ]
        go_wp2_with
          (first
            | (go_at_call 55; refine (hD.readS hS _ 101 (by decide) (by decide) (by rfl)).mono ?_; rintro e w1 ⟨va, rfl, ha, hb⟩; replace hD := hD.below hb; clear hb)
            | (go_at_call 53; refine (full_any _ _ (by decide) (by decide)).mono ?_; rintro e w1 ⟨v, rfl, ho, hb⟩; replace hD := hD.below hb; replace ha := ha.below hb; have hv := BytesIs.of_own (fullL_sec _).1 ho; clear ho hb)
            | (go_at_call 58; refine (sameBytes_eq _ _ _ _ ha hv).mono ?_; rintro e w1 ⟨rfl, hb⟩; replace hD := hD.below hb; clear hb ha hv))
        rw [rounds_succ]
        go_wp2_with
          (first
            | (go_at_call 55; refine (hD.readS hS _ 102 (by decide) (by decide) (by rfl)).mono ?_; rintro e w1 ⟨va, rfl, ha, hb⟩; replace hD := hD.below hb; clear hb)
            | (go_at_call 53; refine (full_any _ _ (by decide) (by decide)).mono ?_; rintro e w1 ⟨v, rfl, ho, hb⟩; replace hD := hD.below hb; replace ha := ha.below hb; have hv := BytesIs.of_own (fullL_sec _).1 ho; clear ho hb)
            | (go_at_call 58; refine (sameBytes_eq _ _ _ _ ha hv).mono ?_; rintro e w1 ⟨rfl, hb⟩; replace hD := hD.below hb; clear hb ha hv))
        rw [rounds_succ]
        go_wp2
        go_roundw
        case rel => exact ⟨8, by omega, by go_num, hD.be⟩
        case measure => simp [intOf]
    · obtain rfl : k = 8 := by omega
      go_wp2
      go_ret
      exact ⟨rfl, hB⟩
end Go.Proofs.Yteeamlidmkpohaa
