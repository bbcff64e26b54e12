/-
  The device's first example.
-/
import Derived.Test.YteeamlidmkpohaaDg
set_option linter.unusedVariables false
set_option linter.unusedSimpArgs false
namespace Go.Proofs.Yteeamlidmkpohaa
open Go.RowKit Go.Sort

theorem Dk.crash_calm {D : Dk} (h : D.armed = 0) : D.crash = D := by
  unfold Dk.crash
  rw [if_neg (by omega)]
theorem Dk.write_calm {D : Dk} (h : D.armed = 0) (k : Int) (l : List Int) : D.write k l = D.put k l := Dk.crash_calm (D := D.put k l) h
theorem Dk.sync_calm {D : Dk} (h : D.armed = 0) (hd : D.down = false) : D.sync = D.flush := by
  unfold Dk.sync
  rw [Dk.crash_calm h, if_neg (by rw [hd]; simp)]

abbrev awakeD : Dk := ((((((Dk.new 2).write 0 (fullL 1)).write 1 (fullL 1)).sync).write 0 (fullL 50)).write 1 (fullL 50))
theorem awake_0 : (((((((Dk.new 2).write 0 (fullL 1)).write 1 (fullL 1)).sync).write 0 (fullL 50)).write 1 (fullL 50)).wake [1]).latest 0 = fullL 1 := by
  rw [Dk.write_calm (by rfl), Dk.write_calm (by rfl), Dk.sync_calm (by rfl) (by rfl), Dk.write_calm (by rfl), Dk.write_calm (by rfl)]
  simp [Dk.latest, Dk.wake, Dk.kept, Dk.laid, Dk.wiped, Dk.put, Dk.flush, Dk.new]
theorem awake_1 : (((((((Dk.new 2).write 0 (fullL 1)).write 1 (fullL 1)).sync).write 0 (fullL 50)).write 1 (fullL 50)).wake [1]).latest 1 = fullL 50 := by
  rw [Dk.write_calm (by rfl), Dk.write_calm (by rfl), Dk.sync_calm (by rfl) (by rfl), Dk.write_calm (by rfl), Dk.write_calm (by rfl)]
  simp [Dk.latest, Dk.wake, Dk.kept, Dk.laid, Dk.wiped, Dk.put, Dk.flush, Dk.new]

theorem IntsIs.made {w : World} {g : Nat} {l : List Int} {t : TypeId} {cs : Array Value} (h : w.heap[g]? = some (.cells cs t (0, 0))) (hc : cs.toList = intsV l) (hl : l.length ≤ maxLen) : IntsIs w (.slice (some ⟨g, 0, none⟩) l.length l.length) l :=
  ⟨some ⟨g, 0, none⟩, l.length, rfl, Nat.le_refl _, hl, fun j u hu => ⟨_, rfl, cells_at h j u (by rw [hc]; exact hu)⟩⟩

set_option maxRecDepth 100000 in
set_option maxHeartbeats 400000 in
theorem awake08 (w : World) : Calls Try.prog 49 #[] w fun e w' => e = .returned (.bool true) ∧ Below w.heap.size w w' := by
  have hB := Below.refl w.heap.size w
  go_enter Try.func49, Try.ntmps49
  go_wp2_with
    (first
      | (go_at_call 50; refine (Dev.new_ _ hB 2 (by decide) (by decide)).mono ?_; rintro e w1 ⟨rfl, hD, _⟩)
      | (go_at_call 53; refine (full_any _ _ (by decide) (by decide)).mono ?_; rintro e w1 ⟨v, rfl, ho, hb⟩; replace hD := hD.below hb; have hv := BytesIs.of_own (fullL_sec _).1 ho; clear ho hb)
      | (go_at_call 52; refine (hD.write0 _ (by rfl) hv (fullL_sec _) (by rfl)).mono ?_; rintro e w1 ⟨rfl, hD1, _⟩; replace hD := hD1; clear hD1 hv)
      | (go_at_call 51; refine (hD.sync0 (by rfl) (by rfl)).mono ?_; rintro e w1 ⟨rfl, hD1, _⟩; replace hD := hD1; clear hD1))
  go_wp2_with
    (first
      | (go_at_call 54; refine ((hD.below (below_alloc' (Below.refl _ _) _)).wake (fs := [1]) (IntsIs.made (heap_alloc_new _ _) rfl (by decide)) (by intro _ k e h; have := hD.lt k h; simp [Value.ownBlock] at e; omega)).mono ?_; rintro e w1 ⟨rfl, hD1, _⟩; replace hD := hD1; clear hD1)
      | (go_at_call 55; refine (hD.read _ (by rfl)).mono ?_; rintro e w1 ⟨va, rfl, ha, ho, hb⟩; clear ho; replace hD := hD.below hb; rw [awake_0] at ha; clear hb)
      | (go_at_call 55; refine (hD.read _ (by rfl)).mono ?_; rintro e w1 ⟨vb, rfl, hbb, ho, hb⟩; clear ho; replace hD := hD.below hb; rw [awake_1] at hbb; replace ha := ha.below hb; clear hb))
  go_wp2_with
    (first
      | (go_at_call 53; refine (full_any _ _ (by decide) (by decide)).mono ?_; rintro e w1 ⟨v, rfl, ho, hb⟩; replace hD := hD.below hb; replace ha := ha.below hb; replace hbb := hbb.below hb; have hv := BytesIs.of_own (fullL_sec _).1 ho; clear ho hb)
      | (go_at_call 58; refine (sameBytes_eq _ _ _ _ ?_ hv).mono ?_; (first | exact ha | exact hbb); rintro e w1 ⟨rfl, hb⟩; replace hD := hD.below hb; replace ha := ha.below hb; replace hbb := hbb.below hb; clear hb hv)
      | (go_at_call 56; refine (hD.sectors (n := 2) (by rfl)).mono ?_; rintro e w1 ⟨rfl, rfl⟩)
      | (go_at_call 50; refine (dnew_none _ _ (by decide)).mono ?_; rintro e w1 ⟨rfl, rfl⟩)
      | (go_at_call 52; refine (hD.writeArg _ (by rfl) _ _ _ (by decide)).mono ?_; rintro e w1 ⟨rfl, rfl⟩))
  go_ret
  exact ⟨rfl, hD.be⟩
end Go.Proofs.Yteeamlidmkpohaa
