/-
  DevNumbers.
-/
import Derived.Test.YteeamlidmkpohaaDm
set_option linter.unusedVariables false
set_option linter.unusedSimpArgs false
set_option maxRecDepth 100000
namespace Go.Proofs.Yteeamlidmkpohaa
open Go.RowKit Go.Sort

theorem num_1 : (((((((Dk.new 1).arm 2).write 0 (fullL 1)).sync).arm 5).wake [])).latest 0 = noughts := by kernel_rfl
theorem num_2 : ((((((((((Dk.new 1).arm 2).write 0 (fullL 1)).sync).arm 5).wake []).arm 1).write 0 (fullL 1))).wake [3, 0, -1]).latest 0 = fullL 1 := by kernel_rfl

theorem Dev.newE {w0 : World} (w : World) (hb : Below w0.heap.size w0 w) (n : Int) (h1 : 1 ≤ n) (h2 : n ≤ 262144) :
    Calls Try.prog 50 #[.int .i64 n] w fun e w' => ∃ p ms mo, e = .returned (.pointer (some ⟨p, 0, none⟩)) ∧ Dev w0 w' p ms mo (Dk.new n) ∧ Below w.heap.size w w' := by
  refine (Dev.new_ w hb n h1 h2).mono ?_
  rintro e w' ⟨rfl, hd, hb2⟩
  exact ⟨_, _, _, rfl, hd, hb2⟩
theorem Dev.writeArg'
 {w0 w : World} {p ms mo : Nat} {D : Dk} (h : Dev w0 w p ms mo D) (k : Int) (hk : D.may k = 0) {v : Value} {A : Option Addr} {n c : Nat} (hv : v = .slice A n c) (hn : n ≠ 512) :
    Calls Try.prog 52 #[.pointer (some ⟨p, 0, none⟩), .int .i64 k, v] w fun e w' => e = .returned (.int .i64 2) ∧ w = w' := by
  subst hv
  exact h.writeArg k hk A n c hn

set_option maxHeartbeats 1000000 in
theorem devNumbers_row (w : World) : Calls Try.prog 8 #[] w fun e w' => e = .returned (.bool true) ∧ Below w.heap.size w w' := by
  have hB := Below.refl w.heap.size w
  have hmk : ∀ W : World, (Instr.makeSlice 47 (.int .i64 512) (.int .i64 512)).run Try.prog W = .ok (.slice (some ⟨W.heap.size, 0, none⟩) 512 512) (W.alloc (.cells (madeCells #[.int .u8 0] 512) 5)) := fun W => Go.run_make_row' (P := Try.prog) 47 5 (.int .u8 0) 1 Try.underlying47 (by kernel_rfl) rfl .i64 .i64 512 (by omega) (by omega) W
  have hmk2 : ∀ W : World, (Instr.makeSlice 47 (.int .i64 513) (.int .i64 513)).run Try.prog W = .ok (.slice (some ⟨W.heap.size, 0, none⟩) 513 513) (W.alloc (.cells (madeCells #[.int .u8 0] 513) 5)) := fun W => Go.run_make_row' (P := Try.prog) 47 5 (.int .u8 0) 1 Try.underlying47 (by kernel_rfl) rfl .i64 .i64 513 (by omega) (by omega) W
  go_enter Try.func8, Try.ntmps8
  go_wp2_with
    (first
      | (go_at_call 50; refine (dnew_none _ _ (by decide)).mono ?_; rintro e w1 ⟨rfl, rfl⟩)
      | (go_at_call 50; refine (Dev.newE _ hB _ (by decide) (by decide)).mono ?_; rintro e w1 ⟨p, ms, mo, rfl, hD, hb⟩; clear hb; replace hB := hD.be)
      | (go_at_call 56; refine (hD.sectors (n := 262144) (by rfl)).mono ?_; rintro e w1 ⟨rfl, rfl⟩)
      | (go_at_call 53; refine (full_any _ _ (by decide) (by decide)).mono ?_; rintro e w1 ⟨v, rfl, ho, hb⟩; replace hD := hD.below hb; replace hB := hD.be; have hv := BytesIs.of_own (fullL_sec _).1 ho; clear ho hb)
      | (go_at_call 52; refine (hD.writeNo _ (c := 6) (by rfl) (by decide) _).mono ?_; rintro e w1 ⟨rfl, rfl⟩)
      | (go_at_call 52; refine (hD.writeNo _ (c := 9) (by rfl) (by decide) _).mono ?_; rintro e w1 ⟨rfl, rfl⟩)
      | (go_at_call 52; refine (hD.write0 _ (by rfl) (by with_reducible assumption) (by exact fullL_sec _) (by rfl)).mono ?_; rintro e w1 ⟨rfl, hD1, hb⟩; replace hD := hD1; replace hB := hD.be; clear hD1 hb hv)
      | (go_at_call 52; refine (hD.writeArg' _ (by rfl) (by rfl) (by decide)).mono ?_; rintro e w1 ⟨rfl, rfl⟩))
  replace hD := hD.below (below_alloc' (Below.refl _ w1) (.cells (madeCells #[Value.int .u8 0] 513) 5))
  replace hB := hD.be
  clear hv
  go_wp2_with
    (first
      | (go_at_call 52; refine (hD.writeNo _ (c := 6) (by rfl) (by decide) _).mono ?_; rintro e w1 ⟨rfl, rfl⟩)
      | (go_at_call 52; refine (hD.writeNo _ (c := 9) (by rfl) (by decide) _).mono ?_; rintro e w1 ⟨rfl, rfl⟩)
      | (go_at_call 52; refine (hD.write0 _ (by rfl) (by with_reducible assumption) (by exact fullL_sec _) (by rfl)).mono ?_; rintro e w1 ⟨rfl, hD1, hb⟩; replace hD := hD1; replace hB := hD.be; clear hD1 hb hv)
      | (go_at_call 52; refine (hD.write9 _ (by rfl) (by with_reducible assumption) (by exact fullL_sec _) (by rfl)).mono ?_; rintro e w1 ⟨rfl, hD1, hb⟩; replace hD := hD1; replace hB := hD.be; clear hD1 hb hv)
      | (go_at_call 52; refine (hD.writeArg' _ (by rfl) (by rfl) (by decide)).mono ?_; rintro e w1 ⟨rfl, rfl⟩)
      | (go_at_call 50; refine (Dev.newE _ hB _ (by decide) (by decide)).mono ?_; rintro e w1 ⟨p, ms, mo, rfl, hD, hb⟩; clear hb; replace hB := hD.be)
      | (go_at_call 57; refine (hD.arm _ (by decide)).mono ?_; rintro e w1 ⟨rfl, hD1, hb⟩; replace hD := hD1; replace hB := hD.be; clear hD1 hb)
      | (go_at_call 53; refine (full_any _ _ (by decide) (by decide)).mono ?_; rintro e w1 ⟨v, rfl, ho, hb⟩; replace hD := hD.below hb; replace hB := hD.be; have hv := BytesIs.of_own (fullL_sec _).1 ho; clear ho hb)
      | (go_at_call 51; refine (hD.syncNo (by rfl)).mono ?_; rintro e w1 ⟨rfl, rfl⟩)
      | (go_at_call 51; refine (hD.sync9 (by rfl) (by rfl)).mono ?_; rintro e w1 ⟨rfl, hD1, hb⟩; replace hD := hD1; replace hB := hD.be; clear hD1 hb)
      | (go_at_call 54; refine (hD.wake (IntsIs.nil _) (fun h => absurd rfl h)).mono ?_; rintro e w1 ⟨rfl, hD1, hb⟩; replace hD := hD1; replace hB := hD.be; clear hD1 hb)
      | (go_at_call 55; refine (hD.readNo _ (c := 9) (by rfl) (by decide)).mono ?_; rintro e w1 ⟨rfl, rfl⟩)
      | (go_at_call 55; refine (hD.read _ (by rfl)).mono ?_; rintro e w1 ⟨vx, rfl, hx, hxo, hb⟩; clear hxo; rw [num_1] at hx; replace hD := hD.below hb; replace hB := hD.be; clear hb))
  have hno : BytesIs (w1.alloc (.cells (madeCells #[Value.int .u8 0] 512) 5)) (.slice (some ⟨w1.heap.size, 0, none⟩) 512 512) noughts := BytesIs.of_own (base := 0) List.length_replicate ((rowB_made w1 512).own (Nat.zero_le _) List.length_replicate (by decide))
  replace hx := hx.below (below_alloc' (Below.refl _ w1) (.cells (madeCells #[Value.int .u8 0] 512) 5))
  replace hD := hD.below (below_alloc' (Below.refl _ w1) (.cells (madeCells #[Value.int .u8 0] 512) 5))
  replace hB := hD.be
  go_wp2_with
    (first
      | (go_at_call 58; refine (sameBytes_eq _ _ _ _ hx hno).mono ?_; rintro e w1 ⟨rfl, hb⟩; replace hD := hD.below hb; replace hB := hD.be; clear hb hx hno)
      | (go_at_call 59; refine (hD.isDown (d := false) (by rfl)).mono ?_; rintro e w1 ⟨rfl, rfl⟩)
      | (go_at_call 59; refine (hD.isDown (d := true) (by rfl)).mono ?_; rintro e w1 ⟨rfl, rfl⟩)
      | (go_at_call 57; refine (hD.arm _ (by decide)).mono ?_; rintro e w1 ⟨rfl, hD1, hb⟩; replace hD := hD1; replace hB := hD.be; clear hD1 hb)
      | (go_at_call 52; refine (hD.writeNo _ (c := 6) (by rfl) (by decide) _).mono ?_; rintro e w1 ⟨rfl, rfl⟩)
      | (go_at_call 52; refine (hD.writeNo _ (c := 9) (by rfl) (by decide) _).mono ?_; rintro e w1 ⟨rfl, rfl⟩)
      | (go_at_call 52; refine (hD.writeArg' _ (by rfl) (by rfl) (by decide)).mono ?_; rintro e w1 ⟨rfl, rfl⟩)
      | (go_at_call 52; refine (hD.write9 _ (by rfl) (by with_reducible assumption) (by exact fullL_sec _) (by rfl)).mono ?_; rintro e w1 ⟨rfl, hD1, hb⟩; replace hD := hD1; replace hB := hD.be; clear hD1 hb hv)
      | (go_at_call 53; refine (full_any _ _ (by decide) (by decide)).mono ?_; rintro e w1 ⟨v, rfl, ho, hb⟩; replace hD := hD.below hb; replace hB := hD.be; have hv := BytesIs.of_own (fullL_sec _).1 ho; clear ho hb)
      | (go_at_call 51; refine (hD.syncNo (by rfl)).mono ?_; rintro e w1 ⟨rfl, rfl⟩))
  clear hv
  go_wp2_with
    (first
      | (go_at_call 54; refine ((hD.below (below_alloc' (Below.refl _ _) _)).wake (fs := [3, 0, -1]) (IntsIs.made (heap_alloc_new _ _) rfl (by decide)) (by intro _ k e h; have := hD.lt k h; simp [Value.ownBlock] at e; omega)).mono ?_; rintro e w1 ⟨rfl, hD1, hb⟩; replace hD := hD1; replace hB := hD.be; clear hD1 hb)
      | (go_at_call 55; refine (hD.read _ (by rfl)).mono ?_; rintro e w1 ⟨vx, rfl, hx, hxo, hb⟩; have hxf : ∀ k, vx.ownBlock = some k → ¬ DF p ms mo k := (fun k e e2 => by have := own_fresh hxo k e; have := hD.lt k e2; omega); clear hxo; rw [num_2] at hx; replace hD := hD.below hb; replace hB := hD.be; clear hb)
      | (go_at_call 57; refine (hD.arm _ (by decide)).mono ?_; rintro e w1 ⟨rfl, hD1, hb⟩; replace hx := hx.chg hb hxf; replace hD := hD1; replace hB := hD.be; clear hD1 hb)
      | (go_at_call 53; refine (full_any _ _ (by decide) (by decide)).mono ?_; rintro e w1 ⟨v, rfl, ho, hb⟩; replace hD := hD.below hb; replace hx := hx.below hb; replace hB := hD.be; have hv := BytesIs.of_own (fullL_sec _).1 ho; clear ho hb)
      | (go_at_call 58; refine (sameBytes_eq _ _ _ _ hx hv).mono ?_; rintro e w1 ⟨rfl, hb⟩; replace hD := hD.below hb; replace hB := hD.be; clear hb hx hv)
      | (go_at_call 51; refine (hD.sync0 (by rfl) (by rfl)).mono ?_; rintro e w1 ⟨rfl, hD1, hb⟩; replace hD := hD1; replace hB := hD.be; clear hD1 hb)
      | (go_at_call 60; refine (fates_ok _).mono ?_; rintro e w1 ⟨rfl, hb⟩; replace hB := below_trans' hB hb; clear hb)
      | (go_at_call 49; refine (awake08 _).mono ?_; rintro e w1 ⟨rfl, hb⟩; replace hB := below_trans' hB hb; clear hb))
  go_ret
  exact ⟨rfl, hB⟩
end Go.Proofs.Yteeamlidmkpohaa
