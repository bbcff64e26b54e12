/-
  The device: Write.
-/
import Derived.Test.YteeamlidmkpohaaDc
import Derived.Deep.RegionHeld3
set_option linter.unusedVariables false
set_option linter.unusedSimpArgs false
namespace Go.Proofs.Yteeamlidmkpohaa
open Go.RowKit Go.Sort

/-- what a step answers that was done: 9 where the disk crashed at it -/
def errOf (d : Bool) : Int := if d = true then 9 else 0
def Dk.put (D : Dk) (k : Int) (l : List Int) : Dk := { D with opn := fun x => if x = k then some l else D.opn x }
def Dk.write (D : Dk) (k : Int) (l : List Int) : Dk := (D.put k l).crash
theorem Dk.put_ok {D : Dk} (h : D.Ok) (k : Int) (l : List Int) (hl : IsSec l) : (D.put k l).Ok :=
  ⟨h.n1, h.n2, h.s, fun x m hm => by
    simp only [Dk.put] at hm
    by_cases e : x = k
    · rw [if_pos e] at hm; cases hm; exact hl
    · rw [if_neg e] at hm; exact h.o x m hm, h.a1, h.a2⟩

theorem map_update {P : Program} {t e : TypeId} (w : World) (ht : P.underlying t = some (.map 3 e)) (h3 : P.underlying 3 = some (.int .i64)) {b : Nat} {f : Int → Option Value} (hm : MapIs w b f) (k : Int) (v : Value) :
    ∃ w', (Instr.mapUpdate t (.map (some b)) (.int .i64 k) v).run P w = .ok () w' ∧ MapIs w' b (fun x => if x = k then some v else f x) ∧ Chg (fun i => i = b) w w' := by
  obtain ⟨es, clock, hr, hok⟩ := run_mapUpdate (P := P) ht h3 hm k v
  exact ⟨_, hr, MapIs.set hm.lt hok, chg_setBlock _ _ _⟩

theorem run_arrayAt {w : World} {a : Addr} {n c : Nat} (hn : 512 ≤ n) : (Instr.arrayAt 162 (.slice (some a) n c)).run Try.prog w = .ok (.pointer (some a)) w := by
  have hu : Try.prog.underlying 162 = some (.array 512 5) := Try.underlying162
  simp [Instr.arrayAt, run_underlying hu, Sem.run, Result.andThen, show ¬ n < 512 by omega]

set_option maxRecDepth 100000 in
set_option maxHeartbeats 1000000 in
theorem dwrite_ok (w : World) (p ms mo : Nat) (D : Dk) (h : DiskAt w p ms mo D) (k : Int) (hk : D.may k = 0) (v : Value) (l : List Int) (hv : BytesIs w v l) (hsec : IsSec l) :
    Calls Try.prog 52 #[.pointer (some ⟨p, 0, none⟩), .int .i64 k, v] w fun e w' => e = .returned (.int .i64 (errOf (D.write k l).down)) ∧ DiskAt w' p ms mo (D.write k l) ∧ Chg (fun b => b = p ∨ b = mo) w w' := by
  obtain ⟨A, c, rfl, hc, hm, hA⟩ := hv
  have hm := may_any w p ms mo D h k
  rw [hk] at hm
  have h512 := hsec.1
  obtain ⟨c0, c1, c2, c3, c4⟩ := h.cells
  obtain ⟨⟨b, o, sp⟩, rfl, hx⟩ := BytesIs.at_ (c := c) hA 0 (by omega)
  have hsp : sp = none := by
    cases sp with
    | none => rfl
    | some z =>
      exfalso
      simp only [Addr.add, World.cell?] at hx
      cases hb : w.heap[b]? with
      | none => simp [hb] at hx
      | some ob => cases ob <;> simp [hb] at hx
  subst hsp
  have hrg : w.rangeAt b o (bytesV l) := fun j u hu => by
    obtain ⟨ad, e, h1⟩ := hA j u hu
    cases e
    rwa [Addr.add_mid] at h1
  have harr := fun W : World => run_arrayAt (w := W) (a := ⟨b, o, none⟩) (n := 512) (c := c) (by omega)
  have hsz : (Try.prog.info? 162).map (·.size) = some (bytesV l).length := by rw [bytesV_len, hsec.1]; exact size162
  have hu162 : Try.prog.underlying 162 = some (.array 512 5) := Try.underlying162
  have hom := h.om
  rw [h512]
  obtain ⟨w2, hup, hm2, hc2⟩ := map_update w.drew Try.underlying84 Try.underlying3 hom k (.agg (bytesV l).toArray)
  have hbm : b ≠ mo := by
    intro e
    obtain ⟨es, clock, hb, _⟩ := hom
    rw [e] at hx
    simp [World.cell?, add_block, hb] at hx
  have hpm : p ≠ mo := fun e => h.apart.2 e.symm
  have d2 : w2.cell? ⟨p, 2, none⟩ = some (.map (some mo)) := (hc2.cell (p := ⟨p, 2, none⟩) h.lt hpm).trans c2
  have drg : w2.rangeAt b o (bytesV l) := fun j u hu => (hc2.cell (p := ⟨b, o + j, none⟩) (cell_lt (a := ⟨b, o + j, none⟩) (hrg j u hu)) hbm).trans (hrg j u hu)
  go_enter Try.func52, Try.ntmps52
  go_wp2_with
    (first
      | (go_at_call 130; refine hm.mono ?_; rintro e w1 ⟨rfl, rfl⟩))
  go_region_held3 (fun w' => w'.cell? ⟨p, 2, none⟩ = some (.map (some mo)) ∧ w'.rangeAt b o (bytesV l)) (first | exact ⟨c2, hrg⟩ | exact ⟨d2, drg⟩) (fail)
  have hW' : Chg (fun i => i = mo) w w2 := ((Chg.refl _ w).drew).trans hc2
  have hW : Chg (fun b => b = p ∨ b = mo) w w2 := hW'.mono (fun _ _ e => .inr e)
  have hD2 : DiskAt w2 p ms mo (D.put k l) := ⟨Dk.put_ok h.ok k l hsec, (hW'.block p h.lt hpm).trans h.blk, h.sm.chg hW' h.ne, hm2.congr (fun x => by simp only [Dk.put]; by_cases e : x = k <;> simp [e, secV, secA]), h.ne⟩
  clear c0 c1 c2 c3 c4 hx hA hrg harr hup hm2 d2 drg
  cases hd : (D.write k l).down with
  | true =>
    go_wp2_with
      (first
        | (go_at_call 131; refine (crash_any _ p ms mo (D.put k l) hD2).mono ?_; rintro e w3 ⟨rfl, hD3, hc3⟩; rw [show (D.put k l).crash.down = true from hd]))
    go_ret
    exact ⟨by rw [hd]; rfl, hD3, hW.then hc3 (fun _ _ e => .inl e)⟩
  | false =>
    go_wp2_with
      (first
        | (go_at_call 131; refine (crash_any _ p ms mo (D.put k l) hD2).mono ?_; rintro e w3 ⟨rfl, hD3, hc3⟩; rw [show (D.put k l).crash.down = false from hd]))
    go_ret
    exact ⟨by rw [hd]; rfl, hD3, hW.then hc3 (fun _ _ e => .inl e)⟩

set_option maxRecDepth 100000 in
set_option maxHeartbeats 1000000 in
theorem dwrite_no (w : World) (p ms mo : Nat) (D : Dk) (h : DiskAt w p ms mo D) (k : Int) (hk : D.may k ≠ 0) (v : Value) :
    Calls Try.prog 52 #[.pointer (some ⟨p, 0, none⟩), .int .i64 k, v] w fun e w' => e = .returned (.int .i64 (D.may k)) ∧ w = w' := by
  have hm := may_any w p ms mo D h k
  have h1 : (D.may k == 0) = false := by simpa using hk
  generalize D.may k = x at hm h1 hk ⊢
  go_enter Try.func52, Try.ntmps52
  go_wp2_with
    (first
      | (go_at_call 130; refine hm.mono ?_; rintro e w1 ⟨rfl, rfl⟩))
  go_ret
  exact ⟨rfl, rfl⟩
set_option maxRecDepth 100000 in
set_option maxHeartbeats 1000000 in
theorem dwrite_arg (w : World) (p ms mo : Nat) (D : Dk) (h : DiskAt w p ms mo D) (k : Int) (hk : D.may k = 0) (A : Option Addr) (n c : Nat) (hn : n ≠ 512) :
    Calls Try.prog 52 #[.pointer (some ⟨p, 0, none⟩), .int .i64 k, .slice A n c] w fun e w' => e = .returned (.int .i64 2) ∧ w = w' := by
  have hm := may_any w p ms mo D h k
  rw [hk] at hm
  have h1 : ((n : Int) == 512) = false := by simp; omega
  go_enter Try.func52, Try.ntmps52
  go_wp2_with
    (first
      | (go_at_call 130; refine hm.mono ?_; rintro e w1 ⟨rfl, rfl⟩))
  go_ret
  exact ⟨rfl, rfl⟩
set_option maxRecDepth 100000 in
set_option maxHeartbeats 1000000 in
theorem dread_no (w : World) (p ms mo : Nat) (D : Dk) (h : DiskAt w p ms mo D) (k : Int) (hk : D.may k ≠ 0) :
    Calls Try.prog 55 #[.pointer (some ⟨p, 0, none⟩), .int .i64 k] w fun e w' => e = .returned (.tuple #[.slice none 0 0, .int .i64 (D.may k)]) ∧ w = w' := by
  have hm := may_any w p ms mo D h k
  have h1 : (D.may k == 0) = false := by simpa using hk
  generalize D.may k = x at hm h1 hk ⊢
  go_enter Try.func55, Try.ntmps55
  go_wp2_with
    (first
      | (go_at_call 130; refine hm.mono ?_; rintro e w1 ⟨rfl, rfl⟩))
  exact bodyPost_ret (v := .tuple #[.slice none 0 0, .int .i64 x]) (by simp [results, Try.results55, go_sem]) rfl ⟨rfl, rfl⟩
end Go.Proofs.Yteeamlidmkpohaa
