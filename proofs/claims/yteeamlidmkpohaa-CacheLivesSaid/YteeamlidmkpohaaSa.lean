/-
  A device and the reference's, side by side: what each call makes of both.
-/
import Derived.Test.YteeamlidmkpohaaKb
import Derived.Test.YteeamlidmkpohaaKc
import Derived.Test.YteeamlidmkpohaaKe
import Derived.Test.YteeamlidmkpohaaRf
set_option linter.unusedVariables false
set_option linter.unusedSimpArgs false
namespace Go.Proofs.Yteeamlidmkpohaa
open Go.RowKit Go.Sort

/-- bytes of a byte's size -/
def Bytey (l : List Int) : Prop := ∀ x ∈ l, 0 ≤ x ∧ x ≤ 255
def Dk.wcode (D : Dk) (k : Int) (l : List Int) : Int := if D.may k ≠ 0 then D.may k else if l.length ≠ 512 then 2 else errOf (D.write k l).down
def Dk.writes (D : Dk) (k : Int) (l : List Int) : Dk := if D.may k ≠ 0 then D else if l.length ≠ 512 then D else D.write k l

theorem wcode_ok {D : Dk} {k : Int} {l : List Int} (h1 : D.may k = 0) (h2 : l.length = 512) : D.wcode k l = errOf (D.write k l).down ∧ D.writes k l = D.write k l := by simp [Dk.wcode, Dk.writes, h1, h2]
theorem wcode_arg {D : Dk} {k : Int} {l : List Int} (h1 : D.may k = 0) (h2 : l.length ≠ 512) : D.wcode k l = 2 ∧ D.writes k l = D := by simp [Dk.wcode, Dk.writes, h1, h2]
theorem wcode_no {D : Dk} {k : Int} {l : List Int} (h1 : D.may k ≠ 0) : D.wcode k l = D.may k ∧ D.writes k l = D := by simp [Dk.wcode, Dk.writes, h1]

section
variable {w0 w w' : World} {p ms mo r : Nat} {lv : Value} {L : List RS} {Y : Nat → Prop} {D : Dk}

theorem Dev.writes (h : Dev w0 w p ms mo D) (k : Int) {v : Value} {l : List Int} (hv : BytesIs w v l) (hb : Bytey l) :
    Calls Try.prog 52 #[.pointer (some ⟨p, 0, none⟩), .int .i64 k, v] w fun e w' => e = .returned (.int .i64 (D.wcode k l)) ∧ Dev w0 w' p ms mo (D.writes k l) ∧ Chg (DF p ms mo) w w' := by
  by_cases h1 : D.may k = 0
  · by_cases h2 : l.length = 512
    · rw [(wcode_ok h1 h2).1, (wcode_ok h1 h2).2]
      cases hd : (D.write k l).down with
      | true => exact (h.write9 k h1 hv ⟨h2, hb⟩ hd).mono fun e w' ⟨e1, e2, e3⟩ => ⟨e1, e2, e3⟩
      | false => exact (h.write0 k h1 hv ⟨h2, hb⟩ hd).mono fun e w' ⟨e1, e2, e3⟩ => ⟨e1, e2, e3⟩
    · rw [(wcode_arg h1 h2).1, (wcode_arg h1 h2).2]
      obtain ⟨A, c, rfl, hc, hm, hA⟩ := hv
      exact (h.writeArg k h1 A l.length c h2).mono fun e w' ⟨e1, e2⟩ => ⟨e1, e2 ▸ h, e2 ▸ Chg.refl _ _⟩
  · rw [(wcode_no h1).1, (wcode_no h1).2]
    exact (h.writeNo k rfl h1 v).mono fun e w' ⟨e1, e2⟩ => ⟨e1, e2 ▸ h, e2 ▸ Chg.refl _ _⟩
theorem Ref.writes (h : Ref w0 w r lv L Y D) (k : Int) {v : Value} {l : List Int} (hv : BytesIs w v l) (hb : Bytey l) (hvm : ∀ b, v.ownBlock = some b → ¬ MF r lv b) :
    Calls Try.prog 138 #[.pointer (some ⟨r, 0, none⟩), .int .i64 k, v] w fun e w' => ∃ lv' L' Y', e = .returned (.int .i64 (D.wcode k l)) ∧ Ref w0 w' r lv' L' Y' (D.writes k l) ∧ Chg (MF r lv) w w' ∧ Fresh w (MF r lv) (MF r lv') ∧ Fresh w Y Y' := by
  by_cases h1 : D.may k = 0
  · by_cases h2 : l.length = 512
    · rw [(wcode_ok h1 h2).1, (wcode_ok h1 h2).2]
      exact h.write k h1 hv ⟨h2, hb⟩ hvm
    · rw [(wcode_arg h1 h2).1, (wcode_arg h1 h2).2]
      obtain ⟨A, c, rfl, hc, hm, hA⟩ := hv
      exact (h.writeArg k h1 A l.length c h2 (by omega)).mono fun e w' ⟨e1, e2⟩ => ⟨lv, L, Y, e1, e2 ▸ h, e2 ▸ Chg.refl _ _, Fresh.refl _ _, Fresh.refl _ _⟩
  · rw [(wcode_no h1).1, (wcode_no h1).2]
    exact (h.writeNo k rfl h1 v).mono fun e w' ⟨e1, e2⟩ => ⟨lv, L, Y, e1, e2 ▸ h, e2 ▸ Chg.refl _ _, Fresh.refl _ _, Fresh.refl _ _⟩
def Dk.scode (D : Dk) : Int := if D.down = true then 9 else errOf D.sync.down
def Dk.syncs (D : Dk) : Dk := if D.down = true then D else D.sync
theorem Dev.syncs (h : Dev w0 w p ms mo D) :
    Calls Try.prog 51 #[.pointer (some ⟨p, 0, none⟩)] w fun e w' => e = .returned (.int .i64 D.scode) ∧ Dev w0 w' p ms mo D.syncs ∧ Chg (DF p ms mo) w w' := by
  unfold Dk.scode Dk.syncs
  cases hd : D.down with
  | true => exact (h.syncNo hd).mono fun e w' ⟨e1, e2⟩ => ⟨e1, e2 ▸ h, e2 ▸ Chg.refl _ _⟩
  | false =>
    simp only [Bool.false_eq_true, if_false]
    cases hs : D.sync.down with
    | true => exact (h.sync9 hd hs).mono fun e w' ⟨e1, e2, e3⟩ => ⟨e1, e2, e3⟩
    | false => exact (h.sync0 hd hs).mono fun e w' ⟨e1, e2, e3⟩ => ⟨e1, e2, e3⟩
theorem Ref.syncs (h : Ref w0 w r lv L Y D) :
    Calls Try.prog 139 #[.pointer (some ⟨r, 0, none⟩)] w fun e w' => ∃ L', e = .returned (.int .i64 D.scode) ∧ Ref w0 w' r lv L' Y D.syncs ∧ Chg (MF r lv) w w' := by
  unfold Dk.scode Dk.syncs
  cases hd : D.down with
  | true => exact (h.syncNo hd).mono fun e w' ⟨e1, e2⟩ => ⟨L, e1, e2 ▸ h, e2 ▸ Chg.refl _ _⟩
  | false =>
    simp only [Bool.false_eq_true, if_false]
    exact h.sync hd
/-- what is read: bytes, or none -/
def Dk.rbytes (D : Dk) (k : Int) : List Int := if D.may k ≠ 0 then [] else D.latest k
theorem BytesIs.nil (w : World) : BytesIs w (.slice none 0 0) [] := ⟨none, 0, rfl, Nat.le_refl _, by simp [maxLen], fun j u h => by simp [bytesV] at h⟩
theorem Dev.reads (h : Dev w0 w p ms mo D) (k : Int) :
    Calls Try.prog 55 #[.pointer (some ⟨p, 0, none⟩), .int .i64 k] w fun e w' => ∃ v, e = .returned (.tuple #[v, .int .i64 (D.may k)]) ∧ BytesIs w' v (D.rbytes k) ∧ (∀ b, v.ownBlock = some b → w.heap.size ≤ b) ∧ Below w.heap.size w w' := by
  unfold Dk.rbytes
  by_cases h1 : D.may k = 0
  · rw [if_neg (by simpa using h1), h1]
    exact (h.read k h1).mono fun e w' ⟨v, e1, e2, e3, e4⟩ => ⟨v, e1, e2, own_fresh e3, e4⟩
  · rw [if_pos h1]
    exact (h.readNo k rfl h1).mono fun e w' ⟨e1, e2⟩ => ⟨_, e1, BytesIs.nil _, (fun b e => by cases e), e2 ▸ Below.refl _ _⟩
theorem Dev.readsO (h : Dev w0 w p ms mo D) (k : Int) :
    Calls Try.prog 55 #[.pointer (some ⟨p, 0, none⟩), .int .i64 k] w fun e w' => ∃ v, e = .returned (.tuple #[v, .int .i64 (D.may k)]) ∧ w'.ownsRow w.heap.size 5 1 v (D.rbytes k).length (bytesV (D.rbytes k)) ∧ Below w.heap.size w w' := by
  unfold Dk.rbytes
  by_cases h1 : D.may k = 0
  · rw [if_neg (by simpa using h1), h1, (Dk.latest_sec h.ok k).1]
    exact (h.read k h1).mono fun e w' ⟨v, e1, e2, e3, e4⟩ => ⟨v, e1, e3, e4⟩
  · rw [if_pos h1]
    exact (h.readNo k rfl h1).mono fun e w' ⟨e1, e2⟩ => ⟨_, e1, World.ownsRow_nil _ _ _ _, e2 ▸ Below.refl _ _⟩
theorem Ref.reads (h : Ref w0 w r lv L Y D) (k : Int) :
    Calls Try.prog 141 #[.pointer (some ⟨r, 0, none⟩), .int .i64 k] w fun e w' => ∃ v, e = .returned (.tuple #[v, .int .i64 (D.may k)]) ∧ BytesIs w' v (D.rbytes k) ∧ (∀ b, v.ownBlock = some b → w.heap.size ≤ b) ∧ Below w.heap.size w w' := by
  unfold Dk.rbytes
  by_cases h1 : D.may k = 0
  · rw [if_neg (by simpa using h1), h1]
    exact h.read k h1
  · rw [if_pos h1]
    exact (h.readNo k rfl h1).mono fun e w' ⟨e1, e2⟩ => ⟨_, e1, BytesIs.nil _, (fun b e => by cases e), e2 ▸ Below.refl _ _⟩

/-- both tell D, apart -/
structure Pair (w0 w : World) (p ms mo r : Nat) (lv : Value) (L : List RS) (Y : Nat → Prop) (D : Dk) : Prop where
  dv : Dev w0 w p ms mo D
  rf : Ref w0 w r lv L Y D
  m : ∀ b, DF p ms mo b → ¬ MF r lv b
  y : ∀ b, DF p ms mo b → ¬ Y b
theorem Pair.chg {F : Nat → Prop} (h : Pair w0 w p ms mo r lv L Y D) (hc : Chg F w w') (h0 : ∀ k, F k → w0.heap.size ≤ k) (h1 : ∀ k, DF p ms mo k → ¬ F k) (h2 : ∀ k, MF r lv k → ¬ F k) (h3 : ∀ k, Y k → ¬ F k) : Pair w0 w' p ms mo r lv L Y D :=
  ⟨h.dv.chg hc h0 h1, h.rf.chg hc h2 h3, h.m, h.y⟩
theorem Pair.below (h : Pair w0 w p ms mo r lv L Y D) (hb : Below w.heap.size w w') : Pair w0 w' p ms mo r lv L Y D := ⟨h.dv.below hb, h.rf.below hb, h.m, h.y⟩
theorem Pair.alloc (h : Pair w0 w p ms mo r lv L Y D) (ob : Obj) : Pair w0 (w.alloc ob) p ms mo r lv L Y D := h.below (below_alloc' (Below.refl _ _) ob)
theorem Pair.drew (h : Pair w0 w p ms mo r lv L Y D) : Pair w0 w.drew p ms mo r lv L Y D := ⟨h.dv.drew, h.rf.drew, h.m, h.y⟩
/-- the device is turned; the reference then -/
theorem Pair.step {w1 w2 : World} {D' : Dk} {lv' : Value} {L' : List RS} {Y' : Nat → Prop} (h : Pair w0 w p ms mo r lv L Y D) (hd : Dev w0 w1 p ms mo D') (hc : Chg (DF p ms mo) w w1) (hr : Ref w0 w2 r lv' L' Y' D') (hc2 : Chg (MF r lv) w1 w2) (hm : Fresh w1 (MF r lv) (MF r lv')) (hy : Fresh w1 Y Y') :
    Pair w0 w2 p ms mo r lv' L' Y' D' ∧ Chg (fun b => DF p ms mo b ∨ MF r lv b) w w2 ∧ Fresh w (MF r lv) (MF r lv') ∧ Fresh w Y Y' := by
  have hs := hc.size
  have hdl := hd.lt
  refine ⟨⟨hd.chg hc2 (fun k e => (h.rf.mf k e).1) h.m, hr, fun b e e2 => ?_, fun b e e2 => ?_⟩, (hc.mono (fun _ _ e => .inl e)).trans (hc2.mono (fun _ _ e => .inr e)), fun b e => (hm b e).imp id (fun e => Nat.le_trans hs e), fun b e => (hy b e).imp id (fun e => Nat.le_trans hs e)⟩
  · rcases hm b e2 with e3 | e3
    · exact h.m b e e3
    · have := hdl b e; omega
  · rcases hy b e2 with e3 | e3
    · exact h.y b e e3
    · have := hdl b e; omega
/-- the reference as the device's step leaves it -/
theorem Pair.mid {w1 : World} (h : Pair w0 w p ms mo r lv L Y D) (hc : Chg (DF p ms mo) w w1) : Ref w0 w1 r lv L Y D := h.rf.chg hc (fun k e e2 => h.m k e2 e) (fun k e e2 => h.y k e2 e)
end
end Go.Proofs.Yteeamlidmkpohaa
