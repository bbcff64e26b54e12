/-
  The device as the laws' walks use it.
-/
import Derived.Test.YteeamlidmkpohaaDf
set_option linter.unusedVariables false
set_option linter.unusedSimpArgs false
namespace Go.Proofs.Yteeamlidmkpohaa
open Go.RowKit Go.Sort

def DF (p ms mo : Nat) : Nat → Prop := fun b => b = p ∨ b = ms ∨ b = mo
/-- a disk of the law's own (w0: the world at the law's beginning) -/
structure Dev (w0 w : World) (p ms mo : Nat) (D : Dk) : Prop where
  at_ : DiskAt w p ms mo D
  g1 : w0.heap.size ≤ p
  g2 : w0.heap.size ≤ ms
  g3 : w0.heap.size ≤ mo
  be : Below w0.heap.size w0 w

section
variable {w0 w w' : World} {p ms mo : Nat} {D : Dk}
theorem Dev.ok (h : Dev w0 w p ms mo D) : D.Ok := h.at_.ok
theorem Dev.df (h : Dev w0 w p ms mo D) : ∀ k, DF p ms mo k → w0.heap.size ≤ k := fun k e => by
  have := h.g1; have := h.g2; have := h.g3
  rcases e with e | e | e <;> omega
theorem Dev.lt (h : Dev w0 w p ms mo D) : ∀ k, DF p ms mo k → k < w.heap.size := fun k e => by
  have := h.at_.lt; have := h.at_.sm.lt; have := h.at_.om.lt
  rcases e with e | e | e <;> omega
theorem Dev.below (h : Dev w0 w p ms mo D) (hb : Below w.heap.size w w') : Dev w0 w' p ms mo D := ⟨h.at_.below hb, h.g1, h.g2, h.g3, below_trans' h.be hb⟩
theorem Dev.drew (h : Dev w0 w p ms mo D) : Dev w0 w.drew p ms mo D := ⟨h.at_.drew, h.g1, h.g2, h.g3, h.be.drew⟩
/-- a step that turns it -/
theorem Dev.step {D' : Dk} (h : Dev w0 w p ms mo D) (hn : DiskAt w' p ms mo D') (hc : Chg (DF p ms mo) w w') : Dev w0 w' p ms mo D' :=
  ⟨hn, h.g1, h.g2, h.g3, h.be.trans (hc.below h.be.size (fun k _ e => h.df k e))⟩
/-- a step elsewhere -/
theorem Dev.chg {F : Nat → Prop} (h : Dev w0 w p ms mo D) (hc : Chg F w w') (hF : ∀ k, F k → w0.heap.size ≤ k) (hn : ∀ k, DF p ms mo k → ¬ F k) : Dev w0 w' p ms mo D :=
  ⟨h.at_.chg hc (hn p (.inl rfl)) (hn ms (.inr (.inl rfl))) (hn mo (.inr (.inr rfl))), h.g1, h.g2, h.g3, h.be.trans (hc.below h.be.size (fun k _ e => hF k e))⟩

theorem Dev.new_ (w : World) (hb : Below w0.heap.size w0 w) (n : Int) (h1 : 1 ≤ n) (h2 : n ≤ 262144) :
    Calls Try.prog 50 #[.int .i64 n] w fun e w' => e = .returned (.pointer (some ⟨w.heap.size + 2, 0, none⟩)) ∧ Dev w0 w' (w.heap.size + 2) w.heap.size (w.heap.size + 1) (Dk.new n) ∧ Below w.heap.size w w' := by
  refine (dnew_some w n h1 h2).mono ?_
  rintro e w' ⟨rfl, hd, hb2⟩
  have := hb.size
  exact ⟨rfl, ⟨hd, by omega, by omega, by omega, below_trans' hb hb2⟩, hb2⟩

theorem Dev.write0 (h : Dev w0 w p ms mo D) (k : Int) (hk : D.may k = 0) {v : Value} {l : List Int} (hv : BytesIs w v l) (hs : IsSec l) (hd : (D.write k l).down = false) :
    Calls Try.prog 52 #[.pointer (some ⟨p, 0, none⟩), .int .i64 k, v] w fun e w' => e = .returned (.int .i64 0) ∧ Dev w0 w' p ms mo (D.write k l) ∧ Chg (DF p ms mo) w w' := by
  refine (dwrite_ok w p ms mo D h.at_ k hk v l hv hs).mono ?_
  rintro e w' ⟨rfl, h1, hc⟩
  have hc' : Chg (DF p ms mo) w w' := hc.mono (fun k _ e => by rcases e with e | e; exact .inl e; exact .inr (.inr e))
  exact ⟨by rw [hd]; rfl, h.step h1 hc', hc'⟩
theorem Dev.write9 (h : Dev w0 w p ms mo D) (k : Int) (hk : D.may k = 0) {v : Value} {l : List Int} (hv : BytesIs w v l) (hs : IsSec l) (hd : (D.write k l).down = true) :
    Calls Try.prog 52 #[.pointer (some ⟨p, 0, none⟩), .int .i64 k, v] w fun e w' => e = .returned (.int .i64 9) ∧ Dev w0 w' p ms mo (D.write k l) ∧ Chg (DF p ms mo) w w' := by
  refine (dwrite_ok w p ms mo D h.at_ k hk v l hv hs).mono ?_
  rintro e w' ⟨rfl, h1, hc⟩
  have hc' : Chg (DF p ms mo) w w' := hc.mono (fun k _ e => by rcases e with e | e; exact .inl e; exact .inr (.inr e))
  exact ⟨by rw [hd]; rfl, h.step h1 hc', hc'⟩
theorem Dev.sync0 (h : Dev w0 w p ms mo D) (hd0 : D.down = false) (hd : D.sync.down = false) :
    Calls Try.prog 51 #[.pointer (some ⟨p, 0, none⟩)] w fun e w' => e = .returned (.int .i64 0) ∧ Dev w0 w' p ms mo D.sync ∧ Chg (DF p ms mo) w w' := by
  refine (dsync_ok w p ms mo D h.at_ hd0).mono ?_
  rintro e w' ⟨rfl, h1, hc⟩
  exact ⟨by rw [hd]; rfl, h.step h1 hc, hc⟩
theorem Dev.sync9 (h : Dev w0 w p ms mo D) (hd0 : D.down = false) (hd : D.sync.down = true) :
    Calls Try.prog 51 #[.pointer (some ⟨p, 0, none⟩)] w fun e w' => e = .returned (.int .i64 9) ∧ Dev w0 w' p ms mo D.sync ∧ Chg (DF p ms mo) w w' := by
  refine (dsync_ok w p ms mo D h.at_ hd0).mono ?_
  rintro e w' ⟨rfl, h1, hc⟩
  exact ⟨by rw [hd]; rfl, h.step h1 hc, hc⟩
theorem Dev.wake (h : Dev w0 w p ms mo D) {v : Value} {fs : List Int} (hf : IntsIs w v fs) (hne : fs ≠ [] → ∀ k, v.ownBlock = some k → ¬ DF p ms mo k) :
    Calls Try.prog 54 #[.pointer (some ⟨p, 0, none⟩), v] w fun e w' => e = .returned (.tuple #[]) ∧ Dev w0 w' p ms mo (D.wake fs) ∧ Chg (DF p ms mo) w w' := by
  refine (dwake_any w p ms mo D h.at_ v fs hf (fun hn k e => ⟨fun e2 => hne hn k e (.inl e2), fun e2 => hne hn k e (.inr (.inl e2)), fun e2 => hne hn k e (.inr (.inr e2))⟩)).mono ?_
  rintro e w' ⟨rfl, h1, hc⟩
  exact ⟨rfl, h.step h1 hc, hc⟩
theorem Dev.read (h : Dev w0 w p ms mo D) (k : Int) (hk : D.may k = 0) :
    Calls Try.prog 55 #[.pointer (some ⟨p, 0, none⟩), .int .i64 k] w fun e w' => ∃ v, e = .returned (.tuple #[v, .int .i64 0]) ∧ BytesIs w' v (D.latest k) ∧ w'.ownsRow w.heap.size 5 1 v 512 (bytesV (D.latest k)) ∧ Below w.heap.size w w' := by
  refine (dread_ok w p ms mo D h.at_ k hk).mono ?_
  rintro e w' ⟨v, rfl, ho, hb⟩
  exact ⟨v, rfl, BytesIs.of_own (Dk.latest_sec h.ok k).1 ho, ho, hb⟩
theorem Dev.arm (h : Dev w0 w p ms mo D) (n : Int) (hn : n ≤ 9223372036854775807) :
    Calls Try.prog 57 #[.pointer (some ⟨p, 0, none⟩), .int .i64 n] w fun e w' => e = .returned (.tuple #[]) ∧ Dev w0 w' p ms mo (D.arm n) ∧ Chg (DF p ms mo) w w' := by
  refine (darm_any w p ms mo D h.at_ n hn).mono ?_
  rintro e w' ⟨rfl, h1, hc⟩
  have hc' : Chg (DF p ms mo) w w' := hc.mono (fun k _ e => .inl e)
  exact ⟨rfl, h.step h1 hc', hc'⟩
end
theorem sameBytes_eq (w : World) (va vb : Value) (l : List Int) (ha : BytesIs w va l) (hb : BytesIs w vb l) :
    Calls Try.prog 58 #[va, vb] w fun e w' => e = .returned (.bool true) ∧ Below w.heap.size w w' := by
  refine (sameBytes_any w va vb l l ha hb).mono ?_
  rintro e w' ⟨rfl, h⟩
  exact ⟨ret_b (by simp), h⟩
theorem Dev.sectors {w0 w : World} {p ms mo : Nat} {D : Dk} (h : Dev w0 w p ms mo D) {n : Int} (hn : D.n = n) :
    Calls Try.prog 56 #[.pointer (some ⟨p, 0, none⟩)] w fun e w' => e = .returned (.int .i64 n) ∧ w = w' := hn ▸ dsectors_any w p ms mo D h.at_
theorem Dev.isDown {w0 w : World} {p ms mo : Nat} {D : Dk} (h : Dev w0 w p ms mo D) {d : Bool} (hn : D.down = d) :
    Calls Try.prog 59 #[.pointer (some ⟨p, 0, none⟩)] w fun e w' => e = .returned (.bool d) ∧ w = w' := hn ▸ ddown_any w p ms mo D h.at_
theorem Dev.writeNo {w0 w : World} {p ms mo : Nat} {D : Dk} (h : Dev w0 w p ms mo D) (k : Int) {c : Int} (hk : D.may k = c) (hc : c ≠ 0) (v : Value) :
    Calls Try.prog 52 #[.pointer (some ⟨p, 0, none⟩), .int .i64 k, v] w fun e w' => e = .returned (.int .i64 c) ∧ w = w' := by
  subst hk
  exact dwrite_no w p ms mo D h.at_ k hc v
theorem Dev.writeArg {w0 w : World} {p ms mo : Nat} {D : Dk} (h : Dev w0 w p ms mo D) (k : Int) (hk : D.may k = 0) (A : Option Addr) (n c : Nat) (hn : n ≠ 512) :
    Calls Try.prog 52 #[.pointer (some ⟨p, 0, none⟩), .int .i64 k, .slice A n c] w fun e w' => e = .returned (.int .i64 2) ∧ w = w' :=
  dwrite_arg w p ms mo D h.at_ k hk A n c hn
theorem Dev.readNo {w0 w : World} {p ms mo : Nat} {D : Dk} (h : Dev w0 w p ms mo D) (k : Int) {c : Int} (hk : D.may k = c) (hc : c ≠ 0) :
    Calls Try.prog 55 #[.pointer (some ⟨p, 0, none⟩), .int .i64 k] w fun e w' => e = .returned (.tuple #[.slice none 0 0, .int .i64 c]) ∧ w = w' := by
  subst hk
  exact dread_no w p ms mo D h.at_ k hc
theorem Dev.syncNo {w0 w : World} {p ms mo : Nat} {D : Dk} (h : Dev w0 w p ms mo D) (hd : D.down = true) :
    Calls Try.prog 51 #[.pointer (some ⟨p, 0, none⟩)] w fun e w' => e = .returned (.int .i64 9) ∧ w = w' := by
  have hm := may_any w p ms mo D h.at_ 0
  have hk : D.may 0 = 9 := by simp [Dk.may, hd]
  rw [hk] at hm
  go_enter Try.func51, Try.ntmps51
  go_wp2_with
    (first
      | (go_at_call 130; refine hm.mono ?_; rintro e w1 ⟨rfl, rfl⟩))
  go_ret
  exact ⟨rfl, rfl⟩
theorem own_fresh {w : World} {base : Nat} {e : TypeId} {size n : Nat} {v : Value} {xs : List Value} (h : w.ownsRow base e size v n xs) : ∀ k, v.ownBlock = some k → base ≤ k := fun k e => (h.lt k e).1
/-- a slice that is held while the disk is turned -/
theorem BytesIs.dev {w0 w w' : World} {p ms mo : Nat} {v : Value} {l : List Int} (h : BytesIs w v l) (hc : Chg (DF p ms mo) w w') (hn : ∀ k, v.ownBlock = some k → ¬ DF p ms mo k) : BytesIs w' v l := h.chg hc hn
end Go.Proofs.Yteeamlidmkpohaa
