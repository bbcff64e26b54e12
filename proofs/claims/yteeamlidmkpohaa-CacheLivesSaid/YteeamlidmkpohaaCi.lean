/-
  The cache's first example.
-/
import Derived.Test.YteeamlidmkpohaaCh
set_option linter.unusedVariables false
set_option linter.unusedSimpArgs false
namespace Go.Proofs.Yteeamlidmkpohaa
open Go.RowKit Go.Sort

def tabK : Nat → List Int
  | 0 => []
  | 1 => [0]
  | 2 => [0]
  | 3 => [0, 1]
  | _ => [1, 0]
def tabH : Nat → Int
  | 0 => 0
  | 1 => 0
  | 2 => 1
  | 3 => 1
  | _ => 2
def tabM : Nat → Int
  | 0 => 0
  | 1 => 1
  | 2 => 1
  | _ => 2

section
variable {w0 w w' : World} {p ms mo c mk : Nat}
theorem St9.cast {D : Dk} {most h1 h2 m1 m2 n1 n2 : Int} {k1 k2 : List Int} (h : St9 w0 w p ms mo c mk D most k1 h1 m1 n1) (ek : k1 = k2) (eh : h1 = h2) (em : m1 = m2) (en : n1 = n2) : St9 w0 w p ms mo c mk D most k2 h2 m2 n2 := by
  subst ek; subst eh; subst em; subst en; exact h
theorem aw_step (i : Nat) (hi : i < 4) (h : St9 w0 w p ms mo c mk (Dk.new 4) 2 (tabK i) (tabH i) (tabM i) i) (x : Int) (hx : x = (i : Int) % 3 / 2) :
    Calls Try.prog 105 #[.pointer (some ⟨c, 0, none⟩), .int .i64 x] w fun e w' => ∃ v, e = .returned (.tuple #[v, .int .i64 0]) ∧ St9 w0 w' p ms mo c mk (Dk.new 4) 2 (tabK (i + 1)) (tabH (i + 1)) (tabM (i + 1)) ((i + 1 : Nat) : Int) := by
  match i, hi with
  | 0, _ =>
    obtain rfl : x = 0 := by omega
    refine (h.miss 0 (by decide) (by decide) (by decide) (by decide) (by decide)).mono ?_
    rintro e w' ⟨v, rfl, h1⟩
    exact ⟨v, rfl, h1.cast (by decide) (by decide) (by decide) (by decide)⟩
  | 1, _ =>
    obtain rfl : x = 0 := by omega
    refine (h.hit 0 (by decide) (by decide) (by decide) (by decide) (by decide)).mono ?_
    rintro e w' ⟨v, rfl, h1⟩
    exact ⟨v, rfl, h1.cast (by decide) (by decide) (by decide) (by decide)⟩
  | 2, _ =>
    obtain rfl : x = 1 := by omega
    refine (h.miss 1 (by decide) (by decide) (by decide) (by decide) (by decide)).mono ?_
    rintro e w' ⟨v, rfl, h1⟩
    exact ⟨v, rfl, h1.cast (by decide) (by decide) (by decide) (by decide)⟩
  | 3, _ =>
    obtain rfl : x = 0 := by omega
    refine (h.hit 0 (by decide) (by decide) (by decide) (by decide) (by decide)).mono ?_
    rintro e w' ⟨v, rfl, h1⟩
    exact ⟨v, rfl, h1.cast (by decide) (by decide) (by decide) (by decide)⟩
theorem St9.new (w : World) (hb : Below w0.heap.size w0 w) {D : Dk} (hd : Dev w0 w p ms mo D) (n : Int) (h1 : 1 ≤ n) (h2 : n ≤ 9223372036854775807) :
    Calls Try.prog 65 #[.pointer (some ⟨p, 0, none⟩), .int .i64 n] w fun e w' => ∃ c mk, e = .returned (.pointer (some ⟨c, 0, none⟩)) ∧ St9 w0 w' p ms mo c mk D n [] 0 0 0 := by
  refine (cnew_some w hb hd n h1 h2).mono ?_
  rintro e w' ⟨rfl, hca, hb2⟩
  refine ⟨_, _, rfl, ⟨_, _, ⟨hd.below hb2, hca, fun b e e2 => ?_, fun b e e2 => e2⟩, (fun e he => by cases he), rfl, rfl, rfl, rfl, rfl⟩⟩
  have := hd.lt b e
  rcases e2 with e2 | e2 <;> omega
theorem St9.sectors {D : Dk} {most hits misses now n : Int} {ks : List Int} (h : St9 w0 w p ms mo c mk D most ks hits misses now) (hn : D.n = n) :
    Calls Try.prog 110 #[.pointer (some ⟨c, 0, none⟩)] w fun e w' => e = .returned (.int .i64 n) ∧ w = w' := by
  obtain ⟨K, Y, h1, _⟩ := h.ex
  exact hn ▸ h1.ca.sectors h1.dv

set_option maxRecDepth 100000
set_option maxHeartbeats 4000000 in
theorem awake09 (w : World) : Calls Try.prog 103 #[] w fun e w' => e = .returned (.bool true) ∧ Below w.heap.size w w' := by
  have hB := Below.refl w.heap.size w
  go_enter Try.func103, Try.ntmps103
  go_wp2_with
    (first
      | (go_at_call 50; refine (Dev.new_ _ hB 4 (by decide) (by decide)).mono ?_; rintro e w1 ⟨rfl, hD, hb⟩; have hB1 := hD.be; clear hb)
      | (go_at_call 65; refine (St9.new _ hB1 hD 2 (by decide) (by decide)).mono ?_; rintro e w2 ⟨c, mk, rfl, hS⟩))
  clear hD hB1 hB
  generalize w.heap.size + 2 = p at hS ⊢
  generalize w.heap.size + 1 = mo at hS ⊢
  generalize hms : w.heap.size = ms at hS ⊢
  have HMS := Lib.hid hms
  clear hms
  go_loopw [2] (fun t wr => ∃ k : Nat, k ≤ 4 ∧ t = .int .i64 k ∧ St9 w wr p ms mo c mk (Dk.new 4) 2 (tabK k) (tabH k) (tabM k) k) (fun t _ => 4 - (intOf t).toNat)
  case atStart => exact ⟨0, by omega, rfl, hS⟩
  case round =>
    obtain ⟨k, hk, rfl, hSr⟩ := hrel
    clear hS
    by_cases hlt : k < 4
    · have hst := fun x hx => aw_step k hlt hSr x hx
      have HST := Lib.hid hst
      clear hst hSr
      go_wp2_with
        (first
          | (go_at_call 105; refine (HST.out _ (by first | rfl | omega)).mono ?_; rintro e w3 ⟨v, rfl, h3⟩))
      go_roundw
      case rel => exact ⟨k + 1, by omega, by go_num, h3⟩
      case measure => simp [intOf]; omega
    · obtain rfl : k = 4 := by omega
      clear hlt hk
      have h0 : St9 w wr p ms mo c mk (Dk.new 4) 2 [1, 0] 2 2 4 := hSr.cast rfl rfl rfl rfl
      clear hSr
      go_wp2_with
        (first
          | (go_at_call 158; refine (counts9_any h0).mono ?_; rintro e w4 ⟨rfl, hb4⟩; have h4 := h0.below hb4; clear hb4 h0)
          | (go_at_call 105; refine (h4.miss 2 (by decide) (by decide) (by decide) (by decide) (by decide)).mono ?_; rintro e w5 ⟨v5, rfl, h5⟩; replace h5 := h5.cast (k2 := [0, 2]) (h2 := 2) (m2 := 3) (n2 := 5) (by decide) (by decide) (by decide) (by decide); clear h4)
          | (go_at_call 105; refine (h5.hit 0 (by decide) (by decide) (by decide) (by decide) (by decide)).mono ?_; rintro e w6 ⟨v6, rfl, h6⟩; replace h6 := h6.cast (k2 := [2, 0]) (h2 := 3) (m2 := 3) (n2 := 6) (by decide) (by decide) (by decide) (by decide); clear h5)
          | (go_at_call 158; refine (counts9_any h6).mono ?_; rintro e w7 ⟨rfl, hb7⟩; have h7 := h6.below hb7; clear hb7 h6)
          | (go_at_call 104; refine h7.drop.mono ?_; rintro e w8 ⟨rfl, h8⟩; clear h7)
          | (go_at_call 105; refine (h8.miss 0 (by decide) (by decide) (by decide) (by decide) (by decide)).mono ?_; rintro e w9 ⟨v9, rfl, h9⟩; replace h9 := h9.cast (k2 := [0]) (h2 := 3) (m2 := 4) (n2 := 7) (by decide) (by decide) (by decide) (by decide); clear h8)
          | (go_at_call 105; refine (h9.no (-1) (r := 6) (by decide) (by decide) (by decide) (by decide) (by decide)).mono ?_; rintro e wa ⟨va, rfl, ha⟩; clear h9)
          | (go_at_call 158; refine (counts9_any ha).mono ?_; rintro e wb ⟨rfl, hbb⟩; have hb := ha.below hbb; clear hbb ha)
          | (go_at_call 110; refine (hb.sectors (n := 4) rfl).mono ?_; rintro e wc ⟨rfl, rfl⟩)
          | (go_at_call 50; refine (Dev.new_ _ hb.be 1 (by decide) (by decide)).mono ?_; rintro e we ⟨rfl, hDe, _⟩)
          | (go_at_call 65; refine (cnew_none hDe 0 (by decide)).mono ?_; rintro e wf ⟨rfl, rfl⟩)
          | (go_at_call 65; refine (cnew_nil _ _).mono ?_; rintro e wd ⟨rfl, rfl⟩))
      go_ret
      exact ⟨rfl, hDe.be⟩
end
end Go.Proofs.Yteeamlidmkpohaa
