/-
  The cache's first example: full, counts, awake.
-/
import Derived.Test.YteeamlidmkpohaaCg
set_option linter.unusedVariables false
set_option linter.unusedSimpArgs false
namespace Go.Proofs.Yteeamlidmkpohaa
open Go.RowKit Go.Sort

def fullF9 (b : Int) (i : Nat) : Int := (b + (i : Int) / 100) % 256
def fullL9 (b : Int) : List Int := fillTo (fullF9 b) 512 512
theorem fullL9_sec (b : Int) : IsSec (fullL9 b) := by
  refine ⟨fillTo_len _ _ _, fun x hx => ?_⟩
  simp only [fullL9, fillTo, List.mem_map, List.mem_range] at hx
  obtain ⟨i, hi, rfl⟩ := hx
  rw [if_pos hi, fullF9]
  omega

set_option maxRecDepth 100000 in
set_option maxHeartbeats 2000000 in
theorem full9_any (w : World) (b : Int) (h0 : 0 ≤ b) (h1 : b ≤ 255) :
    Calls Try.prog 108 #[.int .u8 b] w fun e w' => ∃ v, e = .returned v ∧ w'.ownsRow w.heap.size 5 1 v 512 (bytesV (fullL9 b)) ∧ Below w.heap.size w w' := by
  have hmk : ∀ W : World, (Instr.makeSlice 47 (.int .i64 512) (.int .i64 512)).run Try.prog W = .ok (.slice (some ⟨W.heap.size, 0, none⟩) 512 512) (W.alloc (.cells (madeCells #[.int .u8 0] 512) 5)) := fun W => Go.run_make_row' (P := Try.prog) 47 5 (.int .u8 0) 1 Try.underlying47 (by kernel_rfl) rfl .i64 .i64 512 (by omega) (by omega) W
  go_enter Try.func108, Try.ntmps108
  go_wp2
  have hrow := rowB_made w 512
  have hbe : Below w.heap.size w (w.alloc (.cells (madeCells #[Value.int .u8 0] 512) 5)) := below_alloc' (Below.refl _ _) _
  rw [← fillTo_zero (fullF9 b)] at hrow
  generalize w.alloc (.cells (madeCells #[Value.int .u8 0] 512) 5) = wa at hrow hbe ⊢
  have hg : w.heap.size ≤ w.heap.size := Nat.le_refl _
  generalize hgg : w.heap.size = g at hrow hg ⊢
  go_loopw [4] (fun x wr => ∃ k : Nat, k ≤ 512 ∧ x = .int .i64 k ∧ RowB wr g (fillTo (fullF9 b) 512 k) ∧ Below g w wr) (fun x _ => 512 - (intOf x).toNat)
  case atStart => exact ⟨0, by omega, rfl, hrow, hgg ▸ hbe⟩
  case round =>
    obtain ⟨k, hk, rfl, hr, hbw⟩ := hrel
    by_cases hlt : k < 512
    · have hc := hr.cell k (by rw [fillTo_len]; exact hlt)
      have hf := hr.free k
      go_wp2
      go_roundw
      case rel =>
        refine ⟨k + 1, by omega, by go_num, ?_, hbw.setCell (p := ⟨g, k, none⟩) hg _⟩
        have := hr.set k (fullF9 b k)
        rw [fillTo_set] at this
        exact this
      case measure => simp [intOf]; omega
    · obtain rfl : k = 512 := by omega
      go_wp2
      go_ret
      exact ⟨_, rfl, by rw [hgg]; exact hr.own (Nat.le_refl _) (fillTo_len _ _ _) (by simp [maxLen]), hgg ▸ hbw⟩

/-- which sectors are kept behind a touch -/
def kk (ks : List Int) (k most : Int) : List Int :=
  if ((ks.filter (fun x => !(x == k)) ++ [k]).length : Int) ≤ most then ks.filter (fun x => !(x == k)) ++ [k] else (ks.filter (fun x => !(x == k)) ++ [k]).tail
theorem keepL_keys (C : List CE) (e : CE) (most : Int) : (keepL C e most).map CE.k = kk (C.map CE.k) e.k most := by
  have h1 : (without C e.k).map CE.k = (C.map CE.k).filter (fun x => !(x == e.k)) := by
    unfold without
    rw [List.filter_map]
    rfl
  have h2 : (without C e.k ++ [e]).map CE.k = (C.map CE.k).filter (fun x => !(x == e.k)) ++ [e.k] := by rw [List.map_append, h1]; rfl
  have h3 : (without C e.k ++ [e]).length = ((C.map CE.k).filter (fun x => !(x == e.k)) ++ [e.k]).length := by rw [← h2, List.length_map]
  unfold keepL kk
  rw [h3]
  split
  · exact h2
  · rw [List.map_tail, h2]
theorem Ck.has_keys {K : Ck} {k : Int} : K.has k ↔ k ∈ K.C.map CE.k := by
  unfold Ck.has
  rw [List.mem_map]
/-- a cache over a disk that is up: which sectors it keeps, the eldest first; its counts -/
structure St9 (w0 w : World) (p ms mo c mk : Nat) (D : Dk) (most : Int) (ks : List Int) (hits misses now : Int) : Prop where
  ex : ∃ K Y, CD w0 w p ms mo c mk K Y D ∧ K.fit D ∧ K.most = most ∧ K.C.map CE.k = ks ∧ K.hits = hits ∧ K.misses = misses ∧ K.now = now

section
variable {w0 w w' : World} {p ms mo c mk : Nat} {D : Dk} {most hits misses now : Int} {ks : List Int}
theorem St9.be (h : St9 w0 w p ms mo c mk D most ks hits misses now) : Below w0.heap.size w0 w := by
  obtain ⟨K, Y, h1, _⟩ := h.ex
  exact h1.dv.be
theorem St9.below (h : St9 w0 w p ms mo c mk D most ks hits misses now) (hb : Below w.heap.size w w') : St9 w0 w' p ms mo c mk D most ks hits misses now := by
  obtain ⟨K, Y, h1, h2⟩ := h.ex
  exact ⟨K, Y, h1.below hb, h2⟩
theorem St9.hit (h : St9 w0 w p ms mo c mk D most ks hits misses now) (k : Int) (hm : D.may k = 0) (hk : k ∈ ks) (b1 : now < 1000) (b2 : hits < 1000) (b3 : misses < 1000) :
    Calls Try.prog 105 #[.pointer (some ⟨c, 0, none⟩), .int .i64 k] w fun e w' => ∃ v, e = .returned (.tuple #[v, .int .i64 0]) ∧ St9 w0 w' p ms mo c mk D most (kk ks k most) (hits + 1) misses (now + 1) := by
  obtain ⟨K, Y, h1, h2, rfl, rfl, rfl, rfl, rfl⟩ := h.ex
  refine (h1.reads (fun _ => h2) k (by omega) (by omega) (by omega)).mono ?_
  rintro e w' ⟨v, K', Y', rfl, ho, hy, hcd, hc, hf, hr⟩
  rw [hm]
  rcases hr with ⟨h3, _⟩ | ⟨_, u, ⟨h4, rfl⟩ | ⟨h4, _⟩⟩
  · exact absurd hm h3
  · refine ⟨v, rfl, ⟨_, Y', hcd, ?_, rfl, keepL_keys _ _ _, rfl, rfl, rfl⟩⟩
    exact Ck.fit_touch (v := u) h2 hm rfl
  · exact absurd (Ck.has_keys.2 hk) h4
theorem St9.miss (h : St9 w0 w p ms mo c mk D most ks hits misses now) (k : Int) (hm : D.may k = 0) (hk : k ∉ ks) (b1 : now < 1000) (b2 : hits < 1000) (b3 : misses < 1000) :
    Calls Try.prog 105 #[.pointer (some ⟨c, 0, none⟩), .int .i64 k] w fun e w' => ∃ v, e = .returned (.tuple #[v, .int .i64 0]) ∧ St9 w0 w' p ms mo c mk D most (kk ks k most) hits (misses + 1) (now + 1) := by
  obtain ⟨K, Y, h1, h2, rfl, rfl, rfl, rfl, rfl⟩ := h.ex
  refine (h1.reads (fun _ => h2) k (by omega) (by omega) (by omega)).mono ?_
  rintro e w' ⟨v, K', Y', rfl, ho, hy, hcd, hc, hf, hr⟩
  rw [hm]
  rcases hr with ⟨h3, _⟩ | ⟨_, u, ⟨h4, _⟩ | ⟨h4, rfl⟩⟩
  · exact absurd hm h3
  · exact absurd (Ck.has_keys.1 h4) hk
  · refine ⟨v, rfl, ⟨_, Y', hcd, ?_, rfl, keepL_keys _ _ _, rfl, rfl, rfl⟩⟩
    exact Ck.fit_touch (v := u) h2 hm rfl
theorem St9.no (h : St9 w0 w p ms mo c mk D most ks hits misses now) (k : Int) {r : Int} (hm : D.may k = r) (hr0 : r ≠ 0) (b1 : now < 1000) (b2 : hits < 1000) (b3 : misses < 1000) :
    Calls Try.prog 105 #[.pointer (some ⟨c, 0, none⟩), .int .i64 k] w fun e w' => ∃ v, e = .returned (.tuple #[v, .int .i64 r]) ∧ St9 w0 w' p ms mo c mk D most ks hits misses now := by
  subst hm
  obtain ⟨K, Y, h1, h2, rfl, rfl, rfl, rfl, rfl⟩ := h.ex
  refine (h1.reads (fun _ => h2) k (by omega) (by omega) (by omega)).mono ?_
  rintro e w' ⟨v, K', Y', rfl, ho, hy, hcd, hc, hf, hr⟩
  rcases hr with ⟨h3, rfl⟩ | ⟨h3, _⟩
  · exact ⟨v, rfl, ⟨_, Y', hcd, h2, rfl, rfl, rfl, rfl, rfl⟩⟩
  · exact absurd h3 hr0
theorem St9.drop (h : St9 w0 w p ms mo c mk D most ks hits misses now) :
    Calls Try.prog 104 #[.pointer (some ⟨c, 0, none⟩)] w fun e w' => e = .returned (.tuple #[]) ∧ St9 w0 w' p ms mo c mk D most [] hits misses now := by
  obtain ⟨K, Y, h1, h2, rfl, rfl, rfl, rfl, rfl⟩ := h.ex
  refine h1.ca.drop.mono ?_
  rintro e w' ⟨rfl, hca, hc⟩
  exact ⟨rfl, ⟨_, Y, h1.cstep hca hc (Fresh.refl _ _), (fun e he => by cases he), rfl, rfl, rfl, rfl, rfl⟩⟩
set_option maxRecDepth 100000
theorem counts9_any (h : St9 w0 w p ms mo c mk D most ks hits misses now) :
    Calls Try.prog 158 #[.pointer (some ⟨c, 0, none⟩), .int .i64 hits, .int .i64 misses] w fun e w' => e = .returned (.bool true) ∧ Below w.heap.size w w' := by
  obtain ⟨K, Y, h1, h2, rfl, rfl, rfl, rfl, rfl⟩ := h.ex
  have hc := h1.ca.counts
  clear h h1 h2
  go_enter Try.func158, Try.ntmps158
  go_wp2_with
    (first
      | (go_at_call 106; refine hc.mono ?_; rintro e w1 ⟨rfl, hb⟩))
  go_ret
  exact ⟨rfl, hb⟩
end
end Go.Proofs.Yteeamlidmkpohaa
