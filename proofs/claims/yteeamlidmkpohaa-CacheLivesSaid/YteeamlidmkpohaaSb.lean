/-
  One step of a life: of the device and of the reference.
-/
import Derived.Test.YteeamlidmkpohaaSa
import Derived.Test.YteeamlidmkpohaaDi
set_option linter.unusedVariables false
set_option linter.unusedSimpArgs false
namespace Go.Proofs.Yteeamlidmkpohaa
open Go.RowKit Go.Sort

theorem cell_blk {w : World} {b : Nat} {cs : Array Value} {t : TypeId} {fr : Nat × Nat} (h : w.heap[b]? = some (.cells cs t fr)) (i : Nat) (u : Value) (hu : cs[i]? = some u) : w.cell? ⟨b, i, none⟩ = some u := by
  simp [World.cell?, h, hu]
theorem slice_block {A : Option Addr} {n c m d : Nat} {b : Nat} (h : (Value.slice A n c).ownBlock = some b) : (Value.slice A m d).ownBlock = some b := by
  cases A with
  | none => cases h
  | some a => exact h
theorem fullL_bytey (b : Int) : Bytey (fullL b) := (fullL_sec b).2
theorem fullL_len (b : Int) : (fullL b).length = 512 := (fullL_sec b).1
theorem Bytey.take {l : List Int} (h : Bytey l) (n : Nat) : Bytey (l.take n) := fun x hx => h x (List.mem_of_mem_take hx)
theorem BytesIs.take {w : World} {A : Option Addr} {c : Nat} {l : List Int} (h : BytesIs w (.slice A l.length c) l) (n : Nat) (hn : n ≤ l.length) : BytesIs w (.slice A n c) (l.take n) := by
  obtain ⟨A', c', e, hc, hm, hA⟩ := h
  simp only [Value.slice.injEq, true_and] at e
  obtain ⟨rfl, rfl⟩ := e
  have hl : (l.take n).length = n := by simp; omega
  refine ⟨A, c, by rw [hl], by omega, hm, fun j u hu => ?_⟩
  simp only [bytesV, List.getElem?_map, Option.map_eq_some_iff] at hu
  obtain ⟨x, hx, rfl⟩ := hu
  have hj : j < n := by
    rcases Nat.lt_or_ge j n with h1 | h1
    · exact h1
    · rw [List.getElem?_eq_none (by omega)] at hx; cases hx
  rw [List.getElem?_take_of_lt hj] at hx
  exact hA j _ (by simp [bytesV, hx])
/-- what a step writes -/
def Do8.bytes (x : Do8) : List Int := if x.n.tmod 7 = 3 then (fullL x.byte).take (x.n % 512).toNat else fullL x.byte
theorem Do8.bytes_bytey (x : Do8) : Bytey x.bytes := by
  unfold Do8.bytes
  split
  · exact (fullL_bytey _).take _
  · exact fullL_bytey _
theorem Do8.bytes_len (x : Do8) : x.bytes.length ≤ 512 := by
  unfold Do8.bytes
  split
  · simp [fullL_len]; omega
  · rw [fullL_len]; omega

set_option maxRecDepth 100000
set_option maxHeartbeats 1000000 in
theorem doBytes_any (w : World) (x : Do8) (h1 : In64 x.n) (h2 : 0 ≤ x.byte ∧ x.byte ≤ 255) :
    Calls Try.prog 137 #[.agg #[.int .i64 x.op, .int .i64 x.sec, .int .i64 x.n, .int .u8 x.byte, x.fv]] w fun e w' => ∃ v, e = .returned v ∧ BytesIs w' v x.bytes ∧ (∀ b, v.ownBlock = some b → w.heap.size ≤ b) ∧ Below w.heap.size w w' := by
  obtain ⟨q1, q2⟩ := h1
  obtain ⟨b1, b2⟩ := h2
  have hfl := fullL_len x.byte
  have hcl := fullL_bytey x.byte
  have hob := heap_alloc_new w (.cells #[.int .i64 x.op, .int .i64 x.sec, .int .i64 x.n, .int .u8 x.byte, x.fv] 43)
  by_cases ht : x.n.tmod 7 = 3
  · have e : x.bytes = (fullL x.byte).take (x.n % 512).toNat := by simp [Do8.bytes, ht]
    rw [e]
    have HT := Lib.hid ht
    have ht1 : (x.n.tmod 7 == 3) = true := by simpa using ht
    have m1 : 0 ≤ x.n % 512 := by omega
    have m2 : x.n % 512 ≤ 512 := by omega
    have HOB := Lib.hid hob
    clear ht e hob
    go_enter Try.func137, Try.ntmps137
    go_wp2_with
      (first
        | (go_at_call 53; refine (full_any _ _ b1 b2).mono ?_; rintro e w1 ⟨v, rfl, ho, hb⟩; have k2 : w1.cell? ⟨w.heap.size, 2, none⟩ = some (.int .i64 x.n) := ((hb.cell (p := ⟨w.heap.size, 2, none⟩) (by simp)).trans (cell_blk HOB.out 2 _ rfl)); have hv := BytesIs.of_own hfl ho; have hfr := Lib.hid (own_fresh ho); have hvv := Lib.hid hv; obtain ⟨A, c, e9, hc1, hc2, _⟩ := hv; rw [hfl] at e9 hc1; subst e9; clear ho)
        | (go_at_call 31; refine (pick_pos _ _ _ (by omega) (by omega) q1 q2).mono ?_; rintro e w2 ⟨rfl, rfl⟩; generalize hz : x.n % 512 = z at m1 m2 ⊢; have HZ := Lib.hid hz; clear hz))
    go_ret
    refine ⟨_, rfl, ?_, fun b e => ?_, ?_⟩
    · have := BytesIs.take (l := fullL x.byte) (n := z.toNat) (by rw [hfl]; exact hvv.out) (by rw [hfl]; omega)
      rw [HZ.out]
      exact this
    · have := hfr.out b (slice_block (n := z.toNat) (c := c) e); simp at this; omega
    · exact below_alloc' (Below.refl _ _) _ |>.trans (hb.mono (by simp))
  · have e : x.bytes = fullL x.byte := by simp [Do8.bytes, ht]
    rw [e]
    have HT := Lib.hid ht
    have ht1 : (x.n.tmod 7 == 3) = false := by simpa using ht
    have HOB := Lib.hid hob
    clear ht e hob
    go_enter Try.func137, Try.ntmps137
    go_wp2_with
      (first
        | (go_at_call 53; refine (full_any _ _ b1 b2).mono ?_; rintro e w1 ⟨v, rfl, ho, hb⟩; have k2 : w1.cell? ⟨w.heap.size, 2, none⟩ = some (.int .i64 x.n) := ((hb.cell (p := ⟨w.heap.size, 2, none⟩) (by simp)).trans (cell_blk HOB.out 2 _ rfl)); have hv := Lib.hid (BytesIs.of_own hfl ho); have hfr := Lib.hid (own_fresh ho); clear ho))
    go_ret
    refine ⟨_, rfl, hv.out, fun b e => ?_, ?_⟩
    · have := hfr.out b e; simp at this; omega
    · exact below_alloc' (Below.refl _ _) _ |>.trans (hb.mono (by simp))
end Go.Proofs.Yteeamlidmkpohaa
