/-
  A blob's life: the other steps.
-/
import Derived.Test.YteeamlidmkpohaaZag
import Derived.Test.YteeamlidmkpohaaZad
import Derived.Test.YteeamlidmkpohaaZaf
set_option linter.unusedVariables false
set_option linter.unusedSimpArgs false
set_option maxRecDepth 100000
namespace Go.Proofs.Yteeamlidmkpohaa
open Go.RowKit Go.Sort

theorem rrow_len {D : Dk} (h : D.Ok) (a n : Int) : (D.rrow a n).length ≤ 524288 := by
  unfold Dk.rrow
  split
  · rename_i hc
    rw [Dk.row_len h]
    unfold Dk.rrcode at hc
    split at hc
    · cases hc
    · rename_i h1
      omega
  · simp
section
variable {w0 w w' : World} {p ms mo c mk r : Nat} {K K' : Ck} {Y Y' Z Z' : Nat → Prop} {D D2 D' : Dk} {lv lv' : Value} {L L' : List RS} {N : Int}

set_option maxHeartbeats 4000000 in
theorem step20_arm (h : Duo w0 w p ms mo c mk K Y D r lv L Z D) (hi : FitN K D N) (x : Do20) (hx : x.Ok) (hk : x.op % 6 = 4) :
    Calls Try.prog 117 #[.pointer (some ⟨c, 0, none⟩), .pointer (some ⟨p, 0, none⟩), .pointer (some ⟨r, 0, none⟩), x.val] w fun e w' => e = .returned (.bool true) ∧ DuP w0 w' p ms mo c mk r (does20 x D) (N + 262144) := by
  have hdo : does20 x D = D.arm x.n := by simp [does20, hk]
  rw [hdo]
  clear hdo
  obtain ⟨q1, q2⟩ := hx.i0
  obtain ⟨n1, n2⟩ := hx.i2
  have hob := heap_alloc_new w (.cells #[.int .i64 x.op, .int .i64 x.at_, .int .i64 x.n, .int .u8 x.byte] 144)
  have hbe : Below w.heap.size w (w.alloc (.cells #[.int .i64 x.op, .int .i64 x.at_, .int .i64 x.n, .int .u8 x.byte] 144)) := below_alloc' (Below.refl _ _) _
  have HP := Lib.hid (h.below hbe)
  have k0 := cell_blk hob 0 _ rfl
  have k2 := cell_blk hob 2 _ rfl
  have hbl : w.heap.size < (w.alloc (.cells #[.int .i64 x.op, .int .i64 x.at_, .int .i64 x.n, .int .u8 x.byte] 144)).heap.size := by simp
  have HQ : Hid (∀ b, DF p ms mo b → b < w.heap.size) := Lib.hid (fun b e => h.cd.dv.lt b e)
  have hpk := pick_pos x.op 6
  rw [hk] at hpk
  have HPK := Lib.hid hpk
  have HI := Lib.hid hi
  clear hpk hk hob hbe hi h
  unfold Do20.val
  go_enter Try.func117, Try.ntmps117
  go_wp2_with
    (first
      | (go_at_call 31; refine (HPK.out _ (by omega) (by omega) q1 q2).mono ?_; rintro e w1 ⟨rfl, rfl⟩)
      | (go_at_call 57; refine (HP.out.cd.dv.arm x.n n2).mono ?_; rintro e w2 ⟨rfl, hd2, hc2⟩
         have HP2 := Lib.hid (HP.out.cstep (HP.out.cd.dstep hd2 hc2) (hc2.mono (fun _ _ e => .inl e)) (Fresh.refl _ _))
         have m2 := (hc2.cell (p := ⟨w.heap.size, 2, none⟩) hbl (fun e => by have h9 := HQ.out _ e; simp at h9)).trans k2
         clear hd2 hc2)
      | (go_at_call 140; refine (HP2.out.rf.arm x.n n2).mono ?_; rintro e w3 ⟨rfl, hr3, hc3⟩
         have HP3 := Lib.hid (HP2.out.rstep hr3 (hc3.mono (fun _ _ e => .inl e)) (Fresh.refl _ _) (Fresh.refl _ _))
         clear hr3 hc3))
  go_ret
  exact ⟨rfl, _, _, _, _, _, HP3.out, (HI.out.arm x.n).mono (by omega)⟩

set_option maxHeartbeats 4000000 in
theorem step20_sync (h : Duo w0 w p ms mo c mk K Y D r lv L Z D) (hi : FitN K D N) (x : Do20) (hx : x.Ok) (hk : x.op % 6 = 5) :
    Calls Try.prog 117 #[.pointer (some ⟨c, 0, none⟩), .pointer (some ⟨p, 0, none⟩), .pointer (some ⟨r, 0, none⟩), x.val] w fun e w' => e = .returned (.bool true) ∧ DuP w0 w' p ms mo c mk r (does20 x D) (N + 262144) := by
  have hdo : does20 x D = D.syncs := by simp [does20, hk]
  rw [hdo]
  clear hdo
  obtain ⟨q1, q2⟩ := hx.i0
  have hob := heap_alloc_new w (.cells #[.int .i64 x.op, .int .i64 x.at_, .int .i64 x.n, .int .u8 x.byte] 144)
  have hbe : Below w.heap.size w (w.alloc (.cells #[.int .i64 x.op, .int .i64 x.at_, .int .i64 x.n, .int .u8 x.byte] 144)) := below_alloc' (Below.refl _ _) _
  have HP := Lib.hid (h.below hbe)
  have k0 := cell_blk hob 0 _ rfl
  have hpk := pick_pos x.op 6
  rw [hk] at hpk
  have HPK := Lib.hid hpk
  have HI := Lib.hid hi
  have hne : (D.scode == D.scode) = true := by simp
  clear hpk hk hob hbe hi h
  unfold Do20.val
  go_enter Try.func117, Try.ntmps117
  go_wp2_with
    (first
      | (go_at_call 31; refine (HPK.out _ (by omega) (by omega) q1 q2).mono ?_; rintro e w1 ⟨rfl, rfl⟩)
      | (go_at_call 109; refine HP.out.cd.syncs.mono ?_; rintro e w2 ⟨rfl, hd2, hc2⟩
         have HP2 := Lib.hid (HP.out.cstep hd2 (hc2.mono (fun _ _ e => .inl e)) (Fresh.refl _ _))
         clear hd2 hc2)
      | (go_at_call 139; refine HP2.out.rf.syncs.mono ?_; rintro e w3 ⟨L3, rfl, hr3, hc3⟩
         have HP3 := Lib.hid (HP2.out.rstep hr3 hc3 (Fresh.refl _ _) (Fresh.refl _ _))
         clear hr3 hc3))
  go_ret
  exact ⟨rfl, _, _, _, _, _, HP3.out, HI.out.syncs.mono (by omega)⟩

set_option maxHeartbeats 4000000 in
theorem step20_read (h : Duo w0 w p ms mo c mk K Y D r lv L Z D) (hi : FitN K D N) (x : Do20) (hx : x.Ok) (hk : x.op % 6 = 2 ∨ x.op % 6 = 3) (hN : N < 900000000) :
    Calls Try.prog 117 #[.pointer (some ⟨c, 0, none⟩), .pointer (some ⟨p, 0, none⟩), .pointer (some ⟨r, 0, none⟩), x.val] w fun e w' => e = .returned (.bool true) ∧ DuP w0 w' p ms mo c mk r (does20 x D) (N + 262144) := by
  have hdo : does20 x D = D := by
    unfold does20
    rw [if_neg (by omega), if_neg (by omega), if_neg (by omega)]
  rw [hdo]
  clear hdo
  obtain ⟨q1, q2⟩ := hx.i0
  have hob := heap_alloc_new w (.cells #[.int .i64 x.op, .int .i64 x.at_, .int .i64 x.n, .int .u8 x.byte] 144)
  have hbe : Below w.heap.size w (w.alloc (.cells #[.int .i64 x.op, .int .i64 x.at_, .int .i64 x.n, .int .u8 x.byte] 144)) := below_alloc' (Below.refl _ _) _
  have HP := Lib.hid (h.below hbe)
  have k0 := cell_blk hob 0 _ rfl
  have k1 := cell_blk hob 1 _ rfl
  have k2 := cell_blk hob 2 _ rfl
  have hbl : w.heap.size < (w.alloc (.cells #[.int .i64 x.op, .int .i64 x.at_, .int .i64 x.n, .int .u8 x.byte] 144)).heap.size := by simp
  have HQ : Hid (∀ b, (DF p ms mo b ∨ CF c mk b) → b < w.heap.size) := Lib.hid (fun b e => by
    rcases e with e | e
    · exact h.cd.dv.lt b e
    · exact (h.cd.ca.cf b e).2)
  have HR : Hid (∀ b, Rs r lv Z b → b < w.heap.size) := Lib.hid (fun b e => (h.rf.rs b e).2)
  have H0 : Hid (w0.heap.size ≤ w.heap.size) := Lib.hid h.cd.dv.be.size
  have HRL := Lib.hid (rrow_len h.cd.dv.ok x.at_ x.n)
  have HI := Lib.hid hi
  have hne : (D.rrcode x.at_ x.n == D.rrcode x.at_ x.n) = true := by simp
  rcases hk with hk | hk
  iterate 2
    · have hpk := pick_pos x.op 6
      rw [hk] at hpk
      have HPK := Lib.hid hpk
      clear hpk hk hob hbe hi h
      unfold Do20.val
      go_enter Try.func117, Try.ntmps117
      go_wp2_with
        (first
          | (go_at_call 31; refine (HPK.out _ (by omega) (by omega) q1 q2).mono ?_; rintro e w1 ⟨rfl, rfl⟩)
          | (go_at_call 115; refine (HP.out.cd.bread HI.out x.at_ x.n hN).mono ?_; rintro e w2 ⟨v2, K2, Y2, rfl, ho2, hy2, hcd2, hfi2, hc2, hf2⟩
             have HP2 := Lib.hid (HP.out.cstep hcd2 (hc2.mono (fun _ _ e => .inr e)) hf2)
             have m1 := (hc2.cell (p := ⟨w.heap.size, 1, none⟩) hbl (fun e => by have h9 := HQ.out _ (.inr e); simp at h9)).trans k1
             have m2 := (hc2.cell (p := ⟨w.heap.size, 2, none⟩) hbl (fun e => by have h9 := HQ.out _ (.inr e); simp at h9)).trans k2
             have HO2 := Lib.hid ho2
             have HY2 := Lib.hid hy2
             have HF2 := Lib.hid hf2
             have HFI2 := Lib.hid hfi2
             clear ho2 hy2 hcd2 hfi2 hc2 hf2)
          | (go_at_call 170; refine (HP2.out.rf.brow x.at_ x.n).mono ?_; rintro e w3 ⟨v3, rfl, hv3, hb3⟩
             have HP3 := Lib.hid (HP2.out.below hb3)
             have HO3 := Lib.hid (rowOwn_below HO2.out hb3)
             have HV3 := Lib.hid hv3
             clear hb3 hv3)
          | (go_at_call 58; refine (sameBytes_eq _ _ _ _ (BytesIs.of_own rfl HO3.out) HV3.out).mono ?_; rintro e w4 ⟨rfl, hb4⟩
             have HP4 := Lib.hid (HP3.out.below hb4)
             have HO4 := Lib.hid (rowOwn_below HO3.out hb4)
             clear hb4)
          | (go_at_call 80; refine (turnBytes_any _ _ _ _ _ rfl HO4.out (by have := HRL.out; omega)).mono ?_; rintro e w5 ⟨rfl, hc5⟩))
      go_ret
      refine ⟨rfl, K2, Y2, lv, L, Z, HP4.out.chg hc5 (fun b e => by have h1 := own_fresh HO2.out b e; have := H0.out; simp at h1; omega) (fun b e e2 => ?_) (fun b e e2 => by have h1 := own_fresh HO2.out b e2; have h2 := HR.out b e; simp at h1; omega), HFI2.out.mono (by omega)⟩
      have h1 := own_fresh HO2.out b e2
      simp at h1
      rcases e with e | e | e
      · have := HQ.out b (.inl e); omega
      · have := HQ.out b (.inr e); omega
      · exact HY2.out b e2 e
theorem step20_any (h : DuP w0 w p ms mo c mk r D N) (x : Do20) (hx : x.Ok) (hN : N < 900000000) :
    Calls Try.prog 117 #[.pointer (some ⟨c, 0, none⟩), .pointer (some ⟨p, 0, none⟩), .pointer (some ⟨r, 0, none⟩), x.val] w fun e w' => e = .returned (.bool true) ∧ DuP w0 w' p ms mo c mk r (does20 x D) (N + 262144) := by
  obtain ⟨K, Y, lv, L, Z, h1, h2⟩ := h
  by_cases e1 : x.op % 6 ≤ 1
  · exact step20_write h1 h2 x hx e1 hN
  · by_cases e4 : x.op % 6 = 4
    · exact step20_arm h1 h2 x hx e4
    · by_cases e5 : x.op % 6 = 5
      · exact step20_sync h1 h2 x hx e5
      · exact step20_read h1 h2 x hx (by omega) hN
end
end Go.Proofs.Yteeamlidmkpohaa


/-
  CacheLives.
-/
set_option linter.unusedVariables false
set_option linter.unusedSimpArgs false
set_option maxRecDepth 100000
namespace Go.Proofs.Yteeamlidmkpohaa
open Go.ChangeShapes Go.WideShapes Go.ChangeAt Go.RowKit Go.Deep

section
variable {H : Type} {enc : TypeId × Value → H} {w : World} {base b0 : Nat} {sp : Nat → Bool} {held : Bool} {r : Reach} {v : Value} {d : DataW H} {p : List MemPlace}
theorem cells134 : Try.prog.cellsOf 134 = 5 := by kernel_rfl
theorem trod_dos9 {fuel : Nat} {cs : List Value} {x : DataW H × List MemPlace} (h : DataW.trod enc Try.prog w base sp held fuel 130 cs = some x) : ∃ v l, cs = [v] ∧ DosIs w v l := by
  rcases open_slice Try.underlying130 h with ⟨rfl, _⟩ | ⟨a, len, cap, m, n, D, Pl, rfl, hb, hl, hm, hmm, _, hx⟩
  · exact ⟨_, [], rfl, none, 0, rfl, Nat.le_refl _, by simp [maxLen], fun i x h => by simp at h⟩
  · have hlm : len ≤ m := by rw [hmm]; split <;> omega
    obtain ⟨l, hll, hp⟩ := exists_list (fun i z => DoAt w (a.add (i * 5)) z) len (fun i hi => by
      obtain ⟨cs', h1, h2⟩ := hx i (by omega)
      rw [cells134] at h1
      obtain ⟨_, h3, h4⟩ := World.cells?_some h1
      obtain ⟨n', hf⟩ := struct_part Try.underlying134 h2
      obtain ⟨y0, hy0⟩ := hf 0 _ rfl
      obtain ⟨y1, hy1⟩ := hf 1 _ rfl
      obtain ⟨y2, hy2⟩ := hf 2 _ rfl
      obtain ⟨y3, hy3⟩ := hf 3 _ rfl
      obtain ⟨y4, hy4⟩ := hf 4 _ rfl
      obtain ⟨z0, e0, w0⟩ := part_int rfl hy0
      obtain ⟨z1, e1, w1⟩ := part_int rfl hy1
      obtain ⟨z2, e2, w2⟩ := part_int rfl hy2
      obtain ⟨z3, e3, w3⟩ := part_byte rfl hy3
      obtain ⟨fv, fs, e4, w4, w5⟩ := part_fates rfl hy4
      have k0 := h4 0 (by omega)
      rw [add_none] at k0
      exact ⟨⟨z0, z1, z2, z3, fv, fs⟩, k0.trans e0, (h4 1 (by omega)).trans e1, (h4 2 (by omega)).trans e2, (h4 3 (by omega)).trans e3, (h4 4 (by omega)).trans e4, w4, w0, w1, w2, w3, w5⟩)
    subst hll
    exact ⟨_, l, rfl, some a, cap, rfl, hl, hm, fun i x hx => ⟨a, rfl, hp i x hx⟩⟩
theorem open_argDos9 (hv : Value.okWide Try.prog w r b0 130 v) (h : DataW.Trod enc Try.prog w base sp held 130 v d p) : ∃ l, DosIs w v l := by
  obtain ⟨a, n, c, rfl⟩ := okWide_slice Try.underlying130 hv
  obtain ⟨fuel, hf⟩ := h
  obtain ⟨v1, fs, e, h1⟩ := trod_dos9 hf
  simp [Value.cells] at e
  subst e
  exact ⟨fs, h1⟩
end
end Go.Proofs.Yteeamlidmkpohaa

namespace Go.Proofs.Yteeamlidmkpohaa
open Go.RowKit Go.Sort
set_option maxRecDepth 100000
theorem cacheLives_none (w : World) (n size : Int) (v : Value) (l : List Do8) (hl : DosIs w v l) (hn : n < 1 ∨ 262144 < n) :
    Calls Try.prog 20 #[.int .i64 n, .int .i64 size, v] w fun e w' => e = .returned (.bool true) ∧ Below w.heap.size w w' := by
  obtain ⟨A, c, rfl, hlc, hcm, hA⟩ := hl
  have HD := Lib.hid (dnew_none w n hn)
  have HR := Lib.hid (rnew_none w n hn)
  have HC := Lib.hid (cnew_nil w size)
  clear hn
  by_cases h80 : 80 < l.length
  all_goals
    go_enter Try.func20, Try.ntmps20
    go_wp2_with
      (first
        | (go_at_call 50; refine HD.out.mono ?_; rintro e w1 ⟨rfl, rfl⟩)
        | (go_at_call 70; refine HR.out.mono ?_; rintro e w1 ⟨rfl, rfl⟩)
        | (go_at_call 65; refine HC.out.mono ?_; rintro e w1 ⟨rfl, rfl⟩)
        | (go_at_call 103; refine (awake09 _).mono ?_; rintro e w1 ⟨rfl, hb⟩))
    go_ret
    exact ⟨rfl, hb⟩
theorem cacheLives_size (w : World) (n size : Int) (v : Value) (l : List Do8) (hl : DosIs w v l) (h1 : 1 ≤ n) (h2 : n ≤ 262144) (hs : size < 1) :
    Calls Try.prog 20 #[.int .i64 n, .int .i64 size, v] w fun e w' => e = .returned (.bool true) ∧ Below w.heap.size w w' := by
  obtain ⟨A, c, rfl, hlc, hcm, hA⟩ := hl
  have hB := Below.refl w.heap.size w
  by_cases h80 : 80 < l.length
  all_goals
    go_enter Try.func20, Try.ntmps20
    go_wp2_with
      (first
        | (go_at_call 50; refine (Dev.new_ _ hB n h1 h2).mono ?_; rintro e w1 ⟨rfl, hD, hb1⟩; have hB1 := below_trans' hB hb1)
        | (go_at_call 70; refine (Ref.new _ _ hB1 n h1 h2).mono ?_; rintro e w2 ⟨rfl, hR, hb2⟩; have hD2 := hD.below hb2; clear hR)
        | (go_at_call 65; refine (cnew_none hD2 size hs).mono ?_; rintro e w3 ⟨rfl, rfl⟩)
        | (go_at_call 103; refine (awake09 _).mono ?_; rintro e w5 ⟨rfl, hb⟩))
    go_ret
    exact ⟨rfl, below_trans' hD2.be hb⟩
end Go.Proofs.Yteeamlidmkpohaa


/-
  CacheLives: the law.
-/
set_option linter.unusedVariables false
set_option linter.unusedSimpArgs false
set_option maxRecDepth 100000
namespace Go.Proofs.Yteeamlidmkpohaa
open Go.RowKit Go.Sort

/-- some state of the life -/
def LfAt (w0 w : World) (p ms mo c mk r x : Nat) (size N : Int) : Prop :=
  ∃ K Y D lv L Z vT T rd, Tri w0 w p ms mo c mk K Y D r lv L Z D x size rd vT T ∧ Inv9 K D T rd size N
theorem LfPost.at_ {w0 w w' : World} {p ms mo c mk r x : Nat} {D : Dk} {size N : Int} (h : LfPost w0 w p ms mo c mk r x D size N w') : ∃ K Y lv L Z vT T rd, Tri w0 w' p ms mo c mk K Y D r lv L Z D x size rd vT T ∧ Inv9 K D T rd size N := by
  obtain ⟨K, Y, lv, L, Z, vT, T, rd, h1, h2, _⟩ := h
  exact ⟨K, Y, lv, L, Z, vT, T, rd, h1, h2⟩

set_option maxHeartbeats 8000000 in
theorem cacheLives_some (w : World) (n size : Int) (v : Value) (l : List Do8) (hl : DosIs w v l) (h1 : 1 ≤ n) (h2 : n ≤ 262144) (hs : 1 ≤ size) (hs2 : size ≤ 9223372036854775807) :
    Calls Try.prog 20 #[.int .i64 n, .int .i64 size, v] w fun e w' => e = .returned (.bool true) ∧ Below w.heap.size w w' := by
  obtain ⟨A, cp, rfl, hlc, hcm, hA0⟩ := hl
  have hB := Below.refl w.heap.size w
  obtain ⟨l', hA, hlc', hl8, hmin⟩ : ∃ l', DosAt w A l' ∧ l'.length ≤ cp ∧ l'.length ≤ 80 ∧ l'.length = min l.length 80 := by
    refine ⟨l.take 80, hA0.take 80, by simp; omega, by simp; omega, by simp; omega⟩
  have hs0 : decide (size < 1) = false := by simpa using hs
  by_cases h80 : 80 < l.length
  · have hm : l'.length = 80 := by omega
    have HM := Lib.hid hm
    clear hmin hm
    go_enter Try.func20, Try.ntmps20
    go_wp2_with
      (first
        | (go_at_call 50; refine (Dev.new_ _ hB n h1 h2).mono ?_; rintro e w1 ⟨rfl, hD, hb1⟩; have hB1 := below_trans' hB hb1)
        | (go_at_call 70; refine (Ref.new _ _ hB1 n h1 h2).mono ?_; rintro e w2 ⟨rfl, hR, hb2⟩; have hD2 := hD.below hb2)
        | (go_at_call 65; refine (cnew_some _ hD2.be hD2 size hs hs2).mono ?_; rintro e w3 ⟨rfl, hca, hb3⟩))
    have hbx := heap_alloc_new w3 (.cells #[.pointer (some ⟨w2.heap.size + 1, 0, none⟩), .pointer (some ⟨w.heap.size + 2, 0, none⟩), .pointer (some ⟨w1.heap.size, 0, none⟩), .int .i64 size, .slice none 0 0, .int .i64 0] 133)
    have hP : LfAt w (w3.alloc (.cells #[.pointer (some ⟨w2.heap.size + 1, 0, none⟩), .pointer (some ⟨w.heap.size + 2, 0, none⟩), .pointer (some ⟨w1.heap.size, 0, none⟩), .int .i64 size, .slice none 0 0, .int .i64 0] 133)) (w.heap.size + 2) w.heap.size (w.heap.size + 1) (w2.heap.size + 1) w2.heap.size w1.heap.size w3.heap.size size 0 := by
      have hba := below_alloc' (Below.refl _ w3) (.cells #[.pointer (some ⟨w2.heap.size + 1, 0, none⟩), .pointer (some ⟨w.heap.size + 2, 0, none⟩), .pointer (some ⟨w1.heap.size, 0, none⟩), .int .i64 size, .slice none 0 0, .int .i64 0] 133)
      have g1 := hb1.size
      have g2 := hb2.size
      have g3 := hb3.size
      have q1 := hD.lt
      have q2 := hR.lt
      have q3 := hca.lt
      have q4 := hca.mp.lt
      refine ⟨_, _, _, _, _, _, .slice none 0 0, [], 0, ⟨⟨(hD2.below hb3).below hba, hca.below hba, fun b e e2 => ?_, fun b e e2 => e2⟩, (hR.below hb3).below hba, ⟨hbx, World.ownsRow_nil _ _ _ _, by omega, by simp; omega⟩, fun b e e2 => ?_, fun b e e2 => ?_, fun b e e2 => ?_⟩, ⟨fun _ => ⟨(fun e he => by cases he), by simp [lastN]⟩, rfl, .nil, rfl, Int.le_refl _, Int.le_refl _, Int.le_refl _⟩⟩
      · have := q1 b e
        rcases e2 with e2 | e2 <;> omega
      · rcases e2 with (e2 | e2) | e2
        · rcases e with e | e | e
          · have := q1 b e; omega
          · rcases e with e | e <;> omega
          · exact e
        · cases e2
        · exact e2
      · rcases e2 with e2 | e2
        · rcases e with e | e | e
          · have := q1 b e; omega
          · rcases e with e | e <;> omega
          · exact e
        · cases e2
      · rcases e2 with e2 | e2
        · rcases e with (e | e) | e
          · omega
          · cases e
          · exact e
        · cases e2
    clear hbx hD hR hD2 hb1 hb2 hb3 hca hB1 hB
    generalize w3.alloc (.cells #[.pointer (some ⟨w2.heap.size + 1, 0, none⟩), .pointer (some ⟨w.heap.size + 2, 0, none⟩), .pointer (some ⟨w1.heap.size, 0, none⟩), .int .i64 size, .slice none 0 0, .int .i64 0] 133) = w4 at hP ⊢
    generalize w.heap.size + 2 = p at hP ⊢
    generalize w.heap.size + 1 = mo at hP ⊢
    generalize hms : w.heap.size = ms at hP ⊢
    generalize w1.heap.size = r at hP ⊢
    generalize w2.heap.size + 1 = c at hP ⊢
    generalize w2.heap.size = mk at hP ⊢
    generalize w3.heap.size = x at hP ⊢
    have HMS := Lib.hid hms
    clear hms
    go_loopw [11] (fun t wr => ∃ k : Nat, k ≤ 80 ∧ t = .int .i64 k ∧ LfAt w wr p ms mo c mk r x size k) (fun t _ => 80 - (intOf t).toNat)
    case atStart => exact ⟨0, by omega, rfl, hP⟩
    case round =>
      obtain ⟨k, hk, rfl, K, Y, D, lv, L, Z, vT, T, rd, hT, hI⟩ := hrel
      clear hP
      have hbr := hT.cd.dv.be
      by_cases hlt : k < 80
      · obtain ⟨ad, y, rfl, hy, hdo0⟩ := hA.at_ k (by have := HM.out; omega)
        have hdo := hdo0.below hbr
        have c0 := hdo.c0
        have c1 := hdo.c1
        have c2 := hdo.c2
        have c3 := hdo.c3
        have c4 := hdo.c4
        have HOK := Lib.hid (fun hl => DoAt.okk hdo0 hdo hl)
        obtain ⟨Af, cf, hfv, hf1, hf2, _⟩ := hdo.ints
        have hfl : y.fs.length ≤ 9223372036854775807 := by simp only [maxLen] at hf2; omega
        have hval : y.val = .agg #[.int .i64 y.op, .int .i64 y.sec, .int .i64 y.n, .int .u8 y.byte, .slice Af y.fs.length cf] := by unfold Do8.val; rw [hfv]
        rw [hfv] at c4
        have HX := Lib.hid hy
        have HBR := Lib.hid hbr
        have HV := Lib.hid hval
        clear hy hdo hdo0 hbr hfv hval hf1 hf2
        by_cases hbig : 1000 < y.fs.length
        · go_wp2_with
            (first
              | (go_at_call 103; refine (awake09 _).mono ?_; rintro e w5 ⟨rfl, hb5⟩))
          go_ret
          exact ⟨rfl, below_trans' HBR.out hb5⟩
        · have hst := hT.lstep9 hI y (HOK.out (by omega)) (by omega) (by omega)
          rw [HV.out] at hst
          have HST := Lib.hid hst
          clear hst
          go_wp2_with
            (first
              | (go_at_call 111; refine HST.out.mono ?_; rintro e w5 ⟨rfl, hsp⟩; obtain ⟨K5, Y5, lv5, L5, Z5, vT5, T5, rd5, hT5, hI5⟩ := hsp.at_; have hneq : ((does9 y D).n != (does9 y D).n) = false := (by simp))
              | (go_at_call 110; refine (hT5.cd.ca.sectors hT5.cd.dv).mono ?_; rintro e w6 ⟨rfl, rfl⟩)
              | (go_at_call 112; refine hT5.rf.sectors.mono ?_; rintro e w6 ⟨rfl, rfl⟩))
          go_roundw
          case rel => exact ⟨k + 1, by omega, by go_num, _, _, _, _, _, _, _, _, _, hT5, hI5⟩
          case measure => simp [intOf]; omega
      · have hk80 : (k : Int) = (80 : Int) := by omega
        rw [hk80] at hI ⊢
        have hP : LfAt w wr p ms mo c mk r x size (80 : Int) := ⟨_, _, _, _, _, _, _, _, _, hT, hI⟩
        have HP := Lib.hid hP
        clear hP hT hI hbr
        go_wp2_with fail
        go_loopw [12] (fun t wq => ∃ k : Nat, k ≤ 80 ∧ t = .int .i64 k ∧ LfAt w wq p ms mo c mk r x size ((80 : Int) + k)) (fun t _ => 80 - (intOf t).toNat)
        case atStart => exact ⟨0, by omega, rfl, by have := HP.out; simpa using this⟩
        case round =>
          obtain ⟨k, hk, rfl, K, Y, D, lv, L, Z, vT, T, rd, hT, hI⟩ := hrel
          have hbr := hT.cd.dv.be
          have hih := hT.cd.ca.h0
          have him := hT.cd.ca.s0
          have hi2 := hI.b2
          have hrd : (K.hits + K.misses == rd) = true := by rw [hI.rd]; simp
          obtain ⟨e0, e1, e2, e3, e4, e5⟩ := hT.lb.cells
          have HBR := Lib.hid hbr
          cases hdn : D.down with
          | true =>
            have HIS := Lib.hid (hT.cd.dv.isDown hdn)
            by_cases hlt : k < 80
            all_goals
              go_wp2_with
                (first
                  | (go_at_call 59; refine HIS.out.mono ?_; rintro e w6 ⟨rfl, rfl⟩)
                  | (go_at_call 106; refine hT.cd.ca.counts.mono ?_; rintro e w7 ⟨rfl, hb7⟩; have g5 := (hb7.cell (p := ⟨x, 5, none⟩) (cell_lt e5)).trans e5)
                  | (go_at_call 103; refine (awake09 _).mono ?_; rintro e w8 ⟨rfl, hb8⟩))
              go_ret
              exact ⟨rfl, below_trans' (below_trans' HBR.out hb7) hb8⟩
          | false =>
            have HIS := Lib.hid (hT.cd.dv.isDown hdn)
            by_cases hlt : k < 80
            · obtain ⟨ad, y, rfl, hy, hdo0⟩ := hA.at_ k (by have := HM.out; omega)
              have c1 := (hdo0.below hbr).c1
              have HST := Lib.hid (hT.lread hI y.sec (by omega))
              clear hy hdo0 hbr
              go_wp2_with
                (first
                  | (go_at_call 59; refine HIS.out.mono ?_; rintro e w6 ⟨rfl, rfl⟩)
                  | (go_at_call 113; refine HST.out.mono ?_; rintro e w5 ⟨rfl, hsp⟩; obtain ⟨K5, Y5, lv5, L5, Z5, vT5, T5, rd5, hT5, hI5⟩ := hsp.at_))
              go_roundw
              case rel => exact ⟨k + 1, by omega, by go_num, _, _, _, _, _, _, _, _, _, hT5, hI5.mono (by omega)⟩
              case measure => simp [intOf]; omega
            · go_wp2_with
                (first
                  | (go_at_call 59; refine HIS.out.mono ?_; rintro e w6 ⟨rfl, rfl⟩)
                  | (go_at_call 106; refine hT.cd.ca.counts.mono ?_; rintro e w7 ⟨rfl, hb7⟩; have g5 := (hb7.cell (p := ⟨x, 5, none⟩) (cell_lt e5)).trans e5)
                  | (go_at_call 103; refine (awake09 _).mono ?_; rintro e w8 ⟨rfl, hb8⟩))
              go_ret
              exact ⟨rfl, below_trans' (below_trans' HBR.out hb7) hb8⟩
  · have hm : l'.length = l.length := by omega
    have hl80 : l.length ≤ 80 := by omega
    have HM := Lib.hid hm
    clear hmin hm
    go_enter Try.func20, Try.ntmps20
    go_wp2_with
      (first
        | (go_at_call 50; refine (Dev.new_ _ hB n h1 h2).mono ?_; rintro e w1 ⟨rfl, hD, hb1⟩; have hB1 := below_trans' hB hb1)
        | (go_at_call 70; refine (Ref.new _ _ hB1 n h1 h2).mono ?_; rintro e w2 ⟨rfl, hR, hb2⟩; have hD2 := hD.below hb2)
        | (go_at_call 65; refine (cnew_some _ hD2.be hD2 size hs hs2).mono ?_; rintro e w3 ⟨rfl, hca, hb3⟩))
    have hbx := heap_alloc_new w3 (.cells #[.pointer (some ⟨w2.heap.size + 1, 0, none⟩), .pointer (some ⟨w.heap.size + 2, 0, none⟩), .pointer (some ⟨w1.heap.size, 0, none⟩), .int .i64 size, .slice none 0 0, .int .i64 0] 133)
    have hP : LfAt w (w3.alloc (.cells #[.pointer (some ⟨w2.heap.size + 1, 0, none⟩), .pointer (some ⟨w.heap.size + 2, 0, none⟩), .pointer (some ⟨w1.heap.size, 0, none⟩), .int .i64 size, .slice none 0 0, .int .i64 0] 133)) (w.heap.size + 2) w.heap.size (w.heap.size + 1) (w2.heap.size + 1) w2.heap.size w1.heap.size w3.heap.size size 0 := by
      have hba := below_alloc' (Below.refl _ w3) (.cells #[.pointer (some ⟨w2.heap.size + 1, 0, none⟩), .pointer (some ⟨w.heap.size + 2, 0, none⟩), .pointer (some ⟨w1.heap.size, 0, none⟩), .int .i64 size, .slice none 0 0, .int .i64 0] 133)
      have g1 := hb1.size
      have g2 := hb2.size
      have g3 := hb3.size
      have q1 := hD.lt
      have q2 := hR.lt
      have q3 := hca.lt
      have q4 := hca.mp.lt
      refine ⟨_, _, _, _, _, _, .slice none 0 0, [], 0, ⟨⟨(hD2.below hb3).below hba, hca.below hba, fun b e e2 => ?_, fun b e e2 => e2⟩, (hR.below hb3).below hba, ⟨hbx, World.ownsRow_nil _ _ _ _, by omega, by simp; omega⟩, fun b e e2 => ?_, fun b e e2 => ?_, fun b e e2 => ?_⟩, ⟨fun _ => ⟨(fun e he => by cases he), by simp [lastN]⟩, rfl, .nil, rfl, Int.le_refl _, Int.le_refl _, Int.le_refl _⟩⟩
      · have := q1 b e
        rcases e2 with e2 | e2 <;> omega
      · rcases e2 with (e2 | e2) | e2
        · rcases e with e | e | e
          · have := q1 b e; omega
          · rcases e with e | e <;> omega
          · exact e
        · cases e2
        · exact e2
      · rcases e2 with e2 | e2
        · rcases e with e | e | e
          · have := q1 b e; omega
          · rcases e with e | e <;> omega
          · exact e
        · cases e2
      · rcases e2 with e2 | e2
        · rcases e with (e | e) | e
          · omega
          · cases e
          · exact e
        · cases e2
    clear hbx hD hR hD2 hb1 hb2 hb3 hca hB1 hB
    generalize w3.alloc (.cells #[.pointer (some ⟨w2.heap.size + 1, 0, none⟩), .pointer (some ⟨w.heap.size + 2, 0, none⟩), .pointer (some ⟨w1.heap.size, 0, none⟩), .int .i64 size, .slice none 0 0, .int .i64 0] 133) = w4 at hP ⊢
    generalize w.heap.size + 2 = p at hP ⊢
    generalize w.heap.size + 1 = mo at hP ⊢
    generalize hms : w.heap.size = ms at hP ⊢
    generalize w1.heap.size = r at hP ⊢
    generalize w2.heap.size + 1 = c at hP ⊢
    generalize w2.heap.size = mk at hP ⊢
    generalize w3.heap.size = x at hP ⊢
    have HMS := Lib.hid hms
    clear hms
    go_loopw [11] (fun t wr => ∃ k : Nat, k ≤ l.length ∧ t = .int .i64 k ∧ LfAt w wr p ms mo c mk r x size k) (fun t _ => l.length - (intOf t).toNat)
    case atStart => exact ⟨0, by omega, rfl, hP⟩
    case round =>
      obtain ⟨k, hk, rfl, K, Y, D, lv, L, Z, vT, T, rd, hT, hI⟩ := hrel
      clear hP
      have hbr := hT.cd.dv.be
      by_cases hlt : k < l.length
      · obtain ⟨ad, y, rfl, hy, hdo0⟩ := hA.at_ k (by have := HM.out; omega)
        have hdo := hdo0.below hbr
        have c0 := hdo.c0
        have c1 := hdo.c1
        have c2 := hdo.c2
        have c3 := hdo.c3
        have c4 := hdo.c4
        have HOK := Lib.hid (fun hl => DoAt.okk hdo0 hdo hl)
        obtain ⟨Af, cf, hfv, hf1, hf2, _⟩ := hdo.ints
        have hfl : y.fs.length ≤ 9223372036854775807 := by simp only [maxLen] at hf2; omega
        have hval : y.val = .agg #[.int .i64 y.op, .int .i64 y.sec, .int .i64 y.n, .int .u8 y.byte, .slice Af y.fs.length cf] := by unfold Do8.val; rw [hfv]
        rw [hfv] at c4
        have HX := Lib.hid hy
        have HBR := Lib.hid hbr
        have HV := Lib.hid hval
        clear hy hdo hdo0 hbr hfv hval hf1 hf2
        by_cases hbig : 1000 < y.fs.length
        · go_wp2_with
            (first
              | (go_at_call 103; refine (awake09 _).mono ?_; rintro e w5 ⟨rfl, hb5⟩))
          go_ret
          exact ⟨rfl, below_trans' HBR.out hb5⟩
        · have hst := hT.lstep9 hI y (HOK.out (by omega)) (by omega) (by omega)
          rw [HV.out] at hst
          have HST := Lib.hid hst
          clear hst
          go_wp2_with
            (first
              | (go_at_call 111; refine HST.out.mono ?_; rintro e w5 ⟨rfl, hsp⟩; obtain ⟨K5, Y5, lv5, L5, Z5, vT5, T5, rd5, hT5, hI5⟩ := hsp.at_; have hneq : ((does9 y D).n != (does9 y D).n) = false := (by simp))
              | (go_at_call 110; refine (hT5.cd.ca.sectors hT5.cd.dv).mono ?_; rintro e w6 ⟨rfl, rfl⟩)
              | (go_at_call 112; refine hT5.rf.sectors.mono ?_; rintro e w6 ⟨rfl, rfl⟩))
          go_roundw
          case rel => exact ⟨k + 1, by omega, by go_num, _, _, _, _, _, _, _, _, _, hT5, hI5⟩
          case measure => simp [intOf]; omega
      · obtain rfl : k = l.length := by omega
        have hP : LfAt w wr p ms mo c mk r x size (l.length : Int) := ⟨_, _, _, _, _, _, _, _, _, hT, hI⟩
        have HP := Lib.hid hP
        clear hP hT hI hbr
        go_wp2_with fail
        go_loopw [12] (fun t wq => ∃ k : Nat, k ≤ l.length ∧ t = .int .i64 k ∧ LfAt w wq p ms mo c mk r x size ((l.length : Int) + k)) (fun t _ => l.length - (intOf t).toNat)
        case atStart => exact ⟨0, by omega, rfl, by have := HP.out; simpa using this⟩
        case round =>
          obtain ⟨k, hk, rfl, K, Y, D, lv, L, Z, vT, T, rd, hT, hI⟩ := hrel
          have hbr := hT.cd.dv.be
          have hih := hT.cd.ca.h0
          have him := hT.cd.ca.s0
          have hi2 := hI.b2
          have hrd : (K.hits + K.misses == rd) = true := by rw [hI.rd]; simp
          obtain ⟨e0, e1, e2, e3, e4, e5⟩ := hT.lb.cells
          have HBR := Lib.hid hbr
          cases hdn : D.down with
          | true =>
            have HIS := Lib.hid (hT.cd.dv.isDown hdn)
            by_cases hlt : k < l.length
            all_goals
              go_wp2_with
                (first
                  | (go_at_call 59; refine HIS.out.mono ?_; rintro e w6 ⟨rfl, rfl⟩)
                  | (go_at_call 106; refine hT.cd.ca.counts.mono ?_; rintro e w7 ⟨rfl, hb7⟩; have g5 := (hb7.cell (p := ⟨x, 5, none⟩) (cell_lt e5)).trans e5)
                  | (go_at_call 103; refine (awake09 _).mono ?_; rintro e w8 ⟨rfl, hb8⟩))
              go_ret
              exact ⟨rfl, below_trans' (below_trans' HBR.out hb7) hb8⟩
          | false =>
            have HIS := Lib.hid (hT.cd.dv.isDown hdn)
            by_cases hlt : k < l.length
            · obtain ⟨ad, y, rfl, hy, hdo0⟩ := hA.at_ k (by have := HM.out; omega)
              have c1 := (hdo0.below hbr).c1
              have HST := Lib.hid (hT.lread hI y.sec (by omega))
              clear hy hdo0 hbr
              go_wp2_with
                (first
                  | (go_at_call 59; refine HIS.out.mono ?_; rintro e w6 ⟨rfl, rfl⟩)
                  | (go_at_call 113; refine HST.out.mono ?_; rintro e w5 ⟨rfl, hsp⟩; obtain ⟨K5, Y5, lv5, L5, Z5, vT5, T5, rd5, hT5, hI5⟩ := hsp.at_))
              go_roundw
              case rel => exact ⟨k + 1, by omega, by go_num, _, _, _, _, _, _, _, _, _, hT5, hI5.mono (by omega)⟩
              case measure => simp [intOf]; omega
            · go_wp2_with
                (first
                  | (go_at_call 59; refine HIS.out.mono ?_; rintro e w6 ⟨rfl, rfl⟩)
                  | (go_at_call 106; refine hT.cd.ca.counts.mono ?_; rintro e w7 ⟨rfl, hb7⟩; have g5 := (hb7.cell (p := ⟨x, 5, none⟩) (cell_lt e5)).trans e5)
                  | (go_at_call 103; refine (awake09 _).mono ?_; rintro e w8 ⟨rfl, hb8⟩))
              go_ret
              exact ⟨rfl, below_trans' (below_trans' HBR.out hb7) hb8⟩
theorem cacheLives_row (w : World) {v0 v1 v2 : Value} {a b : Int} {l : List Do8} (A0 : ArgInt v0 a) (A1 : ArgInt v1 b) (A2 : DosIs w v2 l) :
    Calls Try.prog 20 #[v0, v1, v2] w fun e w' => e = .returned (.bool true) ∧ Below w.heap.size w w' := by
  obtain ⟨rfl, _⟩ := A0
  obtain ⟨rfl, hb⟩ := A1
  by_cases h : 1 ≤ a ∧ a ≤ 262144
  · by_cases hs : 1 ≤ b
    · exact cacheLives_some w a b v2 l A2 h.1 h.2 hs hb.2
    · exact cacheLives_size w a b v2 l A2 h.1 h.2 (by omega)
  · exact cacheLives_none w a b v2 l A2 (by omega)
end Go.Proofs.Yteeamlidmkpohaa


/-
  BlobLives.
-/
set_option linter.unusedVariables false
set_option linter.unusedSimpArgs false
set_option maxRecDepth 100000
namespace Go.Proofs.Yteeamlidmkpohaa
open Go.ChangeShapes Go.WideShapes Go.ChangeAt Go.RowKit Go.Deep

structure Do20At (w : World) (ad : Addr) (x : Do20) : Prop where
  c0 : w.cell? ad = some (.int .i64 x.op)
  c1 : w.cell? ⟨ad.block, ad.off + 1, none⟩ = some (.int .i64 x.at_)
  c2 : w.cell? ⟨ad.block, ad.off + 2, none⟩ = some (.int .i64 x.n)
  c3 : w.cell? ⟨ad.block, ad.off + 3, none⟩ = some (.int .u8 x.byte)
  ok : x.Ok
def Do20sAt (w : World) (A : Option Addr) (l : List Do20) : Prop := ∀ i x, l[i]? = some x → ∃ ad, A = some ad ∧ Do20At w (ad.add (i * 4)) x
def Do20sIs (w : World) (v : Value) (l : List Do20) : Prop := ∃ A c, v = .slice A l.length c ∧ l.length ≤ c ∧ c ≤ maxLen ∧ Do20sAt w A l
theorem Do20At.below {w w' : World} {ad : Addr} {x : Do20} (h : Do20At w ad x) (hb : Below w.heap.size w w') : Do20At w' ad x :=
  ⟨(hb.cell (cell_lt h.c0)).trans h.c0, (hb.cell (cell_lt h.c1)).trans h.c1, (hb.cell (cell_lt h.c2)).trans h.c2, (hb.cell (cell_lt h.c3)).trans h.c3, h.ok⟩
theorem Do20sAt.below {w w' : World} {A : Option Addr} {l : List Do20} (h : Do20sAt w A l) (hb : Below w.heap.size w w') : Do20sAt w' A l := fun i x hx => by
  obtain ⟨ad, e, h1⟩ := h i x hx
  exact ⟨ad, e, h1.below hb⟩
theorem Do20sIs.below {w w' : World} {v : Value} {l : List Do20} (h : Do20sIs w v l) (hb : Below w.heap.size w w') : Do20sIs w' v l := by
  obtain ⟨A, c, e, h1, h2, h3⟩ := h
  exact ⟨A, c, e, h1, h2, h3.below hb⟩
section
variable {H : Type} {enc : TypeId × Value → H} {w : World} {base b0 : Nat} {sp : Nat → Bool} {held : Bool} {r : Reach} {v : Value} {d : DataW H} {p : List MemPlace}
theorem cells144 : Try.prog.cellsOf 144 = 4 := by kernel_rfl
theorem trod_dos20 {fuel : Nat} {cs : List Value} {x : DataW H × List MemPlace} (h : DataW.trod enc Try.prog w base sp held fuel 141 cs = some x) : ∃ v l, cs = [v] ∧ Do20sIs w v l := by
  rcases open_slice Try.underlying141 h with ⟨rfl, _⟩ | ⟨a, len, cap, m, n, D, Pl, rfl, hb, hl, hm, hmm, _, hx⟩
  · exact ⟨_, [], rfl, none, 0, rfl, Nat.le_refl _, by simp [maxLen], fun i x h => by simp at h⟩
  · have hlm : len ≤ m := by rw [hmm]; split <;> omega
    obtain ⟨l, hll, hp⟩ := exists_list (fun i z => Do20At w (a.add (i * 4)) z) len (fun i hi => by
      obtain ⟨cs', h1, h2⟩ := hx i (by omega)
      rw [cells144] at h1
      obtain ⟨_, h3, h4⟩ := World.cells?_some h1
      obtain ⟨n', hf⟩ := struct_part Try.underlying144 h2
      obtain ⟨y0, hy0⟩ := hf 0 _ rfl
      obtain ⟨y1, hy1⟩ := hf 1 _ rfl
      obtain ⟨y2, hy2⟩ := hf 2 _ rfl
      obtain ⟨y3, hy3⟩ := hf 3 _ rfl
      obtain ⟨z0, e0, w0⟩ := part_int rfl hy0
      obtain ⟨z1, e1, w1⟩ := part_int rfl hy1
      obtain ⟨z2, e2, w2⟩ := part_int rfl hy2
      obtain ⟨z3, e3, w3⟩ := part_byte rfl hy3
      have k0 := h4 0 (by omega)
      rw [add_none] at k0
      exact ⟨⟨z0, z1, z2, z3⟩, k0.trans e0, (h4 1 (by omega)).trans e1, (h4 2 (by omega)).trans e2, (h4 3 (by omega)).trans e3, w0, w1, w2, w3⟩)
    subst hll
    exact ⟨_, l, rfl, some a, cap, rfl, hl, hm, fun i x hx => ⟨a, rfl, hp i x hx⟩⟩
theorem open_argDos20 (hv : Value.okWide Try.prog w r b0 141 v) (h : DataW.Trod enc Try.prog w base sp held 141 v d p) : ∃ l, Do20sIs w v l := by
  obtain ⟨a, n, c, rfl⟩ := okWide_slice Try.underlying141 hv
  obtain ⟨fuel, hf⟩ := h
  obtain ⟨v1, fs, e, h1⟩ := trod_dos20 hf
  simp [Value.cells] at e
  subst e
  exact ⟨fs, h1⟩
end
end Go.Proofs.Yteeamlidmkpohaa

namespace Go.Proofs.Yteeamlidmkpohaa
open Go.RowKit Go.Sort
theorem bw_n : ∀ (n : Nat) (D : Dk) (a : Int) (l : List Int), (Dk.bw n D a l).1.n = D.n
  | 0, D, a, l => rfl
  | n + 1, D, a, l => by
    rw [Dk.bw]
    split
    · rw [bw_n n]; exact Dk.writes_n D a _
    · exact Dk.writes_n D a _
theorem bwr_n (D : Dk) (a : Int) (l : List Int) : (D.bwr a l).1.n = D.n := by
  unfold Dk.bwr
  split
  · rfl
  · split
    · rfl
    · exact bw_n _ _ _ _
theorem arm_n (D : Dk) (n : Int) : (D.arm n).n = D.n := by
  unfold Dk.arm
  split <;> rfl
theorem does20_n (x : Do20) (D : Dk) : (does20 x D).n = D.n := by
  unfold does20
  split
  · exact bwr_n _ _ _
  · split
    · exact arm_n _ _
    · split
      · exact Dk.syncs_n _
      · rfl
theorem Do20sAt.at_ {w : World} {A : Option Addr} {l : List Do20} (h : Do20sAt w A l) (k : Nat) (hk : k < l.length) : ∃ ad x, A = some ad ∧ l[k]? = some x ∧ Do20At w (ad.add (k * 4)) x := by
  obtain ⟨ad, e, h1⟩ := h k l[k] (List.getElem?_eq_getElem hk)
  exact ⟨ad, _, e, List.getElem?_eq_getElem hk, h1⟩

set_option maxHeartbeats 8000000 in
theorem blobLives_walk (w : World) (a b : Int) (v : Value) (l : List Do20) (ha : In64 a) (hb0 : In64 b) (hl : Do20sIs w v l) :
    Calls Try.prog 24 #[.int .i64 a, .int .i64 b, v] w fun e w' => e = .returned (.bool true) ∧ Below w.heap.size w w' := by
  obtain ⟨A, cp, rfl, hlc, hcm, hA⟩ := hl
  have hcm2 : cp ≤ 9223372036854775807 := by simp only [maxLen] at hcm; omega
  have hlm : l.length ≤ 9223372036854775807 := by omega
  unfold In64 at ha hb0
  have q1 := Int.emod_nonneg a (show (9 : Int) ≠ 0 by decide)
  have q2 := Int.emod_lt_of_pos a (show (0 : Int) < 9 by decide)
  have q3 := Int.emod_nonneg b (show (9 : Int) ≠ 0 by decide)
  have q4 := Int.emod_lt_of_pos b (show (0 : Int) < 9 by decide)
  obtain ⟨x, hx⟩ : ∃ x, a % 9 = x := ⟨_, rfl⟩
  obtain ⟨y, hy⟩ : ∃ y, b % 9 = y := ⟨_, rfl⟩
  rw [hx] at q1 q2
  rw [hy] at q3 q4
  have P1 : Hid (∀ W, Calls Try.prog 31 #[.int .i64 a, .int .i64 9] W fun e w' => e = .returned (.int .i64 x) ∧ W = w') := Lib.hid (fun W => by
    refine (pick_pos a 9 W (by decide) (by decide) ha.1 ha.2).mono ?_
    rintro e w' ⟨rfl, rfl⟩
    exact ⟨by rw [hx], rfl⟩)
  have P2 : Hid (∀ W, Calls Try.prog 31 #[.int .i64 b, .int .i64 9] W fun e w' => e = .returned (.int .i64 y) ∧ W = w') := Lib.hid (fun W => by
    refine (pick_pos b 9 W (by decide) (by decide) hb0.1 hb0.2).mono ?_
    rintro e w' ⟨rfl, rfl⟩
    exact ⟨by rw [hy], rfl⟩)
  have hB := Below.refl w.heap.size w
  clear hx hy ha hb0
  go_enter Try.func24, Try.ntmps24
  go_wp2_with
    (first
      | (go_at_call 31; refine (P1.out _).mono ?_; clear P1; rintro e w6 ⟨rfl, rfl⟩)
      | (go_at_call 31; refine (P2.out _).mono ?_; rintro e w6 ⟨rfl, rfl⟩)
      | (go_at_call 50; refine (Dev.newF _ hB (1 + x) (by omega) (by omega)).mono ?_; rintro e w2 ⟨p, ms, mo, rfl, hD1, hn1, hb2⟩)
      | (go_at_call 70; refine (Ref.new _ _ hD1.be (1 + x) (by omega) (by omega)).mono ?_; rintro e w3 ⟨rfl, hR, hb3⟩)
      | (go_at_call 65; refine (CD.newF (hD1.below hb3) (1 + y) (by omega) (by omega)).mono ?_; rintro e w5 ⟨c, mk, rfl, hC1, hm1, hb5⟩))
  have hP : DuP w w5 p ms mo c mk w2.heap.size (Dk.new (1 + x)) 0 := by
    refine ⟨_, _, _, _, _, ⟨hC1, hR.below hb5, fun d e e2 => ?_⟩, FitN.new⟩
    have h1 : d = w2.heap.size := by
      rcases e2 with (e2 | e2) | e2
      · exact e2
      · cases e2
      · exact e2.elim
    subst h1
    rcases e with e | e | e
    · have := hD1.lt _ e; omega
    · have := hm1 _ e; have := hb3.size; have := hR.lt; omega
    · exact e
  obtain ⟨nn, hnn⟩ : ∃ nn : Nat, (1 + x) = nn := ⟨(1 + x).toNat, by omega⟩
  have HNN : Hid ((Dk.new (1 + x)).n = nn) := Lib.hid hnn
  have hnn9 : nn ≤ 9 := by omega
  generalize w2.heap.size = r at hP ⊢
  clear hD1 hR hC1 hb2 hb3 hb5 hn1 hm1 hB hnn
  go_loopw [10] (fun t wr => ∃ k : Nat, k ≤ l.length ∧ k ≤ 40 ∧ t = .int .i64 k ∧ ∃ D, DuP w wr p ms mo c mk r D (k * 262144) ∧ D.n = nn) (fun t _ => 40 - (intOf t).toNat)
  case atStart => exact ⟨0, by omega, by omega, rfl, _, by simpa using hP, HNN.out⟩
  case round =>
    clear hP
    obtain ⟨k, hk, hk40, rfl, D, hT, hn⟩ := hrel
    have hbr : Below w.heap.size w wr := by
      obtain ⟨K, Y, lv, L, Z, h1, _⟩ := hT
      exact h1.cd.dv.be
    have HN := Lib.hid hn
    have HT := Lib.hid hT
    have HBR := Lib.hid hbr
    by_cases hlt : k < l.length ∧ k < 40
    · obtain ⟨hlt1, hlt2⟩ := hlt
      obtain ⟨ad, z, rfl, hz, hdo0⟩ := hA.at_ k hlt1
      have hdo := hdo0.below hbr
      have c0 := hdo.c0
      have c1 := hdo.c1
      have c2 := hdo.c2
      have c3 := hdo.c3
      have HST := Lib.hid (step20_any hT z hdo.ok (by omega))
      clear hT hn hbr hz hdo hdo0
      have hst := HST.out
      unfold Do20.val at hst
      have HST2 := Lib.hid hst
      clear hst
      go_wp2_with
        (first
          | (go_at_call 117; refine HST2.out.mono ?_; rintro e w7 ⟨rfl, hT7⟩
             obtain ⟨K7, Y7, lv7, L7, Z7, hD7, hF7⟩ := hT7
             have hds : (does20 z D).down = (does20 z D).down := rfl
             have hdd := hD7.cd.dv.isDown (d := (does20 z D).down) rfl
             have hrd := hD7.rf.isDown
             have HD7 := Lib.hid hD7
             have HF7 := Lib.hid hF7
             have HDD := Lib.hid hdd
             have HRD := Lib.hid hrd
             have hnq : ((does20 z D).down != (does20 z D).down) = false := by simp
             clear hD7 hF7 hdd hrd hds)
          | (go_at_call 59; refine HDD.out.mono ?_; rintro e w8 ⟨rfl, rfl⟩)
          | (go_at_call 72; refine HRD.out.mono ?_; rintro e w8 ⟨rfl, rfl⟩))
      go_roundw
      case rel => exact ⟨k + 1, by omega, by omega, by go_num, _, ⟨_, _, _, _, _, HD7.out, HF7.out.mono (by omega)⟩, by rw [does20_n]; exact HN.out⟩
      case measure => simp [intOf]; omega
    · obtain ⟨K, Y, lv, L, Z, h1, _⟩ := hT
      have H1 := Lib.hid h1
      clear h1 hn hbr
      have hcase : k = l.length ∨ (k < l.length ∧ k = 40) := by omega
      rcases hcase with hc | ⟨hc1, hc2⟩
      iterate 2
        · first
            | (have g1 : ¬ ((k : Int) < (l.length : Int)) := by omega)
            | (have g1 : ¬ ((k : Int) < 40) := by omega)
          go_wp2_with
            (first
              | (go_at_call 79; refine (H1.out.cd.dv.bytes nn HN.out).mono ?_; rintro e x1 ⟨u1, rfl, hu1, hm1, hb1⟩; have H2 := Lib.hid (H1.out.below hb1); have HU1 := Lib.hid hu1; clear hu1 hm1)
              | (go_at_call 81; refine (H2.out.rf.bytes nn HN.out).mono ?_; rintro e x2 ⟨u2, rfl, hu2, hb2⟩; have H3 := Lib.hid (H2.out.below hb2); have HU12 := Lib.hid (HU1.out.below hb2); have HU2 := Lib.hid (BytesIs.of_own (Dk.all_len H1.out.cd.dv.ok nn) hu2); clear hu2)
              | (go_at_call 58; refine (sameBytes_eq _ _ _ _ HU12.out HU2.out).mono ?_; rintro e x3 ⟨rfl, hb3⟩; have H4 := Lib.hid (H3.out.below hb3))
              | (go_at_call 114; refine (awake20 _).mono ?_; rintro e x4 ⟨rfl, hb4⟩))
          go_ret
          exact ⟨rfl, H4.out.cd.dv.be.trans (hb4.mono H4.out.cd.dv.be.size)⟩
theorem blobLives_row (w : World) {v0 v1 v2 : Value} {a b : Int} {l : List Do20} (A0 : ArgInt v0 a) (A1 : ArgInt v1 b) (A2 : Do20sIs w v2 l) :
    Calls Try.prog 24 #[v0, v1, v2] w fun e w' => e = .returned (.bool true) ∧ Below w.heap.size w w' := by
  obtain ⟨rfl, ha⟩ := A0
  obtain ⟨rfl, hb⟩ := A1
  exact blobLives_walk w a b v2 l ha hb A2
end Go.Proofs.Yteeamlidmkpohaa
