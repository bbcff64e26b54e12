/-
  CacheLives.
-/
import Derived.Test.YteeamlidmkpohaaZaf
set_option linter.unusedVariables false
set_option linter.unusedSimpArgs false
set_option maxRecDepth 100000
namespace Go.Proofs.Yteeamlidmkpohaa
open Go.ChangeShapes Go.WideShapes Go.ChangeAt Go.RowKit Go.Deep

section
variable {H : Type} {enc : TypeId × Value → H} {w : World} {base b0 : Nat} {sp : Nat → Bool} {held : Bool} {r : Reach} {v : Value} {d : DataW H} {p : List MemPlace}
theorem cells134 : Try.prog.cellsOf 134 = 5 := by kernel_rfl
theorem trod_dos9 {fuel : Nat} {cs : List Value} {x : DataW H × List MemPlace} (h : DataW.trod enc Try.prog w base sp held fuel 130 cs = some x) : ∃ v l, cs = [v] ∧ DosIs w v l := by
  rcases open_slice Try.underlying130 h with ⟨rfl, _⟩ | ⟨a, len, cap, m, n, D, Pl, rfl, hb, hl, hm, hmm, _, hx⟩
  · exact ⟨_, [], rfl, none, 0, rfl, Nat.le_refl _, by simp [maxLen], fun i x h => by simp at h⟩
  · have hlm : len ≤ m := by rw [hmm]; split <;> omega
    obtain ⟨l, hll, hp⟩ := exists_list (fun i z => DoAt w (a.add (i * 5)) z) len (fun i hi => by
      obtain ⟨cs', h1, h2⟩ := hx i (by omega)
      rw [cells134] at h1
      obtain ⟨_, h3, h4⟩ := World.cells?_some h1
      obtain ⟨n', hf⟩ := struct_part Try.underlying134 h2
      obtain ⟨y0, hy0⟩ := hf 0 _ rfl
      obtain ⟨y1, hy1⟩ := hf 1 _ rfl
      obtain ⟨y2, hy2⟩ := hf 2 _ rfl
      obtain ⟨y3, hy3⟩ := hf 3 _ rfl
      obtain ⟨y4, hy4⟩ := hf 4 _ rfl
      obtain ⟨z0, e0, w0⟩ := part_int rfl hy0
      obtain ⟨z1, e1, w1⟩ := part_int rfl hy1
      obtain ⟨z2, e2, w2⟩ := part_int rfl hy2
      obtain ⟨z3, e3, w3⟩ := part_byte rfl hy3
      obtain ⟨fv, fs, e4, w4, w5⟩ := part_fates rfl hy4
      have k0 := h4 0 (by omega)
      rw [add_none] at k0
      exact ⟨⟨z0, z1, z2, z3, fv, fs⟩, k0.trans e0, (h4 1 (by omega)).trans e1, (h4 2 (by omega)).trans e2, (h4 3 (by omega)).trans e3, (h4 4 (by omega)).trans e4, w4, w0, w1, w2, w3, w5⟩)
    subst hll
    exact ⟨_, l, rfl, some a, cap, rfl, hl, hm, fun i x hx => ⟨a, rfl, hp i x hx⟩⟩
theorem open_argDos9 (hv : Value.okWide Try.prog w r b0 130 v) (h : DataW.Trod enc Try.prog w base sp held 130 v d p) : ∃ l, DosIs w v l := by
  obtain ⟨a, n, c, rfl⟩ := okWide_slice Try.underlying130 hv
  obtain ⟨fuel, hf⟩ := h
  obtain ⟨v1, fs, e, h1⟩ := trod_dos9 hf
  simp [Value.cells] at e
  subst e
  exact ⟨fs, h1⟩
end
end Go.Proofs.Yteeamlidmkpohaa

namespace Go.Proofs.Yteeamlidmkpohaa
open Go.RowKit Go.Sort
set_option maxRecDepth 100000
theorem cacheLives_none (w : World) (n size : Int) (v : Value) (l : List Do8) (hl : DosIs w v l) (hn : n < 1 ∨ 262144 < n) :
    Calls Try.prog 20 #[.int .i64 n, .int .i64 size, v] w fun e w' => e = .returned (.bool true) ∧ Below w.heap.size w w' := by
  obtain ⟨A, c, rfl, hlc, hcm, hA⟩ := hl
  have HD := Lib.hid (dnew_none w n hn)
  have HR := Lib.hid (rnew_none w n hn)
  have HC := Lib.hid (cnew_nil w size)
  clear hn
  by_cases h80 : 80 < l.length
  all_goals
    go_enter Try.func20, Try.ntmps20
    go_wp2_with
      (first
        | (go_at_call 50; refine HD.out.mono ?_; rintro e w1 ⟨rfl, rfl⟩)
        | (go_at_call 70; refine HR.out.mono ?_; rintro e w1 ⟨rfl, rfl⟩)
        | (go_at_call 65; refine HC.out.mono ?_; rintro e w1 ⟨rfl, rfl⟩)
        | (go_at_call 103; refine (awake09 _).mono ?_; rintro e w1 ⟨rfl, hb⟩))
    go_ret
    exact ⟨rfl, hb⟩
theorem cacheLives_size (w : World) (n size : Int) (v : Value) (l : List Do8) (hl : DosIs w v l) (h1 : 1 ≤ n) (h2 : n ≤ 262144) (hs : size < 1) :
    Calls Try.prog 20 #[.int .i64 n, .int .i64 size, v] w fun e w' => e = .returned (.bool true) ∧ Below w.heap.size w w' := by
  obtain ⟨A, c, rfl, hlc, hcm, hA⟩ := hl
  have hB := Below.refl w.heap.size w
  by_cases h80 : 80 < l.length
  all_goals
    go_enter Try.func20, Try.ntmps20
    go_wp2_with
      (first
        | (go_at_call 50; refine (Dev.new_ _ hB n h1 h2).mono ?_; rintro e w1 ⟨rfl, hD, hb1⟩; have hB1 := below_trans' hB hb1)
        | (go_at_call 70; refine (Ref.new _ _ hB1 n h1 h2).mono ?_; rintro e w2 ⟨rfl, hR, hb2⟩; have hD2 := hD.below hb2; clear hR)
        | (go_at_call 65; refine (cnew_none hD2 size hs).mono ?_; rintro e w3 ⟨rfl, rfl⟩)
        | (go_at_call 103; refine (awake09 _).mono ?_; rintro e w5 ⟨rfl, hb⟩))
    go_ret
    exact ⟨rfl, below_trans' hD2.be hb⟩
end Go.Proofs.Yteeamlidmkpohaa


/-
  CacheLives: the law.
-/
set_option linter.unusedVariables false
set_option linter.unusedSimpArgs false
set_option maxRecDepth 100000
namespace Go.Proofs.Yteeamlidmkpohaa
open Go.RowKit Go.Sort

/-- some state of the life -/
def LfAt (w0 w : World) (p ms mo c mk r x : Nat) (size N : Int) : Prop :=
  ∃ K Y D lv L Z vT T rd, Tri w0 w p ms mo c mk K Y D r lv L Z D x size rd vT T ∧ Inv9 K D T rd size N
theorem LfPost.at_ {w0 w w' : World} {p ms mo c mk r x : Nat} {D : Dk} {size N : Int} (h : LfPost w0 w p ms mo c mk r x D size N w') : ∃ K Y lv L Z vT T rd, Tri w0 w' p ms mo c mk K Y D r lv L Z D x size rd vT T ∧ Inv9 K D T rd size N := by
  obtain ⟨K, Y, lv, L, Z, vT, T, rd, h1, h2, _⟩ := h
  exact ⟨K, Y, lv, L, Z, vT, T, rd, h1, h2⟩

set_option maxHeartbeats 8000000 in
theorem cacheLives_some (w : World) (n size : Int) (v : Value) (l : List Do8) (hl : DosIs w v l) (h1 : 1 ≤ n) (h2 : n ≤ 262144) (hs : 1 ≤ size) (hs2 : size ≤ 9223372036854775807) :
    Calls Try.prog 20 #[.int .i64 n, .int .i64 size, v] w fun e w' => e = .returned (.bool true) ∧ Below w.heap.size w w' := by
  obtain ⟨A, cp, rfl, hlc, hcm, hA0⟩ := hl
  have hB := Below.refl w.heap.size w
  obtain ⟨l', hA, hlc', hl8, hmin⟩ : ∃ l', DosAt w A l' ∧ l'.length ≤ cp ∧ l'.length ≤ 80 ∧ l'.length = min l.length 80 := by
    refine ⟨l.take 80, hA0.take 80, by simp; omega, by simp; omega, by simp; omega⟩
  have hs0 : decide (size < 1) = false := by simpa using hs
  by_cases h80 : 80 < l.length
  · have hm : l'.length = 80 := by omega
    have HM := Lib.hid hm
    clear hmin hm
    go_enter Try.func20, Try.ntmps20
    go_wp2_with
      (first
        | (go_at_call 50; refine (Dev.new_ _ hB n h1 h2).mono ?_; rintro e w1 ⟨rfl, hD, hb1⟩; have hB1 := below_trans' hB hb1)
        | (go_at_call 70; refine (Ref.new _ _ hB1 n h1 h2).mono ?_; rintro e w2 ⟨rfl, hR, hb2⟩; have hD2 := hD.below hb2)
        | (go_at_call 65; refine (cnew_some _ hD2.be hD2 size hs hs2).mono ?_; rintro e w3 ⟨rfl, hca, hb3⟩))
    have hbx := heap_alloc_new w3 (.cells #[.pointer (some ⟨w2.heap.size + 1, 0, none⟩), .pointer (some ⟨w.heap.size + 2, 0, none⟩), .pointer (some ⟨w1.heap.size, 0, none⟩), .int .i64 size, .slice none 0 0, .int .i64 0] 133)
    have hP : LfAt w (w3.alloc (.cells #[.pointer (some ⟨w2.heap.size + 1, 0, none⟩), .pointer (some ⟨w.heap.size + 2, 0, none⟩), .pointer (some ⟨w1.heap.size, 0, none⟩), .int .i64 size, .slice none 0 0, .int .i64 0] 133)) (w.heap.size + 2) w.heap.size (w.heap.size + 1) (w2.heap.size + 1) w2.heap.size w1.heap.size w3.heap.size size 0 := by
      have hba := below_alloc' (Below.refl _ w3) (.cells #[.pointer (some ⟨w2.heap.size + 1, 0, none⟩), .pointer (some ⟨w.heap.size + 2, 0, none⟩), .pointer (some ⟨w1.heap.size, 0, none⟩), .int .i64 size, .slice none 0 0, .int .i64 0] 133)
      have g1 := hb1.size
      have g2 := hb2.size
      have g3 := hb3.size
      have q1 := hD.lt
      have q2 := hR.lt
      have q3 := hca.lt
      have q4 := hca.mp.lt
      refine ⟨_, _, _, _, _, _, .slice none 0 0, [], 0, ⟨⟨(hD2.below hb3).below hba, hca.below hba, fun b e e2 => ?_, fun b e e2 => e2⟩, (hR.below hb3).below hba, ⟨hbx, World.ownsRow_nil _ _ _ _, by omega, by simp; omega⟩, fun b e e2 => ?_, fun b e e2 => ?_, fun b e e2 => ?_⟩, ⟨fun _ => ⟨(fun e he => by cases he), by simp [lastN]⟩, rfl, .nil, rfl, Int.le_refl _, Int.le_refl _, Int.le_refl _⟩⟩
      · have := q1 b e
        rcases e2 with e2 | e2 <;> omega
      · rcases e2 with (e2 | e2) | e2
        · rcases e with e | e | e
          · have := q1 b e; omega
          · rcases e with e | e <;> omega
          · exact e
        · cases e2
        · exact e2
      · rcases e2 with e2 | e2
        · rcases e with e | e | e
          · have := q1 b e; omega
          · rcases e with e | e <;> omega
          · exact e
        · cases e2
      · rcases e2 with e2 | e2
        · rcases e with (e | e) | e
          · omega
          · cases e
          · exact e
        · cases e2
    clear hbx hD hR hD2 hb1 hb2 hb3 hca hB1 hB
    generalize w3.alloc (.cells #[.pointer (some ⟨w2.heap.size + 1, 0, none⟩), .pointer (some ⟨w.heap.size + 2, 0, none⟩), .pointer (some ⟨w1.heap.size, 0, none⟩), .int .i64 size, .slice none 0 0, .int .i64 0] 133) = w4 at hP ⊢
    generalize w.heap.size + 2 = p at hP ⊢
    generalize w.heap.size + 1 = mo at hP ⊢
    generalize hms : w.heap.size = ms at hP ⊢
    generalize w1.heap.size = r at hP ⊢
    generalize w2.heap.size + 1 = c at hP ⊢
    generalize w2.heap.size = mk at hP ⊢
    generalize w3.heap.size = x at hP ⊢
    have HMS := Lib.hid hms
    clear hms
    go_loopw [11] (fun t wr => ∃ k : Nat, k ≤ 80 ∧ t = .int .i64 k ∧ LfAt w wr p ms mo c mk r x size k) (fun t _ => 80 - (intOf t).toNat)
    case atStart => exact ⟨0, by omega, rfl, hP⟩
    case round =>
      obtain ⟨k, hk, rfl, K, Y, D, lv, L, Z, vT, T, rd, hT, hI⟩ := hrel
      clear hP
      have hbr := hT.cd.dv.be
      by_cases hlt : k < 80
      · obtain ⟨ad, y, rfl, hy, hdo0⟩ := hA.at_ k (by have := HM.out; omega)
        have hdo := hdo0.below hbr
        have c0 := hdo.c0
        have c1 := hdo.c1
        have c2 := hdo.c2
        have c3 := hdo.c3
        have c4 := hdo.c4
        have HOK := Lib.hid (fun hl => DoAt.okk hdo0 hdo hl)
        obtain ⟨Af, cf, hfv, hf1, hf2, _⟩ := hdo.ints
        have hfl : y.fs.length ≤ 9223372036854775807 := by simp only [maxLen] at hf2; omega
        have hval : y.val = .agg #[.int .i64 y.op, .int .i64 y.sec, .int .i64 y.n, .int .u8 y.byte, .slice Af y.fs.length cf] := by unfold Do8.val; rw [hfv]
        rw [hfv] at c4
        have HX := Lib.hid hy
        have HBR := Lib.hid hbr
        have HV := Lib.hid hval
        clear hy hdo hdo0 hbr hfv hval hf1 hf2
        by_cases hbig : 1000 < y.fs.length
        · go_wp2_with
            (first
              | (go_at_call 103; refine (awake09 _).mono ?_; rintro e w5 ⟨rfl, hb5⟩))
          go_ret
          exact ⟨rfl, below_trans' HBR.out hb5⟩
        · have hst := hT.lstep9 hI y (HOK.out (by omega)) (by omega) (by omega)
          rw [HV.out] at hst
          have HST := Lib.hid hst
          clear hst
          go_wp2_with
            (first
              | (go_at_call 111; refine HST.out.mono ?_; rintro e w5 ⟨rfl, hsp⟩; obtain ⟨K5, Y5, lv5, L5, Z5, vT5, T5, rd5, hT5, hI5⟩ := hsp.at_; have hneq : ((does9 y D).n != (does9 y D).n) = false := (by simp))
              | (go_at_call 110; refine (hT5.cd.ca.sectors hT5.cd.dv).mono ?_; rintro e w6 ⟨rfl, rfl⟩)
              | (go_at_call 112; refine hT5.rf.sectors.mono ?_; rintro e w6 ⟨rfl, rfl⟩))
          go_roundw
          case rel => exact ⟨k + 1, by omega, by go_num, _, _, _, _, _, _, _, _, _, hT5, hI5⟩
          case measure => simp [intOf]; omega
      · have hk80 : (k : Int) = (80 : Int) := by omega
        rw [hk80] at hI ⊢
        have hP : LfAt w wr p ms mo c mk r x size (80 : Int) := ⟨_, _, _, _, _, _, _, _, _, hT, hI⟩
        have HP := Lib.hid hP
        clear hP hT hI hbr
        go_wp2_with fail
        go_loopw [12] (fun t wq => ∃ k : Nat, k ≤ 80 ∧ t = .int .i64 k ∧ LfAt w wq p ms mo c mk r x size ((80 : Int) + k)) (fun t _ => 80 - (intOf t).toNat)
        case atStart => exact ⟨0, by omega, rfl, by have := HP.out; simpa using this⟩
        case round =>
          obtain ⟨k, hk, rfl, K, Y, D, lv, L, Z, vT, T, rd, hT, hI⟩ := hrel
          have hbr := hT.cd.dv.be
          have hih := hT.cd.ca.h0
          have him := hT.cd.ca.s0
          have hi2 := hI.b2
          have hrd : (K.hits + K.misses == rd) = true := by rw [hI.rd]; simp
          obtain ⟨e0, e1, e2, e3, e4, e5⟩ := hT.lb.cells
          have HBR := Lib.hid hbr
          cases hdn : D.down with
          | true =>
            have HIS := Lib.hid (hT.cd.dv.isDown hdn)
            by_cases hlt : k < 80
            all_goals
              go_wp2_with
                (first
                  | (go_at_call 59; refine HIS.out.mono ?_; rintro e w6 ⟨rfl, rfl⟩)
                  | (go_at_call 106; refine hT.cd.ca.counts.mono ?_; rintro e w7 ⟨rfl, hb7⟩; have g5 := (hb7.cell (p := ⟨x, 5, none⟩) (cell_lt e5)).trans e5)
                  | (go_at_call 103; refine (awake09 _).mono ?_; rintro e w8 ⟨rfl, hb8⟩))
              go_ret
              exact ⟨rfl, below_trans' (below_trans' HBR.out hb7) hb8⟩
          | false =>
            have HIS := Lib.hid (hT.cd.dv.isDown hdn)
            by_cases hlt : k < 80
            · obtain ⟨ad, y, rfl, hy, hdo0⟩ := hA.at_ k (by have := HM.out; omega)
              have c1 := (hdo0.below hbr).c1
              have HST := Lib.hid (hT.lread hI y.sec (by omega))
              clear hy hdo0 hbr
              go_wp2_with
                (first
                  | (go_at_call 59; refine HIS.out.mono ?_; rintro e w6 ⟨rfl, rfl⟩)
                  | (go_at_call 113; refine HST.out.mono ?_; rintro e w5 ⟨rfl, hsp⟩; obtain ⟨K5, Y5, lv5, L5, Z5, vT5, T5, rd5, hT5, hI5⟩ := hsp.at_))
              go_roundw
              case rel => exact ⟨k + 1, by omega, by go_num, _, _, _, _, _, _, _, _, _, hT5, hI5.mono (by omega)⟩
              case measure => simp [intOf]; omega
            · go_wp2_with
                (first
                  | (go_at_call 59; refine HIS.out.mono ?_; rintro e w6 ⟨rfl, rfl⟩)
                  | (go_at_call 106; refine hT.cd.ca.counts.mono ?_; rintro e w7 ⟨rfl, hb7⟩; have g5 := (hb7.cell (p := ⟨x, 5, none⟩) (cell_lt e5)).trans e5)
                  | (go_at_call 103; refine (awake09 _).mono ?_; rintro e w8 ⟨rfl, hb8⟩))
              go_ret
              exact ⟨rfl, below_trans' (below_trans' HBR.out hb7) hb8⟩
  · have hm : l'.length = l.length := by omega
    have hl80 : l.length ≤ 80 := by omega
    have HM := Lib.hid hm
    clear hmin hm
    go_enter Try.func20, Try.ntmps20
    go_wp2_with
      (first
        | (go_at_call 50; refine (Dev.new_ _ hB n h1 h2).mono ?_; rintro e w1 ⟨rfl, hD, hb1⟩; have hB1 := below_trans' hB hb1)
        | (go_at_call 70; refine (Ref.new _ _ hB1 n h1 h2).mono ?_; rintro e w2 ⟨rfl, hR, hb2⟩; have hD2 := hD.below hb2)
        | (go_at_call 65; refine (cnew_some _ hD2.be hD2 size hs hs2).mono ?_; rintro e w3 ⟨rfl, hca, hb3⟩))
    have hbx := heap_alloc_new w3 (.cells #[.pointer (some ⟨w2.heap.size + 1, 0, none⟩), .pointer (some ⟨w.heap.size + 2, 0, none⟩), .pointer (some ⟨w1.heap.size, 0, none⟩), .int .i64 size, .slice none 0 0, .int .i64 0] 133)
    have hP : LfAt w (w3.alloc (.cells #[.pointer (some ⟨w2.heap.size + 1, 0, none⟩), .pointer (some ⟨w.heap.size + 2, 0, none⟩), .pointer (some ⟨w1.heap.size, 0, none⟩), .int .i64 size, .slice none 0 0, .int .i64 0] 133)) (w.heap.size + 2) w.heap.size (w.heap.size + 1) (w2.heap.size + 1) w2.heap.size w1.heap.size w3.heap.size size 0 := by
      have hba := below_alloc' (Below.refl _ w3) (.cells #[.pointer (some ⟨w2.heap.size + 1, 0, none⟩), .pointer (some ⟨w.heap.size + 2, 0, none⟩), .pointer (some ⟨w1.heap.size, 0, none⟩), .int .i64 size, .slice none 0 0, .int .i64 0] 133)
      have g1 := hb1.size
      have g2 := hb2.size
      have g3 := hb3.size
      have q1 := hD.lt
      have q2 := hR.lt
      have q3 := hca.lt
      have q4 := hca.mp.lt
      refine ⟨_, _, _, _, _, _, .slice none 0 0, [], 0, ⟨⟨(hD2.below hb3).below hba, hca.below hba, fun b e e2 => ?_, fun b e e2 => e2⟩, (hR.below hb3).below hba, ⟨hbx, World.ownsRow_nil _ _ _ _, by omega, by simp; omega⟩, fun b e e2 => ?_, fun b e e2 => ?_, fun b e e2 => ?_⟩, ⟨fun _ => ⟨(fun e he => by cases he), by simp [lastN]⟩, rfl, .nil, rfl, Int.le_refl _, Int.le_refl _, Int.le_refl _⟩⟩
      · have := q1 b e
        rcases e2 with e2 | e2 <;> omega
      · rcases e2 with (e2 | e2) | e2
        · rcases e with e | e | e
          · have := q1 b e; omega
          · rcases e with e | e <;> omega
          · exact e
        · cases e2
        · exact e2
      · rcases e2 with e2 | e2
        · rcases e with e | e | e
          · have := q1 b e; omega
          · rcases e with e | e <;> omega
          · exact e
        · cases e2
      · rcases e2 with e2 | e2
        · rcases e with (e | e) | e
          · omega
          · cases e
          · exact e
        · cases e2
    clear hbx hD hR hD2 hb1 hb2 hb3 hca hB1 hB
    generalize w3.alloc (.cells #[.pointer (some ⟨w2.heap.size + 1, 0, none⟩), .pointer (some ⟨w.heap.size + 2, 0, none⟩), .pointer (some ⟨w1.heap.size, 0, none⟩), .int .i64 size, .slice none 0 0, .int .i64 0] 133) = w4 at hP ⊢
    generalize w.heap.size + 2 = p at hP ⊢
    generalize w.heap.size + 1 = mo at hP ⊢
    generalize hms : w.heap.size = ms at hP ⊢
    generalize w1.heap.size = r at hP ⊢
    generalize w2.heap.size + 1 = c at hP ⊢
    generalize w2.heap.size = mk at hP ⊢
    generalize w3.heap.size = x at hP ⊢
    have HMS := Lib.hid hms
    clear hms
    go_loopw [11] (fun t wr => ∃ k : Nat, k ≤ l.length ∧ t = .int .i64 k ∧ LfAt w wr p ms mo c mk r x size k) (fun t _ => l.length - (intOf t).toNat)
    case atStart => exact ⟨0, by omega, rfl, hP⟩
    case round =>
      obtain ⟨k, hk, rfl, K, Y, D, lv, L, Z, vT, T, rd, hT, hI⟩ := hrel
      clear hP
      have hbr := hT.cd.dv.be
      by_cases hlt : k < l.length
      · obtain ⟨ad, y, rfl, hy, hdo0⟩ := hA.at_ k (by have := HM.out; omega)
        have hdo := hdo0.below hbr
        have c0 := hdo.c0
        have c1 := hdo.c1
        have c2 := hdo.c2
        have c3 := hdo.c3
        have c4 := hdo.c4
        have HOK := Lib.hid (fun hl => DoAt.okk hdo0 hdo hl)
        obtain ⟨Af, cf, hfv, hf1, hf2, _⟩ := hdo.ints
        have hfl : y.fs.length ≤ 9223372036854775807 := by simp only [maxLen] at hf2; omega
        have hval : y.val = .agg #[.int .i64 y.op, .int .i64 y.sec, .int .i64 y.n, .int .u8 y.byte, .slice Af y.fs.length cf] := by unfold Do8.val; rw [hfv]
        rw [hfv] at c4
        have HX := Lib.hid hy
        have HBR := Lib.hid hbr
        have HV := Lib.hid hval
        clear hy hdo hdo0 hbr hfv hval hf1 hf2
        by_cases hbig : 1000 < y.fs.length
        · go_wp2_with
            (first
              | (go_at_call 103; refine (awake09 _).mono ?_; rintro e w5 ⟨rfl, hb5⟩))
          go_ret
          exact ⟨rfl, below_trans' HBR.out hb5⟩
        · have hst := hT.lstep9 hI y (HOK.out (by omega)) (by omega) (by omega)
          rw [HV.out] at hst
          have HST := Lib.hid hst
          clear hst
          go_wp2_with
            (first
              | (go_at_call 111; refine HST.out.mono ?_; rintro e w5 ⟨rfl, hsp⟩; obtain ⟨K5, Y5, lv5, L5, Z5, vT5, T5, rd5, hT5, hI5⟩ := hsp.at_; have hneq : ((does9 y D).n != (does9 y D).n) = false := (by simp))
              | (go_at_call 110; refine (hT5.cd.ca.sectors hT5.cd.dv).mono ?_; rintro e w6 ⟨rfl, rfl⟩)
              | (go_at_call 112; refine hT5.rf.sectors.mono ?_; rintro e w6 ⟨rfl, rfl⟩))
          go_roundw
          case rel => exact ⟨k + 1, by omega, by go_num, _, _, _, _, _, _, _, _, _, hT5, hI5⟩
          case measure => simp [intOf]; omega
      · obtain rfl : k = l.length := by omega
        have hP : LfAt w wr p ms mo c mk r x size (l.length : Int) := ⟨_, _, _, _, _, _, _, _, _, hT, hI⟩
        have HP := Lib.hid hP
        clear hP hT hI hbr
        go_wp2_with fail
        go_loopw [12] (fun t wq => ∃ k : Nat, k ≤ l.length ∧ t = .int .i64 k ∧ LfAt w wq p ms mo c mk r x size ((l.length : Int) + k)) (fun t _ => l.length - (intOf t).toNat)
        case atStart => exact ⟨0, by omega, rfl, by have := HP.out; simpa using this⟩
        case round =>
          obtain ⟨k, hk, rfl, K, Y, D, lv, L, Z, vT, T, rd, hT, hI⟩ := hrel
          have hbr := hT.cd.dv.be
          have hih := hT.cd.ca.h0
          have him := hT.cd.ca.s0
          have hi2 := hI.b2
          have hrd : (K.hits + K.misses == rd) = true := by rw [hI.rd]; simp
          obtain ⟨e0, e1, e2, e3, e4, e5⟩ := hT.lb.cells
          have HBR := Lib.hid hbr
          cases hdn : D.down with
          | true =>
            have HIS := Lib.hid (hT.cd.dv.isDown hdn)
            by_cases hlt : k < l.length
            all_goals
              go_wp2_with
                (first
                  | (go_at_call 59; refine HIS.out.mono ?_; rintro e w6 ⟨rfl, rfl⟩)
                  | (go_at_call 106; refine hT.cd.ca.counts.mono ?_; rintro e w7 ⟨rfl, hb7⟩; have g5 := (hb7.cell (p := ⟨x, 5, none⟩) (cell_lt e5)).trans e5)
                  | (go_at_call 103; refine (awake09 _).mono ?_; rintro e w8 ⟨rfl, hb8⟩))
              go_ret
              exact ⟨rfl, below_trans' (below_trans' HBR.out hb7) hb8⟩
          | false =>
            have HIS := Lib.hid (hT.cd.dv.isDown hdn)
            by_cases hlt : k < l.length
            · obtain ⟨ad, y, rfl, hy, hdo0⟩ := hA.at_ k (by have := HM.out; omega)
              have c1 := (hdo0.below hbr).c1
              have HST := Lib.hid (hT.lread hI y.sec (by omega))
              clear hy hdo0 hbr
              go_wp2_with
                (first
                  | (go_at_call 59; refine HIS.out.mono ?_; rintro e w6 ⟨rfl, rfl⟩)
                  | (go_at_call 113; refine HST.out.mono ?_; rintro e w5 ⟨rfl, hsp⟩; obtain ⟨K5, Y5, lv5, L5, Z5, vT5, T5, rd5, hT5, hI5⟩ := hsp.at_))
              go_roundw
              case rel => exact ⟨k + 1, by omega, by go_num, _, _, _, _, _, _, _, _, _, hT5, hI5.mono (by omega)⟩
              case measure => simp [intOf]; omega
            · go_wp2_with
                (first
                  | (go_at_call 59; refine HIS.out.mono ?_; rintro e w6 ⟨rfl, rfl⟩)
                  | (go_at_call 106; refine hT.cd.ca.counts.mono ?_; rintro e w7 ⟨rfl, hb7⟩; have g5 := (hb7.cell (p := ⟨x, 5, none⟩) (cell_lt e5)).trans e5)
                  | (go_at_call 103; refine (awake09 _).mono ?_; rintro e w8 ⟨rfl, hb8⟩))
              go_ret
              exact ⟨rfl, below_trans' (below_trans' HBR.out hb7) hb8⟩
theorem cacheLives_row (w : World) {v0 v1 v2 : Value} {a b : Int} {l : List Do8} (A0 : ArgInt v0 a) (A1 : ArgInt v1 b) (A2 : DosIs w v2 l) :
    Calls Try.prog 20 #[v0, v1, v2] w fun e w' => e = .returned (.bool true) ∧ Below w.heap.size w w' := by
  obtain ⟨rfl, _⟩ := A0
  obtain ⟨rfl, hb⟩ := A1
  by_cases h : 1 ≤ a ∧ a ≤ 262144
  · by_cases hs : 1 ≤ b
    · exact cacheLives_some w a b v2 l A2 h.1 h.2 hs hb.2
    · exact cacheLives_size w a b v2 l A2 h.1 h.2 (by omega)
  · exact cacheLives_none w a b v2 l A2 (by omega)
end Go.Proofs.Yteeamlidmkpohaa


/-
  CacheAlike: the walk.
-/
set_option linter.unusedVariables false
set_option linter.unusedSimpArgs false
set_option maxRecDepth 100000
namespace Go.Proofs.Yteeamlidmkpohaa
open Go.RowKit Go.Sort

theorem Dk.writes_n (D : Dk) (k : Int) (l : List Int) : (D.writes k l).n = D.n := by
  unfold Dk.writes
  split
  · rfl
  · split
    · rfl
    · exact Dk.write_n D k l
theorem Dk.syncs_n (D : Dk) : D.syncs.n = D.n := by
  unfold Dk.syncs
  split
  · rfl
  · exact Dk.sync_n D
theorem fullL9_bytey (b : Int) : Bytey (fullL9 b) := (fullL9_sec b).2
theorem wake_may {D : Dk} (h : D.n = 6) (fs : List Int) {k : Int} (h0 : 0 ≤ k) (h1 : k < 6) : (D.wake fs).may k = 0 := mayOk rfl (by show k < D.n; omega) h0
theorem IntsIs.lt0 {w : World} {v : Value} {l : List Int} (h : IntsIs w v l) : l ≠ [] → ∀ k, v.ownBlock = some k → k < w.heap.size := fun hl => h.lt hl

set_option maxHeartbeats 1000000 in
theorem cacheAlike_long (w : World) (a b : Int) (v2 v3 : Value) (l : List Do8) (fs : List Int) (hl : DosIs w v2 l) (hf : IntsIs w v3 fs) (hlong : 80 < l.length ∨ 1000 < fs.length) :
    Calls Try.prog 23 #[.int .i64 a, .int .i64 b, v2, v3] w fun e w' => e = .returned (.bool true) ∧ Below w.heap.size w w' := by
  obtain ⟨A, c, rfl, hlc, hcm, hA⟩ := hl
  obtain ⟨B, cb, rfl, hbc, hbm, hB⟩ := hf
  by_cases h1 : 80 < l.length
  · go_enter Try.func23, Try.ntmps23
    go_wp2_with (go_at_call 103; refine (awake09 _).mono ?_; rintro e w1 ⟨rfl, hb⟩)
    go_ret
    exact ⟨rfl, hb⟩
  · have h2 : 1000 < fs.length := by omega
    go_enter Try.func23, Try.ntmps23
    go_wp2_with (go_at_call 103; refine (awake09 _).mono ?_; rintro e w1 ⟨rfl, hb⟩)
    go_ret
    exact ⟨rfl, hb⟩

/-- the state of the law between two steps -/
def Al (w0 w : World) (p ms mo c mk p2 ms2 mo2 c2 mk2 p3 ms3 mo3 : Nat) (N : Int) : Prop :=
  ∃ K Y K2 Y2 D, Trio w0 w p ms mo c mk K Y D p2 ms2 mo2 c2 mk2 K2 Y2 D p3 ms3 mo3 D ∧ FitN K D N ∧ FitN K2 D N ∧ D.n = 6

set_option maxHeartbeats 8000000 in
theorem cacheAlike_walk (w : World) (a b : Int) (v2 v3 : Value) (l : List Do8) (fs : List Int) (ha : In64 a) (hb0 : In64 b) (hl : DosIs w v2 l) (hf : IntsIs w v3 fs) (h80 : l.length ≤ 80) (h1000 : fs.length ≤ 1000) :
    Calls Try.prog 23 #[.int .i64 a, .int .i64 b, v2, v3] w fun e w' => e = .returned (.bool true) ∧ Below w.heap.size w w' := by
  have hf0 := hf
  obtain ⟨A, cp, rfl, hlc, hcm, hA⟩ := hl
  obtain ⟨B, cb, rfl, hbc, hbm, hB⟩ := hf
  have HF := Lib.hid hf0
  clear hf0 hB hbc hbm
  unfold In64 at ha hb0
  have q1 := Int.emod_nonneg a (show (9 : Int) ≠ 0 by decide)
  have q2 := Int.emod_lt_of_pos a (show (0 : Int) < 9 by decide)
  have q3 := Int.emod_nonneg b (show (9 : Int) ≠ 0 by decide)
  have q4 := Int.emod_lt_of_pos b (show (0 : Int) < 9 by decide)
  obtain ⟨x, hx⟩ : ∃ x, a % 9 = x := ⟨_, rfl⟩
  obtain ⟨y, hy⟩ : ∃ y, b % 9 = y := ⟨_, rfl⟩
  rw [hx] at q1 q2
  rw [hy] at q3 q4
  have P1 : Hid (∀ W, Calls Try.prog 31 #[.int .i64 a, .int .i64 9] W fun e w' => e = .returned (.int .i64 x) ∧ W = w') := Lib.hid (fun W => by
    refine (pick_pos a 9 W (by decide) (by decide) ha.1 ha.2).mono ?_
    rintro e w' ⟨rfl, rfl⟩
    exact ⟨by rw [hx], rfl⟩)
  have P2 : Hid (∀ W, Calls Try.prog 31 #[.int .i64 b, .int .i64 9] W fun e w' => e = .returned (.int .i64 y) ∧ W = w') := Lib.hid (fun W => by
    refine (pick_pos b 9 W (by decide) (by decide) hb0.1 hb0.2).mono ?_
    rintro e w' ⟨rfl, rfl⟩
    exact ⟨by rw [hy], rfl⟩)
  clear hx hy ha hb0
  go_enter Try.func23, Try.ntmps23
  go_wp2_with
    (first
      | (go_at_call 103; refine (awake09 _).mono ?_; rintro e w1 ⟨rfl, hb1⟩)
      | (go_at_call 50; refine (Dev.newF _ hD2.be 6 (by decide) (by decide)).mono ?_; rintro e w4 ⟨p3, ms3, mo3, rfl, hD3, hn3, hb4⟩)
      | (go_at_call 50; refine (Dev.newF _ hD1.be 6 (by decide) (by decide)).mono ?_; rintro e w3 ⟨p2, ms2, mo2, rfl, hD2, hn2, hb3⟩)
      | (go_at_call 50; refine (Dev.newF _ hb1 6 (by decide) (by decide)).mono ?_; rintro e w2 ⟨p, ms, mo, rfl, hD1, hn1, hb2⟩)
      | (go_at_call 31; refine (P1.out _).mono ?_; clear P1; rintro e w6 ⟨rfl, rfl⟩)
      | (go_at_call 31; refine (P2.out _).mono ?_; rintro e w6 ⟨rfl, rfl⟩)
      | (go_at_call 65; refine (CD.newF (hD2.below (below_trans' hb4 hb5)) (1 + y) (by omega) (by omega)).mono ?_; rintro e w6 ⟨c2, mk2, rfl, hC2, hm2, hb6⟩)
      | (go_at_call 65; refine (CD.newF ((hD1.below hb3).below hb4) (1 + x) (by omega) (by omega)).mono ?_; rintro e w5 ⟨c, mk, rfl, hC1, hm1, hb5⟩))
  have hP : Al w w6 p ms mo c mk p2 ms2 mo2 c2 mk2 p3 ms3 mo3 (0 : Nat) := by
    have hT : Trio w w6 p ms mo c mk ⟨1 + x, 0, 0, 0, []⟩ (fun _ => False) (Dk.new 6) p2 ms2 mo2 c2 mk2 ⟨1 + y, 0, 0, 0, []⟩ (fun _ => False) (Dk.new 6) p3 ms3 mo3 (Dk.new 6) :=
      Trio.new (hC1.below hb6) hC2 ((hD3.below hb5).below hb6) (z1 := w2.heap.size) (z2 := w3.heap.size) (z3 := w4.heap.size) (z4 := w5.heap.size) (fun b e => hD1.lt b e) (fun b e => ⟨hn2 b e, hD2.lt b e⟩) (fun b e => ⟨hn3 b e, hD3.lt b e⟩) (fun b e => ⟨hm1 b e, (hC1.ca.cf b e).2⟩) hm2 hb3.size hb4.size hb5.size
    exact ⟨_, _, _, _, _, hT, FitN.new, FitN.new, rfl⟩
  clear hD1 hD2 hD3 hC1 hC2 hb1 hb2 hb3 hb4 hb5 hb6 hn1 hn2 hn3 hm1 hm2
  go_loopw [14] (fun t wr => ∃ k : Nat, k ≤ l.length ∧ t = .int .i64 k ∧ Al w wr p ms mo c mk p2 ms2 mo2 c2 mk2 p3 ms3 mo3 k) (fun t _ => l.length - (intOf t).toNat)
  case atStart => exact ⟨0, by omega, rfl, hP⟩
  case round =>
    clear hP
    obtain ⟨k, hk, rfl, K, Y, K2, Y2, D, hT, hi, hi2, hn⟩ := hrel
    by_cases hlt : k < l.length
    · obtain ⟨ad, z, rfl, hz, hdo0⟩ := hA.at_ k hlt
      obtain ⟨s1, s2⟩ := hdo0.i1
      obtain ⟨o1, o2⟩ := hdo0.i0
      obtain ⟨b1, b2⟩ := hdo0.i3
      have r1 := Int.emod_nonneg z.sec (show (8 : Int) ≠ 0 by decide)
      have r2 := Int.emod_lt_of_pos z.sec (show (0 : Int) < 8 by decide)
      obtain ⟨s, hs⟩ : ∃ s, z.sec % 8 = s := ⟨_, rfl⟩
      rw [hs] at r1 r2
      have r3 := Int.emod_nonneg z.op (show (5 : Int) ≠ 0 by decide)
      have r4 := Int.emod_lt_of_pos z.op (show (0 : Int) < 5 by decide)
      obtain ⟨o, ho⟩ : ∃ o, z.op % 5 = o := ⟨_, rfl⟩
      rw [ho] at r3 r4
      have P3 : Hid (∀ W, Calls Try.prog 31 #[.int .i64 z.sec, .int .i64 8] W fun e w' => e = .returned (.int .i64 s) ∧ W = w') := Lib.hid (fun W => by
        refine (pick_pos z.sec 8 W (by decide) (by decide) s1 s2).mono ?_
        rintro e w' ⟨rfl, rfl⟩
        exact ⟨by rw [hs], rfl⟩)
      have P4 : Hid (∀ W, Calls Try.prog 31 #[.int .i64 z.op, .int .i64 5] W fun e w' => e = .returned (.int .i64 o) ∧ W = w') := Lib.hid (fun W => by
        refine (pick_pos z.op 5 W (by decide) (by decide) o1 o2).mono ?_
        rintro e w' ⟨rfl, rfl⟩
        exact ⟨by rw [ho], rfl⟩)
      have hdo := hdo0.below hT.a.dv.be
      have c0 := hdo.c0
      have c1 := hdo.c1
      have c3 := hdo.c3
      have HDO := Lib.hid hdo0
      have HK : Hid ((k : Int) < 1000000000) := Lib.hid (by omega)
      have HN := Lib.hid hn
      have HI := Lib.hid hi
      have HI2 := Lib.hid hi2
      have HZ := Lib.hid hz
      clear hs ho hdo hdo0 hn hi hi2 hz s1 s2 o1 o2
      by_cases hy0 : o = 0
      · subst hy0
        have hne : (D.scode != D.scode) = false := by simp
        go_wp2_with
          (first
            | (go_at_call 31; refine (P3.out _).mono ?_; clear P3; rintro e w7 ⟨rfl, rfl⟩)
            | (go_at_call 31; refine (P4.out _).mono ?_; rintro e w7 ⟨rfl, rfl⟩)
            | (go_at_call 51; refine hT.dsync.mono ?_; rintro e w7 ⟨rfl, hT7⟩)
            | (go_at_call 109; refine hT8.bsync.mono ?_; rintro e w9 ⟨rfl, hT9⟩)
            | (go_at_call 109; refine hT7.async.mono ?_; rintro e w8 ⟨rfl, hT8⟩))
        go_roundw
        case rel => exact ⟨k + 1, by omega, by go_num, _, _, _, _, _, hT9, HI.out.syncs.mono (by omega), HI2.out.syncs.mono (by omega), by rw [Dk.syncs_n]; exact HN.out⟩
        case measure => simp [intOf]; omega
      · by_cases hy12 : o = 1 ∨ o = 2
        · have hne : (D.wcode (s - 1) (fullL9 z.byte) != D.wcode (s - 1) (fullL9 z.byte)) = false := by simp
          rcases hy12 with rfl | rfl
          iterate 2
            · clear hy0
              go_wp2_with
                (first
                  | (go_at_call 31; refine (P3.out _).mono ?_; clear P3; rintro e w7 ⟨rfl, rfl⟩)
                  | (go_at_call 31; refine (P4.out _).mono ?_; rintro e w7 ⟨rfl, rfl⟩)
                  | (go_at_call 108; refine (full9_any _ _ b1 b2).mono ?_; rintro e x5 ⟨u5, rfl, hu5, hbx5⟩; have hT5 := hT4.below hbx5; have hv5 := BytesIs.of_own (fullL9_sec _).1 hu5; have hq5 : Hid (∀ b, u5.ownBlock = some b → ¬ Qs p2 ms2 mo2 c2 mk2 Y2 b) := Lib.hid (fun b e e2 => by have := own_fresh hu5 b e; have := (hT4.b.qs b e2).2; omega); have hdz := HDO.out.below hT5.a.dv.be; have d0 := hdz.c0; have d1 := hdz.c1; have d3 := hdz.c3; have HV5 := Lib.hid hv5; clear hdz hv5 hu5)
                  | (go_at_call 108; refine (full9_any _ _ b1 b2).mono ?_; rintro e x3 ⟨u3, rfl, hu3, hbx3⟩; have hT3 := hT2.below hbx3; have hv3 := BytesIs.of_own (fullL9_sec _).1 hu3; have hq3 : Hid (∀ b, u3.ownBlock = some b → ¬ Qs p ms mo c mk Y b) := Lib.hid (fun b e e2 => by have := own_fresh hu3 b e; have := (hT2.a.qs b e2).2; omega); have hdz := HDO.out.below hT3.a.dv.be; have f0 := hdz.c0; have f1 := hdz.c1; have f3 := hdz.c3; have HV3 := Lib.hid hv3; clear hdz hv3 hu3)
                  | (go_at_call 108; refine (full9_any _ _ b1 b2).mono ?_; rintro e x1 ⟨u1, rfl, hu1, hbx1⟩; have hT1 := hT.below hbx1; have hv1 := BytesIs.of_own (fullL9_sec _).1 hu1; have hdz := HDO.out.below hT1.a.dv.be; have e0 := hdz.c0; have e1 := hdz.c1; have e3 := hdz.c3; have HV1 := Lib.hid hv1; clear hdz hv1 hu1)
                  | (go_at_call 52; refine (hT1.dwrite _ HV1.out (fullL9_bytey _)).mono ?_; rintro e x2 ⟨rfl, hT2⟩; have hdz := HDO.out.below hT2.a.dv.be; have g0 := hdz.c0; have g1 := hdz.c1; have g3 := hdz.c3; clear hdz)
                  | (go_at_call 107; refine (hT5.bwrite HI2.out _ HV5.out (fullL9_bytey _) hq5.out HK.out).mono ?_; rintro e x6 ⟨K6, Y6, rfl, hT6, hi6⟩; have HI6 := Lib.hid hi6; clear hi6)
                  | (go_at_call 107; refine (hT3.awrite HI.out _ HV3.out (fullL9_bytey _) hq3.out HK.out).mono ?_; rintro e x4 ⟨K4, Y4, rfl, hT4, hi4⟩; have HI4 := Lib.hid hi4; have hdz := HDO.out.below hT4.a.dv.be; have j0 := hdz.c0; have j1 := hdz.c1; have j3 := hdz.c3; clear hdz hi4))
              go_roundw
              case rel => exact ⟨k + 1, by omega, by go_num, _, _, _, _, _, hT6, HI4.out, HI6.out, by rw [Dk.writes_n]; exact HN.out⟩
              case measure => simp [intOf]; omega
        · have hne : (D.may (s - 1) != D.may (s - 1)) = false := by simp
          have ho3 : o = 3 ∨ o = 4 := by omega
          rcases ho3 with rfl | rfl
          iterate 2
            · clear hy0 hy12
              go_wp2_with
                (first
                  | (go_at_call 31; refine (P3.out _).mono ?_; clear P3; rintro e w7 ⟨rfl, rfl⟩)
                  | (go_at_call 31; refine (P4.out _).mono ?_; rintro e w7 ⟨rfl, rfl⟩)
                  | (go_at_call 55; refine (hT.d.reads _).mono ?_; rintro e x1 ⟨u1, rfl, hu1, hm1, hbx1⟩; have hT1 := hT.below hbx1; have HU1 := Lib.hid hu1; have HM1 := Lib.hid hm1; clear hu1 hm1)
                  | (go_at_call 105; refine (hT2.bread HI2.out _ HK.out).mono ?_; rintro e x3 ⟨u3, K3, Y3, rfl, hu3, hm3, hT3, hi3, hc3⟩
                     have HI3 := Lib.hid hi3
                     have HU13 := Lib.hid (HU12.out.chg hc3 (fun b e e2 => by have := HM1.out b e; have := (hT.b.ca.cf b e2).2; omega))
                     have HU23 := Lib.hid (HU2.out.chg hc3 (fun b e e2 => by have := HM2.out b e; have := (hT1.b.ca.cf b e2).2; omega))
                     have HU3 := Lib.hid hu3
                     clear hi3 hc3 hu3 hm3)
                  | (go_at_call 105; refine (hT1.aread HI.out _ HK.out).mono ?_; rintro e x2 ⟨u2, K2', Y2', rfl, hu2, hm2, hT2, hi2, hc2⟩
                     have HI22 := Lib.hid hi2
                     have HU12 := Lib.hid (HU1.out.chg hc2 (fun b e e2 => by have := HM1.out b e; have := (hT.a.ca.cf b e2).2; omega))
                     have HU2 := Lib.hid hu2
                     have HM2 := Lib.hid hm2
                     clear hi2 hc2 hu2 hm2)
                  | (go_at_call 58; refine (sameBytes_eq _ _ _ _ (HU13.out.below hb4) (HU3.out.below hb4)).mono ?_; rintro e x5 ⟨rfl, hb5⟩; have hT5 := hT4.below hb5)
                  | (go_at_call 58; refine (sameBytes_eq _ _ _ _ HU13.out HU23.out).mono ?_; rintro e x4 ⟨rfl, hb4⟩; have hT4 := hT3.below hb4))
              go_roundw
              case rel => exact ⟨k + 1, by omega, by go_num, _, _, _, _, _, hT5, HI22.out, HI3.out, HN.out⟩
              case measure => simp [intOf]; omega
    · have HN := Lib.hid hn
      have HI : Hid (FitN K D l.length) := Lib.hid (hi.mono (by omega))
      clear hi hi2 hn
      have hff : Hid (∀ V, Below w.heap.size w V → IntsIs V (.slice B fs.length cb) fs) := Lib.hid (fun V hV => HF.out.below hV)
      have HFL := Lib.hid HF.out.lt0
      go_wp2_with
        (first
          | (go_at_call 79; refine (hT5.d.bytes 6 HN.out).mono ?_; rintro e x6 ⟨u6, rfl, hu6, hm6, hb6⟩; have hT6 := hT5.below hb6; have HU56 := Lib.hid (HU5.out.below hb6); have HU6 := Lib.hid hu6; clear hu6 hm6)
          | (go_at_call 79; refine (hT3.b.dv.bytes 6 HN.out).mono ?_; rintro e x5 ⟨u5, rfl, hu5, hm5, hb5⟩; have hT5 := hT3.below hb5; have HU5 := Lib.hid hu5; clear hu5 hm5)
          | (go_at_call 79; refine (hT1.d.bytes 6 HN.out).mono ?_; rintro e x2 ⟨u2, rfl, hu2, hm2, hb2⟩; have hT2 := hT1.below hb2; have HU12 := Lib.hid (HU1.out.below hb2); have HU2 := Lib.hid hu2; clear hu2 hm2)
          | (go_at_call 79; refine (hT.a.dv.bytes 6 HN.out).mono ?_; rintro e x1 ⟨u1, rfl, hu1, hm1, hb1⟩; have hT1 := hT.below hb1; have HU1 := Lib.hid hu1; clear hu1 hm1)
          | (go_at_call 58; refine (sameBytes_eq _ _ _ _ HU56.out HU6.out).mono ?_; rintro e x7 ⟨rfl, hb7⟩; have hT7 := hT6.below hb7)
          | (go_at_call 58; refine (sameBytes_eq _ _ _ _ HU12.out HU2.out).mono ?_; rintro e x3 ⟨rfl, hb3⟩; have hT3 := hT2.below hb3)
          | (go_at_call 54; refine (hT8.dwake_ (hff.out _ hT8.a.dv.be) HFL.out).mono ?_; rintro e x9 ⟨rfl, hT9⟩)
          | (go_at_call 54; refine (hT7.awake_ (hff.out _ hT7.a.dv.be) HFL.out).mono ?_; rintro e x8 ⟨rfl, hT8, hc8⟩)
          | (go_at_call 104; refine hT9.adrop.mono ?_; rintro e x10 ⟨rfl, hT10⟩))
      have hP2 : ∃ K' Y', Trio w x10 p ms mo c mk K' Y' (D.wake fs) p2 ms2 mo2 c2 mk2 K2 Y2 D p3 ms3 mo3 (D.wake fs) ∧ FitN K' (D.wake fs) ((l.length : Int) + (0 : Nat)) :=
        ⟨_, _, hT10, (HI.out.drop _).mono (by simp)⟩
      clear hT hT1 hT2 hT3 hT5 hT6 hT7 hT8 hT9 hT10 HU1 HU12 HU2 HU5 HU56 HU6 hb1 hb2 hb3 hb5 hb6 hb7 hc8 HI
      go_loopw [24] (fun t wq => ∃ q : Nat, q ≤ 6 ∧ t = .int .i64 q ∧ ∃ K' Y', Trio w wq p ms mo c mk K' Y' (D.wake fs) p2 ms2 mo2 c2 mk2 K2 Y2 D p3 ms3 mo3 (D.wake fs) ∧ FitN K' (D.wake fs) ((l.length : Int) + (q : Nat))) (fun t _ => 6 - (intOf t).toNat)
      case atStart => exact ⟨0, by omega, rfl, hP2⟩
      case round =>
        clear hP2
        obtain ⟨q, hq, rfl, K', Y', hT, hi⟩ := hrel
        by_cases hlt : q < 6
        · have hm := wake_may HN.out fs (k := (q : Int)) (by omega) (by omega)
          have HR := Lib.hid (hT.aread hi (q : Int) (by omega))
          have HR2 := Lib.hid (fun V (h : Dev w V p3 ms3 mo3 (D.wake fs)) => h.reads (q : Int))
          have hr1 := HR.out
          have hr2 := HR2.out
          rw [hm] at hr1 hr2
          have HR3 := Lib.hid hr1
          have HR4 := Lib.hid hr2
          clear HR HR2 hr1 hr2 hm hi
          go_wp2_with
            (first
              | (go_at_call 105; refine HR3.out.mono ?_; rintro e y1 ⟨u1, K1, Y1, rfl, hu1, hm1, hT1, hi1, hc1⟩; have HI1 := Lib.hid hi1; have HU1 := Lib.hid hu1; clear hi1 hu1 hm1 hc1)
              | (go_at_call 55; refine (HR4.out _ hT1.d).mono ?_; rintro e y2 ⟨u2, rfl, hu2, hm2, hb2⟩; have hT2 := hT1.below hb2; have HU12 := Lib.hid (HU1.out.below hb2); have HU2 := Lib.hid hu2; clear hu2 hm2)
              | (go_at_call 58; refine (sameBytes_eq _ _ _ _ HU12.out HU2.out).mono ?_; rintro e y3 ⟨rfl, hb3⟩; have hT3 := hT2.below hb3))
          go_roundw
          case rel => exact ⟨q + 1, by omega, by go_num, _, _, hT3, HI1.out.mono (by omega)⟩
          case measure => simp [intOf]; omega
        · go_wp2
          go_ret
          exact ⟨rfl, hT.a.dv.be⟩
theorem cacheAlike_row (w : World) {v0 v1 v2 v3 : Value} {a b : Int} {l : List Do8} {fs : List Int} (A0 : ArgInt v0 a) (A1 : ArgInt v1 b) (A2 : DosIs w v2 l) (A3 : IntsIs w v3 fs ∧ ∀ f ∈ fs, In64 f) :
    Calls Try.prog 23 #[v0, v1, v2, v3] w fun e w' => e = .returned (.bool true) ∧ Below w.heap.size w w' := by
  obtain ⟨rfl, ha⟩ := A0
  obtain ⟨rfl, hb⟩ := A1
  by_cases h1 : 80 < l.length
  · exact cacheAlike_long w a b v2 v3 l fs A2 A3.1 (.inl h1)
  · by_cases h2 : 1000 < fs.length
    · exact cacheAlike_long w a b v2 v3 l fs A2 A3.1 (.inr h2)
    · exact cacheAlike_walk w a b v2 v3 l fs ha hb A2 A3.1 (by omega) (by omega)
end Go.Proofs.Yteeamlidmkpohaa
