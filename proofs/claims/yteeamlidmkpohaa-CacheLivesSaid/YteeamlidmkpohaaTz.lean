/-
  CacheLives.
-/
import Derived.Test.YteeamlidmkpohaaTy
import Derived.Test.YteeamlidmkpohaaSf
import Derived.Test.YteeamlidmkpohaaCi
set_option linter.unusedVariables false
set_option linter.unusedSimpArgs false
set_option maxRecDepth 100000
namespace Go.Proofs.Yteeamlidmkpohaa
open Go.ChangeShapes Go.WideShapes Go.ChangeAt Go.RowKit Go.Deep

section
variable {H : Type} {enc : TypeId × Value → H} {w : World} {base b0 : Nat} {sp : Nat → Bool} {held : Bool} {r : Reach} {v : Value} {d : DataW H} {p : List MemPlace}
theorem cells134 : Try.prog.cellsOf 134 = 5 := by kernel_rfl
theorem trod_dos9 {fuel : Nat} {cs : List Value} {x : DataW H × List MemPlace} (h : DataW.trod enc Try.prog w base sp held fuel 130 cs = some x) : ∃ v l, cs = [v] ∧ DosIs w v l := by
  rcases open_slice Try.underlying130 h with ⟨rfl, _⟩ | ⟨a, len, cap, m, n, D, Pl, rfl, hb, hl, hm, hmm, _, hx⟩
  · exact ⟨_, [], rfl, none, 0, rfl, Nat.le_refl _, by simp [maxLen], fun i x h => by simp at h⟩
  · have hlm : len ≤ m := by rw [hmm]; split <;> omega
    obtain ⟨l, hll, hp⟩ := exists_list (fun i z => DoAt w (a.add (i * 5)) z) len (fun i hi => by
      obtain ⟨cs', h1, h2⟩ := hx i (by omega)
      rw [cells134] at h1
      obtain ⟨_, h3, h4⟩ := World.cells?_some h1
      obtain ⟨n', hf⟩ := struct_part Try.underlying134 h2
      obtain ⟨y0, hy0⟩ := hf 0 _ rfl
      obtain ⟨y1, hy1⟩ := hf 1 _ rfl
      obtain ⟨y2, hy2⟩ := hf 2 _ rfl
      obtain ⟨y3, hy3⟩ := hf 3 _ rfl
      obtain ⟨y4, hy4⟩ := hf 4 _ rfl
      obtain ⟨z0, e0, w0⟩ := part_int rfl hy0
      obtain ⟨z1, e1, w1⟩ := part_int rfl hy1
      obtain ⟨z2, e2, w2⟩ := part_int rfl hy2
      obtain ⟨z3, e3, w3⟩ := part_byte rfl hy3
      obtain ⟨fv, fs, e4, w4, w5⟩ := part_fates rfl hy4
      have k0 := h4 0 (by omega)
      rw [add_none] at k0
      exact ⟨⟨z0, z1, z2, z3, fv, fs⟩, k0.trans e0, (h4 1 (by omega)).trans e1, (h4 2 (by omega)).trans e2, (h4 3 (by omega)).trans e3, (h4 4 (by omega)).trans e4, w4, w0, w1, w2, w3, w5⟩)
    subst hll
    exact ⟨_, l, rfl, some a, cap, rfl, hl, hm, fun i x hx => ⟨a, rfl, hp i x hx⟩⟩
theorem open_argDos9 (hv : Value.okWide Try.prog w r b0 130 v) (h : DataW.Trod enc Try.prog w base sp held 130 v d p) : ∃ l, DosIs w v l := by
  obtain ⟨a, n, c, rfl⟩ := okWide_slice Try.underlying130 hv
  obtain ⟨fuel, hf⟩ := h
  obtain ⟨v1, fs, e, h1⟩ := trod_dos9 hf
  simp [Value.cells] at e
  subst e
  exact ⟨fs, h1⟩
end
end Go.Proofs.Yteeamlidmkpohaa

namespace Go.Proofs.Yteeamlidmkpohaa
open Go.RowKit Go.Sort
set_option maxRecDepth 100000
theorem cacheLives_none (w : World) (n size : Int) (v : Value) (l : List Do8) (hl : DosIs w v l) (hn : n < 1 ∨ 262144 < n) :
    Calls Try.prog 20 #[.int .i64 n, .int .i64 size, v] w fun e w' => e = .returned (.bool true) ∧ Below w.heap.size w w' := by
  obtain ⟨A, c, rfl, hlc, hcm, hA⟩ := hl
  have HD := Lib.hid (dnew_none w n hn)
  have HR := Lib.hid (rnew_none w n hn)
  have HC := Lib.hid (cnew_nil w size)
  clear hn
  by_cases h80 : 80 < l.length
  all_goals
    go_enter Try.func20, Try.ntmps20
    go_wp2_with
      (first
        | (go_at_call 50; refine HD.out.mono ?_; rintro e w1 ⟨rfl, rfl⟩)
        | (go_at_call 70; refine HR.out.mono ?_; rintro e w1 ⟨rfl, rfl⟩)
        | (go_at_call 65; refine HC.out.mono ?_; rintro e w1 ⟨rfl, rfl⟩)
        | (go_at_call 103; refine (awake09 _).mono ?_; rintro e w1 ⟨rfl, hb⟩))
    go_ret
    exact ⟨rfl, hb⟩
theorem cacheLives_size (w : World) (n size : Int) (v : Value) (l : List Do8) (hl : DosIs w v l) (h1 : 1 ≤ n) (h2 : n ≤ 262144) (hs : size < 1) :
    Calls Try.prog 20 #[.int .i64 n, .int .i64 size, v] w fun e w' => e = .returned (.bool true) ∧ Below w.heap.size w w' := by
  obtain ⟨A, c, rfl, hlc, hcm, hA⟩ := hl
  have hB := Below.refl w.heap.size w
  by_cases h80 : 80 < l.length
  all_goals
    go_enter Try.func20, Try.ntmps20
    go_wp2_with
      (first
        | (go_at_call 50; refine (Dev.new_ _ hB n h1 h2).mono ?_; rintro e w1 ⟨rfl, hD, hb1⟩; have hB1 := below_trans' hB hb1)
        | (go_at_call 70; refine (Ref.new _ _ hB1 n h1 h2).mono ?_; rintro e w2 ⟨rfl, hR, hb2⟩; have hD2 := hD.below hb2; clear hR)
        | (go_at_call 65; refine (cnew_none hD2 size hs).mono ?_; rintro e w3 ⟨rfl, rfl⟩)
        | (go_at_call 103; refine (awake09 _).mono ?_; rintro e w5 ⟨rfl, hb⟩))
    go_ret
    exact ⟨rfl, below_trans' hD2.be hb⟩
end Go.Proofs.Yteeamlidmkpohaa


/-
  CacheLives: the law.
-/
set_option linter.unusedVariables false
set_option linter.unusedSimpArgs false
set_option maxRecDepth 100000
namespace Go.Proofs.Yteeamlidmkpohaa
open Go.RowKit Go.Sort

/-- some state of the life -/
def LfAt (w0 w : World) (p ms mo c mk r x : Nat) (size N : Int) : Prop :=
  ∃ K Y D lv L Z vT T rd, Tri w0 w p ms mo c mk K Y D r lv L Z D x size rd vT T ∧ Inv9 K D T rd size N
theorem LfPost.at_ {w0 w w' : World} {p ms mo c mk r x : Nat} {D : Dk} {size N : Int} (h : LfPost w0 w p ms mo c mk r x D size N w') : ∃ K Y lv L Z vT T rd, Tri w0 w' p ms mo c mk K Y D r lv L Z D x size rd vT T ∧ Inv9 K D T rd size N := by
  obtain ⟨K, Y, lv, L, Z, vT, T, rd, h1, h2, _⟩ := h
  exact ⟨K, Y, lv, L, Z, vT, T, rd, h1, h2⟩

set_option maxHeartbeats 8000000 in
theorem cacheLives_some (w : World) (n size : Int) (v : Value) (l : List Do8) (hl : DosIs w v l) (h1 : 1 ≤ n) (h2 : n ≤ 262144) (hs : 1 ≤ size) (hs2 : size ≤ 9223372036854775807) :
    Calls Try.prog 20 #[.int .i64 n, .int .i64 size, v] w fun e w' => e = .returned (.bool true) ∧ Below w.heap.size w w' := by
  obtain ⟨A, cp, rfl, hlc, hcm, hA0⟩ := hl
  have hB := Below.refl w.heap.size w
  obtain ⟨l', hA, hlc', hl8, hmin⟩ : ∃ l', DosAt w A l' ∧ l'.length ≤ cp ∧ l'.length ≤ 80 ∧ l'.length = min l.length 80 := by
    refine ⟨l.take 80, hA0.take 80, by simp; omega, by simp; omega, by simp; omega⟩
  have hs0 : decide (size < 1) = false := by simpa using hs
  by_cases h80 : 80 < l.length
  · have hm : l'.length = 80 := by omega
    have HM := Lib.hid hm
    clear hmin hm
    go_enter Try.func20, Try.ntmps20
    go_wp2_with
      (first
        | (go_at_call 50; refine (Dev.new_ _ hB n h1 h2).mono ?_; rintro e w1 ⟨rfl, hD, hb1⟩; have hB1 := below_trans' hB hb1)
        | (go_at_call 70; refine (Ref.new _ _ hB1 n h1 h2).mono ?_; rintro e w2 ⟨rfl, hR, hb2⟩; have hD2 := hD.below hb2)
        | (go_at_call 65; refine (cnew_some _ hD2.be hD2 size hs hs2).mono ?_; rintro e w3 ⟨rfl, hca, hb3⟩))
    have hbx := heap_alloc_new w3 (.cells #[.pointer (some ⟨w2.heap.size + 1, 0, none⟩), .pointer (some ⟨w.heap.size + 2, 0, none⟩), .pointer (some ⟨w1.heap.size, 0, none⟩), .int .i64 size, .slice none 0 0, .int .i64 0] 133)
    have hP : LfAt w (w3.alloc (.cells #[.pointer (some ⟨w2.heap.size + 1, 0, none⟩), .pointer (some ⟨w.heap.size + 2, 0, none⟩), .pointer (some ⟨w1.heap.size, 0, none⟩), .int .i64 size, .slice none 0 0, .int .i64 0] 133)) (w.heap.size + 2) w.heap.size (w.heap.size + 1) (w2.heap.size + 1) w2.heap.size w1.heap.size w3.heap.size size 0 := by
      have hba := below_alloc' (Below.refl _ w3) (.cells #[.pointer (some ⟨w2.heap.size + 1, 0, none⟩), .pointer (some ⟨w.heap.size + 2, 0, none⟩), .pointer (some ⟨w1.heap.size, 0, none⟩), .int .i64 size, .slice none 0 0, .int .i64 0] 133)
      have g1 := hb1.size
      have g2 := hb2.size
      have g3 := hb3.size
      have q1 := hD.lt
      have q2 := hR.lt
      have q3 := hca.lt
      have q4 := hca.mp.lt
      refine ⟨_, _, _, _, _, _, .slice none 0 0, [], 0, ⟨⟨(hD2.below hb3).below hba, hca.below hba, fun b e e2 => ?_, fun b e e2 => e2⟩, (hR.below hb3).below hba, ⟨hbx, World.ownsRow_nil _ _ _ _, by omega, by simp; omega⟩, fun b e e2 => ?_, fun b e e2 => ?_, fun b e e2 => ?_⟩, ⟨fun _ => ⟨(fun e he => by cases he), by simp [lastN]⟩, rfl, .nil, rfl, Int.le_refl _, Int.le_refl _, Int.le_refl _⟩⟩
      · have := q1 b e
        rcases e2 with e2 | e2 <;> omega
      · rcases e2 with (e2 | e2) | e2
        · rcases e with e | e | e
          · have := q1 b e; omega
          · rcases e with e | e <;> omega
          · exact e
        · cases e2
        · exact e2
      · rcases e2 with e2 | e2
        · rcases e with e | e | e
          · have := q1 b e; omega
          · rcases e with e | e <;> omega
          · exact e
        · cases e2
      · rcases e2 with e2 | e2
        · rcases e with (e | e) | e
          · omega
          · cases e
          · exact e
        · cases e2
    clear hbx hD hR hD2 hb1 hb2 hb3 hca hB1 hB
    generalize w3.alloc (.cells #[.pointer (some ⟨w2.heap.size + 1, 0, none⟩), .pointer (some ⟨w.heap.size + 2, 0, none⟩), .pointer (some ⟨w1.heap.size, 0, none⟩), .int .i64 size, .slice none 0 0, .int .i64 0] 133) = w4 at hP ⊢
    generalize w.heap.size + 2 = p at hP ⊢
    generalize w.heap.size + 1 = mo at hP ⊢
    generalize hms : w.heap.size = ms at hP ⊢
    generalize w1.heap.size = r at hP ⊢
    generalize w2.heap.size + 1 = c at hP ⊢
    generalize w2.heap.size = mk at hP ⊢
    generalize w3.heap.size = x at hP ⊢
    have HMS := Lib.hid hms
    clear hms
    go_loopw [11] (fun t wr => ∃ k : Nat, k ≤ 80 ∧ t = .int .i64 k ∧ LfAt w wr p ms mo c mk r x size k) (fun t _ => 80 - (intOf t).toNat)
    case atStart => exact ⟨0, by omega, rfl, hP⟩
    case round =>
      obtain ⟨k, hk, rfl, K, Y, D, lv, L, Z, vT, T, rd, hT, hI⟩ := hrel
      clear hP
      have hbr := hT.cd.dv.be
      by_cases hlt : k < 80
      · obtain ⟨ad, y, rfl, hy, hdo0⟩ := hA.at_ k (by have := HM.out; omega)
        have hdo := hdo0.below hbr
        have c0 := hdo.c0
        have c1 := hdo.c1
        have c2 := hdo.c2
        have c3 := hdo.c3
        have c4 := hdo.c4
        have HOK := Lib.hid (fun hl => DoAt.okk hdo0 hdo hl)
        obtain ⟨Af, cf, hfv, hf1, hf2, _⟩ := hdo.ints
        have hfl : y.fs.length ≤ 9223372036854775807 := by simp only [maxLen] at hf2; omega
        have hval : y.val = .agg #[.int .i64 y.op, .int .i64 y.sec, .int .i64 y.n, .int .u8 y.byte, .slice Af y.fs.length cf] := by unfold Do8.val; rw [hfv]
        rw [hfv] at c4
        have HX := Lib.hid hy
        have HBR := Lib.hid hbr
        have HV := Lib.hid hval
        clear hy hdo hdo0 hbr hfv hval hf1 hf2
        by_cases hbig : 1000 < y.fs.length
        · go_wp2_with
            (first
              | (go_at_call 103; refine (awake09 _).mono ?_; rintro e w5 ⟨rfl, hb5⟩))
          go_ret
          exact ⟨rfl, below_trans' HBR.out hb5⟩
        · have hst := hT.lstep9 hI y (HOK.out (by omega)) (by omega) (by omega)
          rw [HV.out] at hst
          have HST := Lib.hid hst
          clear hst
          go_wp2_with
            (first
              | (go_at_call 111; refine HST.out.mono ?_; rintro e w5 ⟨rfl, hsp⟩; obtain ⟨K5, Y5, lv5, L5, Z5, vT5, T5, rd5, hT5, hI5⟩ := hsp.at_; have hneq : ((does9 y D).n != (does9 y D).n) = false := (by simp))
              | (go_at_call 110; refine (hT5.cd.ca.sectors hT5.cd.dv).mono ?_; rintro e w6 ⟨rfl, rfl⟩)
              | (go_at_call 112; refine hT5.rf.sectors.mono ?_; rintro e w6 ⟨rfl, rfl⟩))
          go_roundw
          case rel => exact ⟨k + 1, by omega, by go_num, _, _, _, _, _, _, _, _, _, hT5, hI5⟩
          case measure => simp [intOf]; omega
      · have hk80 : (k : Int) = (80 : Int) := by omega
        rw [hk80] at hI ⊢
        have hP : LfAt w wr p ms mo c mk r x size (80 : Int) := ⟨_, _, _, _, _, _, _, _, _, hT, hI⟩
        have HP := Lib.hid hP
        clear hP hT hI hbr
        go_wp2_with fail
        go_loopw [12] (fun t wq => ∃ k : Nat, k ≤ 80 ∧ t = .int .i64 k ∧ LfAt w wq p ms mo c mk r x size ((80 : Int) + k)) (fun t _ => 80 - (intOf t).toNat)
        case atStart => exact ⟨0, by omega, rfl, by have := HP.out; simpa using this⟩
        case round =>
          obtain ⟨k, hk, rfl, K, Y, D, lv, L, Z, vT, T, rd, hT, hI⟩ := hrel
          have hbr := hT.cd.dv.be
          have hih := hT.cd.ca.h0
          have him := hT.cd.ca.s0
          have hi2 := hI.b2
          have hrd : (K.hits + K.misses == rd) = true := by rw [hI.rd]; simp
          obtain ⟨e0, e1, e2, e3, e4, e5⟩ := hT.lb.cells
          have HBR := Lib.hid hbr
          cases hdn : D.down with
          | true =>
            have HIS := Lib.hid (hT.cd.dv.isDown hdn)
            by_cases hlt : k < 80
            all_goals
              go_wp2_with
                (first
                  | (go_at_call 59; refine HIS.out.mono ?_; rintro e w6 ⟨rfl, rfl⟩)
                  | (go_at_call 106; refine hT.cd.ca.counts.mono ?_; rintro e w7 ⟨rfl, hb7⟩; have g5 := (hb7.cell (p := ⟨x, 5, none⟩) (cell_lt e5)).trans e5)
                  | (go_at_call 103; refine (awake09 _).mono ?_; rintro e w8 ⟨rfl, hb8⟩))
              go_ret
              exact ⟨rfl, below_trans' (below_trans' HBR.out hb7) hb8⟩
          | false =>
            have HIS := Lib.hid (hT.cd.dv.isDown hdn)
            by_cases hlt : k < 80
            · obtain ⟨ad, y, rfl, hy, hdo0⟩ := hA.at_ k (by have := HM.out; omega)
              have c1 := (hdo0.below hbr).c1
              have HST := Lib.hid (hT.lread hI y.sec (by omega))
              clear hy hdo0 hbr
              go_wp2_with
                (first
                  | (go_at_call 59; refine HIS.out.mono ?_; rintro e w6 ⟨rfl, rfl⟩)
                  | (go_at_call 113; refine HST.out.mono ?_; rintro e w5 ⟨rfl, hsp⟩; obtain ⟨K5, Y5, lv5, L5, Z5, vT5, T5, rd5, hT5, hI5⟩ := hsp.at_))
              go_roundw
              case rel => exact ⟨k + 1, by omega, by go_num, _, _, _, _, _, _, _, _, _, hT5, hI5.mono (by omega)⟩
              case measure => simp [intOf]; omega
            · go_wp2_with
                (first
                  | (go_at_call 59; refine HIS.out.mono ?_; rintro e w6 ⟨rfl, rfl⟩)
                  | (go_at_call 106; refine hT.cd.ca.counts.mono ?_; rintro e w7 ⟨rfl, hb7⟩; have g5 := (hb7.cell (p := ⟨x, 5, none⟩) (cell_lt e5)).trans e5)
                  | (go_at_call 103; refine (awake09 _).mono ?_; rintro e w8 ⟨rfl, hb8⟩))
              go_ret
              exact ⟨rfl, below_trans' (below_trans' HBR.out hb7) hb8⟩
  · have hm : l'.length = l.length := by omega
    have hl80 : l.length ≤ 80 := by omega
    have HM := Lib.hid hm
    clear hmin hm
    go_enter Try.func20, Try.ntmps20
    go_wp2_with
      (first
        | (go_at_call 50; refine (Dev.new_ _ hB n h1 h2).mono ?_; rintro e w1 ⟨rfl, hD, hb1⟩; have hB1 := below_trans' hB hb1)
        | (go_at_call 70; refine (Ref.new _ _ hB1 n h1 h2).mono ?_; rintro e w2 ⟨rfl, hR, hb2⟩; have hD2 := hD.below hb2)
        | (go_at_call 65; refine (cnew_some _ hD2.be hD2 size hs hs2).mono ?_; rintro e w3 ⟨rfl, hca, hb3⟩))
    have hbx := heap_alloc_new w3 (.cells #[.pointer (some ⟨w2.heap.size + 1, 0, none⟩), .pointer (some ⟨w.heap.size + 2, 0, none⟩), .pointer (some ⟨w1.heap.size, 0, none⟩), .int .i64 size, .slice none 0 0, .int .i64 0] 133)
    have hP : LfAt w (w3.alloc (.cells #[.pointer (some ⟨w2.heap.size + 1, 0, none⟩), .pointer (some ⟨w.heap.size + 2, 0, none⟩), .pointer (some ⟨w1.heap.size, 0, none⟩), .int .i64 size, .slice none 0 0, .int .i64 0] 133)) (w.heap.size + 2) w.heap.size (w.heap.size + 1) (w2.heap.size + 1) w2.heap.size w1.heap.size w3.heap.size size 0 := by
      have hba := below_alloc' (Below.refl _ w3) (.cells #[.pointer (some ⟨w2.heap.size + 1, 0, none⟩), .pointer (some ⟨w.heap.size + 2, 0, none⟩), .pointer (some ⟨w1.heap.size, 0, none⟩), .int .i64 size, .slice none 0 0, .int .i64 0] 133)
      have g1 := hb1.size
      have g2 := hb2.size
      have g3 := hb3.size
      have q1 := hD.lt
      have q2 := hR.lt
      have q3 := hca.lt
      have q4 := hca.mp.lt
      refine ⟨_, _, _, _, _, _, .slice none 0 0, [], 0, ⟨⟨(hD2.below hb3).below hba, hca.below hba, fun b e e2 => ?_, fun b e e2 => e2⟩, (hR.below hb3).below hba, ⟨hbx, World.ownsRow_nil _ _ _ _, by omega, by simp; omega⟩, fun b e e2 => ?_, fun b e e2 => ?_, fun b e e2 => ?_⟩, ⟨fun _ => ⟨(fun e he => by cases he), by simp [lastN]⟩, rfl, .nil, rfl, Int.le_refl _, Int.le_refl _, Int.le_refl _⟩⟩
      · have := q1 b e
        rcases e2 with e2 | e2 <;> omega
      · rcases e2 with (e2 | e2) | e2
        · rcases e with e | e | e
          · have := q1 b e; omega
          · rcases e with e | e <;> omega
          · exact e
        · cases e2
        · exact e2
      · rcases e2 with e2 | e2
        · rcases e with e | e | e
          · have := q1 b e; omega
          · rcases e with e | e <;> omega
          · exact e
        · cases e2
      · rcases e2 with e2 | e2
        · rcases e with (e | e) | e
          · omega
          · cases e
          · exact e
        · cases e2
    clear hbx hD hR hD2 hb1 hb2 hb3 hca hB1 hB
    generalize w3.alloc (.cells #[.pointer (some ⟨w2.heap.size + 1, 0, none⟩), .pointer (some ⟨w.heap.size + 2, 0, none⟩), .pointer (some ⟨w1.heap.size, 0, none⟩), .int .i64 size, .slice none 0 0, .int .i64 0] 133) = w4 at hP ⊢
    generalize w.heap.size + 2 = p at hP ⊢
    generalize w.heap.size + 1 = mo at hP ⊢
    generalize hms : w.heap.size = ms at hP ⊢
    generalize w1.heap.size = r at hP ⊢
    generalize w2.heap.size + 1 = c at hP ⊢
    generalize w2.heap.size = mk at hP ⊢
    generalize w3.heap.size = x at hP ⊢
    have HMS := Lib.hid hms
    clear hms
    go_loopw [11] (fun t wr => ∃ k : Nat, k ≤ l.length ∧ t = .int .i64 k ∧ LfAt w wr p ms mo c mk r x size k) (fun t _ => l.length - (intOf t).toNat)
    case atStart => exact ⟨0, by omega, rfl, hP⟩
    case round =>
      obtain ⟨k, hk, rfl, K, Y, D, lv, L, Z, vT, T, rd, hT, hI⟩ := hrel
      clear hP
      have hbr := hT.cd.dv.be
      by_cases hlt : k < l.length
      · obtain ⟨ad, y, rfl, hy, hdo0⟩ := hA.at_ k (by have := HM.out; omega)
        have hdo := hdo0.below hbr
        have c0 := hdo.c0
        have c1 := hdo.c1
        have c2 := hdo.c2
        have c3 := hdo.c3
        have c4 := hdo.c4
        have HOK := Lib.hid (fun hl => DoAt.okk hdo0 hdo hl)
        obtain ⟨Af, cf, hfv, hf1, hf2, _⟩ := hdo.ints
        have hfl : y.fs.length ≤ 9223372036854775807 := by simp only [maxLen] at hf2; omega
        have hval : y.val = .agg #[.int .i64 y.op, .int .i64 y.sec, .int .i64 y.n, .int .u8 y.byte, .slice Af y.fs.length cf] := by unfold Do8.val; rw [hfv]
        rw [hfv] at c4
        have HX := Lib.hid hy
        have HBR := Lib.hid hbr
        have HV := Lib.hid hval
        clear hy hdo hdo0 hbr hfv hval hf1 hf2
        by_cases hbig : 1000 < y.fs.length
        · go_wp2_with
            (first
              | (go_at_call 103; refine (awake09 _).mono ?_; rintro e w5 ⟨rfl, hb5⟩))
          go_ret
          exact ⟨rfl, below_trans' HBR.out hb5⟩
        · have hst := hT.lstep9 hI y (HOK.out (by omega)) (by omega) (by omega)
          rw [HV.out] at hst
          have HST := Lib.hid hst
          clear hst
          go_wp2_with
            (first
              | (go_at_call 111; refine HST.out.mono ?_; rintro e w5 ⟨rfl, hsp⟩; obtain ⟨K5, Y5, lv5, L5, Z5, vT5, T5, rd5, hT5, hI5⟩ := hsp.at_; have hneq : ((does9 y D).n != (does9 y D).n) = false := (by simp))
              | (go_at_call 110; refine (hT5.cd.ca.sectors hT5.cd.dv).mono ?_; rintro e w6 ⟨rfl, rfl⟩)
              | (go_at_call 112; refine hT5.rf.sectors.mono ?_; rintro e w6 ⟨rfl, rfl⟩))
          go_roundw
          case rel => exact ⟨k + 1, by omega, by go_num, _, _, _, _, _, _, _, _, _, hT5, hI5⟩
          case measure => simp [intOf]; omega
      · obtain rfl : k = l.length := by omega
        have hP : LfAt w wr p ms mo c mk r x size (l.length : Int) := ⟨_, _, _, _, _, _, _, _, _, hT, hI⟩
        have HP := Lib.hid hP
        clear hP hT hI hbr
        go_wp2_with fail
        go_loopw [12] (fun t wq => ∃ k : Nat, k ≤ l.length ∧ t = .int .i64 k ∧ LfAt w wq p ms mo c mk r x size ((l.length : Int) + k)) (fun t _ => l.length - (intOf t).toNat)
        case atStart => exact ⟨0, by omega, rfl, by have := HP.out; simpa using this⟩
        case round =>
          obtain ⟨k, hk, rfl, K, Y, D, lv, L, Z, vT, T, rd, hT, hI⟩ := hrel
          have hbr := hT.cd.dv.be
          have hih := hT.cd.ca.h0
          have him := hT.cd.ca.s0
          have hi2 := hI.b2
          have hrd : (K.hits + K.misses == rd) = true := by rw [hI.rd]; simp
          obtain ⟨e0, e1, e2, e3, e4, e5⟩ := hT.lb.cells
          have HBR := Lib.hid hbr
          cases hdn : D.down with
          | true =>
            have HIS := Lib.hid (hT.cd.dv.isDown hdn)
            by_cases hlt : k < l.length
            all_goals
              go_wp2_with
                (first
                  | (go_at_call 59; refine HIS.out.mono ?_; rintro e w6 ⟨rfl, rfl⟩)
                  | (go_at_call 106; refine hT.cd.ca.counts.mono ?_; rintro e w7 ⟨rfl, hb7⟩; have g5 := (hb7.cell (p := ⟨x, 5, none⟩) (cell_lt e5)).trans e5)
                  | (go_at_call 103; refine (awake09 _).mono ?_; rintro e w8 ⟨rfl, hb8⟩))
              go_ret
              exact ⟨rfl, below_trans' (below_trans' HBR.out hb7) hb8⟩
          | false =>
            have HIS := Lib.hid (hT.cd.dv.isDown hdn)
            by_cases hlt : k < l.length
            · obtain ⟨ad, y, rfl, hy, hdo0⟩ := hA.at_ k (by have := HM.out; omega)
              have c1 := (hdo0.below hbr).c1
              have HST := Lib.hid (hT.lread hI y.sec (by omega))
              clear hy hdo0 hbr
              go_wp2_with
                (first
                  | (go_at_call 59; refine HIS.out.mono ?_; rintro e w6 ⟨rfl, rfl⟩)
                  | (go_at_call 113; refine HST.out.mono ?_; rintro e w5 ⟨rfl, hsp⟩; obtain ⟨K5, Y5, lv5, L5, Z5, vT5, T5, rd5, hT5, hI5⟩ := hsp.at_))
              go_roundw
              case rel => exact ⟨k + 1, by omega, by go_num, _, _, _, _, _, _, _, _, _, hT5, hI5.mono (by omega)⟩
              case measure => simp [intOf]; omega
            · go_wp2_with
                (first
                  | (go_at_call 59; refine HIS.out.mono ?_; rintro e w6 ⟨rfl, rfl⟩)
                  | (go_at_call 106; refine hT.cd.ca.counts.mono ?_; rintro e w7 ⟨rfl, hb7⟩; have g5 := (hb7.cell (p := ⟨x, 5, none⟩) (cell_lt e5)).trans e5)
                  | (go_at_call 103; refine (awake09 _).mono ?_; rintro e w8 ⟨rfl, hb8⟩))
              go_ret
              exact ⟨rfl, below_trans' (below_trans' HBR.out hb7) hb8⟩
theorem cacheLives_row (w : World) {v0 v1 v2 : Value} {a b : Int} {l : List Do8} (A0 : ArgInt v0 a) (A1 : ArgInt v1 b) (A2 : DosIs w v2 l) :
    Calls Try.prog 20 #[v0, v1, v2] w fun e w' => e = .returned (.bool true) ∧ Below w.heap.size w w' := by
  obtain ⟨rfl, _⟩ := A0
  obtain ⟨rfl, hb⟩ := A1
  by_cases h : 1 ≤ a ∧ a ≤ 262144
  · by_cases hs : 1 ≤ b
    · exact cacheLives_some w a b v2 l A2 h.1 h.2 hs hb.2
    · exact cacheLives_size w a b v2 l A2 h.1 h.2 (by omega)
  · exact cacheLives_none w a b v2 l A2 (by omega)
end Go.Proofs.Yteeamlidmkpohaa
