/-
  DevArmed.
-/
import Derived.Test.YteeamlidmkpohaaDh
import Derived.Test.YteeamlidmkpohaaLg
set_option linter.unusedVariables false
set_option linter.unusedSimpArgs false
namespace Go.Proofs.Yteeamlidmkpohaa
open Go.RowKit Go.Sort

/-- a step of a life, as it is handed in -/
structure Do8 where
  op : Int
  sec : Int
  n : Int
  byte : Int
  fv : Value
  fs : List Int
def In64 (n : Int) : Prop := -9223372036854775808 ≤ n ∧ n ≤ 9223372036854775807
structure DoAt (w : World) (ad : Addr) (x : Do8) : Prop where
  c0 : w.cell? ad = some (.int .i64 x.op)
  c1 : w.cell? ⟨ad.block, ad.off + 1, none⟩ = some (.int .i64 x.sec)
  c2 : w.cell? ⟨ad.block, ad.off + 2, none⟩ = some (.int .i64 x.n)
  c3 : w.cell? ⟨ad.block, ad.off + 3, none⟩ = some (.int .u8 x.byte)
  c4 : w.cell? ⟨ad.block, ad.off + 4, none⟩ = some x.fv
  ints : IntsIs w x.fv x.fs
  i0 : In64 x.op
  i1 : In64 x.sec
  i2 : In64 x.n
  i3 : 0 ≤ x.byte ∧ x.byte ≤ 255
  i4 : ∀ f ∈ x.fs, In64 f
/-- a list of them -/
def DosAt (w : World) (A : Option Addr) (l : List Do8) : Prop := ∀ i x, l[i]? = some x → ∃ ad, A = some ad ∧ DoAt w (ad.add (i * 5)) x
def DosIs (w : World) (v : Value) (l : List Do8) : Prop := ∃ A c, v = .slice A l.length c ∧ l.length ≤ c ∧ c ≤ maxLen ∧ DosAt w A l

theorem DoAt.below {w w' : World} {ad : Addr} {x : Do8} (h : DoAt w ad x) (hb : Below w.heap.size w w') : DoAt w' ad x :=
  ⟨(hb.cell (cell_lt h.c0)).trans h.c0, (hb.cell (cell_lt h.c1)).trans h.c1, (hb.cell (cell_lt h.c2)).trans h.c2, (hb.cell (cell_lt h.c3)).trans h.c3, (hb.cell (cell_lt h.c4)).trans h.c4, by
    obtain ⟨A, c, e, h1, h2, h3⟩ := h.ints
    exact ⟨A, c, e, h1, h2, h3.below hb⟩, h.i0, h.i1, h.i2, h.i3, h.i4⟩
theorem DosAt.at_ {w : World} {A : Option Addr} {l : List Do8} (h : DosAt w A l) (k : Nat) (hk : k < l.length) : ∃ ad x, A = some ad ∧ l[k]? = some x ∧ DoAt w (ad.add (k * 5)) x := by
  obtain ⟨ad, e, h1⟩ := h k (l[k]) (by simp [hk])
  exact ⟨ad, _, e, by simp [hk], h1⟩

/-- behind i steps of an armed disk -/
def ArmD (D : Dk) (n i : Int) : Prop := D.n = 3 ∧ (i < n → D.armed = n - i ∧ D.down = false) ∧ (n ≤ i → D.down = true)

theorem may_ok {D : Dk} {k : Int} (h : D.down = false) (h2 : k < D.n) (h1 : 0 ≤ k) : D.may k = 0 := by
  rw [Dk.may, h, if_neg (by simp), if_neg (by omega), if_neg (by omega)]
theorem may_down {D : Dk} {k : Int} (h : D.down = true) : D.may k = 9 := by
  rw [Dk.may, if_pos h]
theorem armD_start {z : Int} (h : 0 ≤ z) : ArmD ((Dk.new 3).arm (1 + z)) (1 + z) 0 := by
  have e : (Dk.new 3).arm (1 + z) = { Dk.new 3 with armed := 1 + z } := by
    simp [Dk.arm, Dk.new]
    omega
  rw [e]
  exact ⟨rfl, fun _ => ⟨by simp, rfl⟩, fun h => by omega⟩
theorem armD_crash {D : Dk} {n i : Int} (h : ArmD D n i) (hi : i < n) : ArmD D.crash n (i + 1) ∧ D.crash.down = decide (i = n - 1) := by
  obtain ⟨h1, h2, h3⟩ := h
  obtain ⟨h4, h5⟩ := h2 hi
  have e : D.crash = { D with armed := D.armed - 1, down := decide (D.armed - 1 = 0) } := by
    unfold Dk.crash
    rw [if_pos (by omega)]
  rw [e]
  refine ⟨⟨h1, fun hh => ⟨by show D.armed - 1 = _; omega, by show decide (D.armed - 1 = 0) = false; rw [decide_eq_false_iff_not]; omega⟩, fun hh => by show decide (D.armed - 1 = 0) = true; rw [decide_eq_true_iff]; omega⟩, ?_⟩
  show decide (D.armed - 1 = 0) = decide (i = n - 1)
  rw [decide_eq_decide]
  omega
theorem armD_write {D : Dk} {n i : Int} (h : ArmD D n i) (hi : i < n) (k : Int) (l : List Int) : ArmD (D.write k l) n (i + 1) ∧ (D.write k l).down = decide (i = n - 1) := armD_crash (D := D.put k l) h hi
theorem armD_sync {D : Dk} {n i : Int} (h : ArmD D n i) (hi : i < n) : ArmD D.sync n (i + 1) ∧ D.sync.down = decide (i = n - 1) := by
  have hc := armD_crash h hi
  unfold Dk.sync
  by_cases e : D.crash.down = true
  · rw [if_pos e]; exact hc
  · rw [if_neg e]; exact hc
theorem armD_down {D : Dk} {n i : Int} (h : ArmD D n i) (hi : n ≤ i) : ArmD D n (i + 1) := ⟨h.1, fun hh => by omega, fun _ => h.2.2 hi⟩

set_option maxRecDepth 100000 in
set_option maxHeartbeats 4000000 in
theorem devArmed_walk (w : World) (a : Int) (v : Value) (l : List Do8) (ha : In64 a) (hl : DosIs w v l) :
    Calls Try.prog 10 #[.int .i64 a, v] w fun e w' => e = .returned (.bool true) ∧ Below w.heap.size w w' := by
  obtain ⟨A, c, rfl, hlc, hcm, hA⟩ := hl
  have hB := Below.refl w.heap.size w
  have q1 := ha.1
  have q2 := ha.2
  go_enter Try.func10, Try.ntmps10
  go_wp2_with
    (first
      | (go_at_call 49; refine (awake08 _).mono ?_; rintro e w1 ⟨rfl, hb⟩; replace hB := below_trans' hB hb; clear hb))
  · have hmc : 80 ≤ 80 := by omega
    have hml : 80 ≤ l.length := by omega
    go_wp2_with
      (first
        | (go_at_call 31; refine (pick_pos_b _ _ _ (by omega) (by omega) q1 q2).mono ?_; rintro e w1 ⟨rfl, hb⟩; replace hB := below_trans' hB hb; clear hb; have p1 : 0 ≤ a % 80 := (by omega); have p2 : a % 80 < 80 := (by omega); generalize a % 80 = z at p1 p2 ⊢)
        | (go_at_call 50; refine (Dev.new_ _ hB 3 (by decide) (by decide)).mono ?_; rintro e w2 ⟨rfl, hD, hb⟩; clear hb; generalize w1.heap.size + 2 = p at hD ⊢; generalize w1.heap.size + 1 = mo at hD ⊢; generalize w1.heap.size = ms at hD ⊢)
        | (go_at_call 57; refine (hD.arm _ (by omega)).mono ?_; rintro e w1 ⟨rfl, hD1, hb⟩; replace hD := hD1; clear hD1 hb))
    go_loopw [6] (fun x wr => ∃ k : Nat, k ≤ 80 ∧ x = .int .i64 k ∧ ∃ D, Dev w wr p ms mo D ∧ ArmD D (1 + z) k) (fun x _ => 80 - (intOf x).toNat)
    case atStart => exact ⟨0, by omega, rfl, _, hD, armD_start (by omega)⟩
    case round =>
      obtain ⟨k, hk, rfl, D, hDr, hAD⟩ := hrel
      clear hD
      by_cases hlt : k < 80
      · obtain ⟨ad, x, rfl, hx, hdo0⟩ := hA.at_ k (by omega)
        have hdo := hdo0.below hDr.be
        have c0 := hdo.c0
        have c1 := hdo.c1
        have c3 := hdo.c3
        have hop := hdo.i0
        obtain ⟨s1, s2⟩ := hdo.i1
        obtain ⟨b1, b2⟩ := hdo.i3
        by_cases ho : x.op.tmod 2 = 0
        · rcases Int.lt_trichotomy (k : Int) z with hkz | hkz | hkz
          · have hdn := (hAD.2.1 (by omega)).2
            obtain ⟨hA2, hsd⟩ := armD_sync hAD (by omega)
            have hsd : D.sync.down = false := by rw [hsd, decide_eq_false_iff_not]; omega
            go_wp2_with
              (first
                | (go_at_call 51; refine (hDr.sync0 hdn hsd).mono ?_; rintro e w5 ⟨rfl, hD5, hb⟩; clear hb)
                | (go_at_call 59; refine (hD5.isDown hsd).mono ?_; rintro e w6 ⟨rfl, rfl⟩))
            go_roundw
            case rel => exact ⟨k + 1, by omega, by go_num, _, hD5, by simpa using hA2⟩
            case measure => simp [intOf]; omega
          · subst hkz
            have hdn := (hAD.2.1 (by omega)).2
            obtain ⟨hA2, hsd⟩ := armD_sync hAD (by omega)
            have hsd : D.sync.down = true := by rw [hsd, decide_eq_true_iff]; omega
            go_wp2_with
              (first
                | (go_at_call 51; refine (hDr.sync9 hdn hsd).mono ?_; rintro e w5 ⟨rfl, hD5, hb⟩; clear hb)
                | (go_at_call 59; refine (hD5.isDown hsd).mono ?_; rintro e w6 ⟨rfl, rfl⟩))
            go_roundw
            case rel => exact ⟨k + 1, by omega, by go_num, _, hD5, by simpa using hA2⟩
            case measure => simp [intOf]; omega
          · have hdn := hAD.2.2 (by omega)
            have hA2 := armD_down hAD (by omega)
            go_wp2_with
              (first
                | (go_at_call 51; refine (hDr.syncNo hdn).mono ?_; rintro e w5 ⟨rfl, rfl⟩; have hsd := hdn; have hD5 := hDr)
                | (go_at_call 59; refine (hD5.isDown hsd).mono ?_; rintro e w6 ⟨rfl, rfl⟩))
            go_roundw
            case rel => exact ⟨k + 1, by omega, by go_num, _, hD5, by simpa using hA2⟩
            case measure => simp [intOf]; omega
        · rcases Int.lt_trichotomy (k : Int) z with hkz | hkz | hkz
          · have hdn := (hAD.2.1 (by omega)).2
            have hA2 := fun kk ll => (armD_write hAD (by omega) kk ll).1
            have hwd : ∀ kk ll, (D.write kk ll).down = false := fun kk ll => by rw [(armD_write hAD (by omega) kk ll).2, decide_eq_false_iff_not]; omega
            have hmy : ∀ kk, 0 ≤ kk → kk < 3 → D.may kk = 0 := fun kk h1 h2 => may_ok hdn (by have := hAD.1; omega) h1
            have hDw := hDr.drew
            go_wp2
            go_region_held3 (fun w' => w'.cell? ⟨(ad.add (k * 5)).block, (ad.add (k * 5)).off + 1, none⟩ = some (.int .i64 x.sec) ∧ w'.cell? ⟨(ad.add (k * 5)).block, (ad.add (k * 5)).off + 3, none⟩ = some (.int .u8 x.byte)) (exact ⟨c1, c3⟩)
              (first
                | (go_at_call 31; refine (pick_pos_b _ _ _ (by omega) (by omega) s1 s2).mono ?_; rintro e w5 ⟨rfl, hb⟩; have t1 : 0 ≤ x.sec % 3 := (by omega); have t2 : x.sec % 3 < 3 := (by omega); generalize x.sec % 3 = sk at t1 t2 ⊢; replace hDw := hDw.below hb; (try replace hv := hv.below hb); have hdx := hdo0.below hDw.be; replace c1 := hdx.c1; replace c3 := hdx.c3; clear hb hdx)
                | (go_at_call 53; refine (full_any _ _ b1 b2).mono ?_; rintro e w5 ⟨v, rfl, hv0, hb⟩; have hv := BytesIs.of_own (fullL_sec _).1 hv0; replace hDw := hDw.below hb; have hdx := hdo0.below hDw.be; replace c1 := hdx.c1; replace c3 := hdx.c3; clear hb hdx hv0)
                | (go_at_call 52; refine (hDw.write0 _ (hmy _ (by omega) (by omega)) hv (fullL_sec _) (hwd _ _)).mono ?_; rintro e w5 ⟨rfl, hD5, hb⟩; have hsd := hwd sk (fullL x.byte); have hA3 := hA2 sk (fullL x.byte); have hdx := hdo0.below hD5.be; replace c1 := hdx.c1; replace c3 := hdx.c3; clear hb))
            all_goals
              go_wp2_with
                (first
                  | (go_at_call 59; refine (hD5.isDown hsd).mono ?_; rintro e w6 ⟨rfl, rfl⟩))
              go_roundw
              case rel => exact ⟨k + 1, by omega, by go_num, _, hD5, by simpa using hA3⟩
              case measure => simp [intOf]; omega
          · subst hkz
            have hdn := (hAD.2.1 (by omega)).2
            have hA2 := fun kk ll => (armD_write hAD (by omega) kk ll).1
            have hwd : ∀ kk ll, (D.write kk ll).down = true := fun kk ll => by rw [(armD_write hAD (by omega) kk ll).2, decide_eq_true_iff]; omega
            have hmy : ∀ kk, 0 ≤ kk → kk < 3 → D.may kk = 0 := fun kk h1 h2 => may_ok hdn (by have := hAD.1; omega) h1
            have hDw := hDr.drew
            go_wp2
            go_region_held3 (fun w' => w'.cell? ⟨(ad.add (k * 5)).block, (ad.add (k * 5)).off + 1, none⟩ = some (.int .i64 x.sec) ∧ w'.cell? ⟨(ad.add (k * 5)).block, (ad.add (k * 5)).off + 3, none⟩ = some (.int .u8 x.byte)) (exact ⟨c1, c3⟩)
              (first
                | (go_at_call 31; refine (pick_pos_b _ _ _ (by omega) (by omega) s1 s2).mono ?_; rintro e w5 ⟨rfl, hb⟩; have t1 : 0 ≤ x.sec % 3 := (by omega); have t2 : x.sec % 3 < 3 := (by omega); generalize x.sec % 3 = sk at t1 t2 ⊢; replace hDw := hDw.below hb; (try replace hv := hv.below hb); have hdx := hdo0.below hDw.be; replace c1 := hdx.c1; replace c3 := hdx.c3; clear hb hdx)
                | (go_at_call 53; refine (full_any _ _ b1 b2).mono ?_; rintro e w5 ⟨v, rfl, hv0, hb⟩; have hv := BytesIs.of_own (fullL_sec _).1 hv0; replace hDw := hDw.below hb; have hdx := hdo0.below hDw.be; replace c1 := hdx.c1; replace c3 := hdx.c3; clear hb hdx hv0)
                | (go_at_call 52; refine (hDw.write9 _ (hmy _ (by omega) (by omega)) hv (fullL_sec _) (hwd _ _)).mono ?_; rintro e w5 ⟨rfl, hD5, hb⟩; have hsd := hwd sk (fullL x.byte); have hA3 := hA2 sk (fullL x.byte); have hdx := hdo0.below hD5.be; replace c1 := hdx.c1; replace c3 := hdx.c3; clear hb))
            all_goals
              go_wp2_with
                (first
                  | (go_at_call 59; refine (hD5.isDown hsd).mono ?_; rintro e w6 ⟨rfl, rfl⟩))
              go_roundw
              case rel => exact ⟨k + 1, by omega, by go_num, _, hD5, by simpa using hA3⟩
              case measure => simp [intOf]; omega
          · have hdn := hAD.2.2 (by omega)
            have hA2 := armD_down hAD (by omega)
            have hmy : ∀ kk, D.may kk = 9 := fun kk => may_down hdn
            have hDw := hDr.drew
            go_wp2
            go_region_held3 (fun w' => w'.cell? ⟨(ad.add (k * 5)).block, (ad.add (k * 5)).off + 1, none⟩ = some (.int .i64 x.sec) ∧ w'.cell? ⟨(ad.add (k * 5)).block, (ad.add (k * 5)).off + 3, none⟩ = some (.int .u8 x.byte)) (exact ⟨c1, c3⟩)
              (first
                | (go_at_call 31; refine (pick_pos_b _ _ _ (by omega) (by omega) s1 s2).mono ?_; rintro e w5 ⟨rfl, hb⟩; have t1 : 0 ≤ x.sec % 3 := (by omega); have t2 : x.sec % 3 < 3 := (by omega); generalize x.sec % 3 = sk at t1 t2 ⊢; replace hDw := hDw.below hb; (try replace hv := hv.below hb); have hdx := hdo0.below hDw.be; replace c1 := hdx.c1; replace c3 := hdx.c3; clear hb hdx)
                | (go_at_call 53; refine (full_any _ _ b1 b2).mono ?_; rintro e w5 ⟨v, rfl, hv0, hb⟩; have hv := BytesIs.of_own (fullL_sec _).1 hv0; replace hDw := hDw.below hb; have hdx := hdo0.below hDw.be; replace c1 := hdx.c1; replace c3 := hdx.c3; clear hb hdx hv0)
                | (go_at_call 52; refine (hDw.writeNo _ (hmy _) (by decide) _).mono ?_; rintro e w5 ⟨rfl, rfl⟩; have hsd := hdn; have hA3 := hA2; have hD5 := hDw))
            all_goals
              go_wp2_with
                (first
                  | (go_at_call 59; refine (hD5.isDown hsd).mono ?_; rintro e w6 ⟨rfl, rfl⟩))
              go_roundw
              case rel => exact ⟨k + 1, by omega, by go_num, _, hD5, by simpa using hA3⟩
              case measure => simp [intOf]; omega
      · have hkM : k = 80 := by omega
        subst hkM
        have hf0 : (D.wake []).down = false := rfl
        have hn3 : (D.wake []).n = 3 := hAD.1
        have hmy : (D.wake []).may 0 = 0 := may_ok hf0 (by omega) (by omega)
        have hwd : ∀ l, ((D.wake []).write 0 l).down = false := fun l => by rw [Dk.write_calm rfl]; rfl
        have hsd : ∀ l, ((D.wake []).write 0 l).sync.down = false := fun l => by rw [Dk.write_calm rfl, Dk.sync_calm rfl rfl]; rfl
        go_wp2_with
          (first
            | (go_at_call 54; refine (hDr.wake (IntsIs.nil _) (fun h => absurd rfl h)).mono ?_; rintro e w5 ⟨rfl, hD5, hb⟩; clear hb)
            | (go_at_call 59; refine (hD5.isDown hf0).mono ?_; rintro e w6 ⟨rfl, rfl⟩)
            | (go_at_call 53; refine (full_any _ _ (by decide) (by decide)).mono ?_; rintro e w6 ⟨v, rfl, hv0, hb⟩; have hv := BytesIs.of_own (fullL_sec _).1 hv0; replace hD5 := hD5.below hb; clear hb hv0)
            | (go_at_call 52; refine (hD5.write0 _ hmy hv (fullL_sec _) (hwd _)).mono ?_; rintro e w7 ⟨rfl, hD7, hb⟩; clear hb)
            | (go_at_call 51; refine (hD7.sync0 (hwd _) (hsd _)).mono ?_; rintro e w8 ⟨rfl, hD8, hb⟩; clear hb))
        go_ret
        exact ⟨rfl, hD8.be⟩
  · have hmc : l.length ≤ 80 := by omega
    have hml : l.length ≤ l.length := by omega
    go_wp2_with
      (first
        | (go_at_call 31; refine (pick_pos_b _ _ _ (by omega) (by omega) q1 q2).mono ?_; rintro e w1 ⟨rfl, hb⟩; replace hB := below_trans' hB hb; clear hb; have p1 : 0 ≤ a % 80 := (by omega); have p2 : a % 80 < 80 := (by omega); generalize a % 80 = z at p1 p2 ⊢)
        | (go_at_call 50; refine (Dev.new_ _ hB 3 (by decide) (by decide)).mono ?_; rintro e w2 ⟨rfl, hD, hb⟩; clear hb; generalize w1.heap.size + 2 = p at hD ⊢; generalize w1.heap.size + 1 = mo at hD ⊢; generalize w1.heap.size = ms at hD ⊢)
        | (go_at_call 57; refine (hD.arm _ (by omega)).mono ?_; rintro e w1 ⟨rfl, hD1, hb⟩; replace hD := hD1; clear hD1 hb))
    go_loopw [6] (fun x wr => ∃ k : Nat, k ≤ l.length ∧ x = .int .i64 k ∧ ∃ D, Dev w wr p ms mo D ∧ ArmD D (1 + z) k) (fun x _ => l.length - (intOf x).toNat)
    case atStart => exact ⟨0, by omega, rfl, _, hD, armD_start (by omega)⟩
    case round =>
      obtain ⟨k, hk, rfl, D, hDr, hAD⟩ := hrel
      clear hD
      by_cases hlt : k < l.length
      · obtain ⟨ad, x, rfl, hx, hdo0⟩ := hA.at_ k (by omega)
        have hdo := hdo0.below hDr.be
        have c0 := hdo.c0
        have c1 := hdo.c1
        have c3 := hdo.c3
        have hop := hdo.i0
        obtain ⟨s1, s2⟩ := hdo.i1
        obtain ⟨b1, b2⟩ := hdo.i3
        by_cases ho : x.op.tmod 2 = 0
        · rcases Int.lt_trichotomy (k : Int) z with hkz | hkz | hkz
          · have hdn := (hAD.2.1 (by omega)).2
            obtain ⟨hA2, hsd⟩ := armD_sync hAD (by omega)
            have hsd : D.sync.down = false := by rw [hsd, decide_eq_false_iff_not]; omega
            go_wp2_with
              (first
                | (go_at_call 51; refine (hDr.sync0 hdn hsd).mono ?_; rintro e w5 ⟨rfl, hD5, hb⟩; clear hb)
                | (go_at_call 59; refine (hD5.isDown hsd).mono ?_; rintro e w6 ⟨rfl, rfl⟩))
            go_roundw
            case rel => exact ⟨k + 1, by omega, by go_num, _, hD5, by simpa using hA2⟩
            case measure => simp [intOf]; omega
          · subst hkz
            have hdn := (hAD.2.1 (by omega)).2
            obtain ⟨hA2, hsd⟩ := armD_sync hAD (by omega)
            have hsd : D.sync.down = true := by rw [hsd, decide_eq_true_iff]; omega
            go_wp2_with
              (first
                | (go_at_call 51; refine (hDr.sync9 hdn hsd).mono ?_; rintro e w5 ⟨rfl, hD5, hb⟩; clear hb)
                | (go_at_call 59; refine (hD5.isDown hsd).mono ?_; rintro e w6 ⟨rfl, rfl⟩))
            go_roundw
            case rel => exact ⟨k + 1, by omega, by go_num, _, hD5, by simpa using hA2⟩
            case measure => simp [intOf]; omega
          · have hdn := hAD.2.2 (by omega)
            have hA2 := armD_down hAD (by omega)
            go_wp2_with
              (first
                | (go_at_call 51; refine (hDr.syncNo hdn).mono ?_; rintro e w5 ⟨rfl, rfl⟩; have hsd := hdn; have hD5 := hDr)
                | (go_at_call 59; refine (hD5.isDown hsd).mono ?_; rintro e w6 ⟨rfl, rfl⟩))
            go_roundw
            case rel => exact ⟨k + 1, by omega, by go_num, _, hD5, by simpa using hA2⟩
            case measure => simp [intOf]; omega
        · rcases Int.lt_trichotomy (k : Int) z with hkz | hkz | hkz
          · have hdn := (hAD.2.1 (by omega)).2
            have hA2 := fun kk ll => (armD_write hAD (by omega) kk ll).1
            have hwd : ∀ kk ll, (D.write kk ll).down = false := fun kk ll => by rw [(armD_write hAD (by omega) kk ll).2, decide_eq_false_iff_not]; omega
            have hmy : ∀ kk, 0 ≤ kk → kk < 3 → D.may kk = 0 := fun kk h1 h2 => may_ok hdn (by have := hAD.1; omega) h1
            have hDw := hDr.drew
            go_wp2
            go_region_held3 (fun w' => w'.cell? ⟨(ad.add (k * 5)).block, (ad.add (k * 5)).off + 1, none⟩ = some (.int .i64 x.sec) ∧ w'.cell? ⟨(ad.add (k * 5)).block, (ad.add (k * 5)).off + 3, none⟩ = some (.int .u8 x.byte)) (exact ⟨c1, c3⟩)
              (first
                | (go_at_call 31; refine (pick_pos_b _ _ _ (by omega) (by omega) s1 s2).mono ?_; rintro e w5 ⟨rfl, hb⟩; have t1 : 0 ≤ x.sec % 3 := (by omega); have t2 : x.sec % 3 < 3 := (by omega); generalize x.sec % 3 = sk at t1 t2 ⊢; replace hDw := hDw.below hb; (try replace hv := hv.below hb); have hdx := hdo0.below hDw.be; replace c1 := hdx.c1; replace c3 := hdx.c3; clear hb hdx)
                | (go_at_call 53; refine (full_any _ _ b1 b2).mono ?_; rintro e w5 ⟨v, rfl, hv0, hb⟩; have hv := BytesIs.of_own (fullL_sec _).1 hv0; replace hDw := hDw.below hb; have hdx := hdo0.below hDw.be; replace c1 := hdx.c1; replace c3 := hdx.c3; clear hb hdx hv0)
                | (go_at_call 52; refine (hDw.write0 _ (hmy _ (by omega) (by omega)) hv (fullL_sec _) (hwd _ _)).mono ?_; rintro e w5 ⟨rfl, hD5, hb⟩; have hsd := hwd sk (fullL x.byte); have hA3 := hA2 sk (fullL x.byte); have hdx := hdo0.below hD5.be; replace c1 := hdx.c1; replace c3 := hdx.c3; clear hb))
            all_goals
              go_wp2_with
                (first
                  | (go_at_call 59; refine (hD5.isDown hsd).mono ?_; rintro e w6 ⟨rfl, rfl⟩))
              go_roundw
              case rel => exact ⟨k + 1, by omega, by go_num, _, hD5, by simpa using hA3⟩
              case measure => simp [intOf]; omega
          · subst hkz
            have hdn := (hAD.2.1 (by omega)).2
            have hA2 := fun kk ll => (armD_write hAD (by omega) kk ll).1
            have hwd : ∀ kk ll, (D.write kk ll).down = true := fun kk ll => by rw [(armD_write hAD (by omega) kk ll).2, decide_eq_true_iff]; omega
            have hmy : ∀ kk, 0 ≤ kk → kk < 3 → D.may kk = 0 := fun kk h1 h2 => may_ok hdn (by have := hAD.1; omega) h1
            have hDw := hDr.drew
            go_wp2
            go_region_held3 (fun w' => w'.cell? ⟨(ad.add (k * 5)).block, (ad.add (k * 5)).off + 1, none⟩ = some (.int .i64 x.sec) ∧ w'.cell? ⟨(ad.add (k * 5)).block, (ad.add (k * 5)).off + 3, none⟩ = some (.int .u8 x.byte)) (exact ⟨c1, c3⟩)
              (first
                | (go_at_call 31; refine (pick_pos_b _ _ _ (by omega) (by omega) s1 s2).mono ?_; rintro e w5 ⟨rfl, hb⟩; have t1 : 0 ≤ x.sec % 3 := (by omega); have t2 : x.sec % 3 < 3 := (by omega); generalize x.sec % 3 = sk at t1 t2 ⊢; replace hDw := hDw.below hb; (try replace hv := hv.below hb); have hdx := hdo0.below hDw.be; replace c1 := hdx.c1; replace c3 := hdx.c3; clear hb hdx)
                | (go_at_call 53; refine (full_any _ _ b1 b2).mono ?_; rintro e w5 ⟨v, rfl, hv0, hb⟩; have hv := BytesIs.of_own (fullL_sec _).1 hv0; replace hDw := hDw.below hb; have hdx := hdo0.below hDw.be; replace c1 := hdx.c1; replace c3 := hdx.c3; clear hb hdx hv0)
                | (go_at_call 52; refine (hDw.write9 _ (hmy _ (by omega) (by omega)) hv (fullL_sec _) (hwd _ _)).mono ?_; rintro e w5 ⟨rfl, hD5, hb⟩; have hsd := hwd sk (fullL x.byte); have hA3 := hA2 sk (fullL x.byte); have hdx := hdo0.below hD5.be; replace c1 := hdx.c1; replace c3 := hdx.c3; clear hb))
            all_goals
              go_wp2_with
                (first
                  | (go_at_call 59; refine (hD5.isDown hsd).mono ?_; rintro e w6 ⟨rfl, rfl⟩))
              go_roundw
              case rel => exact ⟨k + 1, by omega, by go_num, _, hD5, by simpa using hA3⟩
              case measure => simp [intOf]; omega
          · have hdn := hAD.2.2 (by omega)
            have hA2 := armD_down hAD (by omega)
            have hmy : ∀ kk, D.may kk = 9 := fun kk => may_down hdn
            have hDw := hDr.drew
            go_wp2
            go_region_held3 (fun w' => w'.cell? ⟨(ad.add (k * 5)).block, (ad.add (k * 5)).off + 1, none⟩ = some (.int .i64 x.sec) ∧ w'.cell? ⟨(ad.add (k * 5)).block, (ad.add (k * 5)).off + 3, none⟩ = some (.int .u8 x.byte)) (exact ⟨c1, c3⟩)
              (first
                | (go_at_call 31; refine (pick_pos_b _ _ _ (by omega) (by omega) s1 s2).mono ?_; rintro e w5 ⟨rfl, hb⟩; have t1 : 0 ≤ x.sec % 3 := (by omega); have t2 : x.sec % 3 < 3 := (by omega); generalize x.sec % 3 = sk at t1 t2 ⊢; replace hDw := hDw.below hb; (try replace hv := hv.below hb); have hdx := hdo0.below hDw.be; replace c1 := hdx.c1; replace c3 := hdx.c3; clear hb hdx)
                | (go_at_call 53; refine (full_any _ _ b1 b2).mono ?_; rintro e w5 ⟨v, rfl, hv0, hb⟩; have hv := BytesIs.of_own (fullL_sec _).1 hv0; replace hDw := hDw.below hb; have hdx := hdo0.below hDw.be; replace c1 := hdx.c1; replace c3 := hdx.c3; clear hb hdx hv0)
                | (go_at_call 52; refine (hDw.writeNo _ (hmy _) (by decide) _).mono ?_; rintro e w5 ⟨rfl, rfl⟩; have hsd := hdn; have hA3 := hA2; have hD5 := hDw))
            all_goals
              go_wp2_with
                (first
                  | (go_at_call 59; refine (hD5.isDown hsd).mono ?_; rintro e w6 ⟨rfl, rfl⟩))
              go_roundw
              case rel => exact ⟨k + 1, by omega, by go_num, _, hD5, by simpa using hA3⟩
              case measure => simp [intOf]; omega
      · have hkM : k = l.length := by omega
        subst hkM
        have hf0 : (D.wake []).down = false := rfl
        have hn3 : (D.wake []).n = 3 := hAD.1
        have hmy : (D.wake []).may 0 = 0 := may_ok hf0 (by omega) (by omega)
        have hwd : ∀ l, ((D.wake []).write 0 l).down = false := fun l => by rw [Dk.write_calm rfl]; rfl
        have hsd : ∀ l, ((D.wake []).write 0 l).sync.down = false := fun l => by rw [Dk.write_calm rfl, Dk.sync_calm rfl rfl]; rfl
        go_wp2_with
          (first
            | (go_at_call 54; refine (hDr.wake (IntsIs.nil _) (fun h => absurd rfl h)).mono ?_; rintro e w5 ⟨rfl, hD5, hb⟩; clear hb)
            | (go_at_call 59; refine (hD5.isDown hf0).mono ?_; rintro e w6 ⟨rfl, rfl⟩)
            | (go_at_call 53; refine (full_any _ _ (by decide) (by decide)).mono ?_; rintro e w6 ⟨v, rfl, hv0, hb⟩; have hv := BytesIs.of_own (fullL_sec _).1 hv0; replace hD5 := hD5.below hb; clear hb hv0)
            | (go_at_call 52; refine (hD5.write0 _ hmy hv (fullL_sec _) (hwd _)).mono ?_; rintro e w7 ⟨rfl, hD7, hb⟩; clear hb)
            | (go_at_call 51; refine (hD7.sync0 (hwd _) (hsd _)).mono ?_; rintro e w8 ⟨rfl, hD8, hb⟩; clear hb))
        go_ret
        exact ⟨rfl, hD8.be⟩
end Go.Proofs.Yteeamlidmkpohaa
