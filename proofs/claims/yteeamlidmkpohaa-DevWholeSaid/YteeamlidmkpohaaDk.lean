/-
  DevWhole: the walk.
-/
import Derived.Test.YteeamlidmkpohaaDj
set_option linter.unusedVariables false
set_option linter.unusedSimpArgs false
namespace Go.Proofs.Yteeamlidmkpohaa
open Go.RowKit Go.Sort

set_option maxRecDepth 100000 in
set_option maxHeartbeats 1000000 in
theorem devWhole_long (w : World) (v0 v1 : Value) (l : List Do8) (fs : List Int) (hl : DosIs w v0 l) (hf : IntsIs w v1 fs) (hlong : 80 < l.length ∨ 1000 < fs.length) :
    Calls Try.prog 7 #[v0, v1] w fun e w' => e = .returned (.bool true) ∧ Below w.heap.size w w' := by
  obtain ⟨A, c, rfl, hlc, hcm, hA⟩ := hl
  obtain ⟨B, cb, rfl, hbc, hbm, hB⟩ := hf
  by_cases h1 : 80 < l.length
  · go_enter Try.func7, Try.ntmps7
    go_wp2_with
      (first
        | (go_at_call 49; refine (awake08 _).mono ?_; rintro e w1 ⟨rfl, hb⟩))
    go_ret
    exact ⟨rfl, hb⟩
  · have h2 : 1000 < fs.length := by omega
    go_enter Try.func7, Try.ntmps7
    go_wp2_with
      (first
        | (go_at_call 49; refine (awake08 _).mono ?_; rintro e w1 ⟨rfl, hb⟩))
    go_ret
    exact ⟨rfl, hb⟩

set_option maxRecDepth 100000 in
set_option maxHeartbeats 1000000 in
theorem devWhole_walk (w : World) (v0 v1 : Value) (l : List Do8) (fs : List Int) (hl : DosIs w v0 l) (hf : IntsIs w v1 fs) (h80 : l.length ≤ 80) (h1000 : fs.length ≤ 1000) :
    Calls Try.prog 7 #[v0, v1] w fun e w' => e = .returned (.bool true) ∧ Below w.heap.size w w' := by
  have hf0 := hf
  obtain ⟨A, c, rfl, hlc, hcm, hA⟩ := hl
  obtain ⟨B, cb, rfl, hbc, hbm, hB⟩ := hf
  go_enter Try.func7, Try.ntmps7
  go_wp2_with
    (first
      | (go_at_call 49; refine (awake08 _).mono ?_; rintro e w1 ⟨rfl, hb⟩)
      | (go_at_call 50; refine (Dev.new_ _ hb 6 (by decide) (by decide)).mono ?_; rintro e w2 ⟨rfl, hD, hb2⟩; clear hb2; generalize w1.heap.size + 2 = p at hD ⊢; generalize w1.heap.size + 1 = mo at hD ⊢; generalize w1.heap.size = ms at hD ⊢))
  have hg0 : w.heap.size ≤ w2.heap.size := hD.be.size
  have hp1 := hD.at_.lt
  have hp2 := hD.at_.sm.lt
  have hp3 := hD.at_.om.lt
  have r6 : RowOf (((w2.alloc (.cells #[.int .u8 0, .int .u8 0, .int .u8 0, .int .u8 0, .int .u8 0, .int .u8 0] 40)).alloc (.cells #[.int .u8 0, .int .u8 0, .int .u8 0, .int .u8 0, .int .u8 0, .int .u8 0] 40)).alloc (.cells #[.bool false, .bool false, .bool false, .bool false, .bool false, .bool false] 41)) w2.heap.size 40 6 (fun _ => .int .u8 0) := by
    unfold RowOf
    rw [Below.heap_alloc _ _ _ (by simp; omega), Below.heap_alloc _ _ _ (by simp), heap_alloc_new]
    rfl
  have r7 : RowOf (((w2.alloc (.cells #[.int .u8 0, .int .u8 0, .int .u8 0, .int .u8 0, .int .u8 0, .int .u8 0] 40)).alloc (.cells #[.int .u8 0, .int .u8 0, .int .u8 0, .int .u8 0, .int .u8 0, .int .u8 0] 40)).alloc (.cells #[.bool false, .bool false, .bool false, .bool false, .bool false, .bool false] 41)) (w2.heap.size + 1) 40 6 (fun _ => .int .u8 0) := by
    unfold RowOf
    rw [Below.heap_alloc _ _ _ (by simp), heap_alloc2_new]
    rfl
  have r8 : RowOf (((w2.alloc (.cells #[.int .u8 0, .int .u8 0, .int .u8 0, .int .u8 0, .int .u8 0, .int .u8 0] 40)).alloc (.cells #[.int .u8 0, .int .u8 0, .int .u8 0, .int .u8 0, .int .u8 0, .int .u8 0] 40)).alloc (.cells #[.bool false, .bool false, .bool false, .bool false, .bool false, .bool false] 41)) (w2.heap.size + 1 + 1) 41 6 (fun _ => .bool false) := by
    unfold RowOf
    have := heap_alloc2_new (w2.alloc (.cells #[.int .u8 0, .int .u8 0, .int .u8 0, .int .u8 0, .int .u8 0, .int .u8 0] 40)) (.cells #[.int .u8 0, .int .u8 0, .int .u8 0, .int .u8 0, .int .u8 0, .int .u8 0] 40) (.cells #[.bool false, .bool false, .bool false, .bool false, .bool false, .bool false] 41)
    rw [World.size_alloc] at this
    exact this
  have hD1 := hD.below (below_alloc' (below_alloc' (below_alloc' (Below.refl _ w2) (.cells #[.int .u8 0, .int .u8 0, .int .u8 0, .int .u8 0, .int .u8 0, .int .u8 0] 40)) (.cells #[.int .u8 0, .int .u8 0, .int .u8 0, .int .u8 0, .int .u8 0, .int .u8 0] 40)) (.cells #[.bool false, .bool false, .bool false, .bool false, .bool false, .bool false] 41))
  generalize ((w2.alloc (.cells #[.int .u8 0, .int .u8 0, .int .u8 0, .int .u8 0, .int .u8 0, .int .u8 0] 40)).alloc (.cells #[.int .u8 0, .int .u8 0, .int .u8 0, .int .u8 0, .int .u8 0, .int .u8 0] 40)).alloc (.cells #[.bool false, .bool false, .bool false, .bool false, .bool false, .bool false] 41) = w3 at r6 r7 r8 hD1 ⊢
  generalize w2.heap.size = g at hg0 hp1 hp2 hp3 r6 r7 r8 ⊢
  have hdf : ∀ k, DF p ms mo k → k < g := fun k e => by rcases e with e | e | e <;> omega
  clear hD
  go_loopw [9] (fun x wr => ∃ k : Nat, k ≤ l.length ∧ x = .int .i64 k ∧ ∃ D la sa op, Dev w wr p ms mo D ∧ Whole D la sa op ∧ RowOf wr g 40 6 (fun i => .int .u8 (la i)) ∧ RowOf wr (g + 1) 40 6 (fun i => .int .u8 (sa i)) ∧ RowOf wr (g + 1 + 1) 41 6 (fun i => .bool (op i))) (fun x _ => l.length - (intOf x).toNat)
  case atStart => exact ⟨0, by omega, rfl, _, _, _, _, hD1, Whole.new, r6, r7, r8⟩
  case round =>
    clear r6 r7 r8 hD1
    obtain ⟨k, hk, rfl, D, la, sa, op, hD, hW, r6, r7, r8⟩ := hrel
    by_cases hlt : k < l.length
    · obtain ⟨ad, x, rfl, hx, hdo0⟩ := hA.at_ k (by omega)
      have hdo := hdo0.below hD.be
      have c0 := hdo.c0
      have c1 := hdo.c1
      have c3 := hdo.c3
      obtain ⟨s1, s2⟩ := hdo.i1
      obtain ⟨o1, o2⟩ := hdo.i0
      obtain ⟨b1, b2⟩ := hdo.i3
      obtain ⟨q, hq⟩ : ∃ q : Nat, x.sec % 6 = q := ⟨(x.sec % 6).toNat, by omega⟩
      have hq6 : q < 6 := by omega
      obtain ⟨y, hy⟩ : ∃ y : Nat, x.op % 4 = y := ⟨(x.op % 4).toNat, by omega⟩
      by_cases hy0 : y = 0
      · subst hy0
        go_wp2_with
          (first
            | (go_at_call 31; refine (pick_pos_b _ _ _ (by omega) (by omega) (by assumption) (by assumption)).mono ?_; rintro e w5 ⟨rfl, hb⟩; (first | rw [hq] | rw [hy]); replace hD := hD.below hb; replace r6 := r6.below hb; replace r7 := r7.below hb; replace r8 := r8.below hb; have hdx := hdo0.below hD.be; replace c0 := hdx.c0; replace c3 := hdx.c3; clear hb hdx)
            | (go_at_call 51; refine (hD.sync0 hW.d hW.sync.d).mono ?_; rintro e w5 ⟨rfl, hD5, hb⟩; replace r6 := r6.chg hb (fun e => by have := hdf _ e; omega); replace r7 := r7.chg hb (fun e => by have := hdf _ e; omega); replace r8 := r8.chg hb (fun e => by have := hdf _ e; omega); clear hb)
            | (refine wpList_load_row rfl 40 _ rfl g rfl 40 ((List.range 6).map (fun i => Value.int .u8 (la i))).toArray (0, 0) _ r6 Try.underlying40 rfl (by rw [row_size]; exact size40) ?_)
            | (refine wpList_store_arr rfl 40 _ _ rfl (g + 1) ((List.range 6).map (fun i => Value.int .u8 (la i))).toArray rfl rfl 40 _ r7 (by rw [row_size]; exact size40) (by rw [row_size, row_size]) (row_one (fun _ => rfl)) ?_; intro w6 hb6 hc6; have hD6 := hD5.chg hc6 (fun _ e => by subst e; omega) (fun _ e => by have := hdf _ e; omega); replace r6 := r6.chg hc6 (by omega); replace r8 := r8.chg hc6 (by omega); replace r7 : RowOf w6 (g + 1) 40 6 (fun i => Value.int .u8 (la i)) := hb6; clear hb6 hc6)
            | (refine wpList_store_arr rfl 41 _ _ rfl (g + 1 + 1) ((List.range 6).map (fun i => Value.bool false)).toArray rfl rfl 41 _ r8 (by rw [row_size]; exact size41) (by rw [row_size, row_size]) (row_one (fun _ => rfl)) ?_; intro w7 hb7 hc7; have hD7 := hD6.chg hc7 (fun _ e => by subst e; omega) (fun _ e => by have := hdf _ e; omega); replace r6 := r6.chg hc7 (by omega); replace r7 := r7.chg hc7 (by omega); replace r8 : RowOf w7 (g + 1 + 1) 41 6 (fun i => Value.bool false) := hb7; clear hb7 hc7))
        go_roundw
        case rel => exact ⟨k + 1, by omega, by go_num, _, _, _, _, hD7, hW.sync, r6, r7, r8⟩
        case measure => simp [intOf]; omega
      · obtain ⟨e1, e2⟩ := or_one b1 b2
        go_wp2_with
          (first
            | (go_at_call 31; refine (pick_pos_b _ _ _ (by omega) (by omega) (by assumption) (by assumption)).mono ?_; rintro e w5 ⟨rfl, hb⟩; (first | rw [hq] | rw [hy]); replace hD := hD.below hb; replace r6 := r6.below hb; replace r7 := r7.below hb; replace r8 := r8.below hb; have hdx := hdo0.below hD.be; replace c0 := hdx.c0; replace c3 := hdx.c3; clear hb hdx)
            | (go_at_call 53; refine (full_any _ _ (by omega) (by omega)).mono ?_; rintro e w5 ⟨v, rfl, hv0, hb⟩; have hv := BytesIs.of_own (fullL_sec _).1 hv0; replace hD := hD.below hb; replace r6 := r6.below hb; replace r7 := r7.below hb; replace r8 := r8.below hb; clear hb hv0)
            | (go_at_call 52; refine (hD.write0 _ (may_ok hW.d (by have := hW.n; omega) (by omega)) hv (fullL_sec _) (hW.write _ _ e1 e2).d).mono ?_; rintro e w5 ⟨rfl, hD5, hb⟩; replace r6 := r6.chg hb (fun e => by have := hdf _ e; omega); replace r7 := r7.chg hb (fun e => by have := hdf _ e; omega); replace r8 := r8.chg hb (fun e => by have := hdf _ e; omega); clear hb hv; have l6 := r6.cell q hq6; have l8 := r8.cell q hq6; have f6 := r6.free q; have f8 := r8.free q; have hne1 : ¬ g + 1 + 1 = g := (by omega); have hne2 : ¬ g = g + 1 + 1 := (by omega)))
        clear l6 l8 f6 f8
        generalize bits .or .u8 x.byte 1 = b at e1 e2 hD5 ⊢
        have q1 := chg_setCell w5 g q (.int .u8 b)
        have q2 := chg_setCell (w5.setCell ⟨g, q, none⟩ (.int .u8 b)) (g + 1 + 1) q (.bool true)
        have hD6 := hD5.chg q1 (fun _ e => by subst e; omega) (fun _ e => by have := hdf _ e; omega)
        have hD7 := hD6.chg q2 (fun _ e => by subst e; omega) (fun _ e => by have := hdf _ e; omega)
        have t6 := ((r6.set q (.int .u8 b)).chg q2 (by omega)).congr (f' := fun i => .int .u8 (if i = q then b else la i)) (fun i _ => by by_cases e : i = q <;> simp [e])
        have t7 := (r7.chg q1 (by omega)).chg q2 (by omega)
        have t8 := ((r8.chg q1 (by omega)).set q (.bool true)).congr (f' := fun i => .bool (if i = q then true else op i)) (fun i _ => by by_cases e : i = q <;> simp [e])
        exact ⟨⟨k + 1, by omega, by go_num, _, _, _, _, hD7, hW.write q b e1 e2, t6, t7, t8⟩, by simp [intOf]; omega⟩
    · obtain rfl : k = l.length := by omega
      clear hk hlt
      have hfw := hf0.below hD.be
      have hwn : fs ≠ [] → ∀ k, (Value.slice B fs.length cb).ownBlock = some k → ¬ DF p ms mo k := fun hn k e e2 => by have := hf0.lt hn k e; have := hD.df k e2; omega
      go_wp2_with
        (first
          | (go_at_call 54; refine (hD.wake hfw hwn).mono ?_; rintro e w5 ⟨rfl, hD5, hb⟩; replace r6 := r6.chg hb (fun e => by have := hdf _ e; omega); replace r7 := r7.chg hb (fun e => by have := hdf _ e; omega); replace r8 := r8.chg hb (fun e => by have := hdf _ e; omega); clear hb))
      clear hfw hwn hD
      have hn6 : (D.wake fs).n = 6 := hW.n
      go_loopw [12] (fun x wr => ∃ k : Nat, k ≤ 6 ∧ x = .int .i64 k ∧ Dev w wr p ms mo (D.wake fs) ∧ RowOf wr g 40 6 (fun i => .int .u8 (la i)) ∧ RowOf wr (g + 1) 40 6 (fun i => .int .u8 (sa i)) ∧ RowOf wr (g + 1 + 1) 41 6 (fun i => .bool (op i))) (fun x _ => 6 - (intOf x).toNat)
      case atStart => exact ⟨0, by omega, rfl, hD5, r6, r7, r8⟩
      case round =>
        clear r6 r7 r8 hD5
        obtain ⟨q, hq, rfl, hD, r6, r7, r8⟩ := hrel
        by_cases hlt : q < 6
        · go_wp2
          go_loopw [13, 14] (fun x y w' => ∃ i : Nat, i ≤ fs.length ∧ x = .bool ((fs.take i).contains (q : Int)) ∧ y = .int .i64 i ∧ w' = wr) (fun _ y _ => fs.length - (intOf y).toNat)
          case atStart => exact ⟨0, by omega, rfl, rfl, rfl⟩
          case round =>
            obtain ⟨i, hi, rfl, rfl, rfl⟩ := hrel
            by_cases hil : i < fs.length
            · obtain ⟨bd, rfl, hxb⟩ := IntsIs.at_ (hB.chg (Chg.of_below (F := fun _ => False) hD.be) (fun _ _ => id)) i hil
              have htc := take_contains hil rfl (q : Int)
              generalize fs.getD i 0 = z at hxb htc
              cases hcn : (fs.take i).contains (q : Int) with
              | true =>
                have hn : (fs.take (i + 1)).contains (q : Int) = true := by rw [htc, hcn]; rfl
                clear htc
                go_wp2
                go_roundw
                case rel => exact ⟨i + 1, by omega, by rw [hn], by go_num, trivial⟩
                case measure => simp [intOf]; omega
              | false =>
                have hn : (fs.take (i + 1)).contains (q : Int) = (z == (q : Int)) := by rw [htc, hcn, Bool.false_or]; exact Bool.beq_comm
                clear htc
                go_wp2
                go_roundw
                case rel => exact ⟨i + 1, by omega, by rw [hn], by go_num, trivial⟩
                case measure => simp [intOf]; omega
            · obtain rfl : i = fs.length := by omega
              clear hil hi
              rw [List.take_length]
              generalize hkp : fs.contains (q : Int) = kp
              go_wp2_with
                (first
                  | (go_at_call 55; refine (hD.read _ (may_ok rfl (by omega) (by omega))).mono ?_; rintro e w6 ⟨vb, rfl, hvb, hvo, hb⟩; clear hvo; obtain ⟨A2, c2, rfl, hc21, hc22, hA2⟩ := hvb; rw [(Dk.latest_sec hD.ok _).1] at hc21 ⊢; replace hD := hD.below hb; replace r6 := r6.below hb; replace r7 := r7.below hb; replace r8 := r8.below hb; clear hb))
              go_loopw [17] (fun x w' => ∃ i : Nat, i ≤ 512 ∧ x = .int .i64 i ∧ w' = w6) (fun x _ => 512 - (intOf x).toNat)
              case atStart => exact ⟨0, by omega, rfl, rfl⟩
              case round =>
                obtain ⟨i, hi, rfl, rfl⟩ := hrel
                have l6 := r6.cell q hlt
                have l7 := r7.cell q hlt
                have l8 := r8.cell q hlt
                by_cases hil : i < 512
                · obtain ⟨bd, rfl, hxb⟩ := BytesIs.at_ (c := c2) hA2 i (by rw [(Dk.latest_sec hD.ok _).1]; exact hil)
                  cases hop : op q with
                  | false =>
                    rw [hop] at l8
                    cases kp with
                    | false =>
                      have hget := hW.get fs q hlt i hil (fr := sa q) (by unfold wholeFrom; rw [hop, hkp]; rfl)
                      have hbF := hW.s q hlt
                      rw [hget] at hxb
                      clear hget
                      generalize sa q = fr at hxb hbF l7
                      by_cases e0 : fr = 0
                      · subst e0
                        rw [if_pos rfl] at hxb
                        go_wp2
                        go_roundw
                        case rel => exact ⟨i + 1, by omega, by go_num, trivial⟩
                        case measure => simp [intOf]; omega
                      · rw [if_neg e0] at hxb
                        go_wp2
                        go_roundw
                        case rel => exact ⟨i + 1, by omega, by go_num, trivial⟩
                        case measure => simp [intOf]; omega
                    | true =>
                      have hget := hW.get fs q hlt i hil (fr := sa q) (by unfold wholeFrom; rw [hop, hkp]; rfl)
                      have hbF := hW.s q hlt
                      rw [hget] at hxb
                      clear hget
                      generalize sa q = fr at hxb hbF l7
                      by_cases e0 : fr = 0
                      · subst e0
                        rw [if_pos rfl] at hxb
                        go_wp2
                        go_roundw
                        case rel => exact ⟨i + 1, by omega, by go_num, trivial⟩
                        case measure => simp [intOf]; omega
                      · rw [if_neg e0] at hxb
                        go_wp2
                        go_roundw
                        case rel => exact ⟨i + 1, by omega, by go_num, trivial⟩
                        case measure => simp [intOf]; omega
                  | true =>
                    rw [hop] at l8
                    cases kp with
                    | false =>
                      have hget := hW.get fs q hlt i hil (fr := sa q) (by unfold wholeFrom; rw [hop, hkp]; rfl)
                      have hbF := hW.s q hlt
                      rw [hget] at hxb
                      clear hget
                      generalize sa q = fr at hxb hbF l7
                      by_cases e0 : fr = 0
                      · subst e0
                        rw [if_pos rfl] at hxb
                        go_wp2
                        go_roundw
                        case rel => exact ⟨i + 1, by omega, by go_num, trivial⟩
                        case measure => simp [intOf]; omega
                      · rw [if_neg e0] at hxb
                        go_wp2
                        go_roundw
                        case rel => exact ⟨i + 1, by omega, by go_num, trivial⟩
                        case measure => simp [intOf]; omega
                    | true =>
                      have hget := hW.get fs q hlt i hil (fr := la q) (by unfold wholeFrom; rw [hop, hkp]; rfl)
                      have hbF := hW.b q hlt
                      rw [hget] at hxb
                      clear hget
                      generalize la q = fr at hxb hbF l6
                      by_cases e0 : fr = 0
                      · subst e0
                        rw [if_pos rfl] at hxb
                        go_wp2
                        go_roundw
                        case rel => exact ⟨i + 1, by omega, by go_num, trivial⟩
                        case measure => simp [intOf]; omega
                      · rw [if_neg e0] at hxb
                        go_wp2
                        go_roundw
                        case rel => exact ⟨i + 1, by omega, by go_num, trivial⟩
                        case measure => simp [intOf]; omega
                · obtain rfl : i = 512 := by omega
                  go_wp2
                  go_roundw
                  case rel => exact ⟨q + 1, by omega, by go_num, hD, r6, r7, r8⟩
                  case measure => simp [intOf]; omega
        · obtain rfl : q = 6 := by omega
          go_wp2
          go_ret
          exact ⟨rfl, hD.be⟩
theorem devWhole_row (w : World) {v0 v1 : Value} {l : List Do8} {fs : List Int} (A0 : DosIs w v0 l) (A1 : IntsIs w v1 fs ∧ ∀ f ∈ fs, In64 f) :
    Calls Try.prog 7 #[v0, v1] w fun e w' => e = .returned (.bool true) ∧ Below w.heap.size w w' := by
  by_cases h1 : 80 < l.length
  · exact devWhole_long w v0 v1 l fs A0 A1.1 (.inl h1)
  · by_cases h2 : 1000 < fs.length
    · exact devWhole_long w v0 v1 l fs A0 A1.1 (.inr h2)
    · exact devWhole_walk w v0 v1 l fs A0 A1.1 (by omega) (by omega)
end Go.Proofs.Yteeamlidmkpohaa
