/-
  CacheNumbers.
-/
import Derived.Test.YteeamlidmkpohaaZaf
import Derived.Deep.RegionHeld3
set_option linter.unusedVariables false
set_option linter.unusedSimpArgs false
set_option maxRecDepth 100000
namespace Go.Proofs.Yteeamlidmkpohaa
open Go.RowKit Go.Sort

def st9 (op sec n byte : Int) : Do8 := ⟨op, sec, n, byte, .slice none 0 0, []⟩
def lit18 (a b : Int) (fv : Value) : List Do8 :=
  [st9 0 a 0 1, st9 2 0 0 0, st9 6 a 0 0, st9 0 b 0 2, st9 6 a 0 0, st9 6 b 0 0, st9 3 0 1 0, st9 0 a 0 3, st9 6 b 0 0, ⟨5, 0, 0, 0, fv, [b]⟩, st9 6 a 0 0, st9 6 b 0 0, st9 4 0 0 0, st9 6 a 0 0, st9 3 0 2 0, st9 2 0 0 0, st9 2 0 0 0, st9 6 a 0 0]
theorem StepOk.st {w : World} {op sec n byte : Int} (h1 : In64 op) (h2 : In64 sec) (h3 : In64 n) (h4 : 0 ≤ byte ∧ byte ≤ 255) : StepOk w (st9 op sec n byte) :=
  ⟨IntsIs.nil w, h1, h2, h3, h4, fun f hf => by cases hf⟩
theorem lit18_ok {w : World} {a b : Int} {fv : Value} (ha : In64 a) (hb : In64 b) (hf : IntsIs w fv [b]) : ∀ x ∈ lit18 a b fv, StepOk w x := by
  have z : In64 0 := by unfold In64; omega
  have g : ∀ k : Int, 0 ≤ k → k ≤ 9 → In64 k := fun k h1 h2 => by unfold In64; omega
  have y : ∀ op sec n byte : Int, 0 ≤ op → op ≤ 9 → In64 sec → 0 ≤ n → n ≤ 9 → 0 ≤ byte → byte ≤ 9 → StepOk w (st9 op sec n byte) := fun op sec n byte h1 h2 h3 h4 h5 h6 h7 => StepOk.st (g _ h1 h2) h3 (g _ h4 h5) ⟨h6, by omega⟩
  intro x hx
  simp only [lit18, List.mem_cons, List.not_mem_nil, or_false] at hx
  rcases hx with rfl | rfl | rfl | rfl | rfl | rfl | rfl | rfl | rfl | rfl | rfl | rfl | rfl | rfl | rfl | rfl | rfl | rfl
  all_goals first | exact y _ _ _ _ (by decide) (by decide) (by first | exact ha | exact hb | exact z) (by decide) (by decide) (by decide) (by decide) | skip
  exact ⟨hf, g 5 (by decide) (by decide), z, z, ⟨Int.le_refl 0, by show (0 : Int) ≤ 255; decide⟩, fun f h => by rw [List.mem_singleton] at h; subst h; exact hb⟩
def lit4 (n s m : Int) : List Do8 := [st9 0 s 0 1, st9 6 s 0 0, st9 6 m 0 0, st9 6 n 0 0]
theorem lit4_ok {w : World} {n s m : Int} (hn : In64 n) (hs : In64 s) (hm : In64 m) : ∀ x ∈ lit4 n s m, StepOk w x := by
  have z : In64 0 := by unfold In64; omega
  have g : ∀ k : Int, 0 ≤ k → k ≤ 9 → In64 k := fun k h1 h2 => by unfold In64; omega
  have y : ∀ op sec n byte : Int, 0 ≤ op → op ≤ 9 → In64 sec → 0 ≤ n → n ≤ 9 → 0 ≤ byte → byte ≤ 9 → StepOk w (st9 op sec n byte) := fun op sec n byte h1 h2 h3 h4 h5 h6 h7 => StepOk.st (g _ h1 h2) h3 (g _ h4 h5) ⟨h6, by omega⟩
  intro x hx
  simp only [lit4, List.mem_cons, List.not_mem_nil, or_false] at hx
  rcases hx with rfl | rfl | rfl | rfl
  all_goals exact y _ _ _ _ (by decide) (by decide) (by first | exact hn | exact hs | exact hm) (by decide) (by decide) (by decide) (by decide)

theorem lit18_is (W : World) (a b : Int) (g : Nat) (ha : In64 a) (hb : In64 b) (hf : IntsIs W (.slice (some ⟨g, 0, none⟩) 1 1) [b]) :
    DosIs (W.alloc (.cells #[.int .i64 0, .int .i64 a, .int .i64 0, .int .u8 1, .slice none 0 0, .int .i64 2, .int .i64 0, .int .i64 0, .int .u8 0, .slice none 0 0, .int .i64 6, .int .i64 a, .int .i64 0, .int .u8 0, .slice none 0 0, .int .i64 0, .int .i64 b, .int .i64 0, .int .u8 2, .slice none 0 0, .int .i64 6, .int .i64 a, .int .i64 0, .int .u8 0, .slice none 0 0, .int .i64 6, .int .i64 b, .int .i64 0, .int .u8 0, .slice none 0 0, .int .i64 3, .int .i64 0, .int .i64 1, .int .u8 0, .slice none 0 0, .int .i64 0, .int .i64 a, .int .i64 0, .int .u8 3, .slice none 0 0, .int .i64 6, .int .i64 b, .int .i64 0, .int .u8 0, .slice none 0 0, .int .i64 5, .int .i64 0, .int .i64 0, .int .u8 0, .slice (some ⟨g, 0, none⟩) 1 1, .int .i64 6, .int .i64 a, .int .i64 0, .int .u8 0, .slice none 0 0, .int .i64 6, .int .i64 b, .int .i64 0, .int .u8 0, .slice none 0 0, .int .i64 4, .int .i64 0, .int .i64 0, .int .u8 0, .slice none 0 0, .int .i64 6, .int .i64 a, .int .i64 0, .int .u8 0, .slice none 0 0, .int .i64 3, .int .i64 0, .int .i64 2, .int .u8 0, .slice none 0 0, .int .i64 2, .int .i64 0, .int .i64 0, .int .u8 0, .slice none 0 0, .int .i64 2, .int .i64 0, .int .i64 0, .int .u8 0, .slice none 0 0, .int .i64 6, .int .i64 a, .int .i64 0, .int .u8 0, .slice none 0 0] 134)) (.slice (some ⟨W.heap.size, 0, none⟩) 18 18) (lit18 a b (.slice (some ⟨g, 0, none⟩) 1 1)) :=
  dos_lit (l := lit18 a b (.slice (some ⟨g, 0, none⟩) 1 1)) (heap_alloc_new _ _) rfl (by simp [lit18, maxLen]) (lit18_ok ha hb (hf.below (below_alloc' (Below.refl _ _) _)))
theorem lit4_is (W : World) (n s m : Int) (hn : In64 n) (hs : In64 s) (hm : In64 m) :
    DosIs (W.alloc (.cells #[.int .i64 0, .int .i64 s, .int .i64 0, .int .u8 1, .slice none 0 0, .int .i64 6, .int .i64 s, .int .i64 0, .int .u8 0, .slice none 0 0, .int .i64 6, .int .i64 m, .int .i64 0, .int .u8 0, .slice none 0 0, .int .i64 6, .int .i64 n, .int .i64 0, .int .u8 0, .slice none 0 0] 134)) (.slice (some ⟨W.heap.size, 0, none⟩) 4 4) (lit4 n s m) :=
  dos_lit (l := lit4 n s m) (heap_alloc_new _ _) rfl (by simp [lit4, maxLen]) (lit4_ok hn hs hm)
theorem lit4_isd (W : World) (n s m : Int) (hn : In64 n) (hs : In64 s) (hm : In64 m) :
    DosIs (W.alloc (.cells #[.int .i64 0, .int .i64 s, .int .i64 0, .int .u8 1, .slice none 0 0, .int .i64 6, .int .i64 s, .int .i64 0, .int .u8 0, .slice none 0 0, .int .i64 6, .int .i64 m, .int .i64 0, .int .u8 0, .slice none 0 0, .int .i64 6, .int .i64 n, .int .i64 0, .int .u8 0, .slice none 0 0] 134)).drew (.slice (some ⟨W.heap.size, 0, none⟩) 4 4) (lit4 n s m) :=
  (lit4_is W n s m hn hs hm).below (Below.drew (Below.refl _ _))
theorem lives_c (w : World) (n size : Int) {v : Value} {l : List Do8} (hl : DosIs w v l) (hn : In64 n) (hs : In64 size) :
    Calls Try.prog 20 #[.int .i64 n, .int .i64 size, v] w fun e w' => e = .returned (.bool true) ∧ Below w.heap.size w w' :=
  cacheLives_row w ⟨rfl, hn⟩ ⟨rfl, hs⟩ hl
theorem in64_nat {n : Nat} (h : n < 1000) : In64 (n : Int) := by unfold In64; omega

def ends7 : List Int := [-9223372036854775808, -1, 0, 1, 262144, 262145, 9223372036854775807]
theorem ends7_in (i : Nat) : In64 (ends7.getD i 0) := by
  have : ∀ x ∈ ends7, In64 x := by simp [ends7, In64]
  by_cases h : i < ends7.length
  · rw [List.getD_eq_getElem?_getD, List.getElem?_eq_getElem h]
    exact this _ (List.getElem_mem h)
  · rw [List.getD_eq_getElem?_getD, List.getElem?_eq_none (by omega)]
    simp [In64]
theorem in64_wrap (n : Int) : In64 (IntKind.i64.wrap n) := by
  rw [IntKind.wrap_i64]; unfold In64; omega

set_option maxHeartbeats 4000000 in
theorem cacheNumbers_row (w : World) : Calls Try.prog 21 #[] w fun e w' => e = .returned (.bool true) ∧ Below w.heap.size w w' := by
  go_enter Try.func21, Try.ntmps21
  go_wp2
  go_loopw [1] (fun x wr => ∃ n : Nat, 1 ≤ n ∧ n ≤ 6 ∧ x = .int .i64 n ∧ Below w.heap.size w wr) (fun x _ => 6 - (intOf x).toNat)
  case atStart => exact ⟨1, by omega, by omega, rfl, Below.refl _ _⟩
  case round =>
    obtain ⟨n, hn1, hn6, rfl, hB⟩ := hrel
    by_cases hlt : n < 6
    · have hd1 : decide ((n : Int) < 6) = true := by simp; omega
      go_wp2
      go_loopw [2] (fun x wq => ∃ a : Nat, a ≤ 4 ∧ x = .int .i64 a ∧ Below w.heap.size w wq) (fun x _ => 4 - (intOf x).toNat)
      case atStart => exact ⟨0, by omega, rfl, hB⟩
      case round =>
        clear hB
        obtain ⟨a, ha, rfl, hB⟩ := hrel
        by_cases hlt : a < 4
        · have hd2 : decide ((a : Int) < 4) = true := by simp; omega
          go_wp2
          go_loopw [3] (fun x wp => ∃ b : Nat, b ≤ 4 ∧ x = .int .i64 b ∧ Below w.heap.size w wp) (fun x _ => 4 - (intOf x).toNat)
          case atStart => exact ⟨0, by omega, rfl, hB⟩
          case round =>
            clear hB
            obtain ⟨b, hb, rfl, hB⟩ := hrel
            by_cases hlt : b < 4
            · go_wp2_with fail
              have hb1 := below_alloc' hB (.cells #[.int .i64 b] 51)
              have hf := IntsIs.made (l := [(b : Int)]) (heap_alloc_new wr (.cells #[.int .i64 b] 51)) rfl (by simp [maxLen])
              have hd := lit18_is (wr.alloc (.cells #[.int .i64 b] 51)) a b wr.heap.size (in64_nat (by omega)) (in64_nat (by omega)) hf
              rw [World.size_alloc] at hd
              have hb2 := below_alloc' hb1 (.cells #[.int .i64 0, .int .i64 (a : Int), .int .i64 0, .int .u8 1, .slice none 0 0, .int .i64 2, .int .i64 0, .int .i64 0, .int .u8 0, .slice none 0 0, .int .i64 6, .int .i64 (a : Int), .int .i64 0, .int .u8 0, .slice none 0 0, .int .i64 0, .int .i64 (b : Int), .int .i64 0, .int .u8 2, .slice none 0 0, .int .i64 6, .int .i64 (a : Int), .int .i64 0, .int .u8 0, .slice none 0 0, .int .i64 6, .int .i64 (b : Int), .int .i64 0, .int .u8 0, .slice none 0 0, .int .i64 3, .int .i64 0, .int .i64 1, .int .u8 0, .slice none 0 0, .int .i64 0, .int .i64 (a : Int), .int .i64 0, .int .u8 3, .slice none 0 0, .int .i64 6, .int .i64 (b : Int), .int .i64 0, .int .u8 0, .slice none 0 0, .int .i64 5, .int .i64 0, .int .i64 0, .int .u8 0, .slice (some ⟨wr.heap.size, 0, none⟩) 1 1, .int .i64 6, .int .i64 (a : Int), .int .i64 0, .int .u8 0, .slice none 0 0, .int .i64 6, .int .i64 (b : Int), .int .i64 0, .int .u8 0, .slice none 0 0, .int .i64 4, .int .i64 0, .int .i64 0, .int .u8 0, .slice none 0 0, .int .i64 6, .int .i64 (a : Int), .int .i64 0, .int .u8 0, .slice none 0 0, .int .i64 3, .int .i64 0, .int .i64 2, .int .u8 0, .slice none 0 0, .int .i64 2, .int .i64 0, .int .i64 0, .int .u8 0, .slice none 0 0, .int .i64 2, .int .i64 0, .int .i64 0, .int .u8 0, .slice none 0 0, .int .i64 6, .int .i64 (a : Int), .int .i64 0, .int .u8 0, .slice none 0 0] 134)
              clear hf hb1
              generalize (wr.alloc (.cells #[.int .i64 b] 51)).alloc (.cells #[.int .i64 0, .int .i64 (a : Int), .int .i64 0, .int .u8 1, .slice none 0 0, .int .i64 2, .int .i64 0, .int .i64 0, .int .u8 0, .slice none 0 0, .int .i64 6, .int .i64 (a : Int), .int .i64 0, .int .u8 0, .slice none 0 0, .int .i64 0, .int .i64 (b : Int), .int .i64 0, .int .u8 2, .slice none 0 0, .int .i64 6, .int .i64 (a : Int), .int .i64 0, .int .u8 0, .slice none 0 0, .int .i64 6, .int .i64 (b : Int), .int .i64 0, .int .u8 0, .slice none 0 0, .int .i64 3, .int .i64 0, .int .i64 1, .int .u8 0, .slice none 0 0, .int .i64 0, .int .i64 (a : Int), .int .i64 0, .int .u8 3, .slice none 0 0, .int .i64 6, .int .i64 (b : Int), .int .i64 0, .int .u8 0, .slice none 0 0, .int .i64 5, .int .i64 0, .int .i64 0, .int .u8 0, .slice (some ⟨wr.heap.size, 0, none⟩) 1 1, .int .i64 6, .int .i64 (a : Int), .int .i64 0, .int .u8 0, .slice none 0 0, .int .i64 6, .int .i64 (b : Int), .int .i64 0, .int .u8 0, .slice none 0 0, .int .i64 4, .int .i64 0, .int .i64 0, .int .u8 0, .slice none 0 0, .int .i64 6, .int .i64 (a : Int), .int .i64 0, .int .u8 0, .slice none 0 0, .int .i64 3, .int .i64 0, .int .i64 2, .int .u8 0, .slice none 0 0, .int .i64 2, .int .i64 0, .int .i64 0, .int .u8 0, .slice none 0 0, .int .i64 2, .int .i64 0, .int .i64 0, .int .u8 0, .slice none 0 0, .int .i64 6, .int .i64 (a : Int), .int .i64 0, .int .u8 0, .slice none 0 0] 134) = W at hd hb2 ⊢
              generalize wr.heap.size + 1 = g1 at hd ⊢
              have HD := Lib.hid hd
              have HB2 := Lib.hid hb2
              clear hd hb2
              go_wp2_with
                (first
                  | (go_at_call 20; refine (lives_c _ _ _ (HD.out.below hb4) (in64_nat (n := 2) (by omega)) (in64_nat (by omega))).mono ?_; rintro e w5 ⟨rfl, hb5⟩; have hB5 := below_trans' hB4 hb5)
                  | (go_at_call 20; refine (lives_c _ _ _ HD.out (in64_nat (n := 4) (by omega)) (in64_nat (by omega))).mono ?_; rintro e w4 ⟨rfl, hb4⟩; have hB4 := below_trans' HB2.out hb4))
              go_roundw
              case rel => first | exact ⟨b + 1, by omega, by go_num, hB5⟩ | ((repeat apply Exists.intro); exact ⟨⟨b + 1, by omega, by go_num, hB5⟩, rfl⟩)
              case measure => simp [intOf]; omega
            · go_wp2
              go_roundw
              case rel => exact ⟨a + 1, by omega, by go_num, hB⟩
              case measure => simp [intOf]; omega
        · go_wp2
          go_roundw
          case rel => exact ⟨n + 1, by omega, by omega, by go_num, hB⟩
          case measure => simp [intOf]; omega
    · have h6 : (n : Int) = 6 := by omega
      rw [h6]
      clear h6 hlt
      go_wp2_with fail
      have hx : IntsIs (wr.alloc (.cells #[.int .i64 (-9223372036854775808), .int .i64 (-1), .int .i64 0, .int .i64 1, .int .i64 262144, .int .i64 262145, .int .i64 9223372036854775807] 3)) (.slice (some ⟨wr.heap.size, 0, none⟩) 7 7) ends7 := IntsIs.made (l := ends7) (heap_alloc_new wr _) rfl (by simp [maxLen, ends7])
      have hb1 := below_alloc' hB (.cells #[.int .i64 (-9223372036854775808), .int .i64 (-1), .int .i64 0, .int .i64 1, .int .i64 262144, .int .i64 262145, .int .i64 9223372036854775807] 3)
      generalize wr.alloc (.cells #[.int .i64 (-9223372036854775808), .int .i64 (-1), .int .i64 0, .int .i64 1, .int .i64 262144, .int .i64 262145, .int .i64 9223372036854775807] 3) = W at hx hb1 ⊢
      generalize wr.heap.size = g at hx ⊢
      obtain ⟨A, cp, hA, h7, hm, hcs⟩ := hx
      cases hA
      clear h7 hm hB
      have hend : ∀ (V : World), Below W.heap.size W V → ∀ i < 7, V.cell? ⟨g, i, none⟩ = some (.int .i64 (ends7.getD i 0)) := fun V hV i hi => by
        obtain ⟨ad, e, hc⟩ := IntsIs.at_ hcs i hi
        cases e
        have e2 : (⟨g, 0, none⟩ : Addr).add i = ⟨g, i, none⟩ := by unfold Addr.add; split <;> simp_all
        rw [e2] at hc
        exact (hV.cell (p := ⟨g, i, none⟩) (cell_lt hc)).trans hc
      have HE := Lib.hid hend
      have HB1 := Lib.hid hb1
      clear hend hcs hb1
      go_loopw [6] (fun x wq => ∃ i : Nat, i ≤ 7 ∧ x = .int .i64 i ∧ Below W.heap.size W wq) (fun x _ => 7 - (intOf x).toNat)
      case atStart => exact ⟨0, by omega, rfl, Below.refl _ _⟩
      case round =>
        obtain ⟨i, hi, rfl, hB⟩ := hrel
        by_cases hlt : i < 7
        · have hd1 : decide ((i : Int) < 7) = true := by simp; omega
          go_wp2
          go_loopw [7] (fun x wq => ∃ k : Nat, k ≤ 7 ∧ x = .int .i64 k ∧ Below W.heap.size W wq) (fun x _ => 7 - (intOf x).toNat)
          case atStart => exact ⟨0, by omega, rfl, hB⟩
          case round =>
            clear hB
            obtain ⟨k, hk, rfl, hB⟩ := hrel
            by_cases hlt2 : k < 7
            · have c1 := HE.out _ hB i hlt
              have c2 := HE.out _ hB k hlt2
              obtain ⟨x, hx⟩ : ∃ x, x = ends7.getD i 0 := ⟨_, rfl⟩
              obtain ⟨y, hy⟩ : ∃ y, y = ends7.getD k 0 := ⟨_, rfl⟩
              have HX : Hid (In64 x) := Lib.hid (by rw [hx]; exact ends7_in i)
              have HY : Hid (In64 y) := Lib.hid (by rw [hy]; exact ends7_in k)
              rw [← hx] at c1
              rw [← hy] at c2
              have hh : ∀ V : World, Below W.heap.size W V → V.cell? ⟨g, i, none⟩ = some (.int .i64 x) ∧ V.cell? ⟨g, k, none⟩ = some (.int .i64 y) := fun V hV => ⟨by rw [hx]; exact HE.out V hV i hlt, by rw [hy]; exact HE.out V hV k hlt2⟩
              have HH := Lib.hid hh
              have hba := (below_alloc' hB (.cells #[.int .i64 0, .int .i64 y, .int .i64 0, .int .u8 1, .slice none 0 0, .int .i64 6, .int .i64 y, .int .i64 0, .int .u8 0, .slice none 0 0, .int .i64 6, .int .i64 (IntKind.i64.wrap (x - 1)), .int .i64 0, .int .u8 0, .slice none 0 0, .int .i64 6, .int .i64 x, .int .i64 0, .int .u8 0, .slice none 0 0] 134)).drew
              have HBA := Lib.hid hba
              clear hx hy hh hba
              clear hd1
              have hi7 : (i : Int) < 7 := by omega
              go_wp2_with fail
              go_region_held3 (fun w' => w'.cell? ⟨g, i, none⟩ = some (.int .i64 x) ∧ w'.cell? ⟨g, k, none⟩ = some (.int .i64 y)) (first | exact ⟨c1, c2⟩ | exact HH.out _ HBA.out | exact HH.out _ hB5) ((go_at_call 20; refine (lives_c _ _ _ (lit4_isd _ _ _ _ HX.out HY.out (in64_wrap _)) HX.out HY.out).mono ?_; rintro e w5 ⟨rfl, hb5⟩; have hB5 := below_trans' HBA.out hb5))
              go_wp2
              go_roundw
              case rel => exact ⟨k + 1, by omega, by go_num, hB5⟩
              case measure => simp [intOf]; omega
            · go_wp2
              go_roundw
              case rel => exact ⟨i + 1, by omega, by go_num, hB⟩
              case measure => simp [intOf]; omega
        · have h7 : (i : Int) = 7 := by omega
          rw [h7]
          clear h7 hlt
          go_wp2_with (go_at_call 103; refine (awake09 _).mono ?_; rintro e w8 ⟨rfl, hb8⟩)
          go_ret
          exact ⟨rfl, below_trans' (below_trans' HB1.out hB) hb8⟩
end Go.Proofs.Yteeamlidmkpohaa
