/-
  TurnBytes; the list of what was touched, in plain words.
-/
import Derived.Test.YteeamlidmkpohaaKa
import Derived.Test.YteeamlidmkpohaaCh
import Derived.Maps.AppendAt
set_option linter.unusedVariables false
set_option linter.unusedSimpArgs false
namespace Go.Proofs.Yteeamlidmkpohaa
open Go.RowKit Go.Sort

set_option maxRecDepth 100000
set_option maxHeartbeats 1000000 in
/-- a slice of the caller's own is written over -/
theorem turnBytes_any (w : World) (base : Nat) (v : Value) (n : Nat) (l : List Int) (hl : l.length = n) (ho : w.ownsRow base 5 1 v n (bytesV l)) (hn : n ≤ 1000000) :
    Calls Try.prog 80 #[v] w fun e w' => e = .returned (.tuple #[]) ∧ Chg (fun b => v.ownBlock = some b) w w' := by
  rcases Nat.eq_zero_or_pos n with h0 | h0
  · subst h0
    obtain ⟨A, c, rfl⟩ : ∃ A c, v = .slice A 0 c := by
      rcases ho.2 with ⟨h1, _⟩ | ⟨g, cap, cur, h1, _⟩
      · exact ⟨none, 0, h1⟩
      · exact ⟨_, _, h1⟩
    clear ho
    go_enter Try.func80, Try.ntmps80
    go_wp2_with fail
    go_loopw [2] (fun t wr => t = .int .i64 0 ∧ wr = w) (fun t _ => 0)
    case atStart => exact ⟨rfl, rfl⟩
    case round =>
      obtain ⟨rfl, rfl⟩ := hrel
      go_wp2_with fail
      go_end0
      exact ⟨rfl, Chg.refl _ _⟩
  · rcases ho.2 with ⟨_, h1⟩ | ⟨g, cap, cur, rfl, hb, hg, hnc, hcm, hcs, htk⟩
    · omega
    have htk' : cur.toList.take n = bytesV l := by simpa using htk
    have hcell : ∀ i, i < n → ∃ z, w.cell? ⟨g, i, none⟩ = some (.int .u8 z) := fun i hi => by
      have h2 : (bytesV l)[i]? = some (.int .u8 (l.getD i 0)) := by simp [bytesV, show i < l.length by omega]
      rw [← htk', List.getElem?_take_of_lt hi] at h2
      exact ⟨_, cell_of_row w g i cur 5 (0, 0) hg |>.trans (by simpa using h2)⟩
    have hfree : ∀ i, w.frozen? ⟨g, i, none⟩ = false := fun i => frozen_of_row w g i cur 5 hg
    have HC := Lib.hid hcell
    have HF := Lib.hid hfree
    clear hcell hfree htk htk' hg hcs ho
    go_enter Try.func80, Try.ntmps80
    go_wp2_with fail
    go_loopw [2] (fun t wr => ∃ k : Nat, k ≤ n ∧ t = .int .i64 k ∧ Chg (fun b => b = g) w wr ∧ (∀ i, i < n → ∃ z, wr.cell? ⟨g, i, none⟩ = some (.int .u8 z)) ∧ (∀ i, wr.frozen? ⟨g, i, none⟩ = false)) (fun t _ => n - (intOf t).toNat)
    case atStart => exact ⟨0, by omega, rfl, Chg.refl _ _, HC.out, HF.out⟩
    case round =>
      obtain ⟨k, hk, rfl, hcr, hce, hfr⟩ := hrel
      by_cases hlt : k < n
      · obtain ⟨z, hz⟩ := hce k hlt
        have hf := hfr k
        have HCE := Lib.hid hce
        have HFR := Lib.hid hfr
        have HCR := Lib.hid hcr
        clear hce hfr hcr
        go_wp2_with fail
        go_roundw
        case rel =>
          refine ⟨k + 1, by omega, by go_num, HCR.out.trans (chg_setCell _ _ _ _), fun i hi => ?_, fun i => by rw [World.frozen?_setCell]; exact HFR.out i⟩
          by_cases e : i = k
          · subst e
            exact ⟨_, World.cell?_setCell_same' _ _ _ (by rw [hz]; rfl)⟩
          · obtain ⟨z', hz'⟩ := HCE.out i hi
            exact ⟨z', (World.cell?_setCell_other _ _ _ _ (by first | (simp; omega) | simp)).trans hz'⟩
        case measure => simp [intOf]; omega
      · obtain rfl : k = n := by omega
        have HCR := Lib.hid hcr
        clear hcr hce hfr
        go_wp2_with fail
        go_end0
        exact ⟨rfl, HCR.out.mono (fun b _ e => by rw [e]; rfl)⟩

/-! ### what was touched -/
def forgetL (T : List Int) (k : Int) : List Int := T.filter (fun x => !(x == k))
def lastN (T : List Int) (n : Nat) : List Int := T.drop (T.length - n)
/-- how many were touched behind it -/
def placeL (T : List Int) (k : Int) : Int := match T.findIdx? (fun x => x == k) with
  | some i => (T.length : Int) - 1 - i
  | none => -1
end Go.Proofs.Yteeamlidmkpohaa


/-
  A life's own block: place, forget, touch.
-/
set_option linter.unusedVariables false
set_option linter.unusedSimpArgs false
namespace Go.Proofs.Yteeamlidmkpohaa
open Go.RowKit Go.Sort

/-- block x is a life: its cache, its disk, the reference's, the size, what was touched, how many reads -/
structure LifeB (w0 w : World) (x c p r : Nat) (size rd : Int) (vT : Value) (T : List Int) : Prop where
  blk : w.heap[x]? = some (.cells #[.pointer (some ⟨c, 0, none⟩), .pointer (some ⟨p, 0, none⟩), .pointer (some ⟨r, 0, none⟩), .int .i64 size, vT, .int .i64 rd] 133 (0, 0))
  own : w.ownsRow w0.heap.size 3 1 vT T.length (intsV T)
  gx : w0.heap.size ≤ x
  sz : w0.heap.size ≤ w.heap.size
def LF (x : Nat) (vT : Value) : Nat → Prop := fun b => b = x ∨ vT.ownBlock = some b

section
variable {w0 w w' : World} {x c p r : Nat} {size rd : Int} {vT : Value} {T : List Int}
theorem LifeB.lt (h : LifeB w0 w x c p r size rd vT T) : x < w.heap.size := (Array.getElem?_eq_some_iff.1 h.blk).1
theorem LifeB.ne (h : LifeB w0 w x c p r size rd vT T) : vT.ownBlock ≠ some x := fun e => by
  obtain ⟨cs, hb⟩ := rowOwn_block h.own e
  rw [h.blk] at hb
  cases hb
theorem LifeB.lf (h : LifeB w0 w x c p r size rd vT T) : ∀ b, LF x vT b → w0.heap.size ≤ b ∧ b < w.heap.size := fun b e => by
  rcases e with rfl | e
  · exact ⟨h.gx, h.lt⟩
  · exact h.own.lt b e
theorem LifeB.chg {F : Nat → Prop} (h : LifeB w0 w x c p r size rd vT T) (hc : Chg F w w') (hF : ∀ b, LF x vT b → ¬ F b) : LifeB w0 w' x c p r size rd vT T :=
  ⟨(hc.block x h.lt (hF x (.inl rfl))).trans h.blk, rowOwn_chg h.own hc (fun k e => hF k (.inr e)), h.gx, Nat.le_trans h.sz hc.size⟩
theorem LifeB.below (h : LifeB w0 w x c p r size rd vT T) (hb : Below w.heap.size w w') : LifeB w0 w' x c p r size rd vT T := h.chg (Chg.of_below (F := fun _ => False) hb) (fun _ _ => id)
theorem rowOwn_form {base : Nat} {e : TypeId} {sz : Nat} {v : Value} {n : Nat} {xs : List Value} (h : w.ownsRow base e sz v n xs) : ∃ A k, v = .slice A n k := by
  rcases h.2 with ⟨rfl, e⟩ | ⟨g, cap, cur, rfl, _⟩
  · exact ⟨none, 0, by rw [e]⟩
  · exact ⟨_, _, rfl⟩
theorem LifeB.form (h : LifeB w0 w x c p r size rd vT T) : ∃ A k, vT = .slice A T.length k := by
  rcases h.own.2 with ⟨rfl, e⟩ | ⟨g, cap, cur, rfl, _⟩
  · exact ⟨none, 0, by rw [e]⟩
  · exact ⟨_, _, rfl⟩
theorem LifeB.cells (h : LifeB w0 w x c p r size rd vT T) : w.cell? ⟨x, 0, none⟩ = some (.pointer (some ⟨c, 0, none⟩)) ∧ w.cell? ⟨x, 1, none⟩ = some (.pointer (some ⟨p, 0, none⟩)) ∧ w.cell? ⟨x, 2, none⟩ = some (.pointer (some ⟨r, 0, none⟩)) ∧ w.cell? ⟨x, 3, none⟩ = some (.int .i64 size) ∧ w.cell? ⟨x, 4, none⟩ = some vT ∧ w.cell? ⟨x, 5, none⟩ = some (.int .i64 rd) := by
  refine ⟨?_, ?_, ?_, ?_, ?_, ?_⟩ <;> simp [World.cell?, h.blk]
theorem LifeB.free (h : LifeB w0 w x c p r size rd vT T) (i : Nat) : w.frozen? ⟨x, i, none⟩ = false := by
  simp [World.frozen?, h.blk]
/-- the list is put into its place -/
theorem LifeB.put (h : LifeB w0 w x c p r size rd vT T) (vT' : Value) (T' : List Int) (ho : w.ownsRow w0.heap.size 3 1 vT' T'.length (intsV T')) (hn : vT'.ownBlock ≠ some x) : LifeB w0 (w.setCell ⟨x, 4, none⟩ vT') x c p r size rd vT' T' := by
  have hc := chg_setCell w x 4 vT'
  refine ⟨?_, rowOwn_chg ho hc (fun k e e2 => hn (by rw [e, e2])), h.gx, Nat.le_trans h.sz hc.size⟩
  rw [heap_setCell w x 4 vT' _ _ _ h.blk]
  rfl
theorem LifeB.of {vO : Value} (hb : w.heap[x]? = some (.cells #[.pointer (some ⟨c, 0, none⟩), .pointer (some ⟨p, 0, none⟩), .pointer (some ⟨r, 0, none⟩), .int .i64 size, vO, .int .i64 rd] 133 (0, 0))) (hg : w0.heap.size ≤ x) (hz : w0.heap.size ≤ w.heap.size) (vT' : Value) (T' : List Int) (ho : w.ownsRow w0.heap.size 3 1 vT' T'.length (intsV T')) (hn : vT'.ownBlock ≠ some x) : LifeB w0 (w.setCell ⟨x, 4, none⟩ vT') x c p r size rd vT' T' := by
  have hc := chg_setCell w x 4 vT'
  refine ⟨?_, rowOwn_chg ho hc (fun k e e2 => hn (by rw [e, e2])), hg, Nat.le_trans hz hc.size⟩
  rw [heap_setCell w x 4 vT' _ _ _ hb]
  rfl
theorem LifeB.count (h : LifeB w0 w x c p r size rd vT T) (rd' : Int) : LifeB w0 (w.setCell ⟨x, 5, none⟩ (.int .i64 rd')) x c p r size rd' vT T := by
  have hc := chg_setCell w x 5 (.int .i64 rd')
  refine ⟨?_, rowOwn_chg h.own hc (fun k e e2 => h.ne (by rw [e, e2])), h.gx, Nat.le_trans h.sz hc.size⟩
  rw [heap_setCell w x 5 _ _ _ _ h.blk]
  rfl

theorem rowInt_at {base : Nat} {A : Option Addr} {n cp : Nat} {l : List Int} (h : w.ownsRow base 3 1 (.slice A n cp) l.length (intsV l)) (k : Nat) (hk : k < l.length) : ∃ g, A = some ⟨g, 0, none⟩ ∧ w.cell? ⟨g, k, none⟩ = some (.int .i64 (l.getD k 0)) := by
  rcases h.2 with ⟨_, e⟩ | ⟨g, cap, cur, e, _⟩
  · omega
  · simp only [Value.slice.injEq] at e
    obtain ⟨rfl, rfl, rfl⟩ := e
    refine ⟨g, rfl, ?_⟩
    have := h.cells (g := g) rfl k (.int .i64 (l.getD k 0)) (by simp [intsV, hk])
    rw [show ((⟨g, 0, none⟩ : Addr).add k) = ⟨g, k, none⟩ by unfold Addr.add; split <;> simp_all] at this
    exact this

theorem findIdx_take {T : List Int} {a : Int} {k : Nat} (hk : k < T.length) (h1 : ∀ j, j < k → T.getD j 0 ≠ a) (h2 : T.getD k 0 = a) : placeL T a = (T.length : Int) - 1 - k := by
  have : T.findIdx? (fun x => x == a) = some k := by
    rw [List.findIdx?_eq_some_iff_getElem]
    refine ⟨hk, by simpa [hk] using h2, fun j hj => ?_⟩
    have := h1 j hj
    rw [List.getD_eq_getElem?_getD, List.getElem?_eq_getElem (by omega), Option.getD_some] at this
    simpa using this
  simp [placeL, this]
theorem findIdx_no {T : List Int} {a : Int} (h1 : ∀ j, j < T.length → T.getD j 0 ≠ a) : placeL T a = -1 := by
  have : T.findIdx? (fun x => x == a) = none := by
    rw [List.findIdx?_eq_none_iff]
    intro y hy
    obtain ⟨j, hj, rfl⟩ := List.mem_iff_getElem.1 hy
    have := h1 j hj
    rw [List.getD_eq_getElem?_getD, List.getElem?_eq_getElem hj, Option.getD_some] at this
    simpa using this
  simp [placeL, this]

set_option maxRecDepth 100000
set_option maxHeartbeats 2000000 in
theorem LifeB.place (h : LifeB w0 w x c p r size rd vT T) (a : Int) (hl : T.length ≤ 1000) :
    Calls Try.prog 165 #[.pointer (some ⟨x, 0, none⟩), .int .i64 a] w fun e w' => e = .returned (.int .i64 (placeL T a)) ∧ Below w.heap.size w w' := by
  obtain ⟨A, cp, rfl⟩ := h.form
  obtain ⟨c0, c1, c2, c3, c4, c5⟩ := h.cells
  have hown := h.own
  have HO := Lib.hid hown
  clear hown h
  go_enter Try.func165, Try.ntmps165
  go_wp2_with fail
  go_loopw [5] (fun t wr => ∃ k : Nat, k ≤ T.length ∧ t = .int .i64 k ∧ wr = w ∧ ∀ j, j < k → T.getD j 0 ≠ a) (fun t _ => T.length - (intOf t).toNat)
  case atStart => exact ⟨0, by omega, rfl, rfl, fun j hj => by omega⟩
  case round =>
    obtain ⟨k, hk, rfl, rfl, hno⟩ := hrel
    by_cases hlt : k < T.length
    · obtain ⟨g, rfl, hg⟩ := rowInt_at HO.out k hlt
      have HN := Lib.hid hno
      clear hno
      by_cases he : T.getD k 0 = a
      · have he1 : (T.getD k 0 == a) = true := by simpa using he
        have HE := Lib.hid he
        clear he
        have HPL := Lib.hid (findIdx_take hlt HN.out HE.out)
        generalize T.getD k 0 = z at hg he1 HE
        go_wp2_with fail
        go_ret
        refine ⟨?_, Below.refl _ _⟩
        rw [HPL.out]
        rfl
      · have he1 : (T.getD k 0 == a) = false := by simpa using he
        have HE := Lib.hid he
        clear he
        generalize hz : T.getD k 0 = z at hg he1 HE
        have HZ := Lib.hid hz
        clear hz
        go_wp2_with fail
        go_roundw
        case rel =>
          refine ⟨k + 1, by omega, by go_num, trivial, fun j hj => ?_⟩
          rcases Nat.lt_succ_iff_lt_or_eq.1 hj with e | rfl
          · exact HN.out j e
          · exact HZ.out ▸ HE.out
        case measure => simp [intOf]; omega
    · obtain rfl : k = T.length := by omega
      have HN := Lib.hid hno
      clear hno
      go_wp2_with fail
      go_ret
      exact ⟨by rw [findIdx_no HN.out]; rfl, Below.refl _ _⟩

theorem forgetL_succ {T : List Int} {k : Nat} (hk : k < T.length) (a : Int) : forgetL (T.take (k + 1)) a = forgetL (T.take k) a ++ (if T.getD k 0 = a then [] else [T.getD k 0]) := by
  have : T.take (k + 1) = T.take k ++ [T.getD k 0] := by
    rw [List.take_add_one, List.getElem?_eq_getElem hk]
    simp [hk]
  rw [this, forgetL, List.filter_append, ← forgetL]
  congr 1
  generalize T.getD k 0 = z
  by_cases e : z = a <;> simp [e]
theorem forgetL_len (T : List Int) (a : Int) : (forgetL T a).length ≤ T.length := List.length_filter_le _ _

set_option maxRecDepth 100000
set_option maxHeartbeats 2000000 in
theorem LifeB.forget (h : LifeB w0 w x c p r size rd vT T) (a : Int) (hl : T.length ≤ 1000) :
    Calls Try.prog 203 #[.pointer (some ⟨x, 0, none⟩), .int .i64 a] w fun e w' => ∃ vT', e = .returned (.tuple #[]) ∧ LifeB w0 w' x c p r size rd vT' (forgetL T a) ∧ Chg (fun b => b = x) w w' ∧ (∀ b, vT'.ownBlock = some b → w.heap.size ≤ b) := by
  obtain ⟨A, cp, rfl⟩ := h.form
  obtain ⟨c0, c1, c2, c3, c4, c5⟩ := h.cells
  have f4 := h.free 4
  have hown := h.own
  have hxl := h.lt
  have hsz := h.sz
  have HO := Lib.hid hown
  have H := Lib.hid h
  obtain ⟨ie, hi, hz, hsize, hby⟩ := info_parts (P := Try.prog) (e := 3) (z := .int .i64 0) (size := 1) (bytes := 8) (by kernel_rfl)
  clear hown h
  go_enter Try.func203, Try.ntmps203
  go_wp2_with fail
  go_loopw [4, 5] (fun s t wr => ∃ k : Nat, k ≤ T.length ∧ t = .int .i64 k ∧ Below w.heap.size w wr ∧ wr.ownsRow w.heap.size 3 1 s (forgetL (T.take k) a).length (intsV (forgetL (T.take k) a))) (fun _ t _ => T.length - (intOf t).toNat)
  case atStart => exact ⟨0, by omega, rfl, Below.refl _ _, World.ownsRow_nil _ _ _ _⟩
  case round =>
    obtain ⟨k, hk, rfl, hbr, hor⟩ := hrel
    have d4 := (hbr.cell (p := ⟨x, 4, none⟩) hxl).trans c4
    have e4 := (hbr.frozen (p := ⟨x, 4, none⟩) hxl).trans f4
    by_cases hlt : k < T.length
    · obtain ⟨g, rfl, hg⟩ := rowInt_at HO.out k hlt
      have hgw := (hbr.cell (p := ⟨g, k, none⟩) (cell_lt hg)).trans hg
      have hsu := forgetL_succ hlt a
      have hfl := forgetL_len (T.take k) a
      have hbs := hbr.size
      by_cases he : T.getD k 0 = a
      · have he1 : (T.getD k 0 != a) = false := by simpa using he
        rw [if_pos he, List.append_nil] at hsu
        have HS := Lib.hid hsu
        have HB := Lib.hid hbr
        have HR := Lib.hid hor
        clear he hsu hbr hor hg
        generalize T.getD k 0 = z at hgw he1
        go_wp2_with fail
        go_roundw
        case rel => exact ⟨k + 1, by omega, by go_num, HB.out, by rw [HS.out]; exact HR.out⟩
        case measure => simp [intOf]; omega
      · have he1 : (T.getD k 0 != a) = true := by simpa using he
        rw [if_neg he] at hsu
        have HS := Lib.hid hsu
        have HB := Lib.hid hbr
        have HR := Lib.hid hor
        have hxk : (T.take k).length ≤ 1000 := by simp; omega
        clear he hsu hbr hor hg
        generalize T.getD k 0 = z at hgw he1 HS
        go_wp2_with
          (first
            | (refine wpList_append_own _ rfl _ _ 88 rfl w.heap.size 3 ie (.int .i64 0) 1 8 Try.underlying88 hi hz hsize hby rfl (by decide) u4 _ _ rfl (rowOwn_below HR.out (below_alloc' (Below.refl _ _) _)) _ 1 1 [.int .i64 z] rfl rfl (fun j u hj => cells_at (heap_alloc_new _ _) j u hj) (by simp [Value.oneCell']) (by simp only [maxLen]; omega) (by omega) (by simp; omega) ?_
               intro v2 w2 hown2 hgr2 _
               have hb2 := below_grown (below_alloc' HB.out (.cells #[.int .i64 z] 3)) hgr2 (fun k e => (HR.out.lt k e).1)))
        go_roundw
        case rel =>
          refine ⟨k + 1, by omega, by go_num, hb2, ?_⟩
          rw [HS.out]
          simpa [intsV] using hown2
        case measure => simp [intOf]; omega
    · obtain rfl : k = T.length := by omega
      rw [List.take_length] at hor
      have HB := Lib.hid hbr
      have HR := Lib.hid hor
      obtain ⟨A2, k2, hu4⟩ := rowOwn_form hor
      subst hu4
      have hbs := hbr.size
      clear hbr hor
      go_wp2_with fail
      go_end0
      refine ⟨.slice A2 (forgetL T a).length k2, rfl, ?_, (Chg.of_below HB.out).trans (chg_setCell _ _ _ _), fun b e => (HR.out.lt b e).1⟩
      exact (H.out.below HB.out).put _ _ (HR.out.mono hsz) (fun e => by have := (HR.out.lt _ e).1; omega)

/-- a sector is touched -/
def touchL (T : List Int) (a : Int) : List Int := forgetL T a ++ [a]
set_option maxRecDepth 100000
set_option maxHeartbeats 2000000 in
theorem LifeB.touch (h : LifeB w0 w x c p r size rd vT T) (a : Int) (hl : T.length ≤ 999) :
    Calls Try.prog 166 #[.pointer (some ⟨x, 0, none⟩), .int .i64 a] w fun e w' => ∃ vT', e = .returned (.tuple #[]) ∧ LifeB w0 w' x c p r size rd vT' (touchL T a) ∧ Chg (fun b => b = x) w w' ∧ (∀ b, vT'.ownBlock = some b → w.heap.size ≤ b) := by
  have hfo := h.forget a (by omega)
  have hsz := h.sz
  have hxl := h.lt
  have HF := Lib.hid hfo
  have hfl := forgetL_len T a
  obtain ⟨ie, hi, hz, hsize, hby⟩ := info_parts (P := Try.prog) (e := 3) (z := .int .i64 0) (size := 1) (bytes := 8) (by kernel_rfl)
  clear hfo h
  go_enter Try.func166, Try.ntmps166
  go_wp2_with
    (first
      | (go_at_call 203
         refine HF.out.mono ?_
         rintro e w1 ⟨vT1, rfl, hL1, hc1, hn1⟩
         obtain ⟨A1, k1, rfl⟩ := hL1.form
         obtain ⟨c0, c1, c2, c3, c4, c5⟩ := hL1.cells
         have f4 := hL1.free 4
         have hx1 := hL1.lt
         have hs1 := hc1.size
         have HO := Lib.hid hL1.own
         have HL1 := Lib.hid hL1
         have HC1 := Lib.hid hc1
         have HN1 := Lib.hid hn1
         clear hL1 hc1 hn1)
      | (refine wpList_append_own_at _ rfl _ _ 88 rfl w0.heap.size 3 ie (.int .i64 0) 1 8 Try.underlying88 hi hz hsize hby rfl (by decide) (.slice A1 (forgetL T a).length k1) _ _ rfl (rowOwn_below HO.out (below_alloc' (Below.refl _ _) _)) _ 1 1 [.int .i64 a] rfl rfl (fun j u hj => cells_at (heap_alloc_new _ _) j u hj) (by simp [Value.oneCell']) (by simp only [maxLen]; omega) (by omega) (by simp; omega) ?_
         intro v2 w2 hown2 hgr2 _ hat2
         have hc12 : Chg (fun b => (Value.slice A1 (forgetL T a).length k1).ownBlock = some b) w1 w2 := ((Chg.refl _ w1).alloc (.cells #[.int .i64 a] 3)).grown hgr2 (fun k e _ => e)
         have d4 := (hc12.cell (p := ⟨x, 4, none⟩) hx1 (fun e => HL1.out.ne e)).trans c4
         have e4 : w2.frozen? ⟨x, 4, none⟩ = false := by
           have hbx := (hc12.block x hx1 (fun e => HL1.out.ne e)).trans HL1.out.blk
           simp [World.frozen?, hbx]
         obtain ⟨A2, k2, hv2⟩ := rowOwn_form hown2
         subst hv2))
  go_end0
  have hc1 := HC1.out
  have hblk := (hc12.block x hx1 (fun e => HL1.out.ne e)).trans HL1.out.blk
  have hn2 : ∀ b, (Value.slice A2 ((forgetL T a).length + 1) k2).ownBlock = some b → w.heap.size ≤ b := fun b e => by
    rcases hat2 with e2 | e2
    · exact HN1.out b (e2 ▸ e)
    · rw [e] at e2; cases e2; simp; omega
  refine ⟨_, rfl, LifeB.of hblk HL1.out.gx (Nat.le_trans hsz (Nat.le_trans hs1 hc12.size)) _ (touchL T a) (by simpa [touchL, intsV] using hown2) (fun e => by have := hn2 _ e; omega), ?_, hn2⟩
  exact (hc1.then hc12 (fun i hi e => by have := HN1.out i e; omega)).trans (chg_setCell _ _ _ _)
end
end Go.Proofs.Yteeamlidmkpohaa


/-
  A life: what was touched and what is kept, in plain words; a cache over its device, the reference's, and the life's block, apart.
-/
set_option linter.unusedVariables false
set_option linter.unusedSimpArgs false
namespace Go.Proofs.Yteeamlidmkpohaa
open Go.RowKit Go.Sort

theorem forgetL_no {T : List Int} {k : Int} (h : k ∉ T) : forgetL T k = T := by
  unfold forgetL
  rw [List.filter_eq_self]
  intro a ha
  simp only [Bool.not_eq_eq_eq_not, Bool.not_true, beq_eq_false_iff_ne, ne_eq]
  intro e
  exact h (e ▸ ha)
theorem forgetL_nodup {T : List Int} (h : T.Nodup) (k : Int) : (forgetL T k).Nodup := h.filter _
theorem mem_forgetL {T : List Int} {k a : Int} : a ∈ forgetL T k ↔ a ∈ T ∧ a ≠ k := by
  unfold forgetL
  rw [List.mem_filter]
  simp
theorem touchL_nodup {T : List Int} (h : T.Nodup) (k : Int) : (touchL T k).Nodup := by
  unfold touchL
  rw [List.nodup_append]
  refine ⟨forgetL_nodup h k, by simp, fun a ha b hb => ?_⟩
  simp only [List.mem_singleton] at hb
  subst hb
  exact (mem_forgetL.1 ha).2
theorem forgetL_has {T : List Int} (h : T.Nodup) {k : Int} (hk : k ∈ T) : (forgetL T k).length + 1 = T.length := by
  induction T with
  | nil => cases hk
  | cons a T ih =>
    rw [List.nodup_cons] at h
    by_cases e : a = k
    · subst e
      have : forgetL (a :: T) a = forgetL T a := by simp [forgetL]
      rw [this, forgetL_no h.1]
      rfl
    · have : forgetL (a :: T) k = a :: forgetL T k := by simp [forgetL, e]
      rw [this]
      have := ih h.2 (by rcases List.mem_cons.1 hk with h1 | h1; exact absurd h1.symm e; exact h1)
      simp only [List.length_cons]
      omega
theorem forgetL_append (A B : List Int) (k : Int) : forgetL (A ++ B) k = forgetL A k ++ forgetL B k := List.filter_append ..
/-- what is kept behind a touch is the last of what was touched -/
theorem lastN_touch {T : List Int} (h : T.Nodup) (k : Int) {n : Nat} (hn : 1 ≤ n) : lastN (touchL T k) n = kk (lastN T n) k n := by
  have hT : T = T.take (T.length - n) ++ lastN T n := (List.take_append_drop _ _).symm
  generalize hP : T.take (T.length - n) = P at hT
  have hPl : P.length = T.length - n := by rw [← hP, List.length_take]; omega
  have hSl : (lastN T n).length = T.length - (T.length - n) := by simp [lastN]
  generalize hS : lastN T n = S at hT hSl
  have e1 : touchL T k = forgetL P k ++ (forgetL S k ++ [k]) := by rw [hT]; simp [touchL, forgetL_append]
  have hlen : T.length = P.length + S.length := by rw [hT]; simp
  have hkk : kk S k n = if ((forgetL S k ++ [k]).length : Int) ≤ n then forgetL S k ++ [k] else (forgetL S k ++ [k]).tail := rfl
  rw [hkk]
  have hnd := h
  rw [hT, List.nodup_append] at hnd
  obtain ⟨hndP, hndS, hap⟩ := hnd
  by_cases hk : k ∈ S
  · have hkP : k ∉ P := fun e => hap k e k hk rfl
    have h1 := forgetL_has hndS hk
    rw [if_pos (by simp; omega)]
    unfold lastN
    rw [e1, forgetL_no hkP]
    have : (P ++ (forgetL S k ++ [k])).length - n = P.length := by simp; omega
    rw [this, List.drop_left]
  · rw [forgetL_no hk] at e1 ⊢
    by_cases hm : T.length < n
    · have hP0 : P = [] := List.length_eq_zero_iff.1 (by omega)
      subst hP0
      rw [if_pos (by simp; omega)]
      unfold lastN
      rw [e1]
      have : (forgetL [] k ++ (S ++ [k])).length - n = 0 := by simp [forgetL]; omega
      rw [this]
      simp [forgetL]
    · rw [if_neg (by simp; omega)]
      unfold lastN
      rw [e1]
      have : (forgetL P k ++ (S ++ [k])).length - n = (forgetL P k).length + 1 := by simp; omega
      rw [this, ← List.drop_drop, List.drop_left]
      simp
theorem placeL_in {T : List Int} {k : Int} {n : Nat} (h1 : 0 ≤ placeL T k) (h2 : placeL T k < n) : k ∈ lastN T n := by
  unfold placeL at h1 h2
  cases hf : T.findIdx? (fun x => x == k) with
  | none => rw [hf] at h1; simp at h1
  | some i =>
    rw [hf] at h1 h2
    simp only at h1 h2
    obtain ⟨hi, hik, _⟩ := List.findIdx?_eq_some_iff_getElem.1 hf
    have : T[i] = k := by simpa using hik
    unfold lastN
    rw [List.mem_drop_iff_getElem]
    exact ⟨i - (T.length - n), by omega, by rw [← this]; congr 1; omega⟩
theorem placeL_no {T : List Int} {k : Int} {n : Nat} (h1 : placeL T k < 0) : k ∉ lastN T n := by
  intro hm
  have hm : k ∈ T := List.mem_of_mem_drop hm
  unfold placeL at h1
  cases hf : T.findIdx? (fun x => x == k) with
  | none =>
    rw [List.findIdx?_eq_none_iff] at hf
    have := hf k hm
    simp at this
  | some i =>
    rw [hf] at h1
    simp only at h1
    obtain ⟨hi, _, _⟩ := List.findIdx?_eq_some_iff_getElem.1 hf
    omega
theorem placeL_le (T : List Int) (k : Int) : -1 ≤ placeL T k ∧ placeL T k < (T.length : Int) ∨ placeL T k = -1 := by
  unfold placeL
  cases hf : T.findIdx? (fun x => x == k) with
  | none => exact .inr rfl
  | some i =>
    obtain ⟨hi, _, _⟩ := List.findIdx?_eq_some_iff_getElem.1 hf
    left
    simp only
    omega

def Qs (p ms mo c mk : Nat) (Y : Nat → Prop) : Nat → Prop := fun b => DF p ms mo b ∨ CF c mk b ∨ Y b
def Rs (r : Nat) (lv : Value) (Z : Nat → Prop) : Nat → Prop := fun b => MF r lv b ∨ Z b
/-- the three, apart -/
structure Tri (w0 w : World) (p ms mo c mk : Nat) (K : Ck) (Y : Nat → Prop) (D : Dk) (r : Nat) (lv : Value) (L : List RS) (Z : Nat → Prop) (D2 : Dk) (x : Nat) (size rd : Int) (vT : Value) (T : List Int) : Prop where
  cd : CD w0 w p ms mo c mk K Y D
  rf : Ref w0 w r lv L Z D2
  lb : LifeB w0 w x c p r size rd vT T
  qr : ∀ b, Qs p ms mo c mk Y b → ¬ Rs r lv Z b
  ql : ∀ b, Qs p ms mo c mk Y b → ¬ LF x vT b
  rl : ∀ b, Rs r lv Z b → ¬ LF x vT b

section
variable {w0 w w' : World} {p ms mo c mk r x : Nat} {K K' : Ck} {Y Y' Z Z' : Nat → Prop} {D D2 D' : Dk} {lv lv' : Value} {L L' : List RS} {size rd rd' : Int} {vT vT' : Value} {T T' : List Int}
theorem CD.qs (h : CD w0 w p ms mo c mk K Y D) : ∀ b, Qs p ms mo c mk Y b → w0.heap.size ≤ b ∧ b < w.heap.size := fun b e => by
  rcases e with e | e | e
  · exact ⟨h.dv.df b e, h.dv.lt b e⟩
  · exact h.ca.cf b e
  · exact ⟨(h.ca.y b e).1, (h.ca.y b e).2.1⟩
theorem Ref.rs (h : Ref w0 w r lv L Z D) : ∀ b, Rs r lv Z b → w0.heap.size ≤ b ∧ b < w.heap.size := fun b e => by
  rcases e with e | e
  · exact h.mf b e
  · exact ⟨(h.y b e).1, (h.y b e).2.1⟩
theorem Tri.below (h : Tri w0 w p ms mo c mk K Y D r lv L Z D2 x size rd vT T) (hb : Below w.heap.size w w') : Tri w0 w' p ms mo c mk K Y D r lv L Z D2 x size rd vT T :=
  ⟨h.cd.below hb, h.rf.below hb, h.lb.below hb, h.qr, h.ql, h.rl⟩
/-- blocks elsewhere are written -/
theorem Tri.chg {F : Nat → Prop} (h : Tri w0 w p ms mo c mk K Y D r lv L Z D2 x size rd vT T) (hc : Chg F w w') (h0 : ∀ b, F b → w0.heap.size ≤ b) (h1 : ∀ b, Qs p ms mo c mk Y b → ¬ F b) (h2 : ∀ b, Rs r lv Z b → ¬ F b) (h3 : ∀ b, LF x vT b → ¬ F b) : Tri w0 w' p ms mo c mk K Y D r lv L Z D2 x size rd vT T :=
  ⟨h.cd.chg hc h0 (fun b e => h1 b (.inl e)) (fun b e => h1 b (.inr (.inl e))) (fun b e => h1 b (.inr (.inr e))), h.rf.chg hc (fun b e => h2 b (.inl e)) (fun b e => h2 b (.inr e)), h.lb.chg hc h3, h.qr, h.ql, h.rl⟩
/-- the cache or its device is turned -/
theorem Tri.cstep (h : Tri w0 w p ms mo c mk K Y D r lv L Z D2 x size rd vT T) (hd : CD w0 w' p ms mo c mk K' Y' D') (hc : Chg (fun b => DF p ms mo b ∨ CF c mk b) w w') (hf : Fresh w Y Y') : Tri w0 w' p ms mo c mk K' Y' D' r lv L Z D2 x size rd vT T := by
  have hq : ∀ b, (DF p ms mo b ∨ CF c mk b) → Qs p ms mo c mk Y b := fun b e => e.imp id .inl
  have hQ : ∀ b, Qs p ms mo c mk Y' b → Qs p ms mo c mk Y b ∨ w.heap.size ≤ b := fun b e => by
    rcases e with e | e | e
    · exact .inl (.inl e)
    · exact .inl (.inr (.inl e))
    · exact (hf b e).imp (fun e => .inr (.inr e)) id
  refine ⟨hd, h.rf.chg hc (fun b e e2 => h.qr b (hq b e2) (.inl e)) (fun b e e2 => h.qr b (hq b e2) (.inr e)), h.lb.chg hc (fun b e e2 => h.ql b (hq b e2) e), fun b e e2 => ?_, fun b e e2 => ?_, h.rl⟩
  · rcases hQ b e with e3 | e3
    · exact h.qr b e3 e2
    · have := (h.rf.rs b e2).2; omega
  · rcases hQ b e with e3 | e3
    · exact h.ql b e3 e2
    · have := (h.lb.lf b e2).2; omega
/-- the reference is turned -/
theorem Tri.rstep (h : Tri w0 w p ms mo c mk K Y D r lv L Z D2 x size rd vT T) (hd : Ref w0 w' r lv' L' Z' D') (hc : Chg (MF r lv) w w') (hm : Fresh w (MF r lv) (MF r lv')) (hz : Fresh w Z Z') : Tri w0 w' p ms mo c mk K Y D r lv' L' Z' D' x size rd vT T := by
  have hR : ∀ b, Rs r lv' Z' b → Rs r lv Z b ∨ w.heap.size ≤ b := fun b e => by
    rcases e with e | e
    · exact (hm b e).imp .inl id
    · exact (hz b e).imp .inr id
  refine ⟨h.cd.chg hc (fun b e => (h.rf.mf b e).1) (fun b e e2 => h.qr b (.inl e) (.inl e2)) (fun b e e2 => h.qr b (.inr (.inl e)) (.inl e2)) (fun b e e2 => h.qr b (.inr (.inr e)) (.inl e2)), hd, h.lb.chg hc (fun b e e2 => h.rl b (.inl e2) e), fun b e e2 => ?_, h.ql, fun b e e2 => ?_⟩
  · rcases hR b e2 with e3 | e3
    · exact h.qr b e e3
    · have := (h.cd.qs b e).2; omega
  · rcases hR b e with e3 | e3
    · exact h.rl b e3 e2
    · have := (h.lb.lf b e2).2; omega
/-- the life's block is written -/
theorem Tri.lstep (h : Tri w0 w p ms mo c mk K Y D r lv L Z D2 x size rd vT T) (hl : LifeB w0 w' x c p r size rd' vT' T') (hc : Chg (fun b => b = x) w w') (hv : ∀ b, vT'.ownBlock = some b → w.heap.size ≤ b ∨ vT.ownBlock = some b) : Tri w0 w' p ms mo c mk K Y D r lv L Z D2 x size rd' vT' T' := by
  have hx : ∀ b, b = x → LF x vT b := fun b e => .inl e
  have hL : ∀ b, LF x vT' b → LF x vT b ∨ w.heap.size ≤ b := fun b e => by
    rcases e with e | e
    · exact .inl (.inl e)
    · rcases hv b e with e2 | e2
      · exact .inr e2
      · exact .inl (.inr e2)
  refine ⟨h.cd.chg hc (fun b e => by rw [e]; exact h.lb.gx) (fun b e e2 => h.ql b (.inl e) (.inl e2)) (fun b e e2 => h.ql b (.inr (.inl e)) (.inl e2)) (fun b e e2 => h.ql b (.inr (.inr e)) (.inl e2)), h.rf.chg hc (fun b e e2 => h.rl b (.inl e) (.inl e2)) (fun b e e2 => h.rl b (.inr e) (.inl e2)), hl, h.qr, fun b e e2 => ?_, fun b e e2 => ?_⟩
  · rcases hL b e2 with e3 | e3
    · exact h.ql b e e3
    · have := (h.cd.qs b e).2; omega
  · rcases hL b e2 with e3 | e3
    · exact h.rl b e e3
    · have := (h.rf.rs b e).2; omega
end
end Go.Proofs.Yteeamlidmkpohaa


/-
  A life: read.
-/
set_option linter.unusedVariables false
set_option linter.unusedSimpArgs false
namespace Go.Proofs.Yteeamlidmkpohaa
open Go.RowKit Go.Sort

/-- what holds of a life -/
structure Inv9 (K : Ck) (D : Dk) (T : List Int) (rd size N : Int) : Prop where
  fit : D.down = false → K.fit D ∧ K.C.map CE.k = lastN T size.toNat
  most : K.most = size
  nd : T.Nodup
  rd : rd = K.hits + K.misses
  b1 : K.now ≤ N
  b2 : K.hits + K.misses ≤ N
  b3 : (T.length : Int) ≤ N
def LfPost (w0 w : World) (p ms mo c mk r x : Nat) (D' : Dk) (size N' : Int) (w' : World) : Prop :=
  ∃ K' Y' lv' L' Z' vT' T' rd', Tri w0 w' p ms mo c mk K' Y' D' r lv' L' Z' D' x size rd' vT' T' ∧ Inv9 K' D' T' rd' size N' ∧ Chg (fun b => w0.heap.size ≤ b) w w'

section
variable {w0 w w' : World} {p ms mo c mk r x : Nat} {K K' : Ck} {Y Y' Z Z' : Nat → Prop} {D D2 D' : Dk} {lv lv' : Value} {L L' : List RS} {size rd rd' N : Int} {vT vT' : Value} {T T' : List Int}
theorem Inv9.mono (h : Inv9 K D T rd size N) {N' : Int} (hN : N ≤ N') : Inv9 K D T rd size N' :=
  ⟨h.fit, h.most, h.nd, h.rd, Int.le_trans h.b1 hN, Int.le_trans h.b2 hN, Int.le_trans h.b3 hN⟩
/-- a sector is touched -/
theorem Inv9.touch (h : Inv9 K D T rd size N) (hm1 : 1 ≤ size) {k : Int} {u : Value} {h1 m1 : Int} (hk : D.may k = 0) (hd : h1 + m1 = K.hits + K.misses + 1) : Inv9 { K.touch ⟨k, D.latest k, u, K.now + 1⟩ with hits := h1, misses := m1 } D (touchL T k) (rd + 1) size (N + 1) := by
  have hdn := (may_zero hk).1
  have hb3 := h.b3
  have hfl := forgetL_len T k
  refine ⟨fun _ => ⟨?_, ?_⟩, h.most, touchL_nodup h.nd k, ?_, ?_, ?_, ?_⟩
  · exact Ck.fit_touch (v := u) (h.fit hdn).1 hk rfl
  · show (keepL K.C ⟨k, D.latest k, u, K.now + 1⟩ K.most).map CE.k = _
    rw [keepL_keys, (h.fit hdn).2, lastN_touch h.nd k (by omega), h.most]
    have : ((size.toNat : Nat) : Int) = size := by omega
    rw [this]
  · show rd + 1 = h1 + m1
    have := h.rd; omega
  · show K.now + 1 ≤ N + 1
    have := h.b1; omega
  · show h1 + m1 ≤ N + 1
    have := h.b2; omega
  · simp only [touchL, List.length_append, List.length_singleton]
    omega
theorem rbytes_len {D : Dk} (h : D.Ok) (k : Int) : (D.rbytes k).length ≤ 512 := by
  unfold Dk.rbytes
  split
  · simp
  · rw [(Dk.latest_sec h k).1]; omega

/-- a read, as the life looks at it -/
theorem Tri.cread (h : Tri w0 w p ms mo c mk K Y D r lv L Z D x size rd vT T) (hi : Inv9 K D T rd size N) (k : Int) (hN : N < 900) :
    Calls Try.prog 105 #[.pointer (some ⟨c, 0, none⟩), .int .i64 k] w fun e w' => ∃ v K' Y', e = .returned (.tuple #[v, .int .i64 (D.may k)]) ∧ w'.ownsRow w.heap.size 5 1 v (D.rbytes k).length (bytesV (D.rbytes k)) ∧ (∀ b, v.ownBlock = some b → ¬ Y' b) ∧
      Tri w0 w' p ms mo c mk K' Y' D r lv L Z D x size rd vT T ∧ Chg (CF c mk) w w' ∧ ReadRel K D k K' := by
  have b1 := hi.b1
  have b2 := hi.b2
  have h1 := h.cd.ca.h0
  have h2 := h.cd.ca.s0
  refine (h.cd.reads (fun hd => (hi.fit hd).1) k (by omega) (by omega) (by omega)).mono ?_
  rintro e w' ⟨v, K', Y', rfl, ho, hy, hcd, hc, hf, hr⟩
  exact ⟨v, K', Y', rfl, ho, hy, h.cstep hcd (hc.mono (fun _ _ e => .inr e)) hf, hc, hr⟩

theorem readRel_ok {k h1 m1 : Int} (h : ReadRel K D k K') (hm : D.may k = 0) (hk : (K.has k ∧ h1 = K.hits + 1 ∧ m1 = K.misses) ∨ (¬ K.has k ∧ h1 = K.hits ∧ m1 = K.misses + 1)) : ∃ u, K' = { K.touch ⟨k, D.latest k, u, K.now + 1⟩ with hits := h1, misses := m1 } := by
  rcases h with ⟨h1, _⟩ | ⟨_, u, ⟨h2, rfl⟩ | ⟨h2, rfl⟩⟩
  · exact absurd hm h1
  · rcases hk with ⟨h3, rfl, rfl⟩ | ⟨h3, _⟩
    · exact ⟨u, by simp [Ck.touch]⟩
    · exact absurd h2 h3
  · rcases hk with ⟨h3, _⟩ | ⟨h3, rfl, rfl⟩
    · exact absurd h3 h2
    · exact ⟨u, by simp [Ck.touch]⟩
set_option maxRecDepth 100000
set_option maxHeartbeats 4000000 in
theorem lread_no (h : Tri w0 w p ms mo c mk K Y D r lv L Z D x size rd vT T) (hi : Inv9 K D T rd size N) (k : Int) (hN : N < 900) (hm : D.may k ≠ 0) :
    Calls Try.prog 113 #[.pointer (some ⟨x, 0, none⟩), .int .i64 k] w fun e w' => e = .returned (.bool true) ∧ LfPost w0 w p ms mo c mk r x D size N w' := by
  obtain ⟨c0, c1, c2, c3, c4, c5⟩ := h.lb.cells
  have hcn := h.cd.ca.counts
  have hrl := Lib.hid (rbytes_len h.cd.dv.ok k)
  have H := Lib.hid h
  have HI := Lib.hid hi
  have HM := Lib.hid hm
  have hmm : (D.may k != D.may k) = false := by simp
  have hm0 : (D.may k != 0) = true := by simpa using hm
  clear h hi hm
  go_enter Try.func113, Try.ntmps113
  go_wp2_with
    (first
      | (go_at_call 106; refine hcn4.mono ?_; rintro e w5 ⟨rfl, hb5⟩; have hT5 := hT4.below hb5; have ha5 := Lib.hid (rowOwn_below ha4.out hb5); have hv5 := Lib.hid (hv4.out.below hb5); clear hcn4 hT4)
      | (go_at_call 106; refine hcn.mono ?_; rintro e w1 ⟨rfl, hb1⟩
         have hT1 := H.out.below hb1
         obtain ⟨d0, d1, d2, d3, d4, d5⟩ := hT1.lb.cells
         have hcr := hT1.cread HI.out k hN
         clear hcn)
      | (go_at_call 105; refine hcr.mono ?_; rintro e w2 ⟨v, K2, Y2, rfl, ho2, hvy2, hT2, hc2, hr2⟩
         obtain ⟨e0, e1, e2, e3, e4, e5⟩ := hT2.lb.cells
         obtain rfl : K2 = K := by
           rcases hr2 with ⟨_, h2⟩ | ⟨h2, _⟩
           · exact h2
           · exact absurd h2 HM.out
         have HO2 := Lib.hid ho2
         have HVY := Lib.hid hvy2
         clear hcr ho2 hvy2 hr2)
      | (go_at_call 141; refine (hT2.rf.reads k).mono ?_; rintro e w4 ⟨vb, rfl, hvb, hfb, hb4⟩
         have hT4 := hT2.below hb4
         obtain ⟨f0, f1, f2, f3, f4, f5⟩ := hT4.lb.cells
         have hcn4 := hT4.cd.ca.counts
         have ha4 := Lib.hid (rowOwn_below HO2.out hb4)
         have hv4 := Lib.hid hvb
         clear hvb)
      | (go_at_call 58; refine (sameBytes_eq _ _ _ _ (BytesIs.of_own rfl ha5.out) hv5.out).mono ?_; rintro e w6 ⟨rfl, hb6⟩; have hT6 := hT5.below hb6; have ha6 := Lib.hid (rowOwn_below ha5.out hb6))
      | (go_at_call 80; refine (turnBytes_any _ _ _ _ _ rfl ha6.out (by have := hrl.out; omega)).mono ?_; rintro e w7 ⟨rfl, hc7⟩
         have hT7 := hT6.chg hc7 (fun b e => by have := own_fresh HO2.out b e; have := hT1.lb.sz; omega) (fun b e e2 => by
           have := own_fresh HO2.out b e2
           rcases e with e | e | e
           · have := hT1.cd.dv.lt b e; omega
           · have := (hT1.cd.ca.cf b e).2; omega
           · exact HVY.out b e2 e) (fun b e e2 => by have := own_fresh HO2.out b e2; have := (hT1.rf.rs b e).2; omega) (fun b e e2 => by have := own_fresh HO2.out b e2; have := (hT1.lb.lf b e).2; omega)))
  go_ret
  refine ⟨rfl, _, _, _, _, _, _, _, _, hT7, HI.out, ?_⟩
  exact ((((Chg.of_below hb1).trans (hc2.mono (fun b _ e => (hT1.cd.ca.cf b e).1))).trans (Chg.of_below hb4)).trans (Chg.of_below hb5)).trans (Chg.of_below hb6) |>.trans (hc7.mono (fun b _ e => by have := own_fresh HO2.out b e; have := hT1.lb.sz; omega))

set_option maxHeartbeats 8000000 in
theorem lread_ok (h : Tri w0 w p ms mo c mk K Y D r lv L Z D x size rd vT T) (hi : Inv9 K D T rd size N) (k : Int) (hN : N < 900) (hm : D.may k = 0) {q : Int} (hq : q = placeL T k)
    (hcase : (K.has k ∧ 0 ≤ q) ∨ (¬ K.has k ∧ (q < 0 ∨ (0 ≤ q ∧ size ≤ q)))) :
    Calls Try.prog 113 #[.pointer (some ⟨x, 0, none⟩), .int .i64 k] w fun e w' => e = .returned (.bool true) ∧ LfPost w0 w p ms mo c mk r x D size (N + 1) w' := by
  obtain ⟨c0, c1, c2, c3, c4, c5⟩ := h.lb.cells
  have hcn := h.cd.ca.counts
  have hrl := Lib.hid (rbytes_len h.cd.dv.ok k)
  have hh0 := h.cd.ca.h0
  have hs0 := h.cd.ca.s0
  have i2 := hi.b2
  have i3 := hi.b3
  have i4 := hi.rd
  have hm1 : 1 ≤ size := by rw [← hi.most]; exact h.cd.ca.m1
  have hTl : T.length ≤ 999 := by omega
  have hrd0 : 0 ≤ rd := by omega
  have hrd1 : rd ≤ 1000 := by omega
  have hpl := placeL_le T k
  rw [← hq] at hpl
  have H := Lib.hid h
  have HI := Lib.hid hi
  have HM := Lib.hid hm
  have HQ := Lib.hid hq
  obtain ⟨a1, b1, hk1, hsum, hcase2⟩ : ∃ a1 b1 : Int, ((K.has k ∧ a1 = K.hits + 1 ∧ b1 = K.misses) ∨ (¬ K.has k ∧ a1 = K.hits ∧ b1 = K.misses + 1)) ∧ a1 + b1 = K.hits + K.misses + 1 ∧
      ((a1 = K.hits + 1 ∧ b1 = K.misses ∧ 0 ≤ q ∧ q < size) ∨ (a1 = K.hits + 1 ∧ b1 = K.misses ∧ 0 ≤ q ∧ size ≤ q) ∨ (a1 = K.hits ∧ b1 = K.misses + 1 ∧ q < 0) ∨ (a1 = K.hits ∧ b1 = K.misses + 1 ∧ 0 ≤ q ∧ size ≤ q)) := by
    rcases hcase with ⟨g1, g2⟩ | ⟨g1, g2⟩
    · exact ⟨_, _, .inl ⟨g1, rfl, rfl⟩, by omega, by omega⟩
    · exact ⟨_, _, .inr ⟨g1, rfl, rfl⟩, by omega, by omega⟩
  have HRR : Hid (∀ K2, ReadRel K D k K2 → ∃ u, K2 = { K.touch ⟨k, D.latest k, u, K.now + 1⟩ with hits := a1, misses := b1 }) := Lib.hid (fun K2 h2 => readRel_ok h2 hm hk1)
  have HSUM := Lib.hid (fun u => hi.touch (u := u) hm1 hm hsum)
  clear h hi hcase hq hk1 hsum
  generalize hhh : K.hits = h0 at hcn hh0 i2 i4 hcase2
  generalize hss : K.misses = s0 at hcn hs0 i2 i4 hcase2
  have hmm : (D.may k != D.may k) = false := by simp
  have hm0 : (D.may k != 0) = false := by simpa using hm
  clear hm hhh hss i4
  have hfe : (h0 + 1 == h0) = false := by simp; omega
  have hfd : decide (h0 + 1 < h0) = false := by simp; omega
  rcases hcase2 with ⟨rfl, rfl, g1, g2⟩ | ⟨rfl, rfl, g1, g2⟩ | ⟨rfl, rfl, g1⟩ | ⟨rfl, rfl, g1, g2⟩
  iterate 4
    · go_enter Try.func113, Try.ntmps113
      go_wp2_with
        (first
          | (go_at_call 106; refine hcn4.mono ?_; rintro e w5 ⟨rfl, hb5⟩; have hT5 := hT4.below hb5; have ha5 := Lib.hid (rowOwn_below ha4.out hb5); have hv5 := Lib.hid (hv4.out.below hb5); clear hcn4 hT4)
          | (go_at_call 106; refine hcn.mono ?_; rintro e w1 ⟨rfl, hb1⟩
             have hT1 := H.out.below hb1
             obtain ⟨d0, d1, d2, d3, d4, d5⟩ := hT1.lb.cells
             have hcr := hT1.cread HI.out k hN
             clear hcn)
          | (go_at_call 105; refine hcr.mono ?_; rintro e w2 ⟨v, K2, Y2, rfl, ho2, hvy2, hT2, hc2, hr2⟩
             obtain ⟨e0, e1, e2, e3, e4, e5⟩ := hT2.lb.cells
             have HO2 := Lib.hid ho2
             have HVY := Lib.hid hvy2
             have HR2 := Lib.hid hr2
             clear hcr ho2 hvy2 hr2)
          | (go_at_call 141; refine (hT2.rf.reads k).mono ?_; rintro e w4 ⟨vb, rfl, hvb, hfb, hb4⟩
             have hT4 := hT2.below hb4
             obtain ⟨f0, f1, f2, f3, f4, f5⟩ := hT4.lb.cells
             have hcn4 := hT4.cd.ca.counts
             have ha4 := Lib.hid (rowOwn_below HO2.out hb4)
             have hv4 := Lib.hid hvb
             obtain ⟨u, hu⟩ := HRR.out _ HR2.out
             have hn1 := congrArg Ck.hits hu
             have hn2 := congrArg Ck.misses hu
             simp only [] at hn1 hn2
             rw [hn1, hn2] at hcn4
             have HU := Lib.hid hu
             clear hvb hu hn1 hn2)
          | (go_at_call 58; refine (sameBytes_eq _ _ _ _ (BytesIs.of_own rfl ha5.out) hv5.out).mono ?_; rintro e w6 ⟨rfl, hb6⟩; have hT6 := hT5.below hb6; have ha6 := Lib.hid (rowOwn_below ha5.out hb6))
          | (go_at_call 80; refine (turnBytes_any _ _ _ _ _ rfl ha6.out (by have := hrl.out; omega)).mono ?_; rintro e w7 ⟨rfl, hc7⟩
             have hT7 := hT6.chg hc7 (fun b e => by have := own_fresh HO2.out b e; have := hT1.lb.sz; omega) (fun b e e2 => by
               have := own_fresh HO2.out b e2
               rcases e with e | e | e
               · have := hT1.cd.dv.lt b e; omega
               · have := (hT1.cd.ca.cf b e).2; omega
               · exact HVY.out b e2 e) (fun b e e2 => by have := own_fresh HO2.out b e2; have := (hT1.rf.rs b e).2; omega) (fun b e e2 => by have := own_fresh HO2.out b e2; have := (hT1.lb.lf b e).2; omega)
             have hC7 : Chg (fun b => w0.heap.size ≤ b) w w7 := ((((Chg.of_below hb1).trans (hc2.mono (fun b _ e => (hT1.cd.ca.cf b e).1))).trans (Chg.of_below hb4)).trans (Chg.of_below hb5)).trans (Chg.of_below hb6) |>.trans (hc7.mono (fun b _ e => by have := own_fresh HO2.out b e; have := hT1.lb.sz; omega))
             have HC7 := Lib.hid hC7
             have HT7 := Lib.hid hT7
             clear hT7 hT6 hT5 hT2 hT1 hC7 hb1 hc2 hb4 hb5 hb6 hc7)
          | (go_at_call 165; refine (HT7.out.lb.place k (by omega)).mono ?_; rintro e w8 ⟨rfl, hb8⟩
             rw [← HQ.out]
             have hT8 := HT7.out.below hb8
             obtain ⟨k0, k1, k2, k3, k4, k5⟩ := hT8.lb.cells)
          | (go_at_call 166; refine (hT8.lb.touch k hTl).mono ?_; rintro e w9 ⟨vT9, rfl, hl9, hc9, hn9⟩
             have hT9 := hT8.lstep hl9 hc9 (fun b e => .inl (hn9 b e))
             obtain ⟨j0, j1, j2, j3, j4, j5⟩ := hT9.lb.cells
             have jf := hT9.lb.free 5))
      go_ret
      refine ⟨rfl, _, _, _, _, _, _, _, _, hT9.lstep (hT9.lb.count (rd + 1)) (chg_setCell _ _ _ _) (fun b e => .inr e), ?_, ?_⟩
      · rw [HU.out]
        exact HSUM.out u
      · exact ((HC7.out.trans (Chg.of_below hb8)).trans (hc9.mono (fun b _ e => by rw [e]; exact hT8.lb.gx))).trans ((chg_setCell _ _ _ _).mono (fun b _ e => by rw [e]; exact hT8.lb.gx))
end
end Go.Proofs.Yteeamlidmkpohaa
