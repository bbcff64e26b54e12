/-
  The cache over its device: Read, Write.
-/
import Derived.Test.YteeamlidmkpohaaZac
import Derived.Deep.Onto
import Derived.Test.YteeamlidmkpohaaZab
import Derived.Maps.AppendAt
import Derived.Test.YteeamlidmkpohaaProg
import Derived.Test.YteeamlidmkpohaaZaa
set_option linter.unusedVariables false
set_option linter.unusedSimpArgs false
namespace Go.Proofs.Yteeamlidmkpohaa
open Go.RowKit Go.Sort

/-- a cache and its device, apart -/
structure CD (w0 w : World) (p ms mo c mk : Nat) (K : Ck) (Y : Nat → Prop) (D : Dk) : Prop where
  dv : Dev w0 w p ms mo D
  ca : CacheAt w0 w c mk p K Y
  a1 : ∀ b, DF p ms mo b → ¬ CF c mk b
  a2 : ∀ b, DF p ms mo b → ¬ Y b
/-- what is kept is what the device has -/
def Ck.fit (K : Ck) (D : Dk) : Prop := ∀ e ∈ K.C, e.l = D.latest e.k ∧ 0 ≤ e.k ∧ e.k < D.n
def Ck.touch (K : Ck) (e : CE) : Ck := { K with now := K.now + 1, C := keepL K.C e K.most }
def Ck.has (K : Ck) (k : Int) : Prop := ∃ e ∈ K.C, e.k = k

section
variable {w0 w w' : World} {p ms mo c mk : Nat} {K : Ck} {Y : Nat → Prop} {D : Dk}
theorem CD.below (h : CD w0 w p ms mo c mk K Y D) (hb : Below w.heap.size w w') : CD w0 w' p ms mo c mk K Y D := ⟨h.dv.below hb, h.ca.below hb, h.a1, h.a2⟩
theorem CD.chg {F : Nat → Prop} (h : CD w0 w p ms mo c mk K Y D) (hc : Chg F w w') (h0 : ∀ b, F b → w0.heap.size ≤ b) (h1 : ∀ b, DF p ms mo b → ¬ F b) (h2 : ∀ b, CF c mk b → ¬ F b) (h3 : ∀ b, Y b → ¬ F b) : CD w0 w' p ms mo c mk K Y D :=
  ⟨h.dv.chg hc h0 h1, h.ca.chg hc h2 h3, h.a1, h.a2⟩
/-- the device is turned -/
theorem CD.dstep {D' : Dk} (h : CD w0 w p ms mo c mk K Y D) (hd : Dev w0 w' p ms mo D') (hc : Chg (DF p ms mo) w w') : CD w0 w' p ms mo c mk K Y D' :=
  ⟨hd, h.ca.chg hc (fun b e e2 => h.a1 b e2 e) (fun b e e2 => h.a2 b e2 e), h.a1, h.a2⟩
/-- the cache is turned -/
theorem CD.cstep {K' : Ck} {Y' : Nat → Prop} (h : CD w0 w p ms mo c mk K Y D) (hk : CacheAt w0 w' c mk p K' Y') (hc : Chg (CF c mk) w w') (hf : Fresh w Y Y') : CD w0 w' p ms mo c mk K' Y' D :=
  ⟨h.dv.chg hc (fun b e => (h.ca.cf b e).1) h.a1, hk, h.a1, fun b e e2 => by
    rcases hf b e2 with e3 | e3
    · exact h.a2 b e e3
    · have := h.dv.lt b e; omega⟩

theorem keepL_mem {C : List CE} {e x : CE} {most : Int} (h : x ∈ keepL C e most) : x = e ∨ (x ∈ C ∧ x.k ≠ e.k) := by
  have h1 : x ∈ without C e.k ++ [e] := by
    unfold keepL at h
    split at h
    · exact h
    · exact List.mem_of_mem_tail h
  rw [List.mem_append] at h1
  rcases h1 with h1 | h1
  · have := List.mem_filter.1 h1
    exact .inr ⟨this.1, by simpa using this.2⟩
  · exact .inl (by simpa using h1)
theorem Ck.fit_touch (hf : K.fit D) {k : Int} {v : Value} {t : Int} {l : List Int} (hk : D.may k = 0) (hl : l = D.latest k) : (K.touch ⟨k, l, v, t⟩).fit D := fun e he => by
  rcases keepL_mem he with rfl | ⟨h1, _⟩
  · exact ⟨hl, (may_zero hk).2⟩
  · exact hf e h1
/-- what a read makes of a cache -/
def ReadRel (K : Ck) (D : Dk) (k : Int) (K' : Ck) : Prop :=
  (D.may k ≠ 0 ∧ K' = K) ∨ (D.may k = 0 ∧ ∃ v, (K.has k ∧ K' = { K.touch ⟨k, D.latest k, v, K.now + 1⟩ with hits := K.hits + 1 }) ∨ (¬ K.has k ∧ K' = { K.touch ⟨k, D.latest k, v, K.now + 1⟩ with misses := K.misses + 1 }))

set_option maxRecDepth 100000
set_option maxHeartbeats 2000000 in
theorem cread_down (h : CD w0 w p ms mo c mk K Y D) (k : Int) (hd : D.down = true) :
    Calls Try.prog 105 #[.pointer (some ⟨c, 0, none⟩), .int .i64 k] w fun e w' => e = .returned (.tuple #[.slice none 0 0, .int .i64 9]) ∧ w = w' := by
  obtain ⟨c0, c1, c2, c3, c4, c5⟩ := h.ca.cells
  have hk := h.ca.known
  go_enter Try.func105, Try.ntmps105
  go_wp2_with
    (first
      | (go_at_call 159; refine hk.mono ?_; rintro e w1 ⟨rfl, rfl⟩)
      | (go_at_call 59; refine (h.dv.isDown hd).mono ?_; rintro e w1 ⟨rfl, rfl⟩))
  exact bodyPost_ret (v := .tuple #[.slice none 0 0, .int .i64 9]) (by simp [results, Try.results105, go_sem]) rfl ⟨rfl, rfl⟩
set_option maxHeartbeats 4000000 in
theorem cread_hit (h : CD w0 w p ms mo c mk K Y D) (hf : K.fit D) (k : Int) (hd : D.down = false) (hk : K.has k) (hn : K.now < 9223372036854775806) (hh : K.hits < 9223372036854775806) :
    Calls Try.prog 105 #[.pointer (some ⟨c, 0, none⟩), .int .i64 k] w fun e w' => ∃ v u Y', e = .returned (.tuple #[v, .int .i64 0]) ∧ w'.ownsRow w.heap.size 5 1 v 512 (bytesV (D.latest k)) ∧ (∀ b, v.ownBlock = some b → ¬ Y' b) ∧
      CacheAt w0 w' c mk p { K.touch ⟨k, D.latest k, u, K.now + 1⟩ with hits := K.hits + 1 } Y' ∧ Chg (CF c mk) w w' ∧ Fresh w Y Y' := by
  obtain ⟨c0, c1, c2, c3, c4, c5⟩ := h.ca.cells
  have hkn := h.ca.known
  obtain ⟨e, heC, rfl⟩ := hk
  have hfe := (hf e heC).1
  rw [← hfe]
  obtain ⟨hev, hes, hey⟩ := h.ca.rows e heC
  have hmp := h.ca.mp
  have hmo : mapOf K.C e.k = some e.val := (mapOf_some h.ca.ok).2 ⟨e, heC, rfl, rfl⟩
  obtain ⟨Ae, ce, hve, he1, he2, he3⟩ := id hev
  rw [hes.1] at hve he1
  have hval : e.val = .agg #[.slice Ae 512 ce, .int .i64 e.t] := by simp [CE.val, hve]
  rw [hval] at hmo
  rw [hve] at hev hey
  have hax := below_alloc' (Below.refl _ w) (.cells #[.slice Ae 512 ce, .int .i64 e.t] 211)
  have hbx := heap_alloc_new w (.cells #[.slice Ae 512 ce, .int .i64 e.t] 211)
  have hCA := h.ca.below hax
  obtain ⟨a0, a1, a2, a3, a4, a5⟩ := hCA.cells
  have f4 := hCA.free 4
  have hh0 := h.ca.h0
  have HS := Lib.hid hes
  have H := Lib.hid h
  have HCA := Lib.hid hCA
  have HEV := Lib.hid (hev.below hax)
  have HEY := Lib.hid hey
  have HY := Lib.hid h.ca.y
  have hcl := h.ca.lt
  have hml := h.ca.mp.lt
  have g0 := cellBlk hbx 0 _ rfl
  have hgl : w.heap.size < (w.alloc (.cells #[.slice Ae 512 ce, .int .i64 e.t] 211)).heap.size := by simp
  have HAX := Lib.hid hax
  have HMP := Lib.hid hmp
  have HMO := Lib.hid hmo
  have HKN := Lib.hid hkn
  have hdn := h.dv.isDown hd
  have HDN := Lib.hid hdn
  clear hes h hCA hev hey hbx hmp hmo hkn hdn hf heC hfe hve hval he3 hax
  go_enter Try.func105, Try.ntmps105
  go_wp2_with
    (first
      | (go_at_call 159; refine HKN.out.mono ?_; rintro e1 w1 ⟨rfl, rfl⟩)
      | (go_at_call 59; refine HDN.out.mono ?_; rintro e1 w1 ⟨rfl, rfl⟩)
      | (refine wpList_lookup_ok Try.underlying119 Try.underlying3 (by rfl) _ _ (by rfl) mk e.k (by rfl) (by rfl) _ HMP.out _ (zero211 _) ?_; simp only [HMO.out, Option.getD_some, Option.isSome_some])
      | (go_at_call 160; refine (add_any _ c 4 K.hits a4 f4 hh0 (by omega)).mono ?_
         rintro e1 w2 ⟨rfl, hw2⟩
         have hCA2 := HCA.out.self 4 (.int .i64 (K.hits + 1)) K.now (K.hits + 1) K.misses (by omega) (by omega) H.out.ca.s0 rfl
         have hc2 := chg_setCell (w.alloc (.cells #[.slice Ae 512 ce, .int .i64 e.t] 211)) c 4 (.int .i64 (K.hits + 1))
         rw [← hw2] at hCA2 hc2
         clear hw2
         have g02 := (hc2.cell (p := ⟨w.heap.size, 0, none⟩) hgl (by simp only; omega)).trans g0
         have HEV2 := Lib.hid (HEV.out.chg hc2 (fun b e1 e2 => (HY.out b (HEY.out b e1)).2.2.1 e2))
         have hgl2 := Nat.lt_of_lt_of_le hgl hc2.size
         have HC2 := Lib.hid hc2
         clear hc2)
      | (go_at_call 161; refine (keep_any hCA2 e.k HEV2.out HS.out (fun b e1 => (HY.out b (HEY.out b e1)).2.2.1) (by show K.now < _; omega)).mono ?_
         rintro e1 w3 ⟨u, Y3, rfl, hCA3, hc3, hf3⟩
         have g03 := (hc3.cell (p := ⟨w.heap.size, 0, none⟩) hgl2 (by intro e1; rcases e1 with e1 | e1 <;> simp only at e1 <;> omega)).trans g02
         have HEV3 := Lib.hid (HEV2.out.chg hc3 (fun b e1 e2 => by rcases e2 with e2 | e2; exact (HY.out b (HEY.out b e1)).2.2.1 e2; exact (HY.out b (HEY.out b e1)).2.2.2 e2)))
      | (go_at_call 162; refine (clone_own _ _ _ HEV3.out HS.out.1).mono ?_
         rintro e1 w4 ⟨vn, rfl, ho4, hb4⟩))
  refine bodyPost_ret (v := .tuple #[vn, .int .i64 0]) (by simp [results, Try.results105, go_sem]) rfl ⟨vn, u, Y3, rfl, ?_, fun b e1 e2 => ?_, hCA3.below hb4, ?_, fun b e1 => ?_⟩
  · have hs2 := HC2.out.size
    have hs3 := hc3.size
    exact ho4.mono (by omega)
  · have := own_fresh ho4 b e1
    have := (hCA3.y b e2).2.1
    omega
  · exact (((Chg.of_below HAX.out).then HC2.out (fun i hi e1 => Or.inl e1)).trans hc3).trans (Chg.of_below hb4)
  · have hs2 := HC2.out.size
    rcases hf3 b e1 with e2 | e2
    · exact .inl e2
    · exact .inr (by omega)
set_option maxHeartbeats 4000000 in
theorem cread_miss (h : CD w0 w p ms mo c mk K Y D) (k : Int) (hm : D.may k = 0) (hk : ¬ K.has k) (hn : K.now < 9223372036854775806) (hh : K.misses < 9223372036854775806) :
    Calls Try.prog 105 #[.pointer (some ⟨c, 0, none⟩), .int .i64 k] w fun e w' => ∃ v u Y', e = .returned (.tuple #[v, .int .i64 0]) ∧ w'.ownsRow w.heap.size 5 1 v 512 (bytesV (D.latest k)) ∧ (∀ b, v.ownBlock = some b → ¬ Y' b) ∧
      CacheAt w0 w' c mk p { K.touch ⟨k, D.latest k, u, K.now + 1⟩ with misses := K.misses + 1 } Y' ∧ Chg (CF c mk) w w' ∧ Fresh w Y Y' := by
  obtain ⟨c0, c1, c2, c3, c4, c5⟩ := h.ca.cells
  have hd := (may_zero hm).1
  have hkn := h.ca.known
  have hmp := h.ca.mp
  have hmo : mapOf K.C k = none := mapOf_none.2 (fun e he e2 => hk ⟨e, he, e2⟩)
  have hs := Dk.latest_sec h.dv.ok k
  have hax := below_alloc' (Below.refl _ w) (.cells #[.slice none 0 0, .int .i64 0] 211)
  have hH := h.below hax
  obtain ⟨a0, a1, a2, a3, a4, a5⟩ := hH.ca.cells
  have hh0 := h.ca.s0
  have HS := Lib.hid hs
  have H := Lib.hid h
  have HY := Lib.hid h.ca.y
  have hcl := h.ca.lt
  have hml := h.ca.mp.lt
  have HAX := Lib.hid hax
  have HMP := Lib.hid hmp
  have HMO := Lib.hid hmo
  have HKN := Lib.hid hkn
  have hdn := h.dv.isDown hd
  have HDN := Lib.hid hdn
  have hrd := hH.dv.read k hm
  have HRD := Lib.hid hrd
  have HH := Lib.hid hH
  have hcl1 := hH.ca.lt
  clear hs h hH hmp hmo hkn hdn hax hrd hm hk
  go_enter Try.func105, Try.ntmps105
  go_wp2_with
    (first
      | (go_at_call 159; refine HKN.out.mono ?_; rintro e1 w1 ⟨rfl, rfl⟩)
      | (go_at_call 59; refine HDN.out.mono ?_; rintro e1 w1 ⟨rfl, rfl⟩)
      | (refine wpList_lookup_ok Try.underlying119 Try.underlying3 (by rfl) _ _ (by rfl) mk k (by rfl) (by rfl) _ HMP.out _ (zero211 _) ?_; simp only [HMO.out, Option.getD_none, Option.isSome_none])
      | (go_at_call 55; refine HRD.out.mono ?_
         rintro e1 w2 ⟨vb, rfl, hvb, hob, hb2⟩
         have hH2 := HH.out.below hb2
         have d5 := hH2.ca.cells.2.2.2.2.2
         have f5 := hH2.ca.free 5
         have hcl2 := hH2.ca.lt
         have HB2 := Lib.hid hb2
         have HVB := Lib.hid hvb
         have HOB := Lib.hid hob
         have HH2 := Lib.hid hH2
         clear hb2 hvb hob hH2)
      | (go_at_call 160; refine (add_any _ c 5 K.misses d5 f5 hh0 (by omega)).mono ?_
         rintro e1 w3 ⟨rfl, hw3⟩
         have hCA3 := HH2.out.ca.self 5 (.int .i64 (K.misses + 1)) K.now K.hits (K.misses + 1) (by omega) H.out.ca.h0 (by omega) rfl
         have hc3 := chg_setCell w2 c 5 (.int .i64 (K.misses + 1))
         rw [← hw3] at hCA3 hc3
         clear hw3
         have HVB3 := Lib.hid (HVB.out.chg hc3 (fun b e1 e2 => by have := own_fresh HOB.out b e1; simp only [World.size_alloc] at this; omega))
         have HOB3 := Lib.hid (rowOwn_chg HOB.out hc3 (fun b e1 e2 => by have := own_fresh HOB.out b e1; simp only [World.size_alloc] at this; omega))
         have HC3 := Lib.hid hc3
         clear hc3)
      | (go_at_call 161; refine (keep_any hCA3 k HVB3.out HS.out (fun b e1 e2 => by have := own_fresh HOB.out b e1; simp only [World.size_alloc] at this; omega) (by show K.now < _; omega)).mono ?_
         rintro e1 w4 ⟨u, Y4, rfl, hCA4, hc4, hf4⟩))
  refine bodyPost_ret (v := .tuple #[vb, .int .i64 0]) (by simp [results, Try.results105, go_sem]) rfl ⟨vb, u, Y4, rfl, ?_, fun b e1 e2 => ?_, hCA4, ?_, fun b e1 => ?_⟩
  · have ho4 := rowOwn_chg HOB3.out hc4 (fun b e1 e2 => by have := own_fresh HOB.out b e1; simp only [World.size_alloc] at this; rcases e2 with e2 | e2 <;> omega)
    exact ho4.mono (by simp)
  · have h1 := own_fresh HOB.out b e1
    simp only [World.size_alloc] at h1
    rcases hf4 b e2 with e3 | e3
    · have := (HY.out b e3).2.1; omega
    · have := (HOB3.out.lt b e1).2; omega
  · exact ((((Chg.of_below HAX.out).trans (Chg.of_below HB2.out)).then HC3.out (fun i hi e1 => Or.inl e1)).trans hc4)
  · have hs2 := HB2.out.size
    have hs3 := HC3.out.size
    simp only [World.size_alloc] at hs2
    rcases hf4 b e1 with e2 | e2
    · exact .inl e2
    · exact .inr (by omega)
set_option maxHeartbeats 2000000 in
theorem cread_no (h : CD w0 w p ms mo c mk K Y D) (k : Int) {r : Int} (hm : D.may k = r) (hr : r ≠ 0) (hk : ¬ K.has k) (hd : D.down = false) :
    Calls Try.prog 105 #[.pointer (some ⟨c, 0, none⟩), .int .i64 k] w fun e w' => e = .returned (.tuple #[.slice none 0 0, .int .i64 r]) ∧ Below w.heap.size w w' := by
  obtain ⟨c0, c1, c2, c3, c4, c5⟩ := h.ca.cells
  have hkn := h.ca.known
  have hmp := h.ca.mp
  have hmo : mapOf K.C k = none := mapOf_none.2 (fun e he e2 => hk ⟨e, he, e2⟩)
  have hax := below_alloc' (Below.refl _ w) (.cells #[.slice none 0 0, .int .i64 0] 211)
  have hH := h.below hax
  obtain ⟨a0, a1, a2, a3, a4, a5⟩ := hH.ca.cells
  have HAX := Lib.hid hax
  have HMP := Lib.hid hmp
  have HMO := Lib.hid hmo
  have HKN := Lib.hid hkn
  have hdn := h.dv.isDown hd
  have HDN := Lib.hid hdn
  have hrd := hH.dv.readNo k hm hr
  have HRD := Lib.hid hrd
  have hr1 : (r == 0) = false := by simpa using hr
  clear h hH hmp hmo hkn hdn hax hrd hm hk hr
  go_enter Try.func105, Try.ntmps105
  go_wp2_with
    (first
      | (go_at_call 159; refine HKN.out.mono ?_; rintro e1 w1 ⟨rfl, rfl⟩)
      | (go_at_call 59; refine HDN.out.mono ?_; rintro e1 w1 ⟨rfl, rfl⟩)
      | (refine wpList_lookup_ok Try.underlying119 Try.underlying3 (by rfl) _ _ (by rfl) mk k (by rfl) (by rfl) _ HMP.out _ (zero211 _) ?_; simp only [HMO.out, Option.getD_none, Option.isSome_none])
      | (go_at_call 55; refine HRD.out.mono ?_; rintro e1 w2 ⟨rfl, rfl⟩))
  exact bodyPost_ret (v := .tuple #[.slice none 0 0, .int .i64 r]) (by simp [results, Try.results105, go_sem]) rfl ⟨rfl, HAX.out⟩
end
end Go.Proofs.Yteeamlidmkpohaa


/-
  The cache over its device: one contract for each of Read, Write.
-/
set_option linter.unusedVariables false
set_option linter.unusedSimpArgs false
namespace Go.Proofs.Yteeamlidmkpohaa
open Go.RowKit Go.Sort

theorem mayOk {D : Dk} {k : Int} (h : D.down = false) (h2 : k < D.n) (h1 : 0 ≤ k) : D.may k = 0 := by
  rw [Dk.may, h, if_neg (by simp), if_neg (by omega), if_neg (by omega)]
theorem mayDown {D : Dk} {k : Int} (h : D.down = true) : D.may k = 9 := by rw [Dk.may, if_pos h]
/-- what a write makes of a cache -/
def WriteRel (K : Ck) (D : Dk) (k : Int) (l : List Int) (K' : Ck) : Prop :=
  (D.wcode k l = 0 ∧ ∃ u, K' = K.touch ⟨k, l, u, K.now + 1⟩) ∨ (D.wcode k l = 9 ∧ K' = { K with C := without K.C k }) ∨ (D.wcode k l ≠ 0 ∧ D.wcode k l ≠ 9 ∧ K' = K)

section
variable {w0 w w' : World} {p ms mo c mk : Nat} {K : Ck} {Y : Nat → Prop} {D : Dk}
theorem CD.reads (h : CD w0 w p ms mo c mk K Y D) (hf : D.down = false → K.fit D) (k : Int) (hn : K.now < 9223372036854775806) (hh : K.hits < 9223372036854775806) (hs : K.misses < 9223372036854775806) :
    Calls Try.prog 105 #[.pointer (some ⟨c, 0, none⟩), .int .i64 k] w fun e w' => ∃ v K' Y', e = .returned (.tuple #[v, .int .i64 (D.may k)]) ∧ w'.ownsRow w.heap.size 5 1 v (D.rbytes k).length (bytesV (D.rbytes k)) ∧ (∀ b, v.ownBlock = some b → ¬ Y' b) ∧
      CD w0 w' p ms mo c mk K' Y' D ∧ Chg (CF c mk) w w' ∧ Fresh w Y Y' ∧ ReadRel K D k K' := by
  cases hd : D.down with
  | true =>
    have hm : D.may k = 9 := mayDown hd
    have hr : D.rbytes k = [] := by simp [Dk.rbytes, hm]
    rw [hm, hr]
    refine (cread_down h k hd).mono ?_
    rintro e w' ⟨rfl, rfl⟩
    exact ⟨_, K, Y, rfl, World.ownsRow_nil _ _ _ _, (fun b e => by cases e), h, Chg.refl _ _, Fresh.refl _ _, .inl ⟨by omega, rfl⟩⟩
  | false =>
    have hfit := hf hd
    by_cases hm : D.may k = 0
    · have hr : D.rbytes k = D.latest k := by simp [Dk.rbytes, hm]
      rw [hm, hr, (Dk.latest_sec h.dv.ok k).1]
      by_cases hk : K.has k
      · refine (cread_hit h hfit k hd hk hn hh).mono ?_
        rintro e w' ⟨v, u, Y', rfl, ho, hy, hca, hc, hfr⟩
        exact ⟨v, _, Y', rfl, ho, hy, h.cstep hca hc hfr, hc, hfr, .inr ⟨hm, u, .inl ⟨hk, rfl⟩⟩⟩
      · refine (cread_miss h k hm hk hn hs).mono ?_
        rintro e w' ⟨v, u, Y', rfl, ho, hy, hca, hc, hfr⟩
        exact ⟨v, _, Y', rfl, ho, hy, h.cstep hca hc hfr, hc, hfr, .inr ⟨hm, u, .inr ⟨hk, rfl⟩⟩⟩
    · have hr : D.rbytes k = [] := by simp [Dk.rbytes, hm]
      have hk : ¬ K.has k := by
        rintro ⟨e, he, rfl⟩
        obtain ⟨_, h1, h2⟩ := hfit e he
        exact hm (mayOk hd h2 h1)
      rw [hr]
      refine (cread_no h k rfl hm hk hd).mono ?_
      rintro e w' ⟨rfl, hb⟩
      exact ⟨_, K, Y, rfl, World.ownsRow_nil _ _ _ _, (fun b e => by cases e), h.below hb, Chg.of_below hb, Fresh.refl _ _, .inl ⟨hm, rfl⟩⟩

/-- what a write's code says -/
theorem wcode_zero {D : Dk} {k : Int} {l : List Int} (h : D.wcode k l = 0) : D.may k = 0 ∧ l.length = 512 ∧ (D.write k l).down = false := by
  unfold Dk.wcode at h
  by_cases h1 : D.may k = 0
  · by_cases h2 : l.length = 512
    · rw [if_neg (by simp [h1]), if_neg (by simp [h2])] at h
      refine ⟨h1, h2, ?_⟩
      cases hd : (D.write k l).down with
      | true => rw [hd] at h; cases h
      | false => rfl
    · rw [if_neg (by simp [h1]), if_pos h2] at h; cases h
  · rw [if_pos h1] at h; exact absurd h h1

set_option maxRecDepth 100000
set_option maxHeartbeats 4000000 in
theorem CD.writes (h : CD w0 w p ms mo c mk K Y D) (k : Int) {v : Value} {l : List Int} (hv : BytesIs w v l) (hb : Bytey l) (hvd : ∀ b, v.ownBlock = some b → ¬ DF p ms mo b) (hvc : ∀ b, v.ownBlock = some b → b ≠ c) (hn : K.now < 9223372036854775806) :
    Calls Try.prog 107 #[.pointer (some ⟨c, 0, none⟩), .int .i64 k, v] w fun e w' => ∃ K' Y', e = .returned (.int .i64 (D.wcode k l)) ∧
      CD w0 w' p ms mo c mk K' Y' (D.writes k l) ∧ Chg (fun b => DF p ms mo b ∨ CF c mk b) w w' ∧ Fresh w Y Y' ∧ WriteRel K D k l K' := by
  obtain ⟨c0, c1, c2, c3, c4, c5⟩ := h.ca.cells
  have hkn := h.ca.known
  have hwr := h.dv.writes k hv hb
  have hcl := h.ca.lt
  have HWR := Lib.hid hwr
  have HKN := Lib.hid hkn
  have H := Lib.hid h
  have HV := Lib.hid hv
  have HB := Lib.hid hb
  have HVD := Lib.hid hvd
  have HVC := Lib.hid hvc
  clear hwr hkn h hv hb hvd hvc
  by_cases h0 : D.wcode k l = 0
  · obtain ⟨h1, h2, h3⟩ := wcode_zero h0
    have H0 := Lib.hid h0
    have H2 := Lib.hid (⟨h2, HB.out⟩ : IsSec l)
    have hwr := HWR.out
    rw [h0] at hwr ⊢
    have HWR := Lib.hid hwr
    clear hwr h0 h1 h2 h3
    go_enter Try.func107, Try.ntmps107
    go_wp2_with
      (first
        | (go_at_call 159; refine HKN.out.mono ?_; rintro e1 w1 ⟨rfl, rfl⟩)
        | (go_at_call 52; refine HWR.out.mono ?_
           rintro e1 w2 ⟨rfl, hD2, hc2⟩
           have hH2 := H.out.dstep hD2 hc2
           have HV2 := Lib.hid (HV.out.chg hc2 (fun b e1 e2 => HVD.out b e1 e2))
           have HC2 := Lib.hid hc2
           have HD2 := Lib.hid hD2
           clear hc2 hD2)
        | (go_at_call 161; refine (keep_any hH2.ca k HV2.out H2.out HVC.out (by omega)).mono ?_
           rintro e1 w4 ⟨u, Y4, rfl, hCA4, hc4, hf4⟩))
    go_ret
    refine ⟨_, Y4, rfl, hH2.cstep hCA4 hc4 hf4, (HC2.out.mono (fun _ _ e => Or.inl e)).trans (hc4.mono (fun _ _ e => Or.inr e)), fun b e1 => (hf4 b e1).imp id (fun e => Nat.le_trans HC2.out.size e), .inl ⟨H0.out, u, rfl⟩⟩
  · by_cases h9 : D.wcode k l = 9
    · have H9 := Lib.hid h9
      have hwr := HWR.out
      rw [h9] at hwr ⊢
      have HWR := Lib.hid hwr
      clear hwr h0 h9
      go_enter Try.func107, Try.ntmps107
      go_wp2_with
        (first
          | (go_at_call 159; refine HKN.out.mono ?_; rintro e1 w1 ⟨rfl, rfl⟩)
          | (go_at_call 52; refine HWR.out.mono ?_
             rintro e1 w2 ⟨rfl, hD2, hc2⟩
             have hH2 := H.out.dstep hD2 hc2
             have d3 := hH2.ca.cells.2.2.2.1
             have HMP2 := Lib.hid hH2.ca.mp
             have HC2 := Lib.hid hc2
             have HD2 := Lib.hid hD2
             clear hc2 hD2)
          | (refine wpList_delete Try.underlying119 Try.underlying3 (by rfl) _ _ (by rfl) mk k (by rfl) (by rfl) _ HMP2.out ?_; intro w6 hm6 hc6))
      go_ret
      have hCA6 : CacheAt w0 w6 c mk p { K with C := without K.C k } Y := by
        have hca := hH2.ca
        have hcm := hca.ne
        refine ⟨(hc6.block c hca.lt hcm).trans hca.blk, hm6.congr (mapOf_without hca.ok k), hca.ok.without k, ?_, hca.m1, hca.m2, hca.n0, hca.h0, hca.s0, fun e he => ?_, hca.gc, hca.gm, fun b e => ⟨(hca.y b e).1, Nat.lt_of_lt_of_le (hca.y b e).2.1 hc6.size, (hca.y b e).2.2⟩⟩
        · have h1 := hca.len
          have h2 : (without K.C k).length ≤ K.C.length := List.length_filter_le _ _
          show ((without K.C k).length : Int) ≤ K.most
          omega
        · have hr := hca.rows e (List.mem_filter.1 he).1
          exact ⟨hr.1.chg hc6 (fun b e2 e3 => (hca.y b (hr.2.2 b e2)).2.2.2 e3), hr.2⟩
      have hc6' : Chg (CF c mk) w2 w6 := hc6.mono (fun _ _ e => .inr e)
      exact ⟨_, Y, rfl, hH2.cstep hCA6 hc6' (Fresh.refl _ _), (HC2.out.mono (fun _ _ e => Or.inl e)).trans (hc6'.mono (fun _ _ e => Or.inr e)), Fresh.refl _ _, .inr (.inl ⟨H9.out, rfl⟩)⟩
    · have H0 := Lib.hid h0
      have H9 := Lib.hid h9
      have hr0 : (D.wcode k l == 0) = false := by simpa using h0
      have hr9 : (D.wcode k l == 9) = false := by simpa using h9
      clear h0 h9
      generalize hwc : D.wcode k l = wc at HWR hr0 hr9 ⊢
      have HWC := Lib.hid hwc
      clear hwc
      go_enter Try.func107, Try.ntmps107
      go_wp2_with
        (first
          | (go_at_call 159; refine HKN.out.mono ?_; rintro e1 w1 ⟨rfl, rfl⟩)
          | (go_at_call 52; refine HWR.out.mono ?_
             rintro e1 w2 ⟨rfl, hD2, hc2⟩))
      go_ret
      exact ⟨K, Y, rfl, H.out.dstep hD2 hc2, hc2.mono (fun _ _ e => Or.inl e), Fresh.refl _ _, .inr (.inr ⟨fun e => H0.out (HWC.out ▸ e), fun e => H9.out (HWC.out ▸ e), rfl⟩)⟩
end
end Go.Proofs.Yteeamlidmkpohaa


/-
  The cache's first example: full, counts, awake.
-/
set_option linter.unusedVariables false
set_option linter.unusedSimpArgs false
namespace Go.Proofs.Yteeamlidmkpohaa
open Go.RowKit Go.Sort

def fullF9 (b : Int) (i : Nat) : Int := (b + (i : Int) / 100) % 256
def fullL9 (b : Int) : List Int := fillTo (fullF9 b) 512 512
theorem fullL9_sec (b : Int) : IsSec (fullL9 b) := by
  refine ⟨fillTo_len _ _ _, fun x hx => ?_⟩
  simp only [fullL9, fillTo, List.mem_map, List.mem_range] at hx
  obtain ⟨i, hi, rfl⟩ := hx
  rw [if_pos hi, fullF9]
  omega

set_option maxRecDepth 100000 in
set_option maxHeartbeats 2000000 in
theorem full9_any (w : World) (b : Int) (h0 : 0 ≤ b) (h1 : b ≤ 255) :
    Calls Try.prog 108 #[.int .u8 b] w fun e w' => ∃ v, e = .returned v ∧ w'.ownsRow w.heap.size 5 1 v 512 (bytesV (fullL9 b)) ∧ Below w.heap.size w w' := by
  have hmk : ∀ W : World, (Instr.makeSlice 47 (.int .i64 512) (.int .i64 512)).run Try.prog W = .ok (.slice (some ⟨W.heap.size, 0, none⟩) 512 512) (W.alloc (.cells (madeCells #[.int .u8 0] 512) 5)) := fun W => Go.run_make_row' (P := Try.prog) 47 5 (.int .u8 0) 1 Try.underlying47 (by kernel_rfl) rfl .i64 .i64 512 (by omega) (by omega) W
  go_enter Try.func108, Try.ntmps108
  go_wp2
  have hrow := rowB_made w 512
  have hbe : Below w.heap.size w (w.alloc (.cells (madeCells #[Value.int .u8 0] 512) 5)) := below_alloc' (Below.refl _ _) _
  rw [← fillTo_zero (fullF9 b)] at hrow
  generalize w.alloc (.cells (madeCells #[Value.int .u8 0] 512) 5) = wa at hrow hbe ⊢
  have hg : w.heap.size ≤ w.heap.size := Nat.le_refl _
  generalize hgg : w.heap.size = g at hrow hg ⊢
  go_loopw [4] (fun x wr => ∃ k : Nat, k ≤ 512 ∧ x = .int .i64 k ∧ RowB wr g (fillTo (fullF9 b) 512 k) ∧ Below g w wr) (fun x _ => 512 - (intOf x).toNat)
  case atStart => exact ⟨0, by omega, rfl, hrow, hgg ▸ hbe⟩
  case round =>
    obtain ⟨k, hk, rfl, hr, hbw⟩ := hrel
    by_cases hlt : k < 512
    · have hc := hr.cell k (by rw [fillTo_len]; exact hlt)
      have hf := hr.free k
      go_wp2
      go_roundw
      case rel =>
        refine ⟨k + 1, by omega, by go_num, ?_, hbw.setCell (p := ⟨g, k, none⟩) hg _⟩
        have := hr.set k (fullF9 b k)
        rw [fillTo_set] at this
        exact this
      case measure => simp [intOf]; omega
    · obtain rfl : k = 512 := by omega
      go_wp2
      go_ret
      exact ⟨_, rfl, by rw [hgg]; exact hr.own (Nat.le_refl _) (fillTo_len _ _ _) (by simp [maxLen]), hgg ▸ hbw⟩

/-- which sectors are kept behind a touch -/
def kk (ks : List Int) (k most : Int) : List Int :=
  if ((ks.filter (fun x => !(x == k)) ++ [k]).length : Int) ≤ most then ks.filter (fun x => !(x == k)) ++ [k] else (ks.filter (fun x => !(x == k)) ++ [k]).tail
theorem keepL_keys (C : List CE) (e : CE) (most : Int) : (keepL C e most).map CE.k = kk (C.map CE.k) e.k most := by
  have h1 : (without C e.k).map CE.k = (C.map CE.k).filter (fun x => !(x == e.k)) := by
    unfold without
    rw [List.filter_map]
    rfl
  have h2 : (without C e.k ++ [e]).map CE.k = (C.map CE.k).filter (fun x => !(x == e.k)) ++ [e.k] := by rw [List.map_append, h1]; rfl
  have h3 : (without C e.k ++ [e]).length = ((C.map CE.k).filter (fun x => !(x == e.k)) ++ [e.k]).length := by rw [← h2, List.length_map]
  unfold keepL kk
  rw [h3]
  split
  · exact h2
  · rw [List.map_tail, h2]
theorem Ck.has_keys {K : Ck} {k : Int} : K.has k ↔ k ∈ K.C.map CE.k := by
  unfold Ck.has
  rw [List.mem_map]
/-- a cache over a disk that is up: which sectors it keeps, the eldest first; its counts -/
structure St9 (w0 w : World) (p ms mo c mk : Nat) (D : Dk) (most : Int) (ks : List Int) (hits misses now : Int) : Prop where
  ex : ∃ K Y, CD w0 w p ms mo c mk K Y D ∧ K.fit D ∧ K.most = most ∧ K.C.map CE.k = ks ∧ K.hits = hits ∧ K.misses = misses ∧ K.now = now

section
variable {w0 w w' : World} {p ms mo c mk : Nat} {D : Dk} {most hits misses now : Int} {ks : List Int}
theorem St9.be (h : St9 w0 w p ms mo c mk D most ks hits misses now) : Below w0.heap.size w0 w := by
  obtain ⟨K, Y, h1, _⟩ := h.ex
  exact h1.dv.be
theorem St9.below (h : St9 w0 w p ms mo c mk D most ks hits misses now) (hb : Below w.heap.size w w') : St9 w0 w' p ms mo c mk D most ks hits misses now := by
  obtain ⟨K, Y, h1, h2⟩ := h.ex
  exact ⟨K, Y, h1.below hb, h2⟩
theorem St9.hit (h : St9 w0 w p ms mo c mk D most ks hits misses now) (k : Int) (hm : D.may k = 0) (hk : k ∈ ks) (b1 : now < 1000) (b2 : hits < 1000) (b3 : misses < 1000) :
    Calls Try.prog 105 #[.pointer (some ⟨c, 0, none⟩), .int .i64 k] w fun e w' => ∃ v, e = .returned (.tuple #[v, .int .i64 0]) ∧ St9 w0 w' p ms mo c mk D most (kk ks k most) (hits + 1) misses (now + 1) := by
  obtain ⟨K, Y, h1, h2, rfl, rfl, rfl, rfl, rfl⟩ := h.ex
  refine (h1.reads (fun _ => h2) k (by omega) (by omega) (by omega)).mono ?_
  rintro e w' ⟨v, K', Y', rfl, ho, hy, hcd, hc, hf, hr⟩
  rw [hm]
  rcases hr with ⟨h3, _⟩ | ⟨_, u, ⟨h4, rfl⟩ | ⟨h4, _⟩⟩
  · exact absurd hm h3
  · refine ⟨v, rfl, ⟨_, Y', hcd, ?_, rfl, keepL_keys _ _ _, rfl, rfl, rfl⟩⟩
    exact Ck.fit_touch (v := u) h2 hm rfl
  · exact absurd (Ck.has_keys.2 hk) h4
theorem St9.miss (h : St9 w0 w p ms mo c mk D most ks hits misses now) (k : Int) (hm : D.may k = 0) (hk : k ∉ ks) (b1 : now < 1000) (b2 : hits < 1000) (b3 : misses < 1000) :
    Calls Try.prog 105 #[.pointer (some ⟨c, 0, none⟩), .int .i64 k] w fun e w' => ∃ v, e = .returned (.tuple #[v, .int .i64 0]) ∧ St9 w0 w' p ms mo c mk D most (kk ks k most) hits (misses + 1) (now + 1) := by
  obtain ⟨K, Y, h1, h2, rfl, rfl, rfl, rfl, rfl⟩ := h.ex
  refine (h1.reads (fun _ => h2) k (by omega) (by omega) (by omega)).mono ?_
  rintro e w' ⟨v, K', Y', rfl, ho, hy, hcd, hc, hf, hr⟩
  rw [hm]
  rcases hr with ⟨h3, _⟩ | ⟨_, u, ⟨h4, _⟩ | ⟨h4, rfl⟩⟩
  · exact absurd hm h3
  · exact absurd (Ck.has_keys.1 h4) hk
  · refine ⟨v, rfl, ⟨_, Y', hcd, ?_, rfl, keepL_keys _ _ _, rfl, rfl, rfl⟩⟩
    exact Ck.fit_touch (v := u) h2 hm rfl
theorem St9.no (h : St9 w0 w p ms mo c mk D most ks hits misses now) (k : Int) {r : Int} (hm : D.may k = r) (hr0 : r ≠ 0) (b1 : now < 1000) (b2 : hits < 1000) (b3 : misses < 1000) :
    Calls Try.prog 105 #[.pointer (some ⟨c, 0, none⟩), .int .i64 k] w fun e w' => ∃ v, e = .returned (.tuple #[v, .int .i64 r]) ∧ St9 w0 w' p ms mo c mk D most ks hits misses now := by
  subst hm
  obtain ⟨K, Y, h1, h2, rfl, rfl, rfl, rfl, rfl⟩ := h.ex
  refine (h1.reads (fun _ => h2) k (by omega) (by omega) (by omega)).mono ?_
  rintro e w' ⟨v, K', Y', rfl, ho, hy, hcd, hc, hf, hr⟩
  rcases hr with ⟨h3, rfl⟩ | ⟨h3, _⟩
  · exact ⟨v, rfl, ⟨_, Y', hcd, h2, rfl, rfl, rfl, rfl, rfl⟩⟩
  · exact absurd h3 hr0
theorem St9.drop (h : St9 w0 w p ms mo c mk D most ks hits misses now) :
    Calls Try.prog 104 #[.pointer (some ⟨c, 0, none⟩)] w fun e w' => e = .returned (.tuple #[]) ∧ St9 w0 w' p ms mo c mk D most [] hits misses now := by
  obtain ⟨K, Y, h1, h2, rfl, rfl, rfl, rfl, rfl⟩ := h.ex
  refine h1.ca.drop.mono ?_
  rintro e w' ⟨rfl, hca, hc⟩
  exact ⟨rfl, ⟨_, Y, h1.cstep hca hc (Fresh.refl _ _), (fun e he => by cases he), rfl, rfl, rfl, rfl, rfl⟩⟩
set_option maxRecDepth 100000
theorem counts9_any (h : St9 w0 w p ms mo c mk D most ks hits misses now) :
    Calls Try.prog 158 #[.pointer (some ⟨c, 0, none⟩), .int .i64 hits, .int .i64 misses] w fun e w' => e = .returned (.bool true) ∧ Below w.heap.size w w' := by
  obtain ⟨K, Y, h1, h2, rfl, rfl, rfl, rfl, rfl⟩ := h.ex
  have hc := h1.ca.counts
  clear h h1 h2
  go_enter Try.func158, Try.ntmps158
  go_wp2_with
    (first
      | (go_at_call 106; refine hc.mono ?_; rintro e w1 ⟨rfl, hb⟩))
  go_ret
  exact ⟨rfl, hb⟩
end
end Go.Proofs.Yteeamlidmkpohaa


/-
  TurnBytes; the list of what was touched, in plain words.
-/
set_option linter.unusedVariables false
set_option linter.unusedSimpArgs false
namespace Go.Proofs.Yteeamlidmkpohaa
open Go.RowKit Go.Sort

set_option maxRecDepth 100000
set_option maxHeartbeats 1000000 in
/-- a slice of the caller's own is written over -/
theorem turnBytes_any (w : World) (base : Nat) (v : Value) (n : Nat) (l : List Int) (hl : l.length = n) (ho : w.ownsRow base 5 1 v n (bytesV l)) (hn : n ≤ 1000000) :
    Calls Try.prog 80 #[v] w fun e w' => e = .returned (.tuple #[]) ∧ Chg (fun b => v.ownBlock = some b) w w' := by
  rcases Nat.eq_zero_or_pos n with h0 | h0
  · subst h0
    obtain ⟨A, c, rfl⟩ : ∃ A c, v = .slice A 0 c := by
      rcases ho.2 with ⟨h1, _⟩ | ⟨g, cap, cur, h1, _⟩
      · exact ⟨none, 0, h1⟩
      · exact ⟨_, _, h1⟩
    clear ho
    go_enter Try.func80, Try.ntmps80
    go_wp2_with fail
    go_loopw [2] (fun t wr => t = .int .i64 0 ∧ wr = w) (fun t _ => 0)
    case atStart => exact ⟨rfl, rfl⟩
    case round =>
      obtain ⟨rfl, rfl⟩ := hrel
      go_wp2_with fail
      go_end0
      exact ⟨rfl, Chg.refl _ _⟩
  · rcases ho.2 with ⟨_, h1⟩ | ⟨g, cap, cur, rfl, hb, hg, hnc, hcm, hcs, htk⟩
    · omega
    have htk' : cur.toList.take n = bytesV l := by simpa using htk
    have hcell : ∀ i, i < n → ∃ z, w.cell? ⟨g, i, none⟩ = some (.int .u8 z) := fun i hi => by
      have h2 : (bytesV l)[i]? = some (.int .u8 (l.getD i 0)) := by simp [bytesV, show i < l.length by omega]
      rw [← htk', List.getElem?_take_of_lt hi] at h2
      exact ⟨_, cell_of_row w g i cur 5 (0, 0) hg |>.trans (by simpa using h2)⟩
    have hfree : ∀ i, w.frozen? ⟨g, i, none⟩ = false := fun i => frozen_of_row w g i cur 5 hg
    have HC := Lib.hid hcell
    have HF := Lib.hid hfree
    clear hcell hfree htk htk' hg hcs ho
    go_enter Try.func80, Try.ntmps80
    go_wp2_with fail
    go_loopw [2] (fun t wr => ∃ k : Nat, k ≤ n ∧ t = .int .i64 k ∧ Chg (fun b => b = g) w wr ∧ (∀ i, i < n → ∃ z, wr.cell? ⟨g, i, none⟩ = some (.int .u8 z)) ∧ (∀ i, wr.frozen? ⟨g, i, none⟩ = false)) (fun t _ => n - (intOf t).toNat)
    case atStart => exact ⟨0, by omega, rfl, Chg.refl _ _, HC.out, HF.out⟩
    case round =>
      obtain ⟨k, hk, rfl, hcr, hce, hfr⟩ := hrel
      by_cases hlt : k < n
      · obtain ⟨z, hz⟩ := hce k hlt
        have hf := hfr k
        have HCE := Lib.hid hce
        have HFR := Lib.hid hfr
        have HCR := Lib.hid hcr
        clear hce hfr hcr
        go_wp2_with fail
        go_roundw
        case rel =>
          refine ⟨k + 1, by omega, by go_num, HCR.out.trans (chg_setCell _ _ _ _), fun i hi => ?_, fun i => by rw [World.frozen?_setCell]; exact HFR.out i⟩
          by_cases e : i = k
          · subst e
            exact ⟨_, World.cell?_setCell_same' _ _ _ (by rw [hz]; rfl)⟩
          · obtain ⟨z', hz'⟩ := HCE.out i hi
            exact ⟨z', (World.cell?_setCell_other _ _ _ _ (by first | (simp; omega) | simp)).trans hz'⟩
        case measure => simp [intOf]; omega
      · obtain rfl : k = n := by omega
        have HCR := Lib.hid hcr
        clear hcr hce hfr
        go_wp2_with fail
        go_end0
        exact ⟨rfl, HCR.out.mono (fun b _ e => by rw [e]; rfl)⟩

/-! ### what was touched -/
def forgetL (T : List Int) (k : Int) : List Int := T.filter (fun x => !(x == k))
def lastN (T : List Int) (n : Nat) : List Int := T.drop (T.length - n)
/-- how many were touched behind it -/
def placeL (T : List Int) (k : Int) : Int := match T.findIdx? (fun x => x == k) with
  | some i => (T.length : Int) - 1 - i
  | none => -1
end Go.Proofs.Yteeamlidmkpohaa


/-
  A life's own block: place, forget, touch.
-/
set_option linter.unusedVariables false
set_option linter.unusedSimpArgs false
namespace Go.Proofs.Yteeamlidmkpohaa
open Go.RowKit Go.Sort

/-- block x is a life: its cache, its disk, the reference's, the size, what was touched, how many reads -/
structure LifeB (w0 w : World) (x c p r : Nat) (size rd : Int) (vT : Value) (T : List Int) : Prop where
  blk : w.heap[x]? = some (.cells #[.pointer (some ⟨c, 0, none⟩), .pointer (some ⟨p, 0, none⟩), .pointer (some ⟨r, 0, none⟩), .int .i64 size, vT, .int .i64 rd] 133 (0, 0))
  own : w.ownsRow w0.heap.size 3 1 vT T.length (intsV T)
  gx : w0.heap.size ≤ x
  sz : w0.heap.size ≤ w.heap.size
def LF (x : Nat) (vT : Value) : Nat → Prop := fun b => b = x ∨ vT.ownBlock = some b

section
variable {w0 w w' : World} {x c p r : Nat} {size rd : Int} {vT : Value} {T : List Int}
theorem LifeB.lt (h : LifeB w0 w x c p r size rd vT T) : x < w.heap.size := (Array.getElem?_eq_some_iff.1 h.blk).1
theorem LifeB.ne (h : LifeB w0 w x c p r size rd vT T) : vT.ownBlock ≠ some x := fun e => by
  obtain ⟨cs, hb⟩ := rowOwn_block h.own e
  rw [h.blk] at hb
  cases hb
theorem LifeB.lf (h : LifeB w0 w x c p r size rd vT T) : ∀ b, LF x vT b → w0.heap.size ≤ b ∧ b < w.heap.size := fun b e => by
  rcases e with rfl | e
  · exact ⟨h.gx, h.lt⟩
  · exact h.own.lt b e
theorem LifeB.chg {F : Nat → Prop} (h : LifeB w0 w x c p r size rd vT T) (hc : Chg F w w') (hF : ∀ b, LF x vT b → ¬ F b) : LifeB w0 w' x c p r size rd vT T :=
  ⟨(hc.block x h.lt (hF x (.inl rfl))).trans h.blk, rowOwn_chg h.own hc (fun k e => hF k (.inr e)), h.gx, Nat.le_trans h.sz hc.size⟩
theorem LifeB.below (h : LifeB w0 w x c p r size rd vT T) (hb : Below w.heap.size w w') : LifeB w0 w' x c p r size rd vT T := h.chg (Chg.of_below (F := fun _ => False) hb) (fun _ _ => id)
theorem rowOwn_form {base : Nat} {e : TypeId} {sz : Nat} {v : Value} {n : Nat} {xs : List Value} (h : w.ownsRow base e sz v n xs) : ∃ A k, v = .slice A n k := by
  rcases h.2 with ⟨rfl, e⟩ | ⟨g, cap, cur, rfl, _⟩
  · exact ⟨none, 0, by rw [e]⟩
  · exact ⟨_, _, rfl⟩
theorem LifeB.form (h : LifeB w0 w x c p r size rd vT T) : ∃ A k, vT = .slice A T.length k := by
  rcases h.own.2 with ⟨rfl, e⟩ | ⟨g, cap, cur, rfl, _⟩
  · exact ⟨none, 0, by rw [e]⟩
  · exact ⟨_, _, rfl⟩
theorem LifeB.cells (h : LifeB w0 w x c p r size rd vT T) : w.cell? ⟨x, 0, none⟩ = some (.pointer (some ⟨c, 0, none⟩)) ∧ w.cell? ⟨x, 1, none⟩ = some (.pointer (some ⟨p, 0, none⟩)) ∧ w.cell? ⟨x, 2, none⟩ = some (.pointer (some ⟨r, 0, none⟩)) ∧ w.cell? ⟨x, 3, none⟩ = some (.int .i64 size) ∧ w.cell? ⟨x, 4, none⟩ = some vT ∧ w.cell? ⟨x, 5, none⟩ = some (.int .i64 rd) := by
  refine ⟨?_, ?_, ?_, ?_, ?_, ?_⟩ <;> simp [World.cell?, h.blk]
theorem LifeB.free (h : LifeB w0 w x c p r size rd vT T) (i : Nat) : w.frozen? ⟨x, i, none⟩ = false := by
  simp [World.frozen?, h.blk]
/-- the list is put into its place -/
theorem LifeB.put (h : LifeB w0 w x c p r size rd vT T) (vT' : Value) (T' : List Int) (ho : w.ownsRow w0.heap.size 3 1 vT' T'.length (intsV T')) (hn : vT'.ownBlock ≠ some x) : LifeB w0 (w.setCell ⟨x, 4, none⟩ vT') x c p r size rd vT' T' := by
  have hc := chg_setCell w x 4 vT'
  refine ⟨?_, rowOwn_chg ho hc (fun k e e2 => hn (by rw [e, e2])), h.gx, Nat.le_trans h.sz hc.size⟩
  rw [heap_setCell w x 4 vT' _ _ _ h.blk]
  rfl
theorem LifeB.of {vO : Value} (hb : w.heap[x]? = some (.cells #[.pointer (some ⟨c, 0, none⟩), .pointer (some ⟨p, 0, none⟩), .pointer (some ⟨r, 0, none⟩), .int .i64 size, vO, .int .i64 rd] 133 (0, 0))) (hg : w0.heap.size ≤ x) (hz : w0.heap.size ≤ w.heap.size) (vT' : Value) (T' : List Int) (ho : w.ownsRow w0.heap.size 3 1 vT' T'.length (intsV T')) (hn : vT'.ownBlock ≠ some x) : LifeB w0 (w.setCell ⟨x, 4, none⟩ vT') x c p r size rd vT' T' := by
  have hc := chg_setCell w x 4 vT'
  refine ⟨?_, rowOwn_chg ho hc (fun k e e2 => hn (by rw [e, e2])), hg, Nat.le_trans hz hc.size⟩
  rw [heap_setCell w x 4 vT' _ _ _ hb]
  rfl
theorem LifeB.count (h : LifeB w0 w x c p r size rd vT T) (rd' : Int) : LifeB w0 (w.setCell ⟨x, 5, none⟩ (.int .i64 rd')) x c p r size rd' vT T := by
  have hc := chg_setCell w x 5 (.int .i64 rd')
  refine ⟨?_, rowOwn_chg h.own hc (fun k e e2 => h.ne (by rw [e, e2])), h.gx, Nat.le_trans h.sz hc.size⟩
  rw [heap_setCell w x 5 _ _ _ _ h.blk]
  rfl

theorem rowInt_at {base : Nat} {A : Option Addr} {n cp : Nat} {l : List Int} (h : w.ownsRow base 3 1 (.slice A n cp) l.length (intsV l)) (k : Nat) (hk : k < l.length) : ∃ g, A = some ⟨g, 0, none⟩ ∧ w.cell? ⟨g, k, none⟩ = some (.int .i64 (l.getD k 0)) := by
  rcases h.2 with ⟨_, e⟩ | ⟨g, cap, cur, e, _⟩
  · omega
  · simp only [Value.slice.injEq] at e
    obtain ⟨rfl, rfl, rfl⟩ := e
    refine ⟨g, rfl, ?_⟩
    have := h.cells (g := g) rfl k (.int .i64 (l.getD k 0)) (by simp [intsV, hk])
    rw [show ((⟨g, 0, none⟩ : Addr).add k) = ⟨g, k, none⟩ by unfold Addr.add; split <;> simp_all] at this
    exact this

theorem findIdx_take {T : List Int} {a : Int} {k : Nat} (hk : k < T.length) (h1 : ∀ j, j < k → T.getD j 0 ≠ a) (h2 : T.getD k 0 = a) : placeL T a = (T.length : Int) - 1 - k := by
  have : T.findIdx? (fun x => x == a) = some k := by
    rw [List.findIdx?_eq_some_iff_getElem]
    refine ⟨hk, by simpa [hk] using h2, fun j hj => ?_⟩
    have := h1 j hj
    rw [List.getD_eq_getElem?_getD, List.getElem?_eq_getElem (by omega), Option.getD_some] at this
    simpa using this
  simp [placeL, this]
theorem findIdx_no {T : List Int} {a : Int} (h1 : ∀ j, j < T.length → T.getD j 0 ≠ a) : placeL T a = -1 := by
  have : T.findIdx? (fun x => x == a) = none := by
    rw [List.findIdx?_eq_none_iff]
    intro y hy
    obtain ⟨j, hj, rfl⟩ := List.mem_iff_getElem.1 hy
    have := h1 j hj
    rw [List.getD_eq_getElem?_getD, List.getElem?_eq_getElem hj, Option.getD_some] at this
    simpa using this
  simp [placeL, this]

set_option maxRecDepth 100000
set_option maxHeartbeats 2000000 in
theorem LifeB.place (h : LifeB w0 w x c p r size rd vT T) (a : Int) (hl : T.length ≤ 1000) :
    Calls Try.prog 165 #[.pointer (some ⟨x, 0, none⟩), .int .i64 a] w fun e w' => e = .returned (.int .i64 (placeL T a)) ∧ Below w.heap.size w w' := by
  obtain ⟨A, cp, rfl⟩ := h.form
  obtain ⟨c0, c1, c2, c3, c4, c5⟩ := h.cells
  have hown := h.own
  have HO := Lib.hid hown
  clear hown h
  go_enter Try.func165, Try.ntmps165
  go_wp2_with fail
  go_loopw [5] (fun t wr => ∃ k : Nat, k ≤ T.length ∧ t = .int .i64 k ∧ wr = w ∧ ∀ j, j < k → T.getD j 0 ≠ a) (fun t _ => T.length - (intOf t).toNat)
  case atStart => exact ⟨0, by omega, rfl, rfl, fun j hj => by omega⟩
  case round =>
    obtain ⟨k, hk, rfl, rfl, hno⟩ := hrel
    by_cases hlt : k < T.length
    · obtain ⟨g, rfl, hg⟩ := rowInt_at HO.out k hlt
      have HN := Lib.hid hno
      clear hno
      by_cases he : T.getD k 0 = a
      · have he1 : (T.getD k 0 == a) = true := by simpa using he
        have HE := Lib.hid he
        clear he
        have HPL := Lib.hid (findIdx_take hlt HN.out HE.out)
        generalize T.getD k 0 = z at hg he1 HE
        go_wp2_with fail
        go_ret
        refine ⟨?_, Below.refl _ _⟩
        rw [HPL.out]
        rfl
      · have he1 : (T.getD k 0 == a) = false := by simpa using he
        have HE := Lib.hid he
        clear he
        generalize hz : T.getD k 0 = z at hg he1 HE
        have HZ := Lib.hid hz
        clear hz
        go_wp2_with fail
        go_roundw
        case rel =>
          refine ⟨k + 1, by omega, by go_num, trivial, fun j hj => ?_⟩
          rcases Nat.lt_succ_iff_lt_or_eq.1 hj with e | rfl
          · exact HN.out j e
          · exact HZ.out ▸ HE.out
        case measure => simp [intOf]; omega
    · obtain rfl : k = T.length := by omega
      have HN := Lib.hid hno
      clear hno
      go_wp2_with fail
      go_ret
      exact ⟨by rw [findIdx_no HN.out]; rfl, Below.refl _ _⟩

theorem forgetL_succ {T : List Int} {k : Nat} (hk : k < T.length) (a : Int) : forgetL (T.take (k + 1)) a = forgetL (T.take k) a ++ (if T.getD k 0 = a then [] else [T.getD k 0]) := by
  have : T.take (k + 1) = T.take k ++ [T.getD k 0] := by
    rw [List.take_add_one, List.getElem?_eq_getElem hk]
    simp [hk]
  rw [this, forgetL, List.filter_append, ← forgetL]
  congr 1
  generalize T.getD k 0 = z
  by_cases e : z = a <;> simp [e]
theorem forgetL_len (T : List Int) (a : Int) : (forgetL T a).length ≤ T.length := List.length_filter_le _ _

set_option maxRecDepth 100000
set_option maxHeartbeats 2000000 in
theorem LifeB.forget (h : LifeB w0 w x c p r size rd vT T) (a : Int) (hl : T.length ≤ 1000) :
    Calls Try.prog 203 #[.pointer (some ⟨x, 0, none⟩), .int .i64 a] w fun e w' => ∃ vT', e = .returned (.tuple #[]) ∧ LifeB w0 w' x c p r size rd vT' (forgetL T a) ∧ Chg (fun b => b = x) w w' ∧ (∀ b, vT'.ownBlock = some b → w.heap.size ≤ b) := by
  obtain ⟨A, cp, rfl⟩ := h.form
  obtain ⟨c0, c1, c2, c3, c4, c5⟩ := h.cells
  have f4 := h.free 4
  have hown := h.own
  have hxl := h.lt
  have hsz := h.sz
  have HO := Lib.hid hown
  have H := Lib.hid h
  obtain ⟨ie, hi, hz, hsize, hby⟩ := info_parts (P := Try.prog) (e := 3) (z := .int .i64 0) (size := 1) (bytes := 8) (by kernel_rfl)
  clear hown h
  go_enter Try.func203, Try.ntmps203
  go_wp2_with fail
  go_loopw [4, 5] (fun s t wr => ∃ k : Nat, k ≤ T.length ∧ t = .int .i64 k ∧ Below w.heap.size w wr ∧ wr.ownsRow w.heap.size 3 1 s (forgetL (T.take k) a).length (intsV (forgetL (T.take k) a))) (fun _ t _ => T.length - (intOf t).toNat)
  case atStart => exact ⟨0, by omega, rfl, Below.refl _ _, World.ownsRow_nil _ _ _ _⟩
  case round =>
    obtain ⟨k, hk, rfl, hbr, hor⟩ := hrel
    have d4 := (hbr.cell (p := ⟨x, 4, none⟩) hxl).trans c4
    have e4 := (hbr.frozen (p := ⟨x, 4, none⟩) hxl).trans f4
    by_cases hlt : k < T.length
    · obtain ⟨g, rfl, hg⟩ := rowInt_at HO.out k hlt
      have hgw := (hbr.cell (p := ⟨g, k, none⟩) (cell_lt hg)).trans hg
      have hsu := forgetL_succ hlt a
      have hfl := forgetL_len (T.take k) a
      have hbs := hbr.size
      by_cases he : T.getD k 0 = a
      · have he1 : (T.getD k 0 != a) = false := by simpa using he
        rw [if_pos he, List.append_nil] at hsu
        have HS := Lib.hid hsu
        have HB := Lib.hid hbr
        have HR := Lib.hid hor
        clear he hsu hbr hor hg
        generalize T.getD k 0 = z at hgw he1
        go_wp2_with fail
        go_roundw
        case rel => exact ⟨k + 1, by omega, by go_num, HB.out, by rw [HS.out]; exact HR.out⟩
        case measure => simp [intOf]; omega
      · have he1 : (T.getD k 0 != a) = true := by simpa using he
        rw [if_neg he] at hsu
        have HS := Lib.hid hsu
        have HB := Lib.hid hbr
        have HR := Lib.hid hor
        have hxk : (T.take k).length ≤ 1000 := by simp; omega
        clear he hsu hbr hor hg
        generalize T.getD k 0 = z at hgw he1 HS
        go_wp2_with
          (first
            | (refine wpList_append_own _ rfl _ _ 88 rfl w.heap.size 3 ie (.int .i64 0) 1 8 Try.underlying88 hi hz hsize hby rfl (by decide) u4 _ _ rfl (rowOwn_below HR.out (below_alloc' (Below.refl _ _) _)) _ 1 1 [.int .i64 z] rfl rfl (fun j u hj => cells_at (heap_alloc_new _ _) j u hj) (by simp [Value.oneCell']) (by simp only [maxLen]; omega) (by omega) (by simp; omega) ?_
               intro v2 w2 hown2 hgr2 _
               have hb2 := below_grown (below_alloc' HB.out (.cells #[.int .i64 z] 3)) hgr2 (fun k e => (HR.out.lt k e).1)))
        go_roundw
        case rel =>
          refine ⟨k + 1, by omega, by go_num, hb2, ?_⟩
          rw [HS.out]
          simpa [intsV] using hown2
        case measure => simp [intOf]; omega
    · obtain rfl : k = T.length := by omega
      rw [List.take_length] at hor
      have HB := Lib.hid hbr
      have HR := Lib.hid hor
      obtain ⟨A2, k2, hu4⟩ := rowOwn_form hor
      subst hu4
      have hbs := hbr.size
      clear hbr hor
      go_wp2_with fail
      go_end0
      refine ⟨.slice A2 (forgetL T a).length k2, rfl, ?_, (Chg.of_below HB.out).trans (chg_setCell _ _ _ _), fun b e => (HR.out.lt b e).1⟩
      exact (H.out.below HB.out).put _ _ (HR.out.mono hsz) (fun e => by have := (HR.out.lt _ e).1; omega)

/-- a sector is touched -/
def touchL (T : List Int) (a : Int) : List Int := forgetL T a ++ [a]
set_option maxRecDepth 100000
set_option maxHeartbeats 2000000 in
theorem LifeB.touch (h : LifeB w0 w x c p r size rd vT T) (a : Int) (hl : T.length ≤ 999) :
    Calls Try.prog 166 #[.pointer (some ⟨x, 0, none⟩), .int .i64 a] w fun e w' => ∃ vT', e = .returned (.tuple #[]) ∧ LifeB w0 w' x c p r size rd vT' (touchL T a) ∧ Chg (fun b => b = x) w w' ∧ (∀ b, vT'.ownBlock = some b → w.heap.size ≤ b) := by
  have hfo := h.forget a (by omega)
  have hsz := h.sz
  have hxl := h.lt
  have HF := Lib.hid hfo
  have hfl := forgetL_len T a
  obtain ⟨ie, hi, hz, hsize, hby⟩ := info_parts (P := Try.prog) (e := 3) (z := .int .i64 0) (size := 1) (bytes := 8) (by kernel_rfl)
  clear hfo h
  go_enter Try.func166, Try.ntmps166
  go_wp2_with
    (first
      | (go_at_call 203
         refine HF.out.mono ?_
         rintro e w1 ⟨vT1, rfl, hL1, hc1, hn1⟩
         obtain ⟨A1, k1, rfl⟩ := hL1.form
         obtain ⟨c0, c1, c2, c3, c4, c5⟩ := hL1.cells
         have f4 := hL1.free 4
         have hx1 := hL1.lt
         have hs1 := hc1.size
         have HO := Lib.hid hL1.own
         have HL1 := Lib.hid hL1
         have HC1 := Lib.hid hc1
         have HN1 := Lib.hid hn1
         clear hL1 hc1 hn1)
      | (refine wpList_append_own_at _ rfl _ _ 88 rfl w0.heap.size 3 ie (.int .i64 0) 1 8 Try.underlying88 hi hz hsize hby rfl (by decide) (.slice A1 (forgetL T a).length k1) _ _ rfl (rowOwn_below HO.out (below_alloc' (Below.refl _ _) _)) _ 1 1 [.int .i64 a] rfl rfl (fun j u hj => cells_at (heap_alloc_new _ _) j u hj) (by simp [Value.oneCell']) (by simp only [maxLen]; omega) (by omega) (by simp; omega) ?_
         intro v2 w2 hown2 hgr2 _ hat2
         have hc12 : Chg (fun b => (Value.slice A1 (forgetL T a).length k1).ownBlock = some b) w1 w2 := ((Chg.refl _ w1).alloc (.cells #[.int .i64 a] 3)).grown hgr2 (fun k e _ => e)
         have d4 := (hc12.cell (p := ⟨x, 4, none⟩) hx1 (fun e => HL1.out.ne e)).trans c4
         have e4 : w2.frozen? ⟨x, 4, none⟩ = false := by
           have hbx := (hc12.block x hx1 (fun e => HL1.out.ne e)).trans HL1.out.blk
           simp [World.frozen?, hbx]
         obtain ⟨A2, k2, hv2⟩ := rowOwn_form hown2
         subst hv2))
  go_end0
  have hc1 := HC1.out
  have hblk := (hc12.block x hx1 (fun e => HL1.out.ne e)).trans HL1.out.blk
  have hn2 : ∀ b, (Value.slice A2 ((forgetL T a).length + 1) k2).ownBlock = some b → w.heap.size ≤ b := fun b e => by
    rcases hat2 with e2 | e2
    · exact HN1.out b (e2 ▸ e)
    · rw [e] at e2; cases e2; simp; omega
  refine ⟨_, rfl, LifeB.of hblk HL1.out.gx (Nat.le_trans hsz (Nat.le_trans hs1 hc12.size)) _ (touchL T a) (by simpa [touchL, intsV] using hown2) (fun e => by have := hn2 _ e; omega), ?_, hn2⟩
  exact (hc1.then hc12 (fun i hi e => by have := HN1.out i e; omega)).trans (chg_setCell _ _ _ _)
end
end Go.Proofs.Yteeamlidmkpohaa


/-
  A life: what was touched and what is kept, in plain words; a cache over its device, the reference's, and the life's block, apart.
-/
set_option linter.unusedVariables false
set_option linter.unusedSimpArgs false
namespace Go.Proofs.Yteeamlidmkpohaa
open Go.RowKit Go.Sort

theorem forgetL_no {T : List Int} {k : Int} (h : k ∉ T) : forgetL T k = T := by
  unfold forgetL
  rw [List.filter_eq_self]
  intro a ha
  simp only [Bool.not_eq_eq_eq_not, Bool.not_true, beq_eq_false_iff_ne, ne_eq]
  intro e
  exact h (e ▸ ha)
theorem forgetL_nodup {T : List Int} (h : T.Nodup) (k : Int) : (forgetL T k).Nodup := h.filter _
theorem mem_forgetL {T : List Int} {k a : Int} : a ∈ forgetL T k ↔ a ∈ T ∧ a ≠ k := by
  unfold forgetL
  rw [List.mem_filter]
  simp
theorem touchL_nodup {T : List Int} (h : T.Nodup) (k : Int) : (touchL T k).Nodup := by
  unfold touchL
  rw [List.nodup_append]
  refine ⟨forgetL_nodup h k, by simp, fun a ha b hb => ?_⟩
  simp only [List.mem_singleton] at hb
  subst hb
  exact (mem_forgetL.1 ha).2
theorem forgetL_has {T : List Int} (h : T.Nodup) {k : Int} (hk : k ∈ T) : (forgetL T k).length + 1 = T.length := by
  induction T with
  | nil => cases hk
  | cons a T ih =>
    rw [List.nodup_cons] at h
    by_cases e : a = k
    · subst e
      have : forgetL (a :: T) a = forgetL T a := by simp [forgetL]
      rw [this, forgetL_no h.1]
      rfl
    · have : forgetL (a :: T) k = a :: forgetL T k := by simp [forgetL, e]
      rw [this]
      have := ih h.2 (by rcases List.mem_cons.1 hk with h1 | h1; exact absurd h1.symm e; exact h1)
      simp only [List.length_cons]
      omega
theorem forgetL_append (A B : List Int) (k : Int) : forgetL (A ++ B) k = forgetL A k ++ forgetL B k := List.filter_append ..
/-- what is kept behind a touch is the last of what was touched -/
theorem lastN_touch {T : List Int} (h : T.Nodup) (k : Int) {n : Nat} (hn : 1 ≤ n) : lastN (touchL T k) n = kk (lastN T n) k n := by
  have hT : T = T.take (T.length - n) ++ lastN T n := (List.take_append_drop _ _).symm
  generalize hP : T.take (T.length - n) = P at hT
  have hPl : P.length = T.length - n := by rw [← hP, List.length_take]; omega
  have hSl : (lastN T n).length = T.length - (T.length - n) := by simp [lastN]
  generalize hS : lastN T n = S at hT hSl
  have e1 : touchL T k = forgetL P k ++ (forgetL S k ++ [k]) := by rw [hT]; simp [touchL, forgetL_append]
  have hlen : T.length = P.length + S.length := by rw [hT]; simp
  have hkk : kk S k n = if ((forgetL S k ++ [k]).length : Int) ≤ n then forgetL S k ++ [k] else (forgetL S k ++ [k]).tail := rfl
  rw [hkk]
  have hnd := h
  rw [hT, List.nodup_append] at hnd
  obtain ⟨hndP, hndS, hap⟩ := hnd
  by_cases hk : k ∈ S
  · have hkP : k ∉ P := fun e => hap k e k hk rfl
    have h1 := forgetL_has hndS hk
    rw [if_pos (by simp; omega)]
    unfold lastN
    rw [e1, forgetL_no hkP]
    have : (P ++ (forgetL S k ++ [k])).length - n = P.length := by simp; omega
    rw [this, List.drop_left]
  · rw [forgetL_no hk] at e1 ⊢
    by_cases hm : T.length < n
    · have hP0 : P = [] := List.length_eq_zero_iff.1 (by omega)
      subst hP0
      rw [if_pos (by simp; omega)]
      unfold lastN
      rw [e1]
      have : (forgetL [] k ++ (S ++ [k])).length - n = 0 := by simp [forgetL]; omega
      rw [this]
      simp [forgetL]
    · rw [if_neg (by simp; omega)]
      unfold lastN
      rw [e1]
      have : (forgetL P k ++ (S ++ [k])).length - n = (forgetL P k).length + 1 := by simp; omega
      rw [this, ← List.drop_drop, List.drop_left]
      simp
theorem placeL_in {T : List Int} {k : Int} {n : Nat} (h1 : 0 ≤ placeL T k) (h2 : placeL T k < n) : k ∈ lastN T n := by
  unfold placeL at h1 h2
  cases hf : T.findIdx? (fun x => x == k) with
  | none => rw [hf] at h1; simp at h1
  | some i =>
    rw [hf] at h1 h2
    simp only at h1 h2
    obtain ⟨hi, hik, _⟩ := List.findIdx?_eq_some_iff_getElem.1 hf
    have : T[i] = k := by simpa using hik
    unfold lastN
    rw [List.mem_drop_iff_getElem]
    exact ⟨i - (T.length - n), by omega, by rw [← this]; congr 1; omega⟩
theorem placeL_no {T : List Int} {k : Int} {n : Nat} (h1 : placeL T k < 0) : k ∉ lastN T n := by
  intro hm
  have hm : k ∈ T := List.mem_of_mem_drop hm
  unfold placeL at h1
  cases hf : T.findIdx? (fun x => x == k) with
  | none =>
    rw [List.findIdx?_eq_none_iff] at hf
    have := hf k hm
    simp at this
  | some i =>
    rw [hf] at h1
    simp only at h1
    obtain ⟨hi, _, _⟩ := List.findIdx?_eq_some_iff_getElem.1 hf
    omega
theorem placeL_le (T : List Int) (k : Int) : -1 ≤ placeL T k ∧ placeL T k < (T.length : Int) ∨ placeL T k = -1 := by
  unfold placeL
  cases hf : T.findIdx? (fun x => x == k) with
  | none => exact .inr rfl
  | some i =>
    obtain ⟨hi, _, _⟩ := List.findIdx?_eq_some_iff_getElem.1 hf
    left
    simp only
    omega

def Qs (p ms mo c mk : Nat) (Y : Nat → Prop) : Nat → Prop := fun b => DF p ms mo b ∨ CF c mk b ∨ Y b
def Rs (r : Nat) (lv : Value) (Z : Nat → Prop) : Nat → Prop := fun b => MF r lv b ∨ Z b
/-- the three, apart -/
structure Tri (w0 w : World) (p ms mo c mk : Nat) (K : Ck) (Y : Nat → Prop) (D : Dk) (r : Nat) (lv : Value) (L : List RS) (Z : Nat → Prop) (D2 : Dk) (x : Nat) (size rd : Int) (vT : Value) (T : List Int) : Prop where
  cd : CD w0 w p ms mo c mk K Y D
  rf : Ref w0 w r lv L Z D2
  lb : LifeB w0 w x c p r size rd vT T
  qr : ∀ b, Qs p ms mo c mk Y b → ¬ Rs r lv Z b
  ql : ∀ b, Qs p ms mo c mk Y b → ¬ LF x vT b
  rl : ∀ b, Rs r lv Z b → ¬ LF x vT b

section
variable {w0 w w' : World} {p ms mo c mk r x : Nat} {K K' : Ck} {Y Y' Z Z' : Nat → Prop} {D D2 D' : Dk} {lv lv' : Value} {L L' : List RS} {size rd rd' : Int} {vT vT' : Value} {T T' : List Int}
theorem CD.qs (h : CD w0 w p ms mo c mk K Y D) : ∀ b, Qs p ms mo c mk Y b → w0.heap.size ≤ b ∧ b < w.heap.size := fun b e => by
  rcases e with e | e | e
  · exact ⟨h.dv.df b e, h.dv.lt b e⟩
  · exact h.ca.cf b e
  · exact ⟨(h.ca.y b e).1, (h.ca.y b e).2.1⟩
theorem Ref.rs (h : Ref w0 w r lv L Z D) : ∀ b, Rs r lv Z b → w0.heap.size ≤ b ∧ b < w.heap.size := fun b e => by
  rcases e with e | e
  · exact h.mf b e
  · exact ⟨(h.y b e).1, (h.y b e).2.1⟩
theorem Tri.below (h : Tri w0 w p ms mo c mk K Y D r lv L Z D2 x size rd vT T) (hb : Below w.heap.size w w') : Tri w0 w' p ms mo c mk K Y D r lv L Z D2 x size rd vT T :=
  ⟨h.cd.below hb, h.rf.below hb, h.lb.below hb, h.qr, h.ql, h.rl⟩
/-- blocks elsewhere are written -/
theorem Tri.chg {F : Nat → Prop} (h : Tri w0 w p ms mo c mk K Y D r lv L Z D2 x size rd vT T) (hc : Chg F w w') (h0 : ∀ b, F b → w0.heap.size ≤ b) (h1 : ∀ b, Qs p ms mo c mk Y b → ¬ F b) (h2 : ∀ b, Rs r lv Z b → ¬ F b) (h3 : ∀ b, LF x vT b → ¬ F b) : Tri w0 w' p ms mo c mk K Y D r lv L Z D2 x size rd vT T :=
  ⟨h.cd.chg hc h0 (fun b e => h1 b (.inl e)) (fun b e => h1 b (.inr (.inl e))) (fun b e => h1 b (.inr (.inr e))), h.rf.chg hc (fun b e => h2 b (.inl e)) (fun b e => h2 b (.inr e)), h.lb.chg hc h3, h.qr, h.ql, h.rl⟩
/-- the cache or its device is turned -/
theorem Tri.cstep (h : Tri w0 w p ms mo c mk K Y D r lv L Z D2 x size rd vT T) (hd : CD w0 w' p ms mo c mk K' Y' D') (hc : Chg (fun b => DF p ms mo b ∨ CF c mk b) w w') (hf : Fresh w Y Y') : Tri w0 w' p ms mo c mk K' Y' D' r lv L Z D2 x size rd vT T := by
  have hq : ∀ b, (DF p ms mo b ∨ CF c mk b) → Qs p ms mo c mk Y b := fun b e => e.imp id .inl
  have hQ : ∀ b, Qs p ms mo c mk Y' b → Qs p ms mo c mk Y b ∨ w.heap.size ≤ b := fun b e => by
    rcases e with e | e | e
    · exact .inl (.inl e)
    · exact .inl (.inr (.inl e))
    · exact (hf b e).imp (fun e => .inr (.inr e)) id
  refine ⟨hd, h.rf.chg hc (fun b e e2 => h.qr b (hq b e2) (.inl e)) (fun b e e2 => h.qr b (hq b e2) (.inr e)), h.lb.chg hc (fun b e e2 => h.ql b (hq b e2) e), fun b e e2 => ?_, fun b e e2 => ?_, h.rl⟩
  · rcases hQ b e with e3 | e3
    · exact h.qr b e3 e2
    · have := (h.rf.rs b e2).2; omega
  · rcases hQ b e with e3 | e3
    · exact h.ql b e3 e2
    · have := (h.lb.lf b e2).2; omega
/-- the reference is turned -/
theorem Tri.rstep (h : Tri w0 w p ms mo c mk K Y D r lv L Z D2 x size rd vT T) (hd : Ref w0 w' r lv' L' Z' D') (hc : Chg (MF r lv) w w') (hm : Fresh w (MF r lv) (MF r lv')) (hz : Fresh w Z Z') : Tri w0 w' p ms mo c mk K Y D r lv' L' Z' D' x size rd vT T := by
  have hR : ∀ b, Rs r lv' Z' b → Rs r lv Z b ∨ w.heap.size ≤ b := fun b e => by
    rcases e with e | e
    · exact (hm b e).imp .inl id
    · exact (hz b e).imp .inr id
  refine ⟨h.cd.chg hc (fun b e => (h.rf.mf b e).1) (fun b e e2 => h.qr b (.inl e) (.inl e2)) (fun b e e2 => h.qr b (.inr (.inl e)) (.inl e2)) (fun b e e2 => h.qr b (.inr (.inr e)) (.inl e2)), hd, h.lb.chg hc (fun b e e2 => h.rl b (.inl e2) e), fun b e e2 => ?_, h.ql, fun b e e2 => ?_⟩
  · rcases hR b e2 with e3 | e3
    · exact h.qr b e e3
    · have := (h.cd.qs b e).2; omega
  · rcases hR b e with e3 | e3
    · exact h.rl b e3 e2
    · have := (h.lb.lf b e2).2; omega
/-- the life's block is written -/
theorem Tri.lstep (h : Tri w0 w p ms mo c mk K Y D r lv L Z D2 x size rd vT T) (hl : LifeB w0 w' x c p r size rd' vT' T') (hc : Chg (fun b => b = x) w w') (hv : ∀ b, vT'.ownBlock = some b → w.heap.size ≤ b ∨ vT.ownBlock = some b) : Tri w0 w' p ms mo c mk K Y D r lv L Z D2 x size rd' vT' T' := by
  have hx : ∀ b, b = x → LF x vT b := fun b e => .inl e
  have hL : ∀ b, LF x vT' b → LF x vT b ∨ w.heap.size ≤ b := fun b e => by
    rcases e with e | e
    · exact .inl (.inl e)
    · rcases hv b e with e2 | e2
      · exact .inr e2
      · exact .inl (.inr e2)
  refine ⟨h.cd.chg hc (fun b e => by rw [e]; exact h.lb.gx) (fun b e e2 => h.ql b (.inl e) (.inl e2)) (fun b e e2 => h.ql b (.inr (.inl e)) (.inl e2)) (fun b e e2 => h.ql b (.inr (.inr e)) (.inl e2)), h.rf.chg hc (fun b e e2 => h.rl b (.inl e) (.inl e2)) (fun b e e2 => h.rl b (.inr e) (.inl e2)), hl, h.qr, fun b e e2 => ?_, fun b e e2 => ?_⟩
  · rcases hL b e2 with e3 | e3
    · exact h.ql b e e3
    · have := (h.cd.qs b e).2; omega
  · rcases hL b e2 with e3 | e3
    · exact h.rl b e e3
    · have := (h.rf.rs b e).2; omega
end
end Go.Proofs.Yteeamlidmkpohaa


/-
  A life: read.
-/
set_option linter.unusedVariables false
set_option linter.unusedSimpArgs false
namespace Go.Proofs.Yteeamlidmkpohaa
open Go.RowKit Go.Sort

/-- what holds of a life -/
structure Inv9 (K : Ck) (D : Dk) (T : List Int) (rd size N : Int) : Prop where
  fit : D.down = false → K.fit D ∧ K.C.map CE.k = lastN T size.toNat
  most : K.most = size
  nd : T.Nodup
  rd : rd = K.hits + K.misses
  b1 : K.now ≤ N
  b2 : K.hits + K.misses ≤ N
  b3 : (T.length : Int) ≤ N
def LfPost (w0 w : World) (p ms mo c mk r x : Nat) (D' : Dk) (size N' : Int) (w' : World) : Prop :=
  ∃ K' Y' lv' L' Z' vT' T' rd', Tri w0 w' p ms mo c mk K' Y' D' r lv' L' Z' D' x size rd' vT' T' ∧ Inv9 K' D' T' rd' size N' ∧ Chg (fun b => w0.heap.size ≤ b) w w'

section
variable {w0 w w' : World} {p ms mo c mk r x : Nat} {K K' : Ck} {Y Y' Z Z' : Nat → Prop} {D D2 D' : Dk} {lv lv' : Value} {L L' : List RS} {size rd rd' N : Int} {vT vT' : Value} {T T' : List Int}
theorem Inv9.mono (h : Inv9 K D T rd size N) {N' : Int} (hN : N ≤ N') : Inv9 K D T rd size N' :=
  ⟨h.fit, h.most, h.nd, h.rd, Int.le_trans h.b1 hN, Int.le_trans h.b2 hN, Int.le_trans h.b3 hN⟩
/-- a sector is touched -/
theorem Inv9.touch (h : Inv9 K D T rd size N) (hm1 : 1 ≤ size) {k : Int} {u : Value} {h1 m1 : Int} (hk : D.may k = 0) (hd : h1 + m1 = K.hits + K.misses + 1) : Inv9 { K.touch ⟨k, D.latest k, u, K.now + 1⟩ with hits := h1, misses := m1 } D (touchL T k) (rd + 1) size (N + 1) := by
  have hdn := (may_zero hk).1
  have hb3 := h.b3
  have hfl := forgetL_len T k
  refine ⟨fun _ => ⟨?_, ?_⟩, h.most, touchL_nodup h.nd k, ?_, ?_, ?_, ?_⟩
  · exact Ck.fit_touch (v := u) (h.fit hdn).1 hk rfl
  · show (keepL K.C ⟨k, D.latest k, u, K.now + 1⟩ K.most).map CE.k = _
    rw [keepL_keys, (h.fit hdn).2, lastN_touch h.nd k (by omega), h.most]
    have : ((size.toNat : Nat) : Int) = size := by omega
    rw [this]
  · show rd + 1 = h1 + m1
    have := h.rd; omega
  · show K.now + 1 ≤ N + 1
    have := h.b1; omega
  · show h1 + m1 ≤ N + 1
    have := h.b2; omega
  · simp only [touchL, List.length_append, List.length_singleton]
    omega
theorem rbytes_len {D : Dk} (h : D.Ok) (k : Int) : (D.rbytes k).length ≤ 512 := by
  unfold Dk.rbytes
  split
  · simp
  · rw [(Dk.latest_sec h k).1]; omega

/-- a read, as the life looks at it -/
theorem Tri.cread (h : Tri w0 w p ms mo c mk K Y D r lv L Z D x size rd vT T) (hi : Inv9 K D T rd size N) (k : Int) (hN : N < 900) :
    Calls Try.prog 105 #[.pointer (some ⟨c, 0, none⟩), .int .i64 k] w fun e w' => ∃ v K' Y', e = .returned (.tuple #[v, .int .i64 (D.may k)]) ∧ w'.ownsRow w.heap.size 5 1 v (D.rbytes k).length (bytesV (D.rbytes k)) ∧ (∀ b, v.ownBlock = some b → ¬ Y' b) ∧
      Tri w0 w' p ms mo c mk K' Y' D r lv L Z D x size rd vT T ∧ Chg (CF c mk) w w' ∧ ReadRel K D k K' := by
  have b1 := hi.b1
  have b2 := hi.b2
  have h1 := h.cd.ca.h0
  have h2 := h.cd.ca.s0
  refine (h.cd.reads (fun hd => (hi.fit hd).1) k (by omega) (by omega) (by omega)).mono ?_
  rintro e w' ⟨v, K', Y', rfl, ho, hy, hcd, hc, hf, hr⟩
  exact ⟨v, K', Y', rfl, ho, hy, h.cstep hcd (hc.mono (fun _ _ e => .inr e)) hf, hc, hr⟩

theorem readRel_ok {k h1 m1 : Int} (h : ReadRel K D k K') (hm : D.may k = 0) (hk : (K.has k ∧ h1 = K.hits + 1 ∧ m1 = K.misses) ∨ (¬ K.has k ∧ h1 = K.hits ∧ m1 = K.misses + 1)) : ∃ u, K' = { K.touch ⟨k, D.latest k, u, K.now + 1⟩ with hits := h1, misses := m1 } := by
  rcases h with ⟨h1, _⟩ | ⟨_, u, ⟨h2, rfl⟩ | ⟨h2, rfl⟩⟩
  · exact absurd hm h1
  · rcases hk with ⟨h3, rfl, rfl⟩ | ⟨h3, _⟩
    · exact ⟨u, by simp [Ck.touch]⟩
    · exact absurd h2 h3
  · rcases hk with ⟨h3, _⟩ | ⟨h3, rfl, rfl⟩
    · exact absurd h3 h2
    · exact ⟨u, by simp [Ck.touch]⟩
set_option maxRecDepth 100000
set_option maxHeartbeats 4000000 in
theorem lread_no (h : Tri w0 w p ms mo c mk K Y D r lv L Z D x size rd vT T) (hi : Inv9 K D T rd size N) (k : Int) (hN : N < 900) (hm : D.may k ≠ 0) :
    Calls Try.prog 113 #[.pointer (some ⟨x, 0, none⟩), .int .i64 k] w fun e w' => e = .returned (.bool true) ∧ LfPost w0 w p ms mo c mk r x D size N w' := by
  obtain ⟨c0, c1, c2, c3, c4, c5⟩ := h.lb.cells
  have hcn := h.cd.ca.counts
  have hrl := Lib.hid (rbytes_len h.cd.dv.ok k)
  have H := Lib.hid h
  have HI := Lib.hid hi
  have HM := Lib.hid hm
  have hmm : (D.may k != D.may k) = false := by simp
  have hm0 : (D.may k != 0) = true := by simpa using hm
  clear h hi hm
  go_enter Try.func113, Try.ntmps113
  go_wp2_with
    (first
      | (go_at_call 106; refine hcn4.mono ?_; rintro e w5 ⟨rfl, hb5⟩; have hT5 := hT4.below hb5; have ha5 := Lib.hid (rowOwn_below ha4.out hb5); have hv5 := Lib.hid (hv4.out.below hb5); clear hcn4 hT4)
      | (go_at_call 106; refine hcn.mono ?_; rintro e w1 ⟨rfl, hb1⟩
         have hT1 := H.out.below hb1
         obtain ⟨d0, d1, d2, d3, d4, d5⟩ := hT1.lb.cells
         have hcr := hT1.cread HI.out k hN
         clear hcn)
      | (go_at_call 105; refine hcr.mono ?_; rintro e w2 ⟨v, K2, Y2, rfl, ho2, hvy2, hT2, hc2, hr2⟩
         obtain ⟨e0, e1, e2, e3, e4, e5⟩ := hT2.lb.cells
         obtain rfl : K2 = K := by
           rcases hr2 with ⟨_, h2⟩ | ⟨h2, _⟩
           · exact h2
           · exact absurd h2 HM.out
         have HO2 := Lib.hid ho2
         have HVY := Lib.hid hvy2
         clear hcr ho2 hvy2 hr2)
      | (go_at_call 141; refine (hT2.rf.reads k).mono ?_; rintro e w4 ⟨vb, rfl, hvb, hfb, hb4⟩
         have hT4 := hT2.below hb4
         obtain ⟨f0, f1, f2, f3, f4, f5⟩ := hT4.lb.cells
         have hcn4 := hT4.cd.ca.counts
         have ha4 := Lib.hid (rowOwn_below HO2.out hb4)
         have hv4 := Lib.hid hvb
         clear hvb)
      | (go_at_call 58; refine (sameBytes_eq _ _ _ _ (BytesIs.of_own rfl ha5.out) hv5.out).mono ?_; rintro e w6 ⟨rfl, hb6⟩; have hT6 := hT5.below hb6; have ha6 := Lib.hid (rowOwn_below ha5.out hb6))
      | (go_at_call 80; refine (turnBytes_any _ _ _ _ _ rfl ha6.out (by have := hrl.out; omega)).mono ?_; rintro e w7 ⟨rfl, hc7⟩
         have hT7 := hT6.chg hc7 (fun b e => by have := own_fresh HO2.out b e; have := hT1.lb.sz; omega) (fun b e e2 => by
           have := own_fresh HO2.out b e2
           rcases e with e | e | e
           · have := hT1.cd.dv.lt b e; omega
           · have := (hT1.cd.ca.cf b e).2; omega
           · exact HVY.out b e2 e) (fun b e e2 => by have := own_fresh HO2.out b e2; have := (hT1.rf.rs b e).2; omega) (fun b e e2 => by have := own_fresh HO2.out b e2; have := (hT1.lb.lf b e).2; omega)))
  go_ret
  refine ⟨rfl, _, _, _, _, _, _, _, _, hT7, HI.out, ?_⟩
  exact ((((Chg.of_below hb1).trans (hc2.mono (fun b _ e => (hT1.cd.ca.cf b e).1))).trans (Chg.of_below hb4)).trans (Chg.of_below hb5)).trans (Chg.of_below hb6) |>.trans (hc7.mono (fun b _ e => by have := own_fresh HO2.out b e; have := hT1.lb.sz; omega))

set_option maxHeartbeats 8000000 in
theorem lread_ok (h : Tri w0 w p ms mo c mk K Y D r lv L Z D x size rd vT T) (hi : Inv9 K D T rd size N) (k : Int) (hN : N < 900) (hm : D.may k = 0) {q : Int} (hq : q = placeL T k)
    (hcase : (K.has k ∧ 0 ≤ q) ∨ (¬ K.has k ∧ (q < 0 ∨ (0 ≤ q ∧ size ≤ q)))) :
    Calls Try.prog 113 #[.pointer (some ⟨x, 0, none⟩), .int .i64 k] w fun e w' => e = .returned (.bool true) ∧ LfPost w0 w p ms mo c mk r x D size (N + 1) w' := by
  obtain ⟨c0, c1, c2, c3, c4, c5⟩ := h.lb.cells
  have hcn := h.cd.ca.counts
  have hrl := Lib.hid (rbytes_len h.cd.dv.ok k)
  have hh0 := h.cd.ca.h0
  have hs0 := h.cd.ca.s0
  have i2 := hi.b2
  have i3 := hi.b3
  have i4 := hi.rd
  have hm1 : 1 ≤ size := by rw [← hi.most]; exact h.cd.ca.m1
  have hTl : T.length ≤ 999 := by omega
  have hrd0 : 0 ≤ rd := by omega
  have hrd1 : rd ≤ 1000 := by omega
  have hpl := placeL_le T k
  rw [← hq] at hpl
  have H := Lib.hid h
  have HI := Lib.hid hi
  have HM := Lib.hid hm
  have HQ := Lib.hid hq
  obtain ⟨a1, b1, hk1, hsum, hcase2⟩ : ∃ a1 b1 : Int, ((K.has k ∧ a1 = K.hits + 1 ∧ b1 = K.misses) ∨ (¬ K.has k ∧ a1 = K.hits ∧ b1 = K.misses + 1)) ∧ a1 + b1 = K.hits + K.misses + 1 ∧
      ((a1 = K.hits + 1 ∧ b1 = K.misses ∧ 0 ≤ q ∧ q < size) ∨ (a1 = K.hits + 1 ∧ b1 = K.misses ∧ 0 ≤ q ∧ size ≤ q) ∨ (a1 = K.hits ∧ b1 = K.misses + 1 ∧ q < 0) ∨ (a1 = K.hits ∧ b1 = K.misses + 1 ∧ 0 ≤ q ∧ size ≤ q)) := by
    rcases hcase with ⟨g1, g2⟩ | ⟨g1, g2⟩
    · exact ⟨_, _, .inl ⟨g1, rfl, rfl⟩, by omega, by omega⟩
    · exact ⟨_, _, .inr ⟨g1, rfl, rfl⟩, by omega, by omega⟩
  have HRR : Hid (∀ K2, ReadRel K D k K2 → ∃ u, K2 = { K.touch ⟨k, D.latest k, u, K.now + 1⟩ with hits := a1, misses := b1 }) := Lib.hid (fun K2 h2 => readRel_ok h2 hm hk1)
  have HSUM := Lib.hid (fun u => hi.touch (u := u) hm1 hm hsum)
  clear h hi hcase hq hk1 hsum
  generalize hhh : K.hits = h0 at hcn hh0 i2 i4 hcase2
  generalize hss : K.misses = s0 at hcn hs0 i2 i4 hcase2
  have hmm : (D.may k != D.may k) = false := by simp
  have hm0 : (D.may k != 0) = false := by simpa using hm
  clear hm hhh hss i4
  have hfe : (h0 + 1 == h0) = false := by simp; omega
  have hfd : decide (h0 + 1 < h0) = false := by simp; omega
  rcases hcase2 with ⟨rfl, rfl, g1, g2⟩ | ⟨rfl, rfl, g1, g2⟩ | ⟨rfl, rfl, g1⟩ | ⟨rfl, rfl, g1, g2⟩
  iterate 4
    · go_enter Try.func113, Try.ntmps113
      go_wp2_with
        (first
          | (go_at_call 106; refine hcn4.mono ?_; rintro e w5 ⟨rfl, hb5⟩; have hT5 := hT4.below hb5; have ha5 := Lib.hid (rowOwn_below ha4.out hb5); have hv5 := Lib.hid (hv4.out.below hb5); clear hcn4 hT4)
          | (go_at_call 106; refine hcn.mono ?_; rintro e w1 ⟨rfl, hb1⟩
             have hT1 := H.out.below hb1
             obtain ⟨d0, d1, d2, d3, d4, d5⟩ := hT1.lb.cells
             have hcr := hT1.cread HI.out k hN
             clear hcn)
          | (go_at_call 105; refine hcr.mono ?_; rintro e w2 ⟨v, K2, Y2, rfl, ho2, hvy2, hT2, hc2, hr2⟩
             obtain ⟨e0, e1, e2, e3, e4, e5⟩ := hT2.lb.cells
             have HO2 := Lib.hid ho2
             have HVY := Lib.hid hvy2
             have HR2 := Lib.hid hr2
             clear hcr ho2 hvy2 hr2)
          | (go_at_call 141; refine (hT2.rf.reads k).mono ?_; rintro e w4 ⟨vb, rfl, hvb, hfb, hb4⟩
             have hT4 := hT2.below hb4
             obtain ⟨f0, f1, f2, f3, f4, f5⟩ := hT4.lb.cells
             have hcn4 := hT4.cd.ca.counts
             have ha4 := Lib.hid (rowOwn_below HO2.out hb4)
             have hv4 := Lib.hid hvb
             obtain ⟨u, hu⟩ := HRR.out _ HR2.out
             have hn1 := congrArg Ck.hits hu
             have hn2 := congrArg Ck.misses hu
             simp only [] at hn1 hn2
             rw [hn1, hn2] at hcn4
             have HU := Lib.hid hu
             clear hvb hu hn1 hn2)
          | (go_at_call 58; refine (sameBytes_eq _ _ _ _ (BytesIs.of_own rfl ha5.out) hv5.out).mono ?_; rintro e w6 ⟨rfl, hb6⟩; have hT6 := hT5.below hb6; have ha6 := Lib.hid (rowOwn_below ha5.out hb6))
          | (go_at_call 80; refine (turnBytes_any _ _ _ _ _ rfl ha6.out (by have := hrl.out; omega)).mono ?_; rintro e w7 ⟨rfl, hc7⟩
             have hT7 := hT6.chg hc7 (fun b e => by have := own_fresh HO2.out b e; have := hT1.lb.sz; omega) (fun b e e2 => by
               have := own_fresh HO2.out b e2
               rcases e with e | e | e
               · have := hT1.cd.dv.lt b e; omega
               · have := (hT1.cd.ca.cf b e).2; omega
               · exact HVY.out b e2 e) (fun b e e2 => by have := own_fresh HO2.out b e2; have := (hT1.rf.rs b e).2; omega) (fun b e e2 => by have := own_fresh HO2.out b e2; have := (hT1.lb.lf b e).2; omega)
             have hC7 : Chg (fun b => w0.heap.size ≤ b) w w7 := ((((Chg.of_below hb1).trans (hc2.mono (fun b _ e => (hT1.cd.ca.cf b e).1))).trans (Chg.of_below hb4)).trans (Chg.of_below hb5)).trans (Chg.of_below hb6) |>.trans (hc7.mono (fun b _ e => by have := own_fresh HO2.out b e; have := hT1.lb.sz; omega))
             have HC7 := Lib.hid hC7
             have HT7 := Lib.hid hT7
             clear hT7 hT6 hT5 hT2 hT1 hC7 hb1 hc2 hb4 hb5 hb6 hc7)
          | (go_at_call 165; refine (HT7.out.lb.place k (by omega)).mono ?_; rintro e w8 ⟨rfl, hb8⟩
             rw [← HQ.out]
             have hT8 := HT7.out.below hb8
             obtain ⟨k0, k1, k2, k3, k4, k5⟩ := hT8.lb.cells)
          | (go_at_call 166; refine (hT8.lb.touch k hTl).mono ?_; rintro e w9 ⟨vT9, rfl, hl9, hc9, hn9⟩
             have hT9 := hT8.lstep hl9 hc9 (fun b e => .inl (hn9 b e))
             obtain ⟨j0, j1, j2, j3, j4, j5⟩ := hT9.lb.cells
             have jf := hT9.lb.free 5))
      go_ret
      refine ⟨rfl, _, _, _, _, _, _, _, _, hT9.lstep (hT9.lb.count (rd + 1)) (chg_setCell _ _ _ _) (fun b e => .inr e), ?_, ?_⟩
      · rw [HU.out]
        exact HSUM.out u
      · exact ((HC7.out.trans (Chg.of_below hb8)).trans (hc9.mono (fun b _ e => by rw [e]; exact hT8.lb.gx))).trans ((chg_setCell _ _ _ _).mono (fun b _ e => by rw [e]; exact hT8.lb.gx))
end
end Go.Proofs.Yteeamlidmkpohaa


/-
  The layout: what each function of the packages layout and peatbankref11 tells, for every geometry and every number.
-/
set_option linter.unusedVariables false
set_option linter.unusedSimpArgs false
namespace Go.Proofs.Yteeamlidmkpohaa
open Go.RowKit Go.Sort

/-! plain words -/
def fromB (n a b : Int) : Bool := decide (a ≤ n) && decide (n ≤ b)
def pagesW (v s m : Int) : Int := wrap64 (2 + wrap64 ((wrap64 (wrap64 (wrap64 (s * m) + wrap64 (9 * wrap64 (v.tdiv 8))) + 8)).tdiv 4))
def pagesI (v s m : Int) : Int := 2 + (s * m + 9 * (v / 8) + 8) / 4

/-- the four places of a plan -/
def plan1 (j : Int) : Int := wrap64 (2 + wrap64 (2 * j))
def plan2 (v s m j : Int) : Int := wrap64 (plan1 j + wrap64 (4 * pagesW v s m))
def plan3 (v s m j : Int) : Int := wrap64 (plan2 v s m j + wrap64 (s * m))

set_option maxHeartbeats 400000 in
theorem pages_any (v s m u j : Int) (w : World) :
    Calls Try.prog 127 #[.agg #[.int .i64 v, .int .i64 s, .int .i64 m, .int .i64 u, .int .i64 j]] w fun e w' => e = .returned (.int .i64 (pagesW v s m)) ∧ Below w.heap.size w w' := by
  go_enter Try.func127, Try.ntmps127
  go_wp2
  go_ret
  exact ⟨rfl, (Below.refl _ _).alloc (Nat.le_refl _) _⟩

set_option maxHeartbeats 400000 in
theorem rpages_any (v s m u j : Int) (w : World) :
    Calls Try.prog 128 #[.agg #[.int .i64 v, .int .i64 s, .int .i64 m, .int .i64 u, .int .i64 j]] w fun e w' => e = .returned (.int .i64 (pagesW v s m)) ∧ Below w.heap.size w w' := by
  go_enter Try.func128, Try.ntmps128
  go_wp2
  go_ret
  exact ⟨rfl, (Below.refl _ _).alloc (Nat.le_refl _) _⟩

theorem idx3_0 (x y z : Int) (w : World) : (Instr.index 223 (.agg #[.int .i64 x, .int .i64 y, .int .i64 z]) (.int .i64 0)).run Try.prog w = .ok (.int .i64 x) w := by kernel_rfl
theorem idx3_1 (x y z : Int) (w : World) : (Instr.index 223 (.agg #[.int .i64 x, .int .i64 y, .int .i64 z]) (.int .i64 1)).run Try.prog w = .ok (.int .i64 y) w := by kernel_rfl
theorem idx3_2 (x y z : Int) (w : World) : (Instr.index 223 (.agg #[.int .i64 x, .int .i64 y, .int .i64 z]) (.int .i64 2)).run Try.prog w = .ok (.int .i64 z) w := by kernel_rfl
set_option maxRecDepth 100000 in
set_option maxHeartbeats 1000000 in
theorem plan_any (v s m u j : Int) (w : World) :
    Calls Try.prog 124 #[.agg #[.int .i64 v, .int .i64 s, .int .i64 m, .int .i64 u, .int .i64 j]] w fun e w' => e = .returned (.agg #[.int .i64 2, .int .i64 (plan1 j), .int .i64 (plan2 v s m j), .int .i64 (plan3 v s m j)]) ∧ Below w.heap.size w w' := by
  go_enter Try.func124, Try.ntmps124
  go_wp2_with fail
  generalize hW : ((w.alloc (.cells #[.int .i64 v, .int .i64 s, .int .i64 m, .int .i64 u, .int .i64 j] 24)).alloc (.cells #[.int .i64 0, .int .i64 0, .int .i64 0, .int .i64 0] 158)).alloc (.cells #[.int .i64 0, .int .i64 0, .int .i64 0, .int .i64 0] 158) = W
  have hsz : w.heap.size + 2 < W.heap.size := by subst hW; simp
  have h0 : W.cell? ⟨w.heap.size, 0, none⟩ = some (.int .i64 v) ∧ W.cell? ⟨w.heap.size, 1, none⟩ = some (.int .i64 s) ∧ W.cell? ⟨w.heap.size, 2, none⟩ = some (.int .i64 m) ∧ W.cell? ⟨w.heap.size, 3, none⟩ = some (.int .i64 u) ∧ W.cell? ⟨w.heap.size, 4, none⟩ = some (.int .i64 j) := by subst hW; go_simp
  obtain ⟨h0, h1, h2, h3, h4⟩ := h0
  have c0 := cell_regrown h0
  have c1 := cell_regrown h1
  have c2 := cell_regrown h2
  have c3 := cell_regrown h3
  have c4 := cell_regrown h4
  refine wp_region_quiet_below (by kernel_rfl) (by kernel_rfl) ?_
  repeat (go_big_quiet_step (exact Calls.regrown_of (pages_any _ _ _ _ _ _)))
  refine wpQuiet_nil ?_
  intro _ hw'
  obtain ⟨⟨dq, osq⟩, hw''⟩ := hw'
  subst hw''
  have hB := below_regrown W dq osq
  generalize grow (redrawn W dq) osq = W1 at hB ⊢
  clear h0 h1 h2 h3 h4 c0 c1 c2 c3 c4
  subst hW
  obtain ⟨hc, hf⟩ := bcell hB
  have hsz1 := hB.size
  simp only [World.size_alloc] at hc hf hsz1
  have x0 := idx3_0
  have x1 := idx3_1
  have x2 := idx3_2
  go_wp2
  refine wp_loop_rounds 4 ?_
  rw [rounds_succ]
  go_wp2
  rw [rounds_succ]
  go_wp2
  rw [rounds_succ]
  go_wp2
  rw [rounds_succ]
  go_wp2
  have hb0 : Below w.heap.size w W1 := below_trans' (below_alloc' (below_alloc' (below_alloc' (Below.refl _ _) _) _) _) hB
  refine bodyPost_ret (v := .agg #[.int .i64 2, .int .i64 (plan1 j), .int .i64 (plan2 v s m j), .int .i64 (plan3 v s m j)]) (by simp [results, Try.results124, go_sem, plan1, plan2, plan3, hc, hf]) rfl ⟨rfl, ?_⟩
  repeat (first | (with_reducible exact hb0) | (with_reducible refine Below.setCell ?_ ?_ _; rotate_left; (· (simp <;> omega))))

def rightW (v s m u j : Int) : Bool :=
  fromB v 8 4096 && (v.tmod 8 == 0) && fromB s 2 256 && fromB u 1 16 && fromB m (if 16 < wrap64 (2 * wrap64 (wrap64 (8 * u) + 1)) then wrap64 (2 * wrap64 (wrap64 (8 * u) + 1)) else 16) 1024 && fromB j 8 64 && decide (plan3 v s m j ≤ 262144)

theorem idx4_0 (x y z u : Int) (w : World) : (Instr.index 158 (.agg #[.int .i64 x, .int .i64 y, .int .i64 z, .int .i64 u]) (.int .i64 0)).run Try.prog w = .ok (.int .i64 x) w := by kernel_rfl
theorem idx4_1 (x y z u : Int) (w : World) : (Instr.index 158 (.agg #[.int .i64 x, .int .i64 y, .int .i64 z, .int .i64 u]) (.int .i64 1)).run Try.prog w = .ok (.int .i64 y) w := by kernel_rfl
theorem idx4_2 (x y z u : Int) (w : World) : (Instr.index 158 (.agg #[.int .i64 x, .int .i64 y, .int .i64 z, .int .i64 u]) (.int .i64 2)).run Try.prog w = .ok (.int .i64 z) w := by kernel_rfl
theorem idx4_3 (x y z u : Int) (w : World) : (Instr.index 158 (.agg #[.int .i64 x, .int .i64 y, .int .i64 z, .int .i64 u]) (.int .i64 3)).run Try.prog w = .ok (.int .i64 u) w := by kernel_rfl
theorem from_any (n a b : Int) (w : World) :
    Calls Try.prog 123 #[.int .i64 n, .int .i64 a, .int .i64 b] w fun e w' => e = .returned (.bool (fromB n a b)) ∧ w = w' := by
  by_cases h : a ≤ n
  · go_enter Try.func123, Try.ntmps123
    go_wp2
    go_ret
    exact ⟨by simp [fromB, h], rfl⟩
  · have h' : n < a := by omega
    have h'' : decide (a ≤ n) = false := by simpa using h
    clear h
    go_enter Try.func123, Try.ntmps123
    go_wp2
    go_ret
    exact ⟨by simp [fromB, h''], rfl⟩

set_option maxRecDepth 100000 in
set_option maxHeartbeats 1000000 in
theorem right_any (v s m u j : Int) (w : World) :
    Calls Try.prog 32 #[.agg #[.int .i64 v, .int .i64 s, .int .i64 m, .int .i64 u, .int .i64 j]] w fun e w' => e = .returned (.bool (rightW v s m u j)) ∧ Below w.heap.size w w' := by
  have y3 := idx4_3
  go_enter Try.func32, Try.ntmps32
  go_wp2_with (first | (go_at_call 123; refine (from_any _ _ _ _).mono ?_; rintro e w' ⟨rfl, rfl⟩) | (go_at_call 124; refine (plan_any _ _ _ _ _ _).mono ?_; rintro e w1 ⟨rfl, hb⟩))
  all_goals go_ret
  all_goals (refine ⟨?_, ?_⟩; (· (refine congrArg (fun b => Ending.returned (.bool b)) ?_; by_cases hX : 16 < wrap64 (2 * wrap64 (wrap64 (8 * u) + 1)) <;> first | (exfalso; omega) | simp [rightW, *])))
  all_goals first | (with_reducible exact below_trans' (below_alloc' (Below.refl _ _) _) ‹_›) | (with_reducible exact below_alloc' (Below.refl _ _) _)
end Go.Proofs.Yteeamlidmkpohaa


/-
  The layout: the functions of the package layout, by contract.
-/
set_option linter.unusedVariables false
set_option linter.unusedSimpArgs false
namespace Go.Proofs.Yteeamlidmkpohaa
open Go.RowKit Go.Sort

def sectorsW (v s m u j : Int) : Int := if rightW v s m u j = true then plan3 v s m j else 0
def pagesT (v s m u j : Int) : Int := if rightW v s m u j = true then pagesW v s m else 0
def oneW (v s m u j i at_ size : Int) : Int := if rightW v s m u j = true then (if i < 0 then -1 else wrap64 (at_ + wrap64 (i % 2 * size))) else -1
def segW (v s m u j k : Int) : Int := if rightW v s m u j = true then (if k < 0 then -1 else if s ≤ k then -1 else wrap64 (plan2 v s m j + wrap64 (k * m))) else -1
def inW (v s m u j at_ : Int) : Option Int := if rightW v s m u j = true then (if at_ < plan2 v s m j then none else if plan3 v s m j ≤ at_ then none else some (wrap64 ((wrap64 (at_ - plan2 v s m j)).tdiv m))) else none

theorem right_m {v s m u j : Int} (h : rightW v s m u j = true) : 16 ≤ m := by
  simp only [rightW, Bool.and_eq_true, fromB, decide_eq_true_eq] at h
  obtain ⟨⟨⟨_, hm, _⟩, _⟩, _⟩ := h
  split at hm <;> omega

set_option maxRecDepth 100000 in
set_option maxHeartbeats 1000000 in
theorem sectors_true (v s m u j : Int) (w : World) (hR : rightW v s m u j = true) :
    Calls Try.prog 34 #[.agg #[.int .i64 v, .int .i64 s, .int .i64 m, .int .i64 u, .int .i64 j]] w fun e w' => e = .returned (.int .i64 (sectorsW v s m u j)) ∧ Below w.heap.size w w' := by
  have y := idx4_3
  go_enter Try.func34, Try.ntmps34
  go_wp2_with (first | (go_at_call 32; refine (right_any _ _ _ _ _ _).mono ?_; rintro e w1 ⟨rfl, hb1⟩; obtain ⟨hc1, hf1⟩ := bcell hb1; have hz1 := hb1.size; simp only [World.size_alloc] at hc1 hf1 hz1) | (go_at_call 124; refine (plan_any _ _ _ _ _ _).mono ?_; rintro e w2 ⟨rfl, hb2⟩))
  go_ret
  refine ⟨congrArg (fun b => Ending.returned (.int .i64 b)) ?_, ?_⟩
  · simp [sectorsW, hR]
  · (first | (with_reducible exact below_trans' (below_trans' (below_alloc' (Below.refl _ _) _) hb1) hb2) | (with_reducible exact below_trans' (below_alloc' (Below.refl _ _) _) hb1))

set_option maxRecDepth 100000 in
set_option maxHeartbeats 1000000 in
theorem sectors_false (v s m u j : Int) (w : World) (hR : rightW v s m u j = false) :
    Calls Try.prog 34 #[.agg #[.int .i64 v, .int .i64 s, .int .i64 m, .int .i64 u, .int .i64 j]] w fun e w' => e = .returned (.int .i64 (sectorsW v s m u j)) ∧ Below w.heap.size w w' := by
  have y := idx4_3
  go_enter Try.func34, Try.ntmps34
  go_wp2_with (first | (go_at_call 32; refine (right_any _ _ _ _ _ _).mono ?_; rintro e w1 ⟨rfl, hb1⟩; obtain ⟨hc1, hf1⟩ := bcell hb1; have hz1 := hb1.size; simp only [World.size_alloc] at hc1 hf1 hz1) | (go_at_call 124; refine (plan_any _ _ _ _ _ _).mono ?_; rintro e w2 ⟨rfl, hb2⟩))
  go_ret
  refine ⟨congrArg (fun b => Ending.returned (.int .i64 b)) ?_, ?_⟩
  · simp [sectorsW, hR]
  · (first | (with_reducible exact below_trans' (below_trans' (below_alloc' (Below.refl _ _) _) hb1) hb2) | (with_reducible exact below_trans' (below_alloc' (Below.refl _ _) _) hb1))

theorem sectors_any (v s m u j : Int) (w : World) :
    Calls Try.prog 34 #[.agg #[.int .i64 v, .int .i64 s, .int .i64 m, .int .i64 u, .int .i64 j]] w fun e w' => e = .returned (.int .i64 (sectorsW v s m u j)) ∧ Below w.heap.size w w' := by
  cases hR : rightW v s m u j
  · exact sectors_false v s m u j w hR
  · exact sectors_true v s m u j w hR

set_option maxRecDepth 100000 in
set_option maxHeartbeats 1000000 in
theorem pagesT_true (v s m u j : Int) (w : World) (hR : rightW v s m u j = true) :
    Calls Try.prog 39 #[.agg #[.int .i64 v, .int .i64 s, .int .i64 m, .int .i64 u, .int .i64 j]] w fun e w' => e = .returned (.int .i64 (pagesT v s m u j)) ∧ Below w.heap.size w w' := by
  have y := idx4_3
  go_enter Try.func39, Try.ntmps39
  go_wp2_with (first | (go_at_call 32; refine (right_any _ _ _ _ _ _).mono ?_; rintro e w1 ⟨rfl, hb1⟩; obtain ⟨hc1, hf1⟩ := bcell hb1; have hz1 := hb1.size; simp only [World.size_alloc] at hc1 hf1 hz1) | (go_at_call 127; refine (pages_any _ _ _ _ _ _).mono ?_; rintro e w2 ⟨rfl, hb2⟩))
  go_ret
  refine ⟨congrArg (fun b => Ending.returned (.int .i64 b)) ?_, ?_⟩
  · simp [pagesT, hR]
  · (first | (with_reducible exact below_trans' (below_trans' (below_alloc' (Below.refl _ _) _) hb1) hb2) | (with_reducible exact below_trans' (below_alloc' (Below.refl _ _) _) hb1))

set_option maxRecDepth 100000 in
set_option maxHeartbeats 1000000 in
theorem pagesT_false (v s m u j : Int) (w : World) (hR : rightW v s m u j = false) :
    Calls Try.prog 39 #[.agg #[.int .i64 v, .int .i64 s, .int .i64 m, .int .i64 u, .int .i64 j]] w fun e w' => e = .returned (.int .i64 (pagesT v s m u j)) ∧ Below w.heap.size w w' := by
  have y := idx4_3
  go_enter Try.func39, Try.ntmps39
  go_wp2_with (first | (go_at_call 32; refine (right_any _ _ _ _ _ _).mono ?_; rintro e w1 ⟨rfl, hb1⟩; obtain ⟨hc1, hf1⟩ := bcell hb1; have hz1 := hb1.size; simp only [World.size_alloc] at hc1 hf1 hz1) | (go_at_call 127; refine (pages_any _ _ _ _ _ _).mono ?_; rintro e w2 ⟨rfl, hb2⟩))
  go_ret
  refine ⟨congrArg (fun b => Ending.returned (.int .i64 b)) ?_, ?_⟩
  · simp [pagesT, hR]
  · (first | (with_reducible exact below_trans' (below_trans' (below_alloc' (Below.refl _ _) _) hb1) hb2) | (with_reducible exact below_trans' (below_alloc' (Below.refl _ _) _) hb1))

theorem pagesT_any (v s m u j : Int) (w : World) :
    Calls Try.prog 39 #[.agg #[.int .i64 v, .int .i64 s, .int .i64 m, .int .i64 u, .int .i64 j]] w fun e w' => e = .returned (.int .i64 (pagesT v s m u j)) ∧ Below w.heap.size w w' := by
  cases hR : rightW v s m u j
  · exact pagesT_false v s m u j w hR
  · exact pagesT_true v s m u j w hR

set_option maxRecDepth 100000 in
set_option maxHeartbeats 1000000 in
theorem one_false (v s m u j : Int) (i at_ size : Int) (w : World) (hR : rightW v s m u j = false)  :
    Calls Try.prog 129 #[.agg #[.int .i64 v, .int .i64 s, .int .i64 m, .int .i64 u, .int .i64 j], .int .i64 i, .int .i64 at_, .int .i64 size] w fun e w' => e = .returned (.int .i64 (oneW v s m u j i at_ size)) ∧ Below w.heap.size w w' := by
  go_enter Try.func129, Try.ntmps129
  go_wp2_with (go_at_call 32; refine (right_any _ _ _ _ _ _).mono ?_; rintro e w1 ⟨rfl, hb1⟩; obtain ⟨hc1, hf1⟩ := bcell hb1; have hz1 := hb1.size; simp only [World.size_alloc] at hc1 hf1 hz1)
  go_ret
  refine ⟨congrArg (fun b => Ending.returned (.int .i64 b)) ?_, ?_⟩
  · (simp [oneW, hR, *]) <;> omega
  · (with_reducible exact below_trans' (below_alloc' (Below.refl _ _) _) hb1)

set_option maxRecDepth 100000 in
set_option maxHeartbeats 1000000 in
theorem one_trueneg (v s m u j : Int) (i at_ size : Int) (w : World) (hR : rightW v s m u j = true) (h : i < 0) :
    Calls Try.prog 129 #[.agg #[.int .i64 v, .int .i64 s, .int .i64 m, .int .i64 u, .int .i64 j], .int .i64 i, .int .i64 at_, .int .i64 size] w fun e w' => e = .returned (.int .i64 (oneW v s m u j i at_ size)) ∧ Below w.heap.size w w' := by
  go_enter Try.func129, Try.ntmps129
  go_wp2_with (go_at_call 32; refine (right_any _ _ _ _ _ _).mono ?_; rintro e w1 ⟨rfl, hb1⟩; obtain ⟨hc1, hf1⟩ := bcell hb1; have hz1 := hb1.size; simp only [World.size_alloc] at hc1 hf1 hz1)
  go_ret
  refine ⟨congrArg (fun b => Ending.returned (.int .i64 b)) ?_, ?_⟩
  · (simp [oneW, hR, *]) <;> omega
  · (with_reducible exact below_trans' (below_alloc' (Below.refl _ _) _) hb1)

set_option maxRecDepth 100000 in
set_option maxHeartbeats 1000000 in
theorem one_truepos (v s m u j : Int) (i at_ size : Int) (w : World) (hR : rightW v s m u j = true) (h : 0 ≤ i) :
    Calls Try.prog 129 #[.agg #[.int .i64 v, .int .i64 s, .int .i64 m, .int .i64 u, .int .i64 j], .int .i64 i, .int .i64 at_, .int .i64 size] w fun e w' => e = .returned (.int .i64 (oneW v s m u j i at_ size)) ∧ Below w.heap.size w w' := by
  go_enter Try.func129, Try.ntmps129
  go_wp2_with (go_at_call 32; refine (right_any _ _ _ _ _ _).mono ?_; rintro e w1 ⟨rfl, hb1⟩; obtain ⟨hc1, hf1⟩ := bcell hb1; have hz1 := hb1.size; simp only [World.size_alloc] at hc1 hf1 hz1)
  go_ret
  refine ⟨congrArg (fun b => Ending.returned (.int .i64 b)) ?_, ?_⟩
  · (simp [oneW, hR, *]) <;> omega
  · (with_reducible exact below_trans' (below_alloc' (Below.refl _ _) _) hb1)

theorem one_any (v s m u j i at_ size : Int) (w : World) :
    Calls Try.prog 129 #[.agg #[.int .i64 v, .int .i64 s, .int .i64 m, .int .i64 u, .int .i64 j], .int .i64 i, .int .i64 at_, .int .i64 size] w fun e w' => e = .returned (.int .i64 (oneW v s m u j i at_ size)) ∧ Below w.heap.size w w' := by
  cases hR : rightW v s m u j
  · exact one_false v s m u j i at_ size w hR
  · by_cases h : i < 0
    · exact one_trueneg v s m u j i at_ size w hR h
    · exact one_truepos v s m u j i at_ size w hR (by omega)

set_option maxRecDepth 100000 in
set_option maxHeartbeats 1000000 in
theorem seg_false (v s m u j : Int) (k : Int) (w : World) (hR : rightW v s m u j = false) :
    Calls Try.prog 37 #[.agg #[.int .i64 v, .int .i64 s, .int .i64 m, .int .i64 u, .int .i64 j], .int .i64 k] w fun e w' => e = .returned (.int .i64 (segW v s m u j k)) ∧ Below w.heap.size w w' := by
  have y := idx4_2
  go_enter Try.func37, Try.ntmps37
  go_wp2_with (go_at_call 32; refine (right_any _ _ _ _ _ _).mono ?_; rintro e w1 ⟨rfl, hb1⟩; obtain ⟨hc1, hf1⟩ := bcell hb1; have hz1 := hb1.size; simp only [World.size_alloc] at hc1 hf1 hz1)
  go_ret
  refine ⟨congrArg (fun b => Ending.returned (.int .i64 b)) ?_, ?_⟩
  · (simp [segW, hR, *]) <;> omega
  · (with_reducible exact below_trans' (below_alloc' (Below.refl _ _) _) hb1)

set_option maxRecDepth 100000 in
set_option maxHeartbeats 1000000 in
theorem seg_neg (v s m u j : Int) (k : Int) (w : World) (hR : rightW v s m u j = true) (h : k < 0) :
    Calls Try.prog 37 #[.agg #[.int .i64 v, .int .i64 s, .int .i64 m, .int .i64 u, .int .i64 j], .int .i64 k] w fun e w' => e = .returned (.int .i64 (segW v s m u j k)) ∧ Below w.heap.size w w' := by
  have y := idx4_2
  go_enter Try.func37, Try.ntmps37
  go_wp2_with (go_at_call 32; refine (right_any _ _ _ _ _ _).mono ?_; rintro e w1 ⟨rfl, hb1⟩; obtain ⟨hc1, hf1⟩ := bcell hb1; have hz1 := hb1.size; simp only [World.size_alloc] at hc1 hf1 hz1)
  go_ret
  refine ⟨congrArg (fun b => Ending.returned (.int .i64 b)) ?_, ?_⟩
  · (simp [segW, hR, *]) <;> omega
  · (with_reducible exact below_trans' (below_alloc' (Below.refl _ _) _) hb1)

set_option maxRecDepth 100000 in
set_option maxHeartbeats 1000000 in
theorem seg_over (v s m u j : Int) (k : Int) (w : World) (hR : rightW v s m u j = true) (h : 0 ≤ k) (h' : s ≤ k) :
    Calls Try.prog 37 #[.agg #[.int .i64 v, .int .i64 s, .int .i64 m, .int .i64 u, .int .i64 j], .int .i64 k] w fun e w' => e = .returned (.int .i64 (segW v s m u j k)) ∧ Below w.heap.size w w' := by
  have y := idx4_2
  go_enter Try.func37, Try.ntmps37
  go_wp2_with (go_at_call 32; refine (right_any _ _ _ _ _ _).mono ?_; rintro e w1 ⟨rfl, hb1⟩; obtain ⟨hc1, hf1⟩ := bcell hb1; have hz1 := hb1.size; simp only [World.size_alloc] at hc1 hf1 hz1)
  go_ret
  refine ⟨congrArg (fun b => Ending.returned (.int .i64 b)) ?_, ?_⟩
  · (simp [segW, hR, *]) <;> omega
  · (with_reducible exact below_trans' (below_alloc' (Below.refl _ _) _) hb1)

set_option maxRecDepth 100000 in
set_option maxHeartbeats 1000000 in
theorem seg_ok (v s m u j : Int) (k : Int) (w : World) (hR : rightW v s m u j = true) (h : 0 ≤ k) (h' : k < s) :
    Calls Try.prog 37 #[.agg #[.int .i64 v, .int .i64 s, .int .i64 m, .int .i64 u, .int .i64 j], .int .i64 k] w fun e w' => e = .returned (.int .i64 (segW v s m u j k)) ∧ Below w.heap.size w w' := by
  have y := idx4_2
  go_enter Try.func37, Try.ntmps37
  go_wp2_with (go_at_call 32; refine (right_any _ _ _ _ _ _).mono ?_; rintro e w1 ⟨rfl, hb1⟩; obtain ⟨hc1, hf1⟩ := bcell hb1; have hz1 := hb1.size; simp only [World.size_alloc] at hc1 hf1 hz1)
  have c0 := cell_regrown (show w1.cell? ⟨w.heap.size, 0, none⟩ = some (.int .i64 v) by rw [hc1 _ _ (by omega)]; go_simp)
  have c1 := cell_regrown (show w1.cell? ⟨w.heap.size, 1, none⟩ = some (.int .i64 s) by rw [hc1 _ _ (by omega)]; go_simp)
  have c2 := cell_regrown (show w1.cell? ⟨w.heap.size, 2, none⟩ = some (.int .i64 m) by rw [hc1 _ _ (by omega)]; go_simp)
  have c3 := cell_regrown (show w1.cell? ⟨w.heap.size, 3, none⟩ = some (.int .i64 u) by rw [hc1 _ _ (by omega)]; go_simp)
  have c4 := cell_regrown (show w1.cell? ⟨w.heap.size, 4, none⟩ = some (.int .i64 j) by rw [hc1 _ _ (by omega)]; go_simp)
  refine wp_region_quiet_below (by kernel_rfl) (by kernel_rfl) ?_
  repeat (go_big_quiet_step (exact Calls.regrown_of (plan_any _ _ _ _ _ _)))
  refine wpQuiet_nil ?_
  intro _ hw'
  obtain ⟨⟨dq, osq⟩, hw''⟩ := hw'
  subst hw''
  have hb2 := below_regrown w1 dq osq
  generalize grow (redrawn w1 dq) osq = W2 at hb2 ⊢
  clear c0 c1 c2 c3 c4
  go_wp2
  go_ret
  refine ⟨congrArg (fun b => Ending.returned (.int .i64 b)) ?_, ?_⟩
  · (simp [segW, hR, *]) <;> omega
  · (first | (with_reducible exact below_trans' (below_trans' (below_alloc' (Below.refl _ _) _) hb1) hb2) | (with_reducible exact below_trans' (below_alloc' (Below.refl _ _) _) hb1))

theorem seg_any (v s m u j k : Int) (w : World) :
    Calls Try.prog 37 #[.agg #[.int .i64 v, .int .i64 s, .int .i64 m, .int .i64 u, .int .i64 j], .int .i64 k] w fun e w' => e = .returned (.int .i64 (segW v s m u j k)) ∧ Below w.heap.size w w' := by
  cases hR : rightW v s m u j
  · exact seg_false v s m u j k w hR
  · by_cases h : k < 0
    · exact seg_neg v s m u j k w hR h
    · by_cases h' : s ≤ k
      · exact seg_over v s m u j k w hR (by omega) h'
      · exact seg_ok v s m u j k w hR (by omega) (by omega)

set_option maxRecDepth 100000 in
set_option maxHeartbeats 1000000 in
theorem in_false (v s m u j : Int) (at_ : Int) (w : World) (hR : rightW v s m u j = false) :
    Calls Try.prog 36 #[.agg #[.int .i64 v, .int .i64 s, .int .i64 m, .int .i64 u, .int .i64 j], .int .i64 at_] w fun e w' => e = .returned (.tuple #[.int .i64 ((inW v s m u j at_).getD 0), .bool (inW v s m u j at_).isSome]) ∧ Below w.heap.size w w' := by
  skip
  go_enter Try.func36, Try.ntmps36
  go_wp2_with (first | (go_at_call 32; refine (right_any _ _ _ _ _ _).mono ?_; rintro e w1 ⟨rfl, hb1⟩; obtain ⟨hc1, hf1⟩ := bcell hb1; have hz1 := hb1.size; simp only [World.size_alloc] at hc1 hf1 hz1) | (go_at_call 124; refine (plan_any _ _ _ _ _ _).mono ?_; rintro e w2 ⟨rfl, hb2⟩; obtain ⟨hc2, hf2⟩ := bcell hb2; have hz2 := hb2.size; go_loud (have hz3 : w.heap.size < w1.heap.size := by omega); have hz4 : w.heap.size < w2.heap.size := by omega))
  go_ret2
  refine ⟨ret_ib ?_ ?_, ?_⟩
  · (simp [inW, hR, *]) <;> omega
  · (simp [inW, hR, *]) <;> omega
  · (with_reducible exact below_trans' (below_alloc' (Below.refl _ _) _) hb1)

set_option maxRecDepth 100000 in
set_option maxHeartbeats 1000000 in
theorem in_low (v s m u j : Int) (at_ : Int) (w : World) (hR : rightW v s m u j = true) (h : at_ < plan2 v s m j) :
    Calls Try.prog 36 #[.agg #[.int .i64 v, .int .i64 s, .int .i64 m, .int .i64 u, .int .i64 j], .int .i64 at_] w fun e w' => e = .returned (.tuple #[.int .i64 ((inW v s m u j at_).getD 0), .bool (inW v s m u j at_).isSome]) ∧ Below w.heap.size w w' := by
  skip
  go_enter Try.func36, Try.ntmps36
  go_wp2_with (first | (go_at_call 32; refine (right_any _ _ _ _ _ _).mono ?_; rintro e w1 ⟨rfl, hb1⟩; obtain ⟨hc1, hf1⟩ := bcell hb1; have hz1 := hb1.size; simp only [World.size_alloc] at hc1 hf1 hz1) | (go_at_call 124; refine (plan_any _ _ _ _ _ _).mono ?_; rintro e w2 ⟨rfl, hb2⟩; obtain ⟨hc2, hf2⟩ := bcell hb2; have hz2 := hb2.size; go_loud (have hz3 : w.heap.size < w1.heap.size := by omega); have hz4 : w.heap.size < w2.heap.size := by omega))
  go_ret2
  refine ⟨ret_ib ?_ ?_, ?_⟩
  · (simp [inW, hR, *]) <;> omega
  · (simp [inW, hR, *]) <;> omega
  · (with_reducible exact below_alloc' (below_trans' (below_trans' (below_alloc' (Below.refl _ _) _) hb1) hb2) _)

set_option maxRecDepth 100000 in
set_option maxHeartbeats 1000000 in
theorem in_high (v s m u j : Int) (at_ : Int) (w : World) (hR : rightW v s m u j = true) (h : plan2 v s m j ≤ at_) (h' : plan3 v s m j ≤ at_) :
    Calls Try.prog 36 #[.agg #[.int .i64 v, .int .i64 s, .int .i64 m, .int .i64 u, .int .i64 j], .int .i64 at_] w fun e w' => e = .returned (.tuple #[.int .i64 ((inW v s m u j at_).getD 0), .bool (inW v s m u j at_).isSome]) ∧ Below w.heap.size w w' := by
  skip
  go_enter Try.func36, Try.ntmps36
  go_wp2_with (first | (go_at_call 32; refine (right_any _ _ _ _ _ _).mono ?_; rintro e w1 ⟨rfl, hb1⟩; obtain ⟨hc1, hf1⟩ := bcell hb1; have hz1 := hb1.size; simp only [World.size_alloc] at hc1 hf1 hz1) | (go_at_call 124; refine (plan_any _ _ _ _ _ _).mono ?_; rintro e w2 ⟨rfl, hb2⟩; obtain ⟨hc2, hf2⟩ := bcell hb2; have hz2 := hb2.size; go_loud (have hz3 : w.heap.size < w1.heap.size := by omega); have hz4 : w.heap.size < w2.heap.size := by omega))
  go_ret2
  refine ⟨ret_ib ?_ ?_, ?_⟩
  · (simp [inW, hR, *]) <;> omega
  · (simp [inW, hR, *]) <;> omega
  · (with_reducible exact below_alloc' (below_trans' (below_trans' (below_alloc' (Below.refl _ _) _) hb1) hb2) _)

set_option maxRecDepth 100000 in
set_option maxHeartbeats 1000000 in
theorem in_ok (v s m u j : Int) (at_ : Int) (w : World) (hR : rightW v s m u j = true) (h : plan2 v s m j ≤ at_) (h' : at_ < plan3 v s m j) :
    Calls Try.prog 36 #[.agg #[.int .i64 v, .int .i64 s, .int .i64 m, .int .i64 u, .int .i64 j], .int .i64 at_] w fun e w' => e = .returned (.tuple #[.int .i64 ((inW v s m u j at_).getD 0), .bool (inW v s m u j at_).isSome]) ∧ Below w.heap.size w w' := by
  have hm := right_m hR
  go_enter Try.func36, Try.ntmps36
  go_wp2_with (first | (go_at_call 32; refine (right_any _ _ _ _ _ _).mono ?_; rintro e w1 ⟨rfl, hb1⟩; obtain ⟨hc1, hf1⟩ := bcell hb1; have hz1 := hb1.size; simp only [World.size_alloc] at hc1 hf1 hz1) | (go_at_call 124; refine (plan_any _ _ _ _ _ _).mono ?_; rintro e w2 ⟨rfl, hb2⟩; obtain ⟨hc2, hf2⟩ := bcell hb2; have hz2 := hb2.size; go_loud (have hz3 : w.heap.size < w1.heap.size := by omega); have hz4 : w.heap.size < w2.heap.size := by omega))
  go_ret2
  refine ⟨ret_ib ?_ ?_, ?_⟩
  · simp only [inW, hR, if_true]; rw [if_neg (by omega), if_neg (by omega)]; rfl
  · simp only [inW, hR, if_true]; rw [if_neg (by omega), if_neg (by omega)]; rfl
  · (with_reducible exact below_alloc' (below_trans' (below_trans' (below_alloc' (Below.refl _ _) _) hb1) hb2) _)

theorem in_any (v s m u j at_ : Int) (w : World) :
    Calls Try.prog 36 #[.agg #[.int .i64 v, .int .i64 s, .int .i64 m, .int .i64 u, .int .i64 j], .int .i64 at_] w fun e w' => e = .returned (.tuple #[.int .i64 ((inW v s m u j at_).getD 0), .bool (inW v s m u j at_).isSome]) ∧ Below w.heap.size w w' := by
  cases hR : rightW v s m u j
  · exact in_false v s m u j at_ w hR
  · by_cases h : at_ < plan2 v s m j
    · exact in_low v s m u j at_ w hR h
    · by_cases h' : plan3 v s m j ≤ at_
      · exact in_high v s m u j at_ w hR (by omega) h'
      · exact in_ok v s m u j at_ w hR (by omega) (by omega)

set_option maxRecDepth 100000 in
set_option maxHeartbeats 1000000 in
theorem slot_any (v s m u j : Int) (i : Int) (w : World) :
    Calls Try.prog 41 #[.agg #[.int .i64 v, .int .i64 s, .int .i64 m, .int .i64 u, .int .i64 j], .int .i64 i] w fun e w' => e = .returned (.int .i64 (oneW v s m u j i 0 1)) ∧ Below w.heap.size w w' := by
  go_enter Try.func41, Try.ntmps41
  go_wp2_with (go_at_call 129; refine (one_any _ _ _ _ _ _ _ _ _).mono ?_; rintro e w1 ⟨rfl, hb1⟩; obtain ⟨hc1, hf1⟩ := bcell hb1; have hz1 := hb1.size; simp only [World.size_alloc] at hc1 hf1 hz1)
  go_ret
  exact ⟨rfl, below_trans' (below_alloc' (Below.refl _ _) _) hb1⟩

set_option maxRecDepth 100000 in
set_option maxHeartbeats 1000000 in
theorem half_any (v s m u j : Int) (i : Int) (w : World) :
    Calls Try.prog 43 #[.agg #[.int .i64 v, .int .i64 s, .int .i64 m, .int .i64 u, .int .i64 j], .int .i64 i] w fun e w' => e = .returned (.int .i64 (oneW v s m u j i 2 j)) ∧ Below w.heap.size w w' := by
  go_enter Try.func43, Try.ntmps43
  go_wp2_with (go_at_call 129; refine (one_any _ _ _ _ _ _ _ _ _).mono ?_; rintro e w1 ⟨rfl, hb1⟩; obtain ⟨hc1, hf1⟩ := bcell hb1; have hz1 := hb1.size; simp only [World.size_alloc] at hc1 hf1 hz1)
  go_ret
  exact ⟨rfl, below_trans' (below_alloc' (Below.refl _ _) _) hb1⟩

set_option maxRecDepth 100000 in
set_option maxHeartbeats 1000000 in
theorem area_any (v s m u j : Int) (i : Int) (w : World) :
    Calls Try.prog 45 #[.agg #[.int .i64 v, .int .i64 s, .int .i64 m, .int .i64 u, .int .i64 j], .int .i64 i] w fun e w' => e = .returned (.int .i64 (oneW v s m u j i (plan1 j) (wrap64 (2 * pagesW v s m)))) ∧ Below w.heap.size w w' := by
  have y := idx4_1
  go_enter Try.func45, Try.ntmps45
  go_wp2_with fail
  obtain ⟨w1, hw1⟩ : ∃ w1, w1 = w.alloc (.cells #[.int .i64 v, .int .i64 s, .int .i64 m, .int .i64 u, .int .i64 j] 24) := ⟨_, rfl⟩
  have hb1 : Below w.heap.size w w1 := by rw [hw1]; exact below_alloc' (Below.refl _ _) _
  have hcc : ∀ b o, b < w.heap.size + 1 → w1.cell? ⟨b, o, none⟩ = (w.alloc (.cells #[.int .i64 v, .int .i64 s, .int .i64 m, .int .i64 u, .int .i64 j] 24)).cell? ⟨b, o, none⟩ := by intro b o _; rw [hw1]
  rw [← hw1]
  clear hw1
  have c0 := cell_regrown (show w1.cell? ⟨w.heap.size, 0, none⟩ = some (.int .i64 v) by rw [hcc _ _ (by omega)]; go_simp)
  have c1 := cell_regrown (show w1.cell? ⟨w.heap.size, 1, none⟩ = some (.int .i64 s) by rw [hcc _ _ (by omega)]; go_simp)
  have c2 := cell_regrown (show w1.cell? ⟨w.heap.size, 2, none⟩ = some (.int .i64 m) by rw [hcc _ _ (by omega)]; go_simp)
  have c3 := cell_regrown (show w1.cell? ⟨w.heap.size, 3, none⟩ = some (.int .i64 u) by rw [hcc _ _ (by omega)]; go_simp)
  have c4 := cell_regrown (show w1.cell? ⟨w.heap.size, 4, none⟩ = some (.int .i64 j) by rw [hcc _ _ (by omega)]; go_simp)
  clear hcc; refine wp_region_quiet_below (by kernel_rfl) (by kernel_rfl) ?_
  repeat (go_big_quiet_step (first | exact Calls.regrown_of (plan_any _ _ _ _ _ _) | exact Calls.regrown_of (pages_any _ _ _ _ _ _) | exact Calls.regrown_of (one_any _ _ _ _ _ _ _ _ _)))
  refine wpQuiet_nil ?_
  intro _ hw'
  obtain ⟨⟨dq, osq⟩, hw''⟩ := hw'
  subst hw''
  have hb2 := below_regrown w1 dq osq
  generalize grow (redrawn w1 dq) osq = W2 at hb2 ⊢
  clear c0 c1 c2 c3 c4
  go_wp2
  go_ret
  exact ⟨rfl, below_trans' hb1 hb2⟩

end Go.Proofs.Yteeamlidmkpohaa
