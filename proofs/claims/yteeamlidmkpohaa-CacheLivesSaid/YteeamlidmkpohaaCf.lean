/-
  The cache over its device: Read, Write.
-/
import Derived.Test.YteeamlidmkpohaaCe
import Derived.Deep.Onto
set_option linter.unusedVariables false
set_option linter.unusedSimpArgs false
namespace Go.Proofs.Yteeamlidmkpohaa
open Go.RowKit Go.Sort

/-- a cache and its device, apart -/
structure CD (w0 w : World) (p ms mo c mk : Nat) (K : Ck) (Y : Nat → Prop) (D : Dk) : Prop where
  dv : Dev w0 w p ms mo D
  ca : CacheAt w0 w c mk p K Y
  a1 : ∀ b, DF p ms mo b → ¬ CF c mk b
  a2 : ∀ b, DF p ms mo b → ¬ Y b
/-- what is kept is what the device has -/
def Ck.fit (K : Ck) (D : Dk) : Prop := ∀ e ∈ K.C, e.l = D.latest e.k ∧ 0 ≤ e.k ∧ e.k < D.n
def Ck.touch (K : Ck) (e : CE) : Ck := { K with now := K.now + 1, C := keepL K.C e K.most }
def Ck.has (K : Ck) (k : Int) : Prop := ∃ e ∈ K.C, e.k = k

section
variable {w0 w w' : World} {p ms mo c mk : Nat} {K : Ck} {Y : Nat → Prop} {D : Dk}
theorem CD.below (h : CD w0 w p ms mo c mk K Y D) (hb : Below w.heap.size w w') : CD w0 w' p ms mo c mk K Y D := ⟨h.dv.below hb, h.ca.below hb, h.a1, h.a2⟩
theorem CD.chg {F : Nat → Prop} (h : CD w0 w p ms mo c mk K Y D) (hc : Chg F w w') (h0 : ∀ b, F b → w0.heap.size ≤ b) (h1 : ∀ b, DF p ms mo b → ¬ F b) (h2 : ∀ b, CF c mk b → ¬ F b) (h3 : ∀ b, Y b → ¬ F b) : CD w0 w' p ms mo c mk K Y D :=
  ⟨h.dv.chg hc h0 h1, h.ca.chg hc h2 h3, h.a1, h.a2⟩
/-- the device is turned -/
theorem CD.dstep {D' : Dk} (h : CD w0 w p ms mo c mk K Y D) (hd : Dev w0 w' p ms mo D') (hc : Chg (DF p ms mo) w w') : CD w0 w' p ms mo c mk K Y D' :=
  ⟨hd, h.ca.chg hc (fun b e e2 => h.a1 b e2 e) (fun b e e2 => h.a2 b e2 e), h.a1, h.a2⟩
/-- the cache is turned -/
theorem CD.cstep {K' : Ck} {Y' : Nat → Prop} (h : CD w0 w p ms mo c mk K Y D) (hk : CacheAt w0 w' c mk p K' Y') (hc : Chg (CF c mk) w w') (hf : Fresh w Y Y') : CD w0 w' p ms mo c mk K' Y' D :=
  ⟨h.dv.chg hc (fun b e => (h.ca.cf b e).1) h.a1, hk, h.a1, fun b e e2 => by
    rcases hf b e2 with e3 | e3
    · exact h.a2 b e e3
    · have := h.dv.lt b e; omega⟩

theorem keepL_mem {C : List CE} {e x : CE} {most : Int} (h : x ∈ keepL C e most) : x = e ∨ (x ∈ C ∧ x.k ≠ e.k) := by
  have h1 : x ∈ without C e.k ++ [e] := by
    unfold keepL at h
    split at h
    · exact h
    · exact List.mem_of_mem_tail h
  rw [List.mem_append] at h1
  rcases h1 with h1 | h1
  · have := List.mem_filter.1 h1
    exact .inr ⟨this.1, by simpa using this.2⟩
  · exact .inl (by simpa using h1)
theorem Ck.fit_touch (hf : K.fit D) {k : Int} {v : Value} {t : Int} {l : List Int} (hk : D.may k = 0) (hl : l = D.latest k) : (K.touch ⟨k, l, v, t⟩).fit D := fun e he => by
  rcases keepL_mem he with rfl | ⟨h1, _⟩
  · exact ⟨hl, (may_zero hk).2⟩
  · exact hf e h1
/-- what a read makes of a cache -/
def ReadRel (K : Ck) (D : Dk) (k : Int) (K' : Ck) : Prop :=
  (D.may k ≠ 0 ∧ K' = K) ∨ (D.may k = 0 ∧ ∃ v, (K.has k ∧ K' = { K.touch ⟨k, D.latest k, v, K.now + 1⟩ with hits := K.hits + 1 }) ∨ (¬ K.has k ∧ K' = { K.touch ⟨k, D.latest k, v, K.now + 1⟩ with misses := K.misses + 1 }))

set_option maxRecDepth 100000
set_option maxHeartbeats 2000000 in
theorem cread_down (h : CD w0 w p ms mo c mk K Y D) (k : Int) (hd : D.down = true) :
    Calls Try.prog 105 #[.pointer (some ⟨c, 0, none⟩), .int .i64 k] w fun e w' => e = .returned (.tuple #[.slice none 0 0, .int .i64 9]) ∧ w = w' := by
  obtain ⟨c0, c1, c2, c3, c4, c5⟩ := h.ca.cells
  have hk := h.ca.known
  go_enter Try.func105, Try.ntmps105
  go_wp2_with
    (first
      | (go_at_call 159; refine hk.mono ?_; rintro e w1 ⟨rfl, rfl⟩)
      | (go_at_call 59; refine (h.dv.isDown hd).mono ?_; rintro e w1 ⟨rfl, rfl⟩))
  exact bodyPost_ret (v := .tuple #[.slice none 0 0, .int .i64 9]) (by simp [results, Try.results105, go_sem]) rfl ⟨rfl, rfl⟩
set_option maxHeartbeats 4000000 in
theorem cread_hit (h : CD w0 w p ms mo c mk K Y D) (hf : K.fit D) (k : Int) (hd : D.down = false) (hk : K.has k) (hn : K.now < 9223372036854775806) (hh : K.hits < 9223372036854775806) :
    Calls Try.prog 105 #[.pointer (some ⟨c, 0, none⟩), .int .i64 k] w fun e w' => ∃ v u Y', e = .returned (.tuple #[v, .int .i64 0]) ∧ w'.ownsRow w.heap.size 5 1 v 512 (bytesV (D.latest k)) ∧ (∀ b, v.ownBlock = some b → ¬ Y' b) ∧
      CacheAt w0 w' c mk p { K.touch ⟨k, D.latest k, u, K.now + 1⟩ with hits := K.hits + 1 } Y' ∧ Chg (CF c mk) w w' ∧ Fresh w Y Y' := by
  obtain ⟨c0, c1, c2, c3, c4, c5⟩ := h.ca.cells
  have hkn := h.ca.known
  obtain ⟨e, heC, rfl⟩ := hk
  have hfe := (hf e heC).1
  rw [← hfe]
  obtain ⟨hev, hes, hey⟩ := h.ca.rows e heC
  have hmp := h.ca.mp
  have hmo : mapOf K.C e.k = some e.val := (mapOf_some h.ca.ok).2 ⟨e, heC, rfl, rfl⟩
  obtain ⟨Ae, ce, hve, he1, he2, he3⟩ := id hev
  rw [hes.1] at hve he1
  have hval : e.val = .agg #[.slice Ae 512 ce, .int .i64 e.t] := by simp [CE.val, hve]
  rw [hval] at hmo
  rw [hve] at hev hey
  have hax := below_alloc' (Below.refl _ w) (.cells #[.slice Ae 512 ce, .int .i64 e.t] 211)
  have hbx := heap_alloc_new w (.cells #[.slice Ae 512 ce, .int .i64 e.t] 211)
  have hCA := h.ca.below hax
  obtain ⟨a0, a1, a2, a3, a4, a5⟩ := hCA.cells
  have f4 := hCA.free 4
  have hh0 := h.ca.h0
  have HS := Lib.hid hes
  have H := Lib.hid h
  have HCA := Lib.hid hCA
  have HEV := Lib.hid (hev.below hax)
  have HEY := Lib.hid hey
  have HY := Lib.hid h.ca.y
  have hcl := h.ca.lt
  have hml := h.ca.mp.lt
  have g0 := cellBlk hbx 0 _ rfl
  have hgl : w.heap.size < (w.alloc (.cells #[.slice Ae 512 ce, .int .i64 e.t] 211)).heap.size := by simp
  have HAX := Lib.hid hax
  have HMP := Lib.hid hmp
  have HMO := Lib.hid hmo
  have HKN := Lib.hid hkn
  have hdn := h.dv.isDown hd
  have HDN := Lib.hid hdn
  clear hes h hCA hev hey hbx hmp hmo hkn hdn hf heC hfe hve hval he3 hax
  go_enter Try.func105, Try.ntmps105
  go_wp2_with
    (first
      | (go_at_call 159; refine HKN.out.mono ?_; rintro e1 w1 ⟨rfl, rfl⟩)
      | (go_at_call 59; refine HDN.out.mono ?_; rintro e1 w1 ⟨rfl, rfl⟩)
      | (refine wpList_lookup_ok Try.underlying119 Try.underlying3 (by rfl) _ _ (by rfl) mk e.k (by rfl) (by rfl) _ HMP.out _ (zero211 _) ?_; simp only [HMO.out, Option.getD_some, Option.isSome_some])
      | (go_at_call 160; refine (add_any _ c 4 K.hits a4 f4 hh0 (by omega)).mono ?_
         rintro e1 w2 ⟨rfl, hw2⟩
         have hCA2 := HCA.out.self 4 (.int .i64 (K.hits + 1)) K.now (K.hits + 1) K.misses (by omega) (by omega) H.out.ca.s0 rfl
         have hc2 := chg_setCell (w.alloc (.cells #[.slice Ae 512 ce, .int .i64 e.t] 211)) c 4 (.int .i64 (K.hits + 1))
         rw [← hw2] at hCA2 hc2
         clear hw2
         have g02 := (hc2.cell (p := ⟨w.heap.size, 0, none⟩) hgl (by simp only; omega)).trans g0
         have HEV2 := Lib.hid (HEV.out.chg hc2 (fun b e1 e2 => (HY.out b (HEY.out b e1)).2.2.1 e2))
         have hgl2 := Nat.lt_of_lt_of_le hgl hc2.size
         have HC2 := Lib.hid hc2
         clear hc2)
      | (go_at_call 161; refine (keep_any hCA2 e.k HEV2.out HS.out (fun b e1 => (HY.out b (HEY.out b e1)).2.2.1) (by show K.now < _; omega)).mono ?_
         rintro e1 w3 ⟨u, Y3, rfl, hCA3, hc3, hf3⟩
         have g03 := (hc3.cell (p := ⟨w.heap.size, 0, none⟩) hgl2 (by intro e1; rcases e1 with e1 | e1 <;> simp only at e1 <;> omega)).trans g02
         have HEV3 := Lib.hid (HEV2.out.chg hc3 (fun b e1 e2 => by rcases e2 with e2 | e2; exact (HY.out b (HEY.out b e1)).2.2.1 e2; exact (HY.out b (HEY.out b e1)).2.2.2 e2)))
      | (go_at_call 162; refine (clone_own _ _ _ HEV3.out HS.out.1).mono ?_
         rintro e1 w4 ⟨vn, rfl, ho4, hb4⟩))
  refine bodyPost_ret (v := .tuple #[vn, .int .i64 0]) (by simp [results, Try.results105, go_sem]) rfl ⟨vn, u, Y3, rfl, ?_, fun b e1 e2 => ?_, hCA3.below hb4, ?_, fun b e1 => ?_⟩
  · have hs2 := HC2.out.size
    have hs3 := hc3.size
    exact ho4.mono (by omega)
  · have := own_fresh ho4 b e1
    have := (hCA3.y b e2).2.1
    omega
  · exact (((Chg.of_below HAX.out).then HC2.out (fun i hi e1 => Or.inl e1)).trans hc3).trans (Chg.of_below hb4)
  · have hs2 := HC2.out.size
    rcases hf3 b e1 with e2 | e2
    · exact .inl e2
    · exact .inr (by omega)
set_option maxHeartbeats 4000000 in
theorem cread_miss (h : CD w0 w p ms mo c mk K Y D) (k : Int) (hm : D.may k = 0) (hk : ¬ K.has k) (hn : K.now < 9223372036854775806) (hh : K.misses < 9223372036854775806) :
    Calls Try.prog 105 #[.pointer (some ⟨c, 0, none⟩), .int .i64 k] w fun e w' => ∃ v u Y', e = .returned (.tuple #[v, .int .i64 0]) ∧ w'.ownsRow w.heap.size 5 1 v 512 (bytesV (D.latest k)) ∧ (∀ b, v.ownBlock = some b → ¬ Y' b) ∧
      CacheAt w0 w' c mk p { K.touch ⟨k, D.latest k, u, K.now + 1⟩ with misses := K.misses + 1 } Y' ∧ Chg (CF c mk) w w' ∧ Fresh w Y Y' := by
  obtain ⟨c0, c1, c2, c3, c4, c5⟩ := h.ca.cells
  have hd := (may_zero hm).1
  have hkn := h.ca.known
  have hmp := h.ca.mp
  have hmo : mapOf K.C k = none := mapOf_none.2 (fun e he e2 => hk ⟨e, he, e2⟩)
  have hs := Dk.latest_sec h.dv.ok k
  have hax := below_alloc' (Below.refl _ w) (.cells #[.slice none 0 0, .int .i64 0] 211)
  have hH := h.below hax
  obtain ⟨a0, a1, a2, a3, a4, a5⟩ := hH.ca.cells
  have hh0 := h.ca.s0
  have HS := Lib.hid hs
  have H := Lib.hid h
  have HY := Lib.hid h.ca.y
  have hcl := h.ca.lt
  have hml := h.ca.mp.lt
  have HAX := Lib.hid hax
  have HMP := Lib.hid hmp
  have HMO := Lib.hid hmo
  have HKN := Lib.hid hkn
  have hdn := h.dv.isDown hd
  have HDN := Lib.hid hdn
  have hrd := hH.dv.read k hm
  have HRD := Lib.hid hrd
  have HH := Lib.hid hH
  have hcl1 := hH.ca.lt
  clear hs h hH hmp hmo hkn hdn hax hrd hm hk
  go_enter Try.func105, Try.ntmps105
  go_wp2_with
    (first
      | (go_at_call 159; refine HKN.out.mono ?_; rintro e1 w1 ⟨rfl, rfl⟩)
      | (go_at_call 59; refine HDN.out.mono ?_; rintro e1 w1 ⟨rfl, rfl⟩)
      | (refine wpList_lookup_ok Try.underlying119 Try.underlying3 (by rfl) _ _ (by rfl) mk k (by rfl) (by rfl) _ HMP.out _ (zero211 _) ?_; simp only [HMO.out, Option.getD_none, Option.isSome_none])
      | (go_at_call 55; refine HRD.out.mono ?_
         rintro e1 w2 ⟨vb, rfl, hvb, hob, hb2⟩
         have hH2 := HH.out.below hb2
         have d5 := hH2.ca.cells.2.2.2.2.2
         have f5 := hH2.ca.free 5
         have hcl2 := hH2.ca.lt
         have HB2 := Lib.hid hb2
         have HVB := Lib.hid hvb
         have HOB := Lib.hid hob
         have HH2 := Lib.hid hH2
         clear hb2 hvb hob hH2)
      | (go_at_call 160; refine (add_any _ c 5 K.misses d5 f5 hh0 (by omega)).mono ?_
         rintro e1 w3 ⟨rfl, hw3⟩
         have hCA3 := HH2.out.ca.self 5 (.int .i64 (K.misses + 1)) K.now K.hits (K.misses + 1) (by omega) H.out.ca.h0 (by omega) rfl
         have hc3 := chg_setCell w2 c 5 (.int .i64 (K.misses + 1))
         rw [← hw3] at hCA3 hc3
         clear hw3
         have HVB3 := Lib.hid (HVB.out.chg hc3 (fun b e1 e2 => by have := own_fresh HOB.out b e1; simp only [World.size_alloc] at this; omega))
         have HOB3 := Lib.hid (rowOwn_chg HOB.out hc3 (fun b e1 e2 => by have := own_fresh HOB.out b e1; simp only [World.size_alloc] at this; omega))
         have HC3 := Lib.hid hc3
         clear hc3)
      | (go_at_call 161; refine (keep_any hCA3 k HVB3.out HS.out (fun b e1 e2 => by have := own_fresh HOB.out b e1; simp only [World.size_alloc] at this; omega) (by show K.now < _; omega)).mono ?_
         rintro e1 w4 ⟨u, Y4, rfl, hCA4, hc4, hf4⟩))
  refine bodyPost_ret (v := .tuple #[vb, .int .i64 0]) (by simp [results, Try.results105, go_sem]) rfl ⟨vb, u, Y4, rfl, ?_, fun b e1 e2 => ?_, hCA4, ?_, fun b e1 => ?_⟩
  · have ho4 := rowOwn_chg HOB3.out hc4 (fun b e1 e2 => by have := own_fresh HOB.out b e1; simp only [World.size_alloc] at this; rcases e2 with e2 | e2 <;> omega)
    exact ho4.mono (by simp)
  · have h1 := own_fresh HOB.out b e1
    simp only [World.size_alloc] at h1
    rcases hf4 b e2 with e3 | e3
    · have := (HY.out b e3).2.1; omega
    · have := (HOB3.out.lt b e1).2; omega
  · exact ((((Chg.of_below HAX.out).trans (Chg.of_below HB2.out)).then HC3.out (fun i hi e1 => Or.inl e1)).trans hc4)
  · have hs2 := HB2.out.size
    have hs3 := HC3.out.size
    simp only [World.size_alloc] at hs2
    rcases hf4 b e1 with e2 | e2
    · exact .inl e2
    · exact .inr (by omega)
set_option maxHeartbeats 2000000 in
theorem cread_no (h : CD w0 w p ms mo c mk K Y D) (k : Int) {r : Int} (hm : D.may k = r) (hr : r ≠ 0) (hk : ¬ K.has k) (hd : D.down = false) :
    Calls Try.prog 105 #[.pointer (some ⟨c, 0, none⟩), .int .i64 k] w fun e w' => e = .returned (.tuple #[.slice none 0 0, .int .i64 r]) ∧ Below w.heap.size w w' := by
  obtain ⟨c0, c1, c2, c3, c4, c5⟩ := h.ca.cells
  have hkn := h.ca.known
  have hmp := h.ca.mp
  have hmo : mapOf K.C k = none := mapOf_none.2 (fun e he e2 => hk ⟨e, he, e2⟩)
  have hax := below_alloc' (Below.refl _ w) (.cells #[.slice none 0 0, .int .i64 0] 211)
  have hH := h.below hax
  obtain ⟨a0, a1, a2, a3, a4, a5⟩ := hH.ca.cells
  have HAX := Lib.hid hax
  have HMP := Lib.hid hmp
  have HMO := Lib.hid hmo
  have HKN := Lib.hid hkn
  have hdn := h.dv.isDown hd
  have HDN := Lib.hid hdn
  have hrd := hH.dv.readNo k hm hr
  have HRD := Lib.hid hrd
  have hr1 : (r == 0) = false := by simpa using hr
  clear h hH hmp hmo hkn hdn hax hrd hm hk hr
  go_enter Try.func105, Try.ntmps105
  go_wp2_with
    (first
      | (go_at_call 159; refine HKN.out.mono ?_; rintro e1 w1 ⟨rfl, rfl⟩)
      | (go_at_call 59; refine HDN.out.mono ?_; rintro e1 w1 ⟨rfl, rfl⟩)
      | (refine wpList_lookup_ok Try.underlying119 Try.underlying3 (by rfl) _ _ (by rfl) mk k (by rfl) (by rfl) _ HMP.out _ (zero211 _) ?_; simp only [HMO.out, Option.getD_none, Option.isSome_none])
      | (go_at_call 55; refine HRD.out.mono ?_; rintro e1 w2 ⟨rfl, rfl⟩))
  exact bodyPost_ret (v := .tuple #[.slice none 0 0, .int .i64 r]) (by simp [results, Try.results105, go_sem]) rfl ⟨rfl, HAX.out⟩
end
end Go.Proofs.Yteeamlidmkpohaa
