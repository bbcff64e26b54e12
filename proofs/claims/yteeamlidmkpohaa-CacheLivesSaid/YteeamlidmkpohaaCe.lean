/-
  The cache: keep, walked.
-/
import Derived.Test.YteeamlidmkpohaaCd
set_option linter.unusedVariables false
set_option linter.unusedSimpArgs false
namespace Go.Proofs.Yteeamlidmkpohaa
open Go.RowKit Go.Sort

theorem zero211 (w : World) : (zeroValue 211).run Try.prog w = .ok (.agg #[.slice none 0 0, .int .i64 0]) w := by kernel_rfl
theorem look_up1 {P : Program} {t e : TypeId} (ht : P.underlying t = some (.map 3 e)) (h3 : P.underlying 3 = some (.int .i64)) {b : Nat} {f : Int → Option Value} (k : Int) (z : Value) (hz : ∀ w, (zeroValue e).run P w = .ok z w) :
    ∀ W, MapIs W b f → (Instr.lookup t (.map (some b)) (.int .i64 k) false).run P W = .ok ((f k).getD z) W := fun W hm => (run_lookup ht h3 hm k z (hz W)).2

theorem fld211_1 (A : Option Addr) (n c : Nat) (t : Int) (w : World) : (Instr.field 211 (.agg #[.slice A n c, .int .i64 t]) 1).run Try.prog w = .ok (.int .i64 t) w := by kernel_rfl
/-- the eldest is the first -/
theorem eldest_first {e x : CE} {C : List CE} {now : Int} (h : KeptOk (e :: C) now) (hx : x ∈ e :: C) (hm : ∀ y ∈ e :: C, x.t ≤ y.t) : x = e := by
  rcases List.mem_cons.1 hx with h1 | h1
  · exact h1
  · have := (List.pairwise_cons.1 h.times).1 x h1
    have := hm e (List.mem_cons_self ..)
    omega

section
variable {w0 w w' : World} {c mk p : Nat} {K : Ck} {Y : Nat → Prop}
set_option maxRecDepth 100000
set_option maxHeartbeats 4000000 in
theorem keep_any (h : CacheAt w0 w c mk p K Y) (k : Int) {v : Value} {l : List Int} (hv : BytesIs w v l) (hs : IsSec l) (hvc : ∀ b, v.ownBlock = some b → b ≠ c) (hnow : K.now < 9223372036854775806) :
    Calls Try.prog 161 #[.pointer (some ⟨c, 0, none⟩), .int .i64 k, v] w fun e w' => ∃ v' Y', e = .returned (.tuple #[]) ∧ CacheAt w0 w' c mk p { K with now := K.now + 1, C := keepL K.C ⟨k, l, v', K.now + 1⟩ K.most } Y' ∧ Chg (CF c mk) w w' ∧ Fresh w Y Y' := by
  obtain ⟨c0, c1, c2, c3, c4, c5⟩ := h.cells
  have f2 := h.free 2
  have hn0 := h.n0
  have hcl := h.lt
  have hml := h.mp.lt
  have hcm := h.ne
  have hA := h.self 2 (.int .i64 (K.now + 1)) (K.now + 1) K.hits K.misses (by omega) h.h0 h.s0 rfl
  have hvA := hv.chg (chg_setCell w c 2 (.int .i64 (K.now + 1))) (fun b e e2 => hvc b e e2)
  have hcA := chg_setCell w c 2 (.int .i64 (K.now + 1))
  have HA := Lib.hid hA
  have HVA := Lib.hid hvA
  have HCA := Lib.hid hcA
  have HS := Lib.hid hs
  have H := Lib.hid h
  clear hA hvA hcA hs h hv hvc
  go_enter Try.func161, Try.ntmps161
  go_wp2_with fail
  have hA := HA.out
  have hvA := HVA.out
  have hcA := HCA.out
  clear HA HVA HCA c0 c1 c2 c3 c4 c5 f2
  generalize w.setCell ⟨c, 2, none⟩ (.int .i64 (K.now + 1)) = wa at hA hvA hcA ⊢
  obtain ⟨a0, a1, a2, a3, a4, a5⟩ := hA.cells
  have hca := hA.lt
  have hAd := hA.chg (F := fun _ => False) ((Chg.refl _ wa).drew) (fun _ _ => id) (fun _ _ => id)
  have hvd := hvA.drew
  have HL := Lib.hid HS.out.1
  have HAD := Lib.hid hAd
  have HVD := Lib.hid hvd
  clear hAd hvd
  have d2 : wa.drew.cell? ⟨c, 2, none⟩ = some (.int .i64 (K.now + 1)) := a2
  have d3 : wa.drew.cell? ⟨c, 3, none⟩ = some (.map (some mk)) := a3
  go_region_held3 (fun w' => w'.cell? ⟨c, 3, none⟩ = some (.map (some mk)) ∧ w'.cell? ⟨c, 2, none⟩ = some (.int .i64 (K.now + 1))) (first | exact ⟨a3, a2⟩ | exact ⟨d3, d2⟩ | exact m5 | exact m7)
    (first
      | (go_at_call 162; refine (clone_any _ _ _ HVD.out HL.out).mono ?_
         rintro e w5 ⟨vn, rfl, hv5, hf5, hb5⟩
         have m5 : w5.cell? ⟨c, 3, none⟩ = some (.map (some mk)) ∧ w5.cell? ⟨c, 2, none⟩ = some (.int .i64 (K.now + 1)) := ⟨(hb5.cell (p := ⟨c, 3, none⟩) hca).trans d3, (hb5.cell (p := ⟨c, 2, none⟩) hca).trans d2⟩
         have hm5 := (HAD.out.below hb5).mp
         have HV5 := Lib.hid hv5
         obtain ⟨An, cn, rfl, hn1, hn2, hn3⟩ := hv5
         rw [HL.out] at hn1 HV5 ⊢
         obtain ⟨w7, hup, hm7, hc7⟩ := map_update w5 Try.underlying119 Try.underlying3 hm5 k (.agg #[.slice An 512 cn, .int .i64 (K.now + 1)])
         have m7 : w7.cell? ⟨c, 3, none⟩ = some (.map (some mk)) ∧ w7.cell? ⟨c, 2, none⟩ = some (.int .i64 (K.now + 1)) := ⟨(hc7.cell (p := ⟨c, 3, none⟩) (cell_lt m5.1) hcm).trans m5.1, (hc7.cell (p := ⟨c, 2, none⟩) (cell_lt m5.2) hcm).trans m5.2⟩))
  have hln : ∀ b, (Value.slice An 512 cn).ownBlock = some b → wa.drew.heap.size ≤ b ∧ b < w5.heap.size := fun b e => ⟨hf5 b (sliceBlock e), by
    obtain ⟨A9, c9, e9, _, _, h9⟩ := HV5.out
    simp only [Value.slice.injEq] at e9
    obtain ⟨rfl, _, rfl⟩ := e9
    cases An with
    | none => cases e
    | some ad =>
      cases e
      obtain ⟨ad', e8, h8⟩ := h9 0 (.int .u8 (l.getD 0 0)) (by simp [bytesV, HL.out])
      cases e8
      have := cell_lt h8
      rwa [add_block] at this⟩
  have hraw := HAD.out.putIn H.out.ok hn0 hb5 ⟨k, l, .slice An 512 cn, K.now + 1⟩ rfl HV5.out HS.out hln hm7 hc7
  have hC7 : Chg (CF c mk) w w7 := (((hcA.mono (fun _ _ e => Or.inl e)).drew).trans (Chg.of_below hb5)).then hc7 (fun _ _ e => .inr e)
  have hlnw : ∀ b, (Value.slice An 512 cn).ownBlock = some b → w.heap.size ≤ b := fun b e => Nat.le_trans hcA.size (hf5 b (sliceBlock e))
  clear m5 hm5 hup hm7 hc7 hb5 hf5 hln d2 d3 a0 a1 a2 a3 a4 a5 HAD HVD hcA hvA hA HV5 hn3
  simp only at hraw
  have HLW := Lib.hid hlnw
  have HC7 := Lib.hid hC7
  clear hlnw hC7
  have hkl : keepL K.C ⟨k, l, .slice An 512 cn, K.now + 1⟩ K.most = if ((without K.C k ++ [CE.mk k l (.slice An 512 cn) (K.now + 1)]).length : Int) ≤ K.most then without K.C k ++ [CE.mk k l (.slice An 512 cn) (K.now + 1)] else (without K.C k ++ [CE.mk k l (.slice An 512 cn) (K.now + 1)]).tail := rfl
  have HKL := Lib.hid hkl
  clear hkl
  have hlast : (CE.mk k l (.slice An 512 cn) (K.now + 1)) ∈ without K.C k ++ [CE.mk k l (.slice An 512 cn) (K.now + 1)] := by simp
  have hln : ((without K.C k ++ [CE.mk k l (.slice An 512 cn) (K.now + 1)]).length : Int) ≤ K.most + 1 := by
    have h1 := H.out.len
    have h2 : (without K.C k).length ≤ K.C.length := List.length_filter_le _ _
    simp only [List.length_append, List.length_singleton]
    omega
  have HLN := Lib.hid hln
  clear hln
  generalize without K.C k ++ [CE.mk k l (.slice An 512 cn) (K.now + 1)] = C' at hraw HKL hlast HLN
  have b1 : w7.cell? ⟨c, 1, none⟩ = some (.int .i64 K.most) := cellBlk hraw.blk 1 _ rfl
  have b3 : w7.cell? ⟨c, 3, none⟩ = some (.map (some mk)) := cellBlk hraw.blk 3 _ rfl
  have hmk7 := hraw.mp
  obtain ⟨es, clock, hbes, hoes⟩ := hmk7
  have hsz := kept_size hraw.ok hoes
  have HSZ := Lib.hid hsz
  have HBES := Lib.hid hbes
  have HOES := Lib.hid hoes
  have HRAW := Lib.hid hraw
  clear hsz hbes hoes hraw
  have e1 : w7.drew.cell? ⟨c, 1, none⟩ = some (.int .i64 K.most) := b1
  have e3 : w7.drew.cell? ⟨c, 3, none⟩ = some (.map (some mk)) := b3
  go_wp2_with fail
  have hlm := len_map (ty := 3) Try.underlying119 mk es clock C'.length HSZ.out
  have hb7' := HBES.out
  have hb7d : w7.drew.heap[mk]? = some (.map es clock) := HBES.out
  go_region_held3 (fun w' => w'.cell? ⟨c, 3, none⟩ = some (.map (some mk)) ∧ w'.cell? ⟨c, 1, none⟩ = some (.int .i64 K.most) ∧ w'.heap[mk]? = some (.map es clock)) (first | exact ⟨b3, b1, hb7'⟩ | exact ⟨e3, e1, hb7d⟩) (fail)
  clear hlm hb7' hb7d e1 e3 b1
  by_cases hle : (C'.length : Int) ≤ K.most
  · have HK2 := HKL.out
    rw [if_pos hle] at HK2
    have HKK := Lib.hid HK2
    have HLE := Lib.hid hle
    clear HK2
    go_wp2_with fail
    refine bodyPost_ret (results_none rfl _ _ _) rfl ⟨.slice An 512 cn, fun b => Y b ∨ (Value.slice An 512 cn).ownBlock = some b, rfl, ?_, HC7.out.drew, fun b e => ?_⟩
    · rw [HKK.out]
      have := HRAW.out.done HLE.out
      exact this.chg (F := fun _ => False) ((Chg.refl _ _).drew) (fun _ _ => id) (fun _ _ => id)
    · rcases e with e | e
      · exact .inl e
      · exact .inr (HLW.out b e)
  · have HK2 := HKL.out
    rw [if_neg hle] at HK2
    have HKK := Lib.hid HK2
    have HLE := Lib.hid hle
    have hle1 : decide ((C'.length : Int) ≤ K.most) = false := by simpa using hle
    have hm1 := H.out.m1
    obtain ⟨e0, C0, hC0⟩ : ∃ e0 C0, C' = e0 :: C0 := by
      cases C' with
      | nil => simp at hle; omega
      | cons a b => exact ⟨a, b, rfl⟩
    have HC0 := Lib.hid hC0
    clear HK2 hle hC0
    have hmp := HRAW.out.mp
    have hmpd : MapIs w7.drew mk (mapOf C') := hmp
    have hC7d := HC7.out.drew
    have hrawd : CacheRaw w0 w7.drew c mk p { K with now := K.now + 1 } C' (fun b => Y b ∨ (Value.slice An 512 cn).ownBlock = some b) := HRAW.out.chg (F := fun _ => False) ((Chg.refl _ _).drew) id id (fun _ _ => id)
    have b3d : w7.drew.cell? ⟨c, 3, none⟩ = some (.map (some mk)) := b3
    have HRD := Lib.hid hrawd
    have HCD := Lib.hid hC7d
    have HMD := Lib.hid hmpd
    clear hmp hmpd hC7d hrawd b3 HRAW HC7 HBES HOES HSZ
    generalize w7.drew = w8 at b3d HRD HCD HMD
    go_wp2_with
      (first
        | (refine wpList_range_map Try.underlying119 Try.underlying3 (by rfl) _ (by rfl) mk (by rfl) _ HMD.out ?_; intro ob hit; go_simp))
    have HR9 := Lib.hid (HRD.out.chg (F := fun _ => False) ((Chg.refl _ w8).alloc ob) id id (fun _ _ => id))
    have HC9 := Lib.hid (HCD.out.alloc ob)
    have hmk8 := HMD.out.lt
    have hYit : ∀ b, (Y b ∨ (Value.slice An 512 cn).ownBlock = some b) → b < w8.heap.size := fun b e => (HRD.out.y b e).2.1
    have HYI := Lib.hid hYit
    have hwi : w.heap.size ≤ w8.heap.size := HCD.out.size
    clear hYit
    have hc8 : c < w8.heap.size := cell_lt b3d
    have b3e : (w8.alloc ob).cell? ⟨c, 3, none⟩ = some (.map (some mk)) := ((below_alloc' (Below.refl _ w8) ob).cell (p := ⟨c, 3, none⟩) hc8).trans b3d
    have hitl : w8.heap.size < (w8.alloc ob).heap.size := by simp
    clear HRD HCD HMD b3d
    generalize w8.heap.size = it at hit hmk8 hc8 hitl HYI hwi ⊢
    generalize w8.alloc ob = w9 at hit HR9 HC9 b3e hitl ⊢
    have HIT := Lib.hid hit
    clear hit
    go_loopw [6] (fun s wr => ∃ (T : Int → Bool) (x : CE), x ∈ C' ∧ s = .int .i64 x.k ∧ (∀ y ∈ C', T y.k = true → x.t ≤ y.t) ∧ IterIs wr it mk (mapOf C') T ∧ Chg (fun b => b = it) w9 wr) (fun _ wr => leftOf wr it mk)
    case atStart => exact ⟨fun _ => false, _, hlast, rfl, fun y _ e => (Bool.noConfusion e), HIT.out, Chg.refl _ _⟩
    case round =>
      obtain ⟨T, x, hxC, rfl, hxm, hI, hcr⟩ := hrel
      rcases run_next (P := Try.prog) hI 0 with ⟨hall, w5, hnx, hc5⟩ | ⟨kk, vv, w5, hkv, hTk, hnx, hc5, hI5, hlf, hen⟩
      · have hc95 : Chg (fun b => b = it) w9 w5 := hcr.then hc5 (fun _ _ e => e.elim)
        have b35 := (hc95.cell (p := ⟨c, 3, none⟩) (cell_lt b3e) (by simp only; omega)).trans b3e
        have hR5 := HR9.out.chg hc95 (by omega) (by omega) (fun b e e2 => by have := HYI.out b e; omega)
        have hxe : x = e0 := by
          have hok := HR9.out.ok
          rw [HC0.out] at hok hxC hxm
          exact eldest_first hok hxC (fun y hy => hxm y hy (by
            refine hall y.k y.val ?_
            rw [HC0.out]
            exact (mapOf_some hok).2 ⟨y, hy, rfl, rfl⟩))
        have HXE := Lib.hid hxe
        have HALL := Lib.hid hall
        have HXC := Lib.hid hxC
        have HXM := Lib.hid hxm
        have HI := Lib.hid hI
        have HR5 := Lib.hid hR5
        have HC5 := Lib.hid hc95
        clear hxe hall hxC hxm hI hcr hR5 hc95
        go_wp2_with
          (first
            | (refine wpList_delete Try.underlying119 Try.underlying3 (by rfl) _ _ (by rfl) mk x.k (by rfl) (by rfl) _ HR5.out.mp ?_; intro w6 hm6 hc6))
        go_end0
        refine ⟨rfl, .slice An 512 cn, fun b => Y b ∨ (Value.slice An 512 cn).ownBlock = some b, ?_, ?_, fun b e => ?_⟩
        · have hR := HR5.out
          have hxe := HXE.out
          rw [HKK.out]
          rw [HC0.out] at hR hm6
          rw [hxe] at hm6
          have hcut := hR.cut hm6 hc6
          have hln := HLN.out
          rw [HC0.out] at hln
          have := hcut.done (by simp at hln; omega)
          rw [HC0.out]
          exact this
        · exact ((HC9.out.then HC5.out (fun i hi e => by omega)).then hc6 (fun i hi e => .inr e))
        · rcases e with e | e
          · exact .inl e
          · exact .inr (HLW.out b e)
      · obtain ⟨y, hyC, hyk, hyv⟩ := (mapOf_some HR9.out.ok).1 hkv
        subst hyk
        subst hyv
        obtain ⟨By, cy, hvy, _, _, _⟩ := (HR9.out.rows y hyC).1
        rw [(HR9.out.rows y hyC).2.1.1] at hvy
        obtain ⟨Bx, cx, hvx, _, _, _⟩ := (HR9.out.rows x hxC).1
        rw [(HR9.out.rows x hxC).2.1.1] at hvx
        have hval : y.val = .agg #[.slice By 512 cy, .int .i64 y.t] := by simp [CE.val, hvy]
        have hmx : mapOf C' x.k = some (.agg #[.slice Bx 512 cx, .int .i64 x.t]) := (mapOf_some HR9.out.ok).2 ⟨x, hxC, rfl, by simp [CE.val, hvx]⟩
        rw [hval] at hnx hen
        have hit := hI.lt
        have hc95 : Chg (fun b => b = it) w9 w5 := hcr.trans hc5
        have hs5 := hc95.size
        have b35 := (hc95.cell (p := ⟨c, 3, none⟩) (cell_lt b3e) (by simp only; omega)).trans b3e
        have hR5 := HR9.out.chg hc95 (by omega) (by omega) (fun b e e2 => by have := HYI.out b e; omega)
        have hlk := look_up1 Try.underlying119 Try.underlying3 (b := mk) (f := mapOf C') x.k (.agg #[.slice none 0 0, .int .i64 0]) zero211
        rw [hmx] at hlk
        simp only [Option.getD_some] at hlk
        have hbx := heap_alloc_new w5 (.cells #[.slice By 512 cy, .int .i64 y.t] 211)
        have hax := below_alloc' (Below.refl _ w5) (.cells #[.slice By 512 cy, .int .i64 y.t] 211)
        have b36 := (hax.cell (p := ⟨c, 3, none⟩) (cell_lt b35)).trans b35
        have hm6 := hR5.mp.chg (Chg.of_below (F := fun _ => False) hax) id
        have b7 := cellBlk hbx 1 _ rfl
        have HYC := Lib.hid hyC
        have HXC := Lib.hid hxC
        have HXM := Lib.hid hxm
        have HI5 := Lib.hid hI5
        have HLF := Lib.hid hlf
        have HC5 := Lib.hid hc95
        have HTK := Lib.hid hTk
        have HR5 := Lib.hid hR5
        clear hyC hxC hxm hI5 hlf hc95 hcr hvy hvx hval hmx hI hkv hTk hR5 hc5
        have S1 : (w5.alloc (.cells #[.slice By 512 cy, .int .i64 y.t] 211)).cell? ⟨w5.heap.size, 1, none⟩ = some (.int .i64 y.t) ∧ (w5.alloc (.cells #[.slice By 512 cy, .int .i64 y.t] 211)).cell? ⟨c, 3, none⟩ = some (.map (some mk)) ∧ MapIs (w5.alloc (.cells #[.slice By 512 cy, .int .i64 y.t] 211)) mk (mapOf C') := ⟨b7, b36, hm6⟩
        have S2 : (w5.alloc (.cells #[.slice By 512 cy, .int .i64 y.t] 211)).drew.cell? ⟨w5.heap.size, 1, none⟩ = some (.int .i64 y.t) ∧ (w5.alloc (.cells #[.slice By 512 cy, .int .i64 y.t] 211)).drew.cell? ⟨c, 3, none⟩ = some (.map (some mk)) ∧ MapIs (w5.alloc (.cells #[.slice By 512 cy, .int .i64 y.t] 211)).drew mk (mapOf C') := ⟨b7, b36, hm6⟩
        go_wp2_with fail
        have hfl := fld211_1 Bx 512 cx x.t
        have hI6 := Lib.hid (HI5.out.chg (F := fun _ => False) (((Chg.refl _ w5).alloc (.cells #[.slice By 512 cy, .int .i64 y.t] 211)).drew) id id)
        have hC6 := Lib.hid ((HC5.out.alloc (.cells #[.slice By 512 cy, .int .i64 y.t] 211)).drew)
        by_cases hlt : y.t < x.t
        · go_region_held3 (fun w' => w'.cell? ⟨w5.heap.size, 1, none⟩ = some (.int .i64 y.t) ∧ w'.cell? ⟨c, 3, none⟩ = some (.map (some mk)) ∧ MapIs w' mk (mapOf C')) (first | exact S1 | exact S2) (fail)
          go_wp2_with fail
          go_roundw
          case rel =>
            refine ⟨fun z => T z || z == y.k, y, HYC.out, rfl, fun z hz e => ?_, hI6.out.1, hC6.out⟩
            rcases Bool.or_eq_true_iff.1 e with e | e
            · have := HXM.out z hz e; omega
            · have e : z.k = y.k := by simpa using e
              rw [HR9.out.ok.uniq hz HYC.out e]
              omega
          case measure => rw [hI6.out.2]; exact HLF.out
        · go_region_held3 (fun w' => w'.cell? ⟨w5.heap.size, 1, none⟩ = some (.int .i64 y.t) ∧ w'.cell? ⟨c, 3, none⟩ = some (.map (some mk)) ∧ MapIs w' mk (mapOf C')) (first | exact S1 | exact S2) (fail)
          go_wp2_with fail
          go_roundw
          case rel =>
            refine ⟨fun z => T z || z == y.k, x, HXC.out, rfl, fun z hz e => ?_, hI6.out.1, hC6.out⟩
            rcases Bool.or_eq_true_iff.1 e with e | e
            · exact HXM.out z hz e
            · have e : z.k = y.k := by simpa using e
              rw [HR9.out.ok.uniq hz HYC.out e]
              omega
          case measure => rw [hI6.out.2]; exact HLF.out
end
end Go.Proofs.Yteeamlidmkpohaa
