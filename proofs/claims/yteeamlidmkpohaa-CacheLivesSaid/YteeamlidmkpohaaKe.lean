/-
  Bytes, of the device and of the reference.
-/
import Derived.Test.YteeamlidmkpohaaKd
import Derived.Test.YteeamlidmkpohaaRc
set_option linter.unusedVariables false
set_option linter.unusedSimpArgs false
namespace Go.Proofs.Yteeamlidmkpohaa
open Go.RowKit Go.Sort

/-- the latest bytes of the first n sectors -/
def Dk.all (D : Dk) (n : Nat) : List Int := (List.range n).flatMap fun (k : Nat) => D.latest k
theorem Dk.all_succ (D : Dk) (n : Nat) : D.all (n + 1) = D.all n ++ D.latest n := by simp [Dk.all, List.range_succ]
theorem Dk.all_len {D : Dk} (h : D.Ok) : ∀ n, (D.all n).length = n * 512
  | 0 => by simp [Dk.all]
  | n + 1 => by rw [Dk.all_succ, List.length_append, Dk.all_len h n, (Dk.latest_sec h n).1]; omega
theorem bytesV_append (l m : List Int) : bytesV (l ++ m) = bytesV l ++ bytesV m := by simp [bytesV]

set_option maxRecDepth 100000
set_option maxHeartbeats 1000000 in
theorem dbytes_any (w : World) (p ms mo : Nat) (D : Dk) (h : DiskAt w p ms mo D) (N : Nat) (hN : D.n = N) :
    Calls Try.prog 79 #[.pointer (some ⟨p, 0, none⟩)] w fun e w' => e = .returned (.slice (some ⟨w.heap.size, 0, none⟩) (N * 512) (N * 512)) ∧ RowC w' w.heap.size 5 (bytesV (D.all N)) ∧ Below w.heap.size w w' := by
  obtain ⟨c0, c1, c2, c3, c4⟩ := h.cells
  have hn1 := h.ok.n1
  have hn2 := h.ok.n2
  have hz : (D.n == 0) = false := by simp; omega
  rw [hN] at c0 hz hn1 hn2
  have hok := h.ok
  have hpl := h.lt
  have HD := Lib.hid h
  have HN := Lib.hid hN
  clear hN
  obtain ⟨ie, hi, hze, hsize, hby⟩ := info_parts (P := Try.prog) (e := 5) (z := .int .u8 0) (size := 1) (bytes := 1) (by kernel_rfl)
  go_enter Try.func79, Try.ntmps79
  go_wp2_with
    (first
      | (refine wpList_mk rfl _ _ 47 5 ie (.int .u8 0) rfl Try.underlying47 hi hze hsize rfl .i64 .i64 0 _ rfl rfl 0 (N * 512) rfl (by simp) (by omega) (by rw [hby]; omega) (by simp only [maxLen]; omega) ?_; intro w1 hr hb hz1; have c0' := (hb.cell (p := ⟨p, 0, none⟩) hpl).trans c0))
  clear c0 c0' c1 c2 c3 c4 hz h
  have e0 : List.replicate (N * 512) (Value.int .u8 0) = bytesV (D.all 0) ++ List.replicate (N * 512 - 0 * 512) (Value.int .u8 0) := by simp [Dk.all, bytesV]
  rw [e0] at hr
  clear e0 hz1
  have HA : ∀ k, (D.all k).length = k * 512 := Dk.all_len hok
  have HL := Lib.hid HA
  clear HA
  go_loopw [3, 25] (fun s t wr => ∃ k : Nat, k ≤ N ∧ s = .slice (some ⟨w.heap.size, 0, none⟩) (k * 512) (N * 512) ∧ t = .int .i64 k ∧ RowC wr w.heap.size 5 (bytesV (D.all k) ++ List.replicate (N * 512 - k * 512) (.int .u8 0)) ∧ Below w.heap.size w wr) (fun _ t _ => N - (intOf t).toNat)
  case atStart => exact ⟨0, by omega, by simp, rfl, hr, hb⟩
  case round =>
    obtain ⟨k, hk, rfl, rfl, hrk, hbk⟩ := hrel
    clear hr hb
    by_cases hlt : k < N
    · have hD := HD.out.below hbk
      have hsec := Dk.latest_sec hok k
      have hlat := latest_any wr p ms mo D hD k
      have hn512 : (secA noughts).size = (secA (D.latest k)).size := by rw [secA_size, noughts_sec.1, secA_size, hsec.1]
      have hlk : (bytesV (D.all k) ++ List.replicate (N * 512 - k * 512) (Value.int .u8 0)).length = N * 512 := by
        rw [List.length_append, bytesV_len, HL.out, List.length_replicate]; omega
      have hgl := hrk.lt
      have hl512 : (bytesV (D.latest k)).length = 512 := by rw [bytesV_len, hsec.1]
      have H512 := Lib.hid hl512
      have HN5 := Lib.hid hn512
      have HS := Lib.hid hsec
      have HLK := Lib.hid hlk
      have HR := Lib.hid hrk
      have HB := Lib.hid hbk
      have HLT := Lib.hid hlat
      clear hl512 hn512 hsec hlk hrk hbk hlat hD
      go_wp2_with
        (first
          | (go_at_call 132; refine HLT.out.mono ?_; rintro e w3 ⟨rfl, hb3⟩)
          | (refine wpList_alloc_arr rfl 162 rfl (secA noughts) (zero162 _) ?_)
          | (refine wpList_store_new rfl 162 _ _ rfl (secA (D.latest k)) (secA noughts) 162 rfl rfl (size162' HS.out.1) HN5.out (secA_one _) ?_)
          | (refine wpList_app_room rfl _ _ 47 5 ie rfl Try.underlying47 hi hsize w.heap.size (k * 512) (N * 512) _ rfl ((HR.out.below hb3).below (below_alloc' (Below.refl _ _) _)) HLK.out _ (bytesV (D.latest k)) rfl ?_ (bytesV_one _) (by rw [H512.out]; omega) ?_
             · exact ⟨some ⟨w3.heap.size, 0, none⟩, 512, by rw [H512.out]; rfl, by rw [H512.out]; omega, by simp [maxLen], fun j u hj => ⟨_, rfl, cells_at (heap_alloc_new w3 _) j u (by simpa [secA] using hj)⟩⟩
             intro w4 hr4 hc4))
      go_roundw
      case rel =>
        have hb4 : Below w.heap.size w w4 := (below_alloc' (below_trans' HB.out hb3) _).trans (hc4.below (B := w.heap.size) (by have := (below_trans' HB.out hb3).size; simp; omega) (fun k _ e => by omega))
        refine ⟨k + 1, by omega, by rw [H512.out]; congr 1; omega, by go_num, ?_, hb4⟩
        have e1 : ∀ (X V : List Value), X.length = k * 512 → V.length = 512 → (X ++ List.replicate (N * 512 - k * 512) (Value.int .u8 0)).take (k * 512) ++ V ++ (X ++ List.replicate (N * 512 - k * 512) (Value.int .u8 0)).drop (k * 512 + V.length) = X ++ V ++ List.replicate (N * 512 - (k + 1) * 512) (Value.int .u8 0) := by
          intro X V hX hV
          rw [List.take_append_of_le_length (by omega), List.take_of_length_le (by omega)]
          rw [List.drop_append, List.drop_eq_nil_of_le (by omega)]
          simp [hX, hV]
          omega
        rw [e1 _ _ (by rw [bytesV_len, HL.out]) H512.out] at hr4
        rw [Dk.all_succ, bytesV_append]
        exact hr4
      case measure => simp [intOf]; omega
    · obtain rfl : k = N := by omega
      go_wp2_with fail
      go_ret
      refine ⟨rfl, ?_, hbk⟩
      simpa using hrk

set_option maxHeartbeats 1000000 in
theorem Ref.bytes {w0 w : World} {r : Nat} {lv : Value} {L : List RS} {Y : Nat → Prop} {D : Dk} (h : Ref w0 w r lv L Y D) (N : Nat) (hN : D.n = N) :
    Calls Try.prog 81 #[.pointer (some ⟨r, 0, none⟩)] w fun e w' => ∃ v, e = .returned v ∧ w'.ownsRow w.heap.size 5 1 v (N * 512) (bytesV (D.all N)) ∧ Below w.heap.size w w' := by
  have hn1 := h.ok.n1
  have hn2 := h.ok.n2
  have hok := h.ok
  rw [hN] at hn1 hn2
  have hlen := h.len
  obtain ⟨A, c, rfl⟩ := h.form
  have HD := Lib.hid h
  have HN := Lib.hid hN
  clear hN h
  have HA : ∀ k, (D.all k).length = k * 512 := Dk.all_len hok
  have HL := Lib.hid HA
  clear HA
  obtain ⟨ie, hi, hze, hsize, hby⟩ := info_parts (P := Try.prog) (e := 5) (z := .int .u8 0) (size := 1) (bytes := 1) (by kernel_rfl)
  go_enter Try.func81, Try.ntmps81
  go_wp2_with fail
  go_loopw [3, 4] (fun s t wr => ∃ k : Nat, k ≤ N ∧ t = .int .i64 k ∧ wr.ownsRow w.heap.size 5 1 s (k * 512) (bytesV (D.all k)) ∧ Below w.heap.size w wr) (fun _ t _ => N - (intOf t).toNat)
  case atStart => exact ⟨0, by omega, rfl, by simpa [Dk.all, bytesV] using World.ownsRow_nil w w.heap.size 5 1, Below.refl _ _⟩
  case round =>
    obtain ⟨k, hk, rfl, hok2, hbk⟩ := hrel
    have hD := HD.out.below hbk
    obtain ⟨e0, e1, e2, e3⟩ := hD.cells
    rw [HN.out] at e0
    have hgl : w.heap.size ≤ wr.heap.size := hbk.size
    by_cases hlt : k < N
    · have hle : (D.all k).length = k * 512 := HL.out k
      by_cases hex : ∃ (i : Nat) (x : RS), L[i]? = some x ∧ x.n = k
      · obtain ⟨i, x, hx, hxn⟩ := hex
        have hil : i < L.length := (List.getElem?_eq_some_iff.1 hx).1
        have hfi := hD.find_at i x hx
        rw [hxn] at hfi
        obtain ⟨g, c', y, hv, hy, d0, d1, d2, d3⟩ := hD.row hil
        cases hv
        rw [hx] at hy
        cases hy
        have hlat := hD.rel.lat i x hx
        rw [hxn] at hlat
        have hsec := (hD.rel.sec i x hx).1
        obtain ⟨Bl, cl, hvl, hcl, hcm, hBl⟩ := (hD.rows i x hx).la
        rw [hsec.1] at hvl hcl
        rw [hvl] at d1
        obtain ⟨ad, rfl⟩ : ∃ ad, Bl = some ad := by
          obtain ⟨ad, e, _⟩ := hBl 0 (.int .u8 (x.la.getD 0 0)) (by simp [bytesV, hsec.1])
          exact ⟨ad, e⟩
        have HF := Lib.hid hfi
        have HX := Lib.hid hx
        have HXN := Lib.hid hxn
        have HLA := Lib.hid hlat
        have HO := Lib.hid hok2
        have HB := Lib.hid hbk
        have HS := Lib.hid hsec
        have HDD := Lib.hid hD
        have hlx : Hid ((bytesV x.la).length = 512 * 1) := Lib.hid (by rw [bytesV_len, hsec.1])
        clear hfi hx hxn hlat hok2 hbk hsec hD hvl d0 d2 d3 hle e2 e3
        go_wp2_with
          (first
            | (go_at_call 145; refine HF.out.mono ?_; rintro e w3 ⟨rfl, rfl⟩)
            | (refine wpList_append_own _ (by rfl) _ _ 47 (by rfl) w.heap.size 5 ie (.int .u8 0) 1 1 Try.underlying47 hi hze hsize hby (by rfl) (by decide) u3 (k * 512) (bytesV (D.all k)) (by rfl) HO.out ad 512 cl (bytesV x.la) (by rfl) hlx.out (fun j u hj => by obtain ⟨ad', e, h1⟩ := hBl j u hj; cases e; exact h1) (bytesV_one _) (by simp only [maxLen]; omega) (by omega) hgl ?_
               intro v' w4 hown hgr _))
        go_roundw
        case rel =>
          have hb4 : Below w.heap.size w w4 := below_grown HB.out hgr (fun b e => (HO.out.lt b e).1)
          refine ⟨k + 1, by omega, by go_num, ?_, hb4⟩
          rw [Dk.all_succ, bytesV_append, HLA.out, show (k + 1) * 512 = k * 512 + 512 by omega]
          exact hown
        case measure => simp [intOf]; omega
      · have hno : ∀ (i : Nat) (x : RS), L[i]? = some x → x.n ≠ k := fun i x hx e => hex ⟨i, x, hx, e⟩
        have hfi := hD.find_no k hno
        obtain ⟨q1, q2⟩ := hD.rel.no k hno
        have hlat : D.latest k = noughts := by simp [Dk.latest, q1, q2]
        have HF := Lib.hid hfi
        have HLA := Lib.hid hlat
        have HO := Lib.hid hok2
        have HB := Lib.hid hbk
        have HDD := Lib.hid hD
        clear hfi hlat hok2 hbk hD q1 q2 hno hex hle e2 e3
        go_wp2_with
          (first
            | (go_at_call 145; refine HF.out.mono ?_; rintro e w3 ⟨rfl, rfl⟩)
            | (refine wpList_append_zeros _ (by rfl) _ _ 47 3 (by rfl) w.heap.size 5 ie (.int .u8 0) Try.underlying47 Try.underlying3 hi hze hsize hby (by rfl) (by rfl) u3 (k * 512) (bytesV (D.all k)) (by rfl) HO.out 512 (by rfl) (by decide) (by omega) hgl ?_
               intro v' w4 hown hgr))
        go_roundw
        case rel =>
          have hb4 : Below w.heap.size w w4 := below_grown HB.out hgr (fun b e => (HO.out.lt b e).1)
          refine ⟨k + 1, by omega, by go_num, ?_, hb4⟩
          rw [Dk.all_succ, bytesV_append, HLA.out, show (k + 1) * 512 = k * 512 + 512 by omega]
          have e9 : bytesV noughts = List.replicate 512 (.int .u8 0) := by simp [bytesV, noughts]
          rw [e9]
          exact hown
        case measure => simp [intOf]; omega
    · obtain rfl : k = N := by omega
      have HO := Lib.hid hok2
      have HB := Lib.hid hbk
      clear hok2 hbk hD
      go_wp2_with fail
      go_ret
      exact ⟨_, rfl, HO.out, HB.out⟩
end Go.Proofs.Yteeamlidmkpohaa
