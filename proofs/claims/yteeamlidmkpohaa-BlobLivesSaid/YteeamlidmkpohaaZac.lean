/-
  Bytes, of the device and of the reference.
-/
import Derived.Test.YteeamlidmkpohaaZab
import Derived.Deep.RegionHeld3
import Derived.Deep.RegionLaw
import Derived.Deep.DeepCutAuto
import Derived.Deep.AppendLies
import Derived.Laws.LoneSync
import Derived.WalkSpells
set_option linter.unusedVariables false
set_option linter.unusedSimpArgs false
namespace Go.Proofs.Yteeamlidmkpohaa
open Go.RowKit Go.Sort

/-- the latest bytes of the first n sectors -/
def Dk.all (D : Dk) (n : Nat) : List Int := (List.range n).flatMap fun (k : Nat) => D.latest k
theorem Dk.all_succ (D : Dk) (n : Nat) : D.all (n + 1) = D.all n ++ D.latest n := by simp [Dk.all, List.range_succ]
theorem Dk.all_len {D : Dk} (h : D.Ok) : ∀ n, (D.all n).length = n * 512
  | 0 => by simp [Dk.all]
  | n + 1 => by rw [Dk.all_succ, List.length_append, Dk.all_len h n, (Dk.latest_sec h n).1]; omega
theorem bytesV_append (l m : List Int) : bytesV (l ++ m) = bytesV l ++ bytesV m := by simp [bytesV]

set_option maxRecDepth 100000
set_option maxHeartbeats 1000000 in
theorem dbytes_any (w : World) (p ms mo : Nat) (D : Dk) (h : DiskAt w p ms mo D) (N : Nat) (hN : D.n = N) :
    Calls Try.prog 79 #[.pointer (some ⟨p, 0, none⟩)] w fun e w' => e = .returned (.slice (some ⟨w.heap.size, 0, none⟩) (N * 512) (N * 512)) ∧ RowC w' w.heap.size 5 (bytesV (D.all N)) ∧ Below w.heap.size w w' := by
  obtain ⟨c0, c1, c2, c3, c4⟩ := h.cells
  have hn1 := h.ok.n1
  have hn2 := h.ok.n2
  have hz : (D.n == 0) = false := by simp; omega
  rw [hN] at c0 hz hn1 hn2
  have hok := h.ok
  have hpl := h.lt
  have HD := Lib.hid h
  have HN := Lib.hid hN
  clear hN
  obtain ⟨ie, hi, hze, hsize, hby⟩ := info_parts (P := Try.prog) (e := 5) (z := .int .u8 0) (size := 1) (bytes := 1) (by kernel_rfl)
  go_enter Try.func79, Try.ntmps79
  go_wp2_with
    (first
      | (refine wpList_mk rfl _ _ 47 5 ie (.int .u8 0) rfl Try.underlying47 hi hze hsize rfl .i64 .i64 0 _ rfl rfl 0 (N * 512) rfl (by simp) (by omega) (by rw [hby]; omega) (by simp only [maxLen]; omega) ?_; intro w1 hr hb hz1; have c0' := (hb.cell (p := ⟨p, 0, none⟩) hpl).trans c0))
  clear c0 c0' c1 c2 c3 c4 hz h
  have e0 : List.replicate (N * 512) (Value.int .u8 0) = bytesV (D.all 0) ++ List.replicate (N * 512 - 0 * 512) (Value.int .u8 0) := by simp [Dk.all, bytesV]
  rw [e0] at hr
  clear e0 hz1
  have HA : ∀ k, (D.all k).length = k * 512 := Dk.all_len hok
  have HL := Lib.hid HA
  clear HA
  go_loopw [3, 25] (fun s t wr => ∃ k : Nat, k ≤ N ∧ s = .slice (some ⟨w.heap.size, 0, none⟩) (k * 512) (N * 512) ∧ t = .int .i64 k ∧ RowC wr w.heap.size 5 (bytesV (D.all k) ++ List.replicate (N * 512 - k * 512) (.int .u8 0)) ∧ Below w.heap.size w wr) (fun _ t _ => N - (intOf t).toNat)
  case atStart => exact ⟨0, by omega, by simp, rfl, hr, hb⟩
  case round =>
    obtain ⟨k, hk, rfl, rfl, hrk, hbk⟩ := hrel
    clear hr hb
    by_cases hlt : k < N
    · have hD := HD.out.below hbk
      have hsec := Dk.latest_sec hok k
      have hlat := latest_any wr p ms mo D hD k
      have hn512 : (secA noughts).size = (secA (D.latest k)).size := by rw [secA_size, noughts_sec.1, secA_size, hsec.1]
      have hlk : (bytesV (D.all k) ++ List.replicate (N * 512 - k * 512) (Value.int .u8 0)).length = N * 512 := by
        rw [List.length_append, bytesV_len, HL.out, List.length_replicate]; omega
      have hgl := hrk.lt
      have hl512 : (bytesV (D.latest k)).length = 512 := by rw [bytesV_len, hsec.1]
      have H512 := Lib.hid hl512
      have HN5 := Lib.hid hn512
      have HS := Lib.hid hsec
      have HLK := Lib.hid hlk
      have HR := Lib.hid hrk
      have HB := Lib.hid hbk
      have HLT := Lib.hid hlat
      clear hl512 hn512 hsec hlk hrk hbk hlat hD
      go_wp2_with
        (first
          | (go_at_call 132; refine HLT.out.mono ?_; rintro e w3 ⟨rfl, hb3⟩)
          | (refine wpList_alloc_arr rfl 162 rfl (secA noughts) (zero162 _) ?_)
          | (refine wpList_store_new rfl 162 _ _ rfl (secA (D.latest k)) (secA noughts) 162 rfl rfl (size162' HS.out.1) HN5.out (secA_one _) ?_)
          | (refine wpList_app_room rfl _ _ 47 5 ie rfl Try.underlying47 hi hsize w.heap.size (k * 512) (N * 512) _ rfl ((HR.out.below hb3).below (below_alloc' (Below.refl _ _) _)) HLK.out _ (bytesV (D.latest k)) rfl ?_ (bytesV_one _) (by rw [H512.out]; omega) ?_
             · exact ⟨some ⟨w3.heap.size, 0, none⟩, 512, by rw [H512.out]; rfl, by rw [H512.out]; omega, by simp [maxLen], fun j u hj => ⟨_, rfl, cells_at (heap_alloc_new w3 _) j u (by simpa [secA] using hj)⟩⟩
             intro w4 hr4 hc4))
      go_roundw
      case rel =>
        have hb4 : Below w.heap.size w w4 := (below_alloc' (below_trans' HB.out hb3) _).trans (hc4.below (B := w.heap.size) (by have := (below_trans' HB.out hb3).size; simp; omega) (fun k _ e => by omega))
        refine ⟨k + 1, by omega, by rw [H512.out]; congr 1; omega, by go_num, ?_, hb4⟩
        have e1 : ∀ (X V : List Value), X.length = k * 512 → V.length = 512 → (X ++ List.replicate (N * 512 - k * 512) (Value.int .u8 0)).take (k * 512) ++ V ++ (X ++ List.replicate (N * 512 - k * 512) (Value.int .u8 0)).drop (k * 512 + V.length) = X ++ V ++ List.replicate (N * 512 - (k + 1) * 512) (Value.int .u8 0) := by
          intro X V hX hV
          rw [List.take_append_of_le_length (by omega), List.take_of_length_le (by omega)]
          rw [List.drop_append, List.drop_eq_nil_of_le (by omega)]
          simp [hX, hV]
          omega
        rw [e1 _ _ (by rw [bytesV_len, HL.out]) H512.out] at hr4
        rw [Dk.all_succ, bytesV_append]
        exact hr4
      case measure => simp [intOf]; omega
    · obtain rfl : k = N := by omega
      go_wp2_with fail
      go_ret
      refine ⟨rfl, ?_, hbk⟩
      simpa using hrk

set_option maxHeartbeats 1000000 in
theorem Ref.bytes {w0 w : World} {r : Nat} {lv : Value} {L : List RS} {Y : Nat → Prop} {D : Dk} (h : Ref w0 w r lv L Y D) (N : Nat) (hN : D.n = N) :
    Calls Try.prog 81 #[.pointer (some ⟨r, 0, none⟩)] w fun e w' => ∃ v, e = .returned v ∧ w'.ownsRow w.heap.size 5 1 v (N * 512) (bytesV (D.all N)) ∧ Below w.heap.size w w' := by
  have hn1 := h.ok.n1
  have hn2 := h.ok.n2
  have hok := h.ok
  rw [hN] at hn1 hn2
  have hlen := h.len
  obtain ⟨A, c, rfl⟩ := h.form
  have HD := Lib.hid h
  have HN := Lib.hid hN
  clear hN h
  have HA : ∀ k, (D.all k).length = k * 512 := Dk.all_len hok
  have HL := Lib.hid HA
  clear HA
  obtain ⟨ie, hi, hze, hsize, hby⟩ := info_parts (P := Try.prog) (e := 5) (z := .int .u8 0) (size := 1) (bytes := 1) (by kernel_rfl)
  go_enter Try.func81, Try.ntmps81
  go_wp2_with fail
  go_loopw [3, 4] (fun s t wr => ∃ k : Nat, k ≤ N ∧ t = .int .i64 k ∧ wr.ownsRow w.heap.size 5 1 s (k * 512) (bytesV (D.all k)) ∧ Below w.heap.size w wr) (fun _ t _ => N - (intOf t).toNat)
  case atStart => exact ⟨0, by omega, rfl, by simpa [Dk.all, bytesV] using World.ownsRow_nil w w.heap.size 5 1, Below.refl _ _⟩
  case round =>
    obtain ⟨k, hk, rfl, hok2, hbk⟩ := hrel
    have hD := HD.out.below hbk
    obtain ⟨e0, e1, e2, e3⟩ := hD.cells
    rw [HN.out] at e0
    have hgl : w.heap.size ≤ wr.heap.size := hbk.size
    by_cases hlt : k < N
    · have hle : (D.all k).length = k * 512 := HL.out k
      by_cases hex : ∃ (i : Nat) (x : RS), L[i]? = some x ∧ x.n = k
      · obtain ⟨i, x, hx, hxn⟩ := hex
        have hil : i < L.length := (List.getElem?_eq_some_iff.1 hx).1
        have hfi := hD.find_at i x hx
        rw [hxn] at hfi
        obtain ⟨g, c', y, hv, hy, d0, d1, d2, d3⟩ := hD.row hil
        cases hv
        rw [hx] at hy
        cases hy
        have hlat := hD.rel.lat i x hx
        rw [hxn] at hlat
        have hsec := (hD.rel.sec i x hx).1
        obtain ⟨Bl, cl, hvl, hcl, hcm, hBl⟩ := (hD.rows i x hx).la
        rw [hsec.1] at hvl hcl
        rw [hvl] at d1
        obtain ⟨ad, rfl⟩ : ∃ ad, Bl = some ad := by
          obtain ⟨ad, e, _⟩ := hBl 0 (.int .u8 (x.la.getD 0 0)) (by simp [bytesV, hsec.1])
          exact ⟨ad, e⟩
        have HF := Lib.hid hfi
        have HX := Lib.hid hx
        have HXN := Lib.hid hxn
        have HLA := Lib.hid hlat
        have HO := Lib.hid hok2
        have HB := Lib.hid hbk
        have HS := Lib.hid hsec
        have HDD := Lib.hid hD
        have hlx : Hid ((bytesV x.la).length = 512 * 1) := Lib.hid (by rw [bytesV_len, hsec.1])
        clear hfi hx hxn hlat hok2 hbk hsec hD hvl d0 d2 d3 hle e2 e3
        go_wp2_with
          (first
            | (go_at_call 145; refine HF.out.mono ?_; rintro e w3 ⟨rfl, rfl⟩)
            | (refine wpList_append_own _ (by rfl) _ _ 47 (by rfl) w.heap.size 5 ie (.int .u8 0) 1 1 Try.underlying47 hi hze hsize hby (by rfl) (by decide) u3 (k * 512) (bytesV (D.all k)) (by rfl) HO.out ad 512 cl (bytesV x.la) (by rfl) hlx.out (fun j u hj => by obtain ⟨ad', e, h1⟩ := hBl j u hj; cases e; exact h1) (bytesV_one _) (by simp only [maxLen]; omega) (by omega) hgl ?_
               intro v' w4 hown hgr _))
        go_roundw
        case rel =>
          have hb4 : Below w.heap.size w w4 := below_grown HB.out hgr (fun b e => (HO.out.lt b e).1)
          refine ⟨k + 1, by omega, by go_num, ?_, hb4⟩
          rw [Dk.all_succ, bytesV_append, HLA.out, show (k + 1) * 512 = k * 512 + 512 by omega]
          exact hown
        case measure => simp [intOf]; omega
      · have hno : ∀ (i : Nat) (x : RS), L[i]? = some x → x.n ≠ k := fun i x hx e => hex ⟨i, x, hx, e⟩
        have hfi := hD.find_no k hno
        obtain ⟨q1, q2⟩ := hD.rel.no k hno
        have hlat : D.latest k = noughts := by simp [Dk.latest, q1, q2]
        have HF := Lib.hid hfi
        have HLA := Lib.hid hlat
        have HO := Lib.hid hok2
        have HB := Lib.hid hbk
        have HDD := Lib.hid hD
        clear hfi hlat hok2 hbk hD q1 q2 hno hex hle e2 e3
        go_wp2_with
          (first
            | (go_at_call 145; refine HF.out.mono ?_; rintro e w3 ⟨rfl, rfl⟩)
            | (refine wpList_append_zeros _ (by rfl) _ _ 47 3 (by rfl) w.heap.size 5 ie (.int .u8 0) Try.underlying47 Try.underlying3 hi hze hsize hby (by rfl) (by rfl) u3 (k * 512) (bytesV (D.all k)) (by rfl) HO.out 512 (by rfl) (by decide) (by omega) hgl ?_
               intro v' w4 hown hgr))
        go_roundw
        case rel =>
          have hb4 : Below w.heap.size w w4 := below_grown HB.out hgr (fun b e => (HO.out.lt b e).1)
          refine ⟨k + 1, by omega, by go_num, ?_, hb4⟩
          rw [Dk.all_succ, bytesV_append, HLA.out, show (k + 1) * 512 = k * 512 + 512 by omega]
          have e9 : bytesV noughts = List.replicate 512 (.int .u8 0) := by simp [bytesV, noughts]
          rw [e9]
          exact hown
        case measure => simp [intOf]; omega
    · obtain rfl : k = N := by omega
      have HO := Lib.hid hok2
      have HB := Lib.hid hbk
      clear hok2 hbk hD
      go_wp2_with fail
      go_ret
      exact ⟨_, rfl, HO.out, HB.out⟩
end Go.Proofs.Yteeamlidmkpohaa


/-
  The reference's disk: Write.
-/
set_option linter.unusedVariables false
set_option linter.unusedSimpArgs false
namespace Go.Proofs.Yteeamlidmkpohaa
open Go.RowKit Go.Sort

/-- new blocks alone have come to A -/
def Fresh (w : World) (A A' : Nat → Prop) : Prop := ∀ k, A' k → A k ∨ w.heap.size ≤ k
theorem Fresh.refl (w : World) (A : Nat → Prop) : Fresh w A A := fun _ h => .inl h
theorem Fresh.trans {w w' : World} {A B C : Nat → Prop} (h : Fresh w A B) (k : Fresh w' B C) (hs : w.heap.size ≤ w'.heap.size) : Fresh w A C := fun i hi => by
  rcases k i hi with h1 | h1
  · exact h i h1
  · exact .inr (by omega)

theorem grown_chg {w w' : World} {row : Option Nat} (h : w.grownBy w' row) : Chg (fun k => row = some k) w w' :=
  ⟨h.os, h.tape, h.output, h.size, fun k hk hF => h.block k hk (fun e => hF e.symm)⟩

section
variable {w0 w w' : World} {r : Nat} {lv : Value} {L : List RS} {Y : Nat → Prop} {D : Dk}

/-- a row's latest bytes are turned, and it is open -/
theorem RefR.stored {g c : Nat} (h : RefR w0 w r (.slice (some ⟨g, 0, none⟩) L.length c) L Y D) {i : Nat} {x : RS} (hx : L[i]? = some x) {v : Value} {l : List Int} (hv : BytesIs w v l) (hb : ∀ k, v.ownBlock = some k → w0.heap.size ≤ k ∧ k < w.heap.size ∧ k ≠ r ∧ k ≠ g) :
    RefR w0 ((w.setCell ⟨g, i * 4 + 1, none⟩ v).setCell ⟨g, i * 4 + 3, none⟩ (.bool true)) r (.slice (some ⟨g, 0, none⟩) L.length c) (L.set i { x with la := l, op := true, vl := v }) (fun k => Y k ∨ v.ownBlock = some k) D := by
  have hi : i < L.length := (List.getElem?_eq_some_iff.1 hx).1
  have hgr : r ≠ g := fun e => h.ne (by rw [e]; rfl)
  have hc : Chg (fun k => k = g) w ((w.setCell ⟨g, i * 4 + 1, none⟩ v).setCell ⟨g, i * 4 + 3, none⟩ (.bool true)) := (chg_setCell w g _ v).trans (chg_setCell _ g _ _)
  have h1 := (h.own.stored (i * 4 + 1) v).1
  have h2 := (h1.stored (i * 4 + 3) (.bool true)).1
  rw [flat_setA L i x l v true hx] at h2
  refine ⟨(hc.block r h.lt hgr).trans h.blk, by rw [List.length_set]; exact h2, fun j y hy => ?_, h.gr, fun k e => ?_, Nat.le_trans h.sz hc.size⟩
  · by_cases e : i = j
    · subst e
      rw [List.getElem?_set_self hi] at hy
      cases hy
      have hr := (h.rows i x hx).chg hc (fun k e => fun e2 => (h.y k e).2.2.2 (by rw [e2]; rfl))
      exact ⟨hv.chg hc (fun k e => (hb k e).2.2.2), hr.sa, fun k e => .inr e, fun k e => .inl (hr.ys k e)⟩
    · rw [List.getElem?_set_ne e] at hy
      exact ((h.rows j y hy).chg hc (fun k e => fun e2 => (h.y k e).2.2.2 (by rw [e2]; rfl))).more (fun k e => .inl e)
  · have hs := hc.size
    rcases e with e | e
    · exact ⟨(h.y k e).1, Nat.lt_of_lt_of_le (h.y k e).2.1 hs, (h.y k e).2.2⟩
    · obtain ⟨b1, b2, b3, b4⟩ := hb k e
      exact ⟨b1, Nat.lt_of_lt_of_le b2 hs, b3, fun e2 => b4 (by cases e2; rfl)⟩

/-- what is found of a number -/
def FindRes (L : List RS) (k j : Int) : Prop := (∃ (i : Nat) (x : RS), j = i ∧ L[i]? = some x ∧ x.n = k) ∨ (j = -1 ∧ ∀ (i : Nat) (x : RS), L[i]? = some x → x.n ≠ k)
theorem Ref.find (h : Ref w0 w r lv L Y D) (k : Int) : Calls Try.prog 145 #[.pointer (some ⟨r, 0, none⟩), .int .i64 k] w fun e w' => ∃ j, e = .returned (.int .i64 j) ∧ w = w' ∧ FindRes L k j := by
  by_cases hex : ∃ (i : Nat) (x : RS), L[i]? = some x ∧ x.n = k
  · obtain ⟨i, x, hx, rfl⟩ := hex
    exact (h.find_at i x hx).mono fun e w' ⟨h1, h2⟩ => ⟨_, h1, h2, .inl ⟨i, x, rfl, hx, rfl⟩⟩
  · have hno : ∀ (i : Nat) (x : RS), L[i]? = some x → x.n ≠ k := fun i x hx e => hex ⟨i, x, hx, e⟩
    exact (h.find_no k hno).mono fun e w' ⟨h1, h2⟩ => ⟨_, h1, h2, .inr ⟨rfl, hno⟩⟩

/-- a row has come to the list -/
theorem wr_new {A : Option Addr} {c : Nat} (h : Ref w0 w r (.slice A L.length c) L Y D) (k : Int) {g2 cap2 : Nat} {w2 : World}
    (hgr2 : ((w.alloc (.cells (madeCells #[.int .u8 0] 512) 5)).alloc (.cells #[.int .i64 k, .slice none 0 0, .slice (some ⟨w.heap.size, 0, none⟩) 512 512, .bool false] 179)).drew.grownBy w2 (Value.slice A L.length c).ownBlock)
    (hat2 : (Value.slice A L.length c).ownBlock = some g2 ∨ g2 = w.heap.size + 2) (hlt2 : g2 < w2.heap.size)
    (hown2 : w2.ownsRow w0.heap.size 179 4 (.slice (some ⟨g2, 0, none⟩) (L.length + 1) cap2) (L.length + 1) (flat L ++ [.int .i64 k, .slice none 0 0, .slice (some ⟨w.heap.size, 0, none⟩) 512 512, .bool false])) :
    RefR w0 (w2.setCell ⟨r, 1, none⟩ (.slice (some ⟨g2, 0, none⟩) (L.length + 1) cap2)) r (.slice (some ⟨g2, 0, none⟩) (L.length + 1) cap2) (L ++ [⟨k, [], noughts, false, .slice none 0 0, .slice (some ⟨w.heap.size, 0, none⟩) 512 512⟩]) (fun b => Y b ∨ b = w.heap.size) D ∧
      Chg (MF r (.slice A L.length c)) w (w2.setCell ⟨r, 1, none⟩ (.slice (some ⟨g2, 0, none⟩) (L.length + 1) cap2)) ∧ Fresh w (MF r (.slice A L.length c)) (MF r (.slice (some ⟨g2, 0, none⟩) (L.length + 1) cap2)) := by
  have hrl := h.lt
  have hsz := h.sz
  have hg2 : g2 ≠ r := fun e => by
    rcases hat2 with e2 | e2
    · exact h.ne (by rw [e2, e])
    · omega
  have hW2 : ((w.alloc (.cells (madeCells #[.int .u8 0] 512) 5)).alloc (.cells #[.int .i64 k, .slice none 0 0, .slice (some ⟨w.heap.size, 0, none⟩) 512 512, .bool false] 179)).drew.heap.size = w.heap.size + 2 := by simp
  have hcA : Chg (fun b => (Value.slice A L.length c).ownBlock = some b) w w2 := ((((Chg.refl (fun b => (Value.slice A L.length c).ownBlock = some b) w).alloc _).alloc _).drew).trans (grown_chg hgr2)
  have hs2 := hgr2.size
  rw [hW2] at hs2
  have hcB := chg_setCell w2 r 1 (.slice (some ⟨g2, 0, none⟩) (L.length + 1) cap2)
  have hC : Chg (MF r (.slice A L.length c)) w (w2.setCell ⟨r, 1, none⟩ (.slice (some ⟨g2, 0, none⟩) (L.length + 1) cap2)) := (hcA.mono (fun _ _ e => .inr e)).trans (hcB.mono (fun _ _ e => .inl e))
  have hYn : ∀ b, Y b → ¬ MF r (.slice A L.length c) b := fun b e e2 => by
    obtain ⟨y1, y2, y3, y4⟩ := h.y b e
    rcases e2 with e2 | e2
    · exact y3 e2
    · exact y4 e2
  have hfr : Fresh w (MF r (.slice A L.length c)) (MF r (.slice (some ⟨g2, 0, none⟩) (L.length + 1) cap2)) := fun b e => by
    rcases e with rfl | e
    · exact .inl (.inl rfl)
    · cases e
      rcases hat2 with e2 | e2
      · exact .inl (.inr e2)
      · exact .inr (by simp; omega)
  refine ⟨⟨?_, ?_, fun j y hy => ?_, h.gr, fun b e => ?_, ?_⟩, hC, hfr⟩
  · have hb := (hcA.block r h.lt (fun e => h.ne e)).trans h.blk
    exact heap_setCell w2 r 1 _ _ _ _ hb
  · have := rowOwn_chg hown2 hcB (fun b e => by cases e; exact hg2)
    rw [flat_append]
    simpa [flat, RS.cells] using this
  · by_cases e : j < L.length
    · rw [List.getElem?_append_left e] at hy
      exact ((h.rows j y hy).chg hC hYn).more (fun _ e => .inl e)
    · rw [List.getElem?_append_right (by omega)] at hy
      by_cases e2 : j = L.length
      · subst e2
        simp at hy
        subst hy
        refine ⟨⟨none, 0, rfl, Nat.le_refl _, by simp [maxLen], fun j u hu => by simp [bytesV] at hu⟩, ?_, (fun b e => by cases e), (fun b e => .inr (by cases e; rfl))⟩
        have hno : BytesIs (w.alloc (.cells (madeCells #[.int .u8 0] 512) 5)) (.slice (some ⟨w.heap.size, 0, none⟩) 512 512) noughts := BytesIs.of_own (base := 0) List.length_replicate ((rowB_made w 512).own (Nat.zero_le _) List.length_replicate (by decide))
        have hno2 := (hno.below (below_alloc' (Below.refl _ _) (.cells #[.int .i64 k, .slice none 0 0, .slice (some ⟨w.heap.size, 0, none⟩) 512 512, .bool false] 179))).drew
        refine (hno2.chg (grown_chg hgr2) (fun b e e2 => ?_)).chg hcB (fun b e e2 => ?_)
        · obtain rfl : w.heap.size = b := by simpa [Value.ownBlock] using e
          have := (h.own.lt _ e2).2
          omega
        · obtain rfl : w.heap.size = b := by simpa [Value.ownBlock] using e
          omega
      · rw [List.getElem?_eq_none (by simp; omega)] at hy
        cases hy
  · have hs3 := hcB.size
    rcases e with e | rfl
    · obtain ⟨y1, y2, y3, y4⟩ := h.y b e
      refine ⟨y1, by omega, y3, fun e2 => ?_⟩
      obtain rfl : g2 = b := by simpa [Value.ownBlock] using e2
      rcases hat2 with e3 | e3
      · exact y4 e3
      · omega
    · refine ⟨hsz, by omega, by omega, fun e2 => ?_⟩
      obtain rfl : g2 = w.heap.size := by simpa [Value.ownBlock] using e2
      rcases hat2 with e3 | e3
      · have := (h.own.lt _ e3).2; omega
      · omega
  · have := hcB.size; omega

/-- what stands where the ways of Write meet -/
def WrCut (w0 w : World) (r : Nat) (lv : Value) (Y : Nat → Prop) (D : Dk) (k : Int) (l : List Int) (v : Value) (s : Value) (wx : World) : Prop :=
  ∃ (lv1 : Value) (L1 : List RS) (Y1 : Nat → Prop) (i : Nat) (x1 : RS), s = .int .i64 i ∧ RefR w0 wx r lv1 L1 Y1 D ∧ L1[i]? = some x1 ∧ L1.length ≤ 262145 ∧ (∀ v', Rel (L1.set i { x1 with la := l, op := true, vl := v' }) (D.put k l)) ∧
    Chg (MF r lv) w wx ∧ Fresh w (MF r lv) (MF r lv1) ∧ Fresh w Y Y1 ∧ BytesIs wx v l

set_option maxRecDepth 100000
set_option maxHeartbeats 2000000 in
theorem Ref.write (h : Ref w0 w r lv L Y D) (k : Int) (hk : D.may k = 0) {v : Value} {l : List Int} (hv : BytesIs w v l) (hs : IsSec l) (hvm : ∀ b, v.ownBlock = some b → ¬ MF r lv b) :
    Calls Try.prog 138 #[.pointer (some ⟨r, 0, none⟩), .int .i64 k, v] w fun e w' => ∃ lv' L' Y', e = .returned (.int .i64 (errOf (D.write k l).down)) ∧ Ref w0 w' r lv' L' Y' (D.write k l) ∧ Chg (MF r lv) w w' ∧ Fresh w (MF r lv) (MF r lv') ∧ Fresh w Y Y' := by
  obtain ⟨hd, k0, k1⟩ := may_zero hk
  obtain ⟨c0, c1, c2, c3⟩ := h.cells
  rw [hd] at c3
  have hlen := h.len
  have hvv := hv
  obtain ⟨B, cb, rfl, hcb, hmb, hB⟩ := hv
  rw [hs.1] at hcb hvv hvm ⊢
  obtain ⟨A, c, rfl⟩ := h.form
  have HK := Lib.hid hk
  clear hk
  obtain ⟨ie, hi, hz, hsize, hby⟩ := info_parts (P := Try.prog) (e := 5) (z := .int .u8 0) (size := 1) (bytes := 1) (by kernel_rfl)
  have HV := Lib.hid hvv
  have HVM := Lib.hid hvm
  clear hvv hvm
  have fin : ∀ (i : Nat) (x : RS), L[i]? = some x → x.n = k → WrCut w0 w r (.slice A L.length c) Y D k l (.slice B 512 cb) (.int .i64 i) w := fun i x hx hn =>
    ⟨_, L, Y, i, x, rfl, h.toRefR, hx, by omega, fun v' => by rw [← hn]; exact h.rel.put hx hs v', Chg.refl _ _, Fresh.refl _ _, Fresh.refl _ _, HV.out⟩
  have HFIN := Lib.hid fin
  clear fin
  have hfind := h.find k
  have hown := h.own
  have hrl := h.lt
  have hsz := h.sz
  have hl2 : L.length ≤ 262145 := by omega
  obtain ⟨je, ji, jz, jsize, jby⟩ := info_parts (P := Try.prog) (e := 179) (z := .agg #[.int .i64 0, .slice none 0 0, .slice none 0 0, .bool false]) (size := 4) (bytes := 64) (by kernel_rfl)
  have hmk := mk512
  have hal : Below w.heap.size w ((w.alloc (.cells (madeCells #[.int .u8 0] 512) 5)).alloc (.cells #[.int .i64 k, .slice none 0 0, .slice (some ⟨w.heap.size, 0, none⟩) 512 512, .bool false] 179)) := below_alloc' (below_alloc' (Below.refl _ w) _) _
  have hO := Lib.hid (rowOwn_below hown hal)
  have hNW := Lib.hid (World.news_of_block (heap_alloc2_new w (.cells (madeCells #[.int .u8 0] 512) 5) (.cells #[.int .i64 k, .slice none 0 0, .slice (some ⟨w.heap.size, 0, none⟩) 512 512, .bool false] 179)))
  have a0 : ∀ o, (w.alloc o).cell? ⟨r, 1, none⟩ = some (.slice A L.length c) := fun o => ((below_alloc' (Below.refl _ w) o).cell (p := ⟨r, 1, none⟩) h.lt).trans c1
  have a00 : ∀ o o', ((w.alloc o).alloc o').cell? ⟨r, 1, none⟩ = some (.slice A L.length c) := fun o o' => ((below_alloc' (below_alloc' (Below.refl _ w) o) o').cell (p := ⟨r, 1, none⟩) h.lt).trans c1
  have a1 := Lib.hid ((hal.cell (p := ⟨r, 1, none⟩) h.lt).trans c1)
  have f1 := Lib.hid ((hal.frozen (p := ⟨r, 1, none⟩) h.lt).trans (h.free 1))
  have hNE := Lib.hid h.ne
  have hone : ∀ u ∈ [Value.int .i64 k, .slice none 0 0, .slice (some ⟨w.heap.size, 0, none⟩) 512 512, .bool false], u.oneCell' = true := by
    intro u hu
    simp only [List.mem_cons, List.not_mem_nil, or_false] at hu
    rcases hu with rfl | rfl | rfl | rfl <;> rfl
  have hONE := Lib.hid hone
  have HAL := Lib.hid hal
  clear hown hone hal
  go_enter Try.func138, Try.ntmps138
  go_upto_if 29 with (first | (go_at_call 145; refine hfind.mono ?_; rintro e w1 ⟨j, rfl, rfl, hj⟩; have HJ := Lib.hid hj; clear hj hfind))
  go_cut [7] (fun s7 wx => WrCut w0 w r (.slice A L.length c) Y D k l (.slice B 512 cb) s7 wx)
  case first =>
    rcases HJ.out with ⟨i, x, rfl, hx, hn⟩ | ⟨rfl, hno⟩
    · have HX := Lib.hid hx
      have HN := Lib.hid hn
      clear hx hn HJ
      go_wp2_with fail
      go_meet
      exact HFIN.out i x HX.out HN.out
    · have HN := Lib.hid hno
      clear hno HJ HFIN
      go_wp2_with fail
      go_region_law
        (first
          | (refine step_append_lies _ (by rfl) _ _ 172 (by rfl) w0.heap.size 179 je (.agg #[.int .i64 0, .slice none 0 0, .slice none 0 0, .bool false]) 4 64 Try.underlying172 ji jz jsize jby (by rfl) (by decide) (.slice A L.length c) L.length (flat L) (by rfl) hO.out ⟨w.heap.size + 1, 0, none⟩ 1 1 [.int .i64 k, .slice none 0 0, .slice (some ⟨w.heap.size, 0, none⟩) 512 512, .bool false] (by rfl) (by rfl) hNW.out hONE.out (by decide) (by simp only [maxLen]; omega) (by omega) (by simp; omega) (w.heap.size + 2) (by simp) ?_
             intro g2 cap2 w2 hown2 hgr2 hat2 hlt2
             have d1 : w2.cell? ⟨r, 1, none⟩ = some (.slice A L.length c) := (hgr2.cell_far ⟨r, 1, none⟩ (by simp; omega) (fun e => hNE.out e.symm)).trans a1.out
             have e1 : w2.frozen? ⟨r, 1, none⟩ = false := (hgr2.frozen_far ⟨r, 1, none⟩ (by simp; omega) (fun e => hNE.out e.symm)).trans f1.out))
      all_goals
        have HR := Lib.hid (wr_new h k hgr2 hat2 hlt2 hown2)
        clear hown2 hgr2 hat2 hlt2 d1 e1 a0 a00
        have c1' : (w2.setCell ⟨r, 1, none⟩ (.slice (some ⟨g2, 0, none⟩) (L.length + 1) cap2)).cell? ⟨r, 1, none⟩ = some (.slice (some ⟨g2, 0, none⟩) (L.length + 1) cap2) := HR.out.1.cells.2.1
        generalize w2.setCell ⟨r, 1, none⟩ (.slice (some ⟨g2, 0, none⟩) (L.length + 1) cap2) = w3 at HR c1' ⊢
        go_wp2_with fail
        go_meet
        obtain ⟨hRR, hC, hFm⟩ := HR.out
        refine ⟨_, _, _, L.length, ⟨k, [], noughts, false, .slice none 0 0, .slice (some ⟨w.heap.size, 0, none⟩) 512 512⟩, (by go_num), hRR, (by simp), (by simp; omega), fun v' => ?_, hC, hFm, fun b e => e.imp id (fun e => by omega), HV.out.chg hC HVM.out⟩
        rw [List.set_append_right _ _ (Nat.le_refl _)]
        simpa using h.rel.add k0 k1 HN.out hs v' _
  case rest =>
    obtain ⟨lv1, L1, Y1, i, x1, rfl, hR, hx1, hl1, hrel, hC, hF1, hF2, hvw⟩ := hcut
    have hi1 : i < L1.length := (List.getElem?_eq_some_iff.1 hx1).1
    obtain ⟨e0, e1, e2, e3⟩ := hR.cells
    obtain ⟨g, c', y, rfl, hy, d0, d1, d2, d3⟩ := hR.row hi1
    rw [hx1] at hy
    cases hy
    obtain ⟨B', cb', e, hcb', hmb', hB'⟩ := hvw
    simp only [Value.slice.injEq] at e
    obtain ⟨rfl, e9, rfl⟩ := e
    clear e9
    obtain ⟨ad, rfl⟩ : ∃ ad, B = some ad := by
      obtain ⟨ad, e, _⟩ := hB' 0 (.int .u8 (l.getD 0 0)) (by simp [bytesV, hs.1])
      exact ⟨ad, e⟩
    have hgr : g ≠ r := fun e => hR.ne (by rw [← e]; rfl)
    have hgl : g < wc.heap.size := (hR.own.lt g rfl).2
    have hrl1 := hR.lt
    have hem := run_empty47
    have hal1 : Below wc.heap.size wc (wc.alloc (.cells #[] 5)) := below_alloc' (Below.refl _ wc) _
    have b0 : ∀ o, (wc.alloc o).cell? ⟨r, 1, none⟩ = some (.slice (some ⟨g, 0, none⟩) L1.length c') := fun o => ((below_alloc' (Below.refl _ wc) o).cell (p := ⟨r, 1, none⟩) hrl1).trans e1
    have hO1 := Lib.hid (ownsRow_empty (size := 1) (Nat.le_refl wc.heap.size) (heap_alloc_new wc (.cells #[] 5)))
    have hNW1 : Hid (∀ j u, (bytesV l)[j]? = some u → (wc.alloc (.cells #[] 5)).cell? (ad.add j) = some u) := Lib.hid (fun j u hj => by
      obtain ⟨ad', e, h1⟩ := hB' j u hj
      cases e
      exact (hal1.cell (cell_lt h1)).trans h1)
    have hlen5 : Hid ((bytesV l).length = 512 * 1) := Lib.hid (by rw [bytesV_len, hs.1])
    have HR1 := Lib.hid hR
    have HRel := Lib.hid hrel
    have HX1 := Lib.hid hx1
    have HF1 := Lib.hid hF1
    have HF2 := Lib.hid hF2
    have HD1 := Lib.hid d1
    have HD3 := Lib.hid d3
    clear hR hrel hx1 hF1 hF2 d0 d1 d2 d3 HJ hO hNW a0 a00 a1 f1 HAL hONE HFIN hNE
    go_wp2_with fail
    go_region_held3 (fun w' => w'.cell? ⟨r, 1, none⟩ = some (.slice (some ⟨g, 0, none⟩) L1.length c')) (first | exact e1 | exact b0 _ | exact u1 | exact u2)
      (first
        | (refine step_append_lies _ (by rfl) _ _ 47 (by rfl) wc.heap.size 5 ie (.int .u8 0) 1 1 Try.underlying47 hi hz hsize hby (by rfl) (by decide) (.slice (some ⟨wc.heap.size, 0, none⟩) 0 0) 0 [] (by rfl) hO1.out ad 512 cb (bytesV l) (by rfl) hlen5.out hNW1.out (bytesV_one l) (by decide) (by decide) (by decide) (by simp) (wc.heap.size + 1) (by simp) ?_
           intro g3 cap3 w3 hown3 hgr3 hat3 hlt3
           have u1 : w3.cell? ⟨r, 1, none⟩ = some (.slice (some ⟨g, 0, none⟩) L1.length c') := (hgr3.cell_far ⟨r, 1, none⟩ (by simp; omega) (fun e => by simp [Value.ownBlock] at e; omega)).trans (b0 _)
           have u3 : w3.cell? ⟨g, i * 4 + 1, none⟩ = some x1.vl := (hgr3.cell_far ⟨g, i * 4 + 1, none⟩ (by simp; omega) (fun e => by simp [Value.ownBlock] at e; omega)).trans ((hal1.cell (p := ⟨g, i * 4 + 1, none⟩) hgl).trans HD1.out)
           have u4 : w3.frozen? ⟨g, i * 4 + 1, none⟩ = false := (hgr3.frozen_far ⟨g, i * 4 + 1, none⟩ (by simp; omega) (fun e => by simp [Value.ownBlock] at e; omega)).trans ((hal1.frozen (p := ⟨g, i * 4 + 1, none⟩) hgl).trans (HR1.out.own.frozenAt _))
           have u2 : (w3.setCell ⟨g, i * 4 + 1, none⟩ (.slice (some ⟨g3, 0, none⟩) (0 + 512) cap3)).cell? ⟨r, 1, none⟩ = some (.slice (some ⟨g, 0, none⟩) L1.length c') := ((chg_setCell w3 g (i * 4 + 1) _).cell (p := ⟨r, 1, none⟩) (cell_lt u1) (fun e => hgr e.symm)).trans u1))
    have hb3 : Below wc.heap.size wc w3 := below_grown (hal1.drew) hgr3 (by intro k e; simp [Value.ownBlock] at e; omega)
    have hg3 : wc.heap.size ≤ g3 := by
      rcases hat3 with e | e
      · simp [Value.ownBlock] at e; omega
      · omega
    have hv3 : BytesIs w3 (.slice (some ⟨g3, 0, none⟩) (0 + 512) cap3) l := BytesIs.of_own hs.1 (by simpa using hown3)
    have hR3 := HR1.out.below hb3
    have hszc := HR1.out.sz
    have hR4 := hR3.stored HX1.out hv3 (fun b e => by
      obtain rfl : g3 = b := by simpa [Value.ownBlock] using e
      exact ⟨by omega, hlt3, by omega, by omega⟩)
    have hRef : Ref w0 ((w3.setCell ⟨g, i * 4 + 1, none⟩ (.slice (some ⟨g3, 0, none⟩) (0 + 512) cap3)).setCell ⟨g, i * 4 + 3, none⟩ (.bool true)) r (.slice (some ⟨g, 0, none⟩) L1.length c') (L1.set i { x1 with la := l, op := true, vl := .slice (some ⟨g3, 0, none⟩) (0 + 512) cap3 }) (fun b => Y1 b ∨ (Value.slice (some ⟨g3, 0, none⟩) (0 + 512) cap3).ownBlock = some b) (D.put k l) :=
      ⟨⟨hR4.blk, hR4.own, hR4.rows, hR4.gr, hR4.y, hR4.sz⟩, Dk.put_ok h.ok k l hs, HRel.out _⟩
    have hC5 : Chg (MF r (.slice A L.length c)) w ((w3.setCell ⟨g, i * 4 + 1, none⟩ (.slice (some ⟨g3, 0, none⟩) (0 + 512) cap3)).setCell ⟨g, i * 4 + 3, none⟩ (.bool true)) :=
      (hC.trans (Chg.of_below hb3)).then ((chg_setCell w3 g _ _).trans (chg_setCell _ g _ _)) (fun b hb e => by
        rcases HF1.out b (.inr (by rw [e]; rfl)) with e2 | e2
        · exact e2
        · omega)
    have u5 : (w3.setCell ⟨g, i * 4 + 1, none⟩ (.slice (some ⟨g3, 0, none⟩) (0 + 512) cap3)).cell? ⟨g, i * 4 + 3, none⟩ = some (.bool x1.op) := by
      rw [World.cell?_setCell_other _ _ _ _ (by simp)]
      exact (hb3.cell (p := ⟨g, i * 4 + 3, none⟩) hgl).trans HD3.out
    have u6 : (w3.setCell ⟨g, i * 4 + 1, none⟩ (.slice (some ⟨g3, 0, none⟩) (0 + 512) cap3)).frozen? ⟨g, i * 4 + 3, none⟩ = false := by
      rw [World.frozen?_setCell]
      exact hR3.own.frozenAt _
    have HRef := Lib.hid hRef
    have HC5 := Lib.hid hC5
    clear hRef hC5 hR4 hR3 hv3 hb3 hown3 hgr3 hat3 u1 u3 u4
    simp only [Nat.zero_add] at u2 u5 u6
    go_wp2_with
      (first
        | (go_at_call 176; refine (HRef.out.crashes hd).mono ?_; rintro e w9 ⟨rfl, hR9, hc9⟩))
    all_goals
      go_ret
    · have hcr : (D.write k l).down = true := by assumption
      refine ⟨_, _, _, by rw [hcr]; rfl, hR9, HC5.out.then hc9 (fun b _ e => .inl e), HF1.out, fun b e => ?_⟩
      rcases e with e | e
      · exact HF2.out b e
      · obtain rfl : g3 = b := by simpa [Value.ownBlock] using e
        have := hC.size
        exact .inr (by omega)
    · have hcr : (D.write k l).down = false := by assumption
      refine ⟨_, _, _, by rw [hcr]; rfl, hR9, HC5.out.then hc9 (fun b _ e => .inl e), HF1.out, fun b e => ?_⟩
      rcases e with e | e
      · exact HF2.out b e
      · obtain rfl : g3 = b := by simpa [Value.ownBlock] using e
        have := hC.size
        exact .inr (by omega)
set_option maxHeartbeats 1000000 in
theorem Ref.writeNo (h : Ref w0 w r lv L Y D) (k : Int) {c : Int} (hk : D.may k = c) (hc : c ≠ 0) (v : Value) :
    Calls Try.prog 138 #[.pointer (some ⟨r, 0, none⟩), .int .i64 k, v] w fun e w' => e = .returned (.int .i64 c) ∧ w = w' := by
  obtain ⟨c0, c1, c2, c3⟩ := h.cells
  cases hd : D.down with
  | true =>
    obtain rfl : c = 9 := by rw [← hk]; simp [Dk.may, hd]
    rw [hd] at c3
    clear hk
    go_enter Try.func138, Try.ntmps138
    go_wp2
    go_ret
    exact ⟨rfl, rfl⟩
  | false =>
    rw [hd] at c3
    by_cases h1 : k < 0
    · obtain rfl : c = 6 := by rw [← hk]; simp [Dk.may, hd, h1]
      clear hk
      go_enter Try.func138, Try.ntmps138
      go_wp2
      go_ret
      exact ⟨rfl, rfl⟩
    · by_cases h2 : D.n ≤ k
      · obtain rfl : c = 6 := by rw [← hk]; simp [Dk.may, hd, h2]
        clear hk
        go_enter Try.func138, Try.ntmps138
        go_wp2
        go_ret
        exact ⟨rfl, rfl⟩
      · exact absurd (by rw [← hk, Dk.may, hd, if_neg (by simp), if_neg (by omega), if_neg (by omega)]) hc
set_option maxHeartbeats 1000000 in
theorem Ref.writeArg (h : Ref w0 w r lv L Y D) (k : Int) (hk : D.may k = 0) (A : Option Addr) (n c : Nat) (hn : n ≠ 512) (hm : n ≤ maxLen) :
    Calls Try.prog 138 #[.pointer (some ⟨r, 0, none⟩), .int .i64 k, .slice A n c] w fun e w' => e = .returned (.int .i64 2) ∧ w = w' := by
  obtain ⟨hd, k0, k1⟩ := may_zero hk
  obtain ⟨c0, c1, c2, c3⟩ := h.cells
  rw [hd] at c3
  have h1 : ((n : Int) == 512) = false := by simp; omega
  have h2 : ((n : Int) != 512) = true := by simp; omega
  clear hn hk
  go_enter Try.func138, Try.ntmps138
  go_wp2
  go_ret
  exact ⟨rfl, rfl⟩
end
end Go.Proofs.Yteeamlidmkpohaa


/-
  The reference's disk: Sync, Wake.
-/
set_option linter.unusedVariables false
set_option linter.unusedSimpArgs false
namespace Go.Proofs.Yteeamlidmkpohaa
open Go.RowKit Go.Sort

section
variable {w0 w w' : World} {r : Nat} {lv : Value} {L : List RS} {Y : Nat → Prop} {D : Dk}

/-- two cells of a row are turned -/
theorem RefR.turn {A : Option Addr} {g c : Nat} (h : RefR w0 w r (.slice (some ⟨g, 0, none⟩) L.length c) L Y D) {i : Nat} {x y : RS} (hx : L[i]? = some x) (j j' : Nat) (v v' : Value) (hf : ((flat L).set j v).set j' v' = flat (L.set i y)) (hy : RowAt w Y y) :
    RefR w0 ((w.setCell ⟨g, j, none⟩ v).setCell ⟨g, j', none⟩ v') r (.slice (some ⟨g, 0, none⟩) L.length c) (L.set i y) Y D ∧ Chg (fun k => k = g) w ((w.setCell ⟨g, j, none⟩ v).setCell ⟨g, j', none⟩ v') := by
  have hi : i < L.length := (List.getElem?_eq_some_iff.1 hx).1
  have hgr : r ≠ g := fun e => h.ne (by rw [e]; rfl)
  have hc : Chg (fun k => k = g) w ((w.setCell ⟨g, j, none⟩ v).setCell ⟨g, j', none⟩ v') := (chg_setCell w g _ v).trans (chg_setCell _ g _ _)
  have h1 := (h.own.stored j v).1
  have h2 := (h1.stored j' v').1
  rw [hf] at h2
  have hYg : ∀ k, Y k → ¬ k = g := fun k e e2 => (h.y k e).2.2.2 (by rw [e2]; rfl)
  refine ⟨⟨(hc.block r h.lt hgr).trans h.blk, by rw [List.length_set]; exact h2, fun m z hz => ?_, h.gr, fun k e => ?_, Nat.le_trans h.sz hc.size⟩, hc⟩
  · by_cases e : i = m
    · subst e
      rw [List.getElem?_set_self hi] at hz
      cases hz
      exact hy.chg hc hYg
    · rw [List.getElem?_set_ne e] at hz
      exact (h.rows m z hz).chg hc hYg
  · have hs := hc.size
    exact ⟨(h.y k e).1, Nat.lt_of_lt_of_le (h.y k e).2.1 hs, (h.y k e).2.2⟩

set_option maxRecDepth 100000
set_option maxHeartbeats 400000 in
theorem Ref.syncNo (h : Ref w0 w r lv L Y D) (hd : D.down = true) :
    Calls Try.prog 139 #[.pointer (some ⟨r, 0, none⟩)] w fun e w' => e = .returned (.int .i64 9) ∧ w = w' := by
  obtain ⟨c0, c1, c2, c3⟩ := h.cells
  rw [hd] at c3
  go_enter Try.func139, Try.ntmps139
  go_wp2_with fail
  go_ret
  exact ⟨rfl, rfl⟩
set_option maxHeartbeats 2000000 in
theorem Ref.sync (h : Ref w0 w r lv L Y D) (hd : D.down = false) :
    Calls Try.prog 139 #[.pointer (some ⟨r, 0, none⟩)] w fun e w' => ∃ L', e = .returned (.int .i64 (errOf D.sync.down)) ∧ Ref w0 w' r lv L' Y D.sync ∧ Chg (MF r lv) w w' := by
  obtain ⟨c0, c1, c2, c3⟩ := h.cells
  rw [hd] at c3
  have hlen := h.len
  cases hcr : D.crash.down with
  | true =>
    have hsy : D.sync = D.crash := by simp [Dk.sync, hcr]
    rw [hsy, hcr]
    have hcall := h.crashes hd
    rw [hcr] at hcall
    clear hsy
    go_enter Try.func139, Try.ntmps139
    go_wp2_with (first | (go_at_call 176; refine hcall.mono ?_; rintro e w1 ⟨rfl, hR, hc⟩))
    go_ret
    exact ⟨_, rfl, hR, hc.mono (fun _ _ e => .inl e)⟩
  | false =>
    have hsy : D.sync = D.crash.flush := by simp [Dk.sync, hcr]
    rw [hsy]
    have hcall := h.crashes hd
    rw [hcr] at hcall
    clear hsy
    have hfd : D.crash.flush.down = false := hcr
    rw [hfd]
    obtain ⟨A, c, rfl⟩ := h.form
    clear hcr hfd c0 c2
    go_enter Try.func139, Try.ntmps139
    go_wp2_with (first | (go_at_call 176; refine hcall.mono ?_; rintro e w1 ⟨rfl, hR, hc⟩; have HH := Lib.hid hcall; clear hcall))
    go_loopw [3] (fun t wr => ∃ k : Nat, k ≤ L.length ∧ t = .int .i64 k ∧ RefR w0 wr r (.slice A L.length c) (upd RS.flush k L) Y D.crash ∧ Chg (MF r (.slice A L.length c)) w wr) (fun t _ => L.length - (intOf t).toNat)
    case atStart => exact ⟨0, by omega, rfl, by rw [upd_zero]; exact hR.toRefR, hc.mono (fun _ _ e => .inl e)⟩
    case round =>
      obtain ⟨k, hk, rfl, hRr, hcr⟩ := hrel
      obtain ⟨e0, e1, e2, e3⟩ := hRr.cells
      by_cases hlt : k < L.length
      · obtain ⟨g, c', y, hv, hy, d0, d1, d2, d3⟩ := hRr.row (i := k) (by rw [upd_len]; exact hlt)
        rw [upd_len] at hv
        cases hv
        have hx : L[k]? = some L[k] := List.getElem?_eq_getElem hlt
        have hyx : y = L[k] := by
          have := upd_at (f := RS.flush) hx
          rw [this] at hy
          cases hy
          rfl
        have hR2 : RefR w0 wr r (.slice (some ⟨g, 0, none⟩) (upd RS.flush k L).length c) (upd RS.flush k L) Y D.crash := by rw [upd_len]; exact hRr
        have hrow := hRr.rows k y hy
        have hturn := hR2.turn (A := none) hy (k * 4 + 2) (k * 4 + 3) y.vl (.bool false) (flat_setB _ k y y.la y.vl false hy) ⟨hrow.la, hrow.la, hrow.yl, hrow.yl⟩
        rw [upd_len] at hturn
        have hus : (upd RS.flush k L).set k { y with sa := y.la, op := false, vs := y.vl } = upd RS.flush (k + 1) L := by rw [hyx]; exact upd_succ (f := RS.flush) hx
        rw [hus] at hturn
        obtain ⟨B, cb, hvl, _, _, _⟩ := hrow.la
        generalize y.la.length = m at hvl
        rw [hvl] at hturn d1
        have f2 : wr.frozen? ⟨g, k * 4 + 2, none⟩ = false := hR2.own.frozenAt _
        have f3 : wr.frozen? ⟨g, k * 4 + 3, none⟩ = false := hR2.own.frozenAt _
        have hgr : g ≠ r := fun e => hRr.ne (by rw [← e]; rfl)
        have HT := Lib.hid hturn
        have HC := Lib.hid hcr
        clear hturn hus hyx hx hrow hR2 hy hRr hcr hR hvl
        have t1 : (wr.setCell ⟨g, k * 4 + 2, none⟩ (.slice B m cb)).cell? ⟨r, 1, none⟩ = some (.slice (some ⟨g, 0, none⟩) L.length c) := (World.cell?_setCell_other _ _ _ _ (by simp [hgr])).trans e1
        have t2 : (wr.setCell ⟨g, k * 4 + 2, none⟩ (.slice B m cb)).cell? ⟨g, k * 4 + 1, none⟩ = some (.slice B m cb) := (World.cell?_setCell_other _ _ _ _ (by simp)).trans d1
        have t3 : (wr.setCell ⟨g, k * 4 + 2, none⟩ (.slice B m cb)).cell? ⟨g, k * 4 + 3, none⟩ = some (.bool y.op) := (World.cell?_setCell_other _ _ _ _ (by simp)).trans d3
        go_wp2_with fail
        go_region_held3 (fun w' => w'.cell? ⟨r, 1, none⟩ = some (.slice (some ⟨g, 0, none⟩) L.length c) ∧ w'.cell? ⟨g, k * 4 + 1, none⟩ = some (.slice B m cb)) (first | exact ⟨e1, d1⟩ | exact ⟨t1, t2⟩) (fail)
        go_wp2_with fail
        go_roundw
        case rel => exact ⟨k + 1, by omega, by go_num, HT.out.1.drew, (HC.out.trans (HT.out.2.mono (fun b _ e => Or.inr (by rw [e]; rfl)))).drew⟩
        case measure => simp [intOf]; omega
      · obtain rfl : k = L.length := by omega
        rw [upd_all] at hRr
        clear hlt
        go_wp2_with fail
        go_ret
        refine ⟨_, rfl, ⟨⟨hRr.blk, ?_, hRr.rows, hRr.gr, hRr.y, hRr.sz⟩, Dk.flush_ok (Dk.crash_ok h.ok), hR.rel.flush⟩, hcr⟩
        exact hRr.own
end
end Go.Proofs.Yteeamlidmkpohaa


/-
  The reference's disk: Wake.
-/
set_option linter.unusedVariables false
set_option linter.unusedSimpArgs false
namespace Go.Proofs.Yteeamlidmkpohaa
open Go.RowKit Go.Sort

theorem set_same {α : Type} {l : List α} {i : Nat} {x : α} (h : l[i]? = some x) : l.set i x = l := by
  apply List.ext_getElem?
  intro j
  rw [List.getElem?_set]
  by_cases e : i = j
  · subst e
    rw [if_pos rfl, if_pos (List.getElem?_eq_some_iff.1 h).1, h]
  · rw [if_neg e]
theorem flat_setC : ∀ (L : List RS) (i : Nat) (x : RS) (l : List Int) (v : Value) (b : Bool), L[i]? = some x → ((flat L).set (i * 4 + 1) v).set (i * 4 + 3) (.bool b) = flat (L.set i { x with la := l, vl := v, op := b }) := fun L i x l v b h => flat_setA L i x l v b h

theorem Dk.wake_ok {D : Dk} (h : D.Ok) (fs : List Int) : (D.wake fs).Ok := by
  refine ⟨h.n1, h.n2, fun k l e => ?_, (fun k l e => by cases e), by simp [Dk.wake], by simp [Dk.wake]⟩
  have e : (if (fs.contains k && (D.opn k).isSome) = true then D.opn k else D.safe k) = some l := e
  split at e
  · exact h.o k l e
  · exact h.s k l e
section
variable {w0 w w' : World} {r : Nat} {lv : Value} {L : List RS} {Y : Nat → Prop} {D : Dk}
theorem wake_skip {fs : List Int} {x : RS} (h : x.op = false) : x.wake fs = x := by simp [RS.wake, h]
theorem wake_kept {fs : List Int} {x : RS} (h : x.op = true) (hk : fs.contains x.n = true) : x.wake fs = { x with sa := x.la, op := false, vs := x.vl } := by simp only [RS.wake, h, hk, if_true]
theorem wake_lost {fs : List Int} {x : RS} (h : x.op = true) (hk : fs.contains x.n = false) : x.wake fs = { x with la := x.sa, op := false, vl := x.vs } := by simp only [RS.wake, h, hk, if_true, Bool.false_eq_true, if_false]

set_option maxRecDepth 100000
set_option maxHeartbeats 4000000 in
theorem Ref.wake (h : Ref w0 w r lv L Y D) {v : Value} {fs : List Int} (hf : IntsIs w v fs) (hne0 : fs ≠ [] → ∀ k, v.ownBlock = some k → ¬ MF r lv k) :
    Calls Try.prog 74 #[.pointer (some ⟨r, 0, none⟩), v] w fun e w' => ∃ L', e = .returned (.tuple #[]) ∧ Ref w0 w' r lv L' Y (D.wake fs) ∧ Chg (MF r lv) w w' := by
  obtain ⟨Fa, Fc, rfl, hFc, hFm, hFA⟩ := hf
  obtain ⟨c0, c1, c2, c3⟩ := h.cells
  have f2 := h.free 2
  have f3 := h.free 3
  have hlen := h.len
  have hfl : fs.length ≤ 9223372036854775807 := by simp only [maxLen] at hFm; omega
  obtain ⟨A, c, rfl⟩ := h.form
  have hD1 : Ref w0 ((w.setCell ⟨r, 3, none⟩ (.bool false)).setCell ⟨r, 2, none⟩ (.int .i64 0)) r (.slice A L.length c) L Y D.calm := (h.setDown false).setArmed 0 (by omega) (by omega)
  have hc1 : Chg (MF r (.slice A L.length c)) w ((w.setCell ⟨r, 3, none⟩ (.bool false)).setCell ⟨r, 2, none⟩ (.int .i64 0)) := ((chg_setCell w r 3 _).trans (chg_setCell _ r 2 _)).mono (fun _ _ e => .inl e)
  have HD := Lib.hid hD1
  have HC := Lib.hid hc1
  clear hD1 hc1
  go_enter Try.func74, Try.ntmps74
  go_wp2_with fail
  have hD1 := HD.out
  have hc1 := HC.out
  clear HD HC c0 c2 c3 f2 f3 c1
  generalize (w.setCell ⟨r, 3, none⟩ (.bool false)).setCell ⟨r, 2, none⟩ (.int .i64 0) = wa at hD1 hc1 ⊢
  go_loopw [4] (fun t wr => ∃ k : Nat, k ≤ L.length ∧ t = .int .i64 k ∧ RefR w0 wr r (.slice A L.length c) (upd (RS.wake fs) k L) Y D.calm ∧ Chg (MF r (.slice A L.length c)) w wr) (fun t _ => L.length - (intOf t).toNat)
  case atStart => exact ⟨0, by omega, rfl, by rw [upd_zero]; exact hD1.toRefR, hc1⟩
  case round =>
    obtain ⟨k, hk, rfl, hRr, hcr⟩ := hrel
    obtain ⟨e0, e1, e2, e3⟩ := hRr.cells
    by_cases hlt : k < L.length
    · obtain ⟨g, c', y, hv, hy, d0, d1, d2, d3⟩ := hRr.row (i := k) (by rw [upd_len]; exact hlt)
      rw [upd_len] at hv
      cases hv
      have hx : L[k]? = some L[k] := List.getElem?_eq_getElem hlt
      have hyx : y = L[k] := by
        have := upd_at (f := RS.wake fs) hx
        rw [this] at hy
        cases hy
        rfl
      have hus : (upd (RS.wake fs) k L).set k (y.wake fs) = upd (RS.wake fs) (k + 1) L := by rw [hyx]; exact upd_succ (f := RS.wake fs) hx
      have HU := Lib.hid hus
      have HCR := Lib.hid hcr
      have HRR := Lib.hid hRr
      have HY := Lib.hid hy
      clear hus hyx hx hcr hRr hy
      cases hop : y.op with
      | false =>
        rw [hop] at d3
        have HO := Lib.hid hop
        clear hop
        go_wp2_with fail
        go_roundw
        case rel =>
          refine ⟨k + 1, by omega, by go_num, ?_, HCR.out⟩
          have := HU.out
          rw [wake_skip HO.out] at this
          rw [← this, set_same HY.out]
          exact HRR.out
        case measure => simp [intOf]; omega
      | true =>
        rw [hop] at d3
        have HO := Lib.hid hop
        clear hop
        go_wp2_with fail
        obtain ⟨wo, rfl⟩ : ∃ wo : World, wo = wr := ⟨_, rfl⟩
        go_loopw [6, 7] (fun s t wi => ∃ j : Nat, j ≤ fs.length ∧ s = .bool ((fs.take j).contains y.n) ∧ t = .int .i64 j ∧ Below wo.heap.size wo wi) (fun _ t _ => fs.length - (intOf t).toNat)
        case atStart => exact ⟨0, by omega, by simp, rfl, Below.refl _ _⟩
        case round =>
          obtain ⟨j, hj, rfl, rfl, hbi⟩ := hrel
          have b0 := (hbi.cell (p := ⟨g, k * 4, none⟩) (cell_lt d0)).trans d0
          by_cases hjl : j < fs.length
          · have hne := hne0 (by rintro rfl; simp at hjl)
            obtain ⟨ad, rfl, hxa⟩ := IntsIs.at_ ((hFA.chg HCR.out (fun a e => by subst e; exact hne a.block rfl)).below hbi) j hjl
            have htc : (fs.take (j + 1)).contains y.n = ((fs.take j).contains y.n || y.n == fs.getD j 0) := take_contains hjl rfl y.n
            generalize fs.getD j 0 = z at hxa htc
            have HTC := Lib.hid htc
            clear htc hne
            have hbi' := hbi
            cases hkb : (fs.take j).contains y.n with
            | true =>
              have HKB := Lib.hid hkb
              clear hkb
              go_wp2_with fail
              repeat (go_quiet (fail); try go_wp2_with fail)
              go_roundw
              case rel => exact ⟨j + 1, by omega, by rw [HTC.out, HKB.out]; rfl, by go_num, drewN_below hbi' _⟩
              case measure => simp [intOf]; omega
            | false =>
              have HKB := Lib.hid hkb
              clear hkb
              by_cases hz : z = y.n
              · have hz1 : (z == y.n) = true := by simpa using hz
                have HZ := Lib.hid hz
                clear hz
                go_wp2_with fail
                repeat (go_quiet (fail); try go_wp2_with fail)
                go_roundw
                case rel => exact ⟨j + 1, by omega, by rw [HTC.out, HKB.out, HZ.out]; simp, by go_num, drewN_below hbi' _⟩
                case measure => simp [intOf]; omega
              · have hz1 : (z == y.n) = false := by simpa using hz
                have hz2 : Hid ((y.n == z) = false) := Lib.hid (by simpa using fun e => hz e.symm)
                clear hz
                go_wp2_with fail
                repeat (go_quiet (fail); try go_wp2_with fail)
                go_roundw
                case rel => exact ⟨j + 1, by omega, by rw [HTC.out, HKB.out, hz2.out]; rfl, by go_num, drewN_below hbi' _⟩
                case measure => simp [intOf]; omega
          · obtain rfl : j = fs.length := by omega
            rw [List.take_length]
            have hRi := HRR.out.below hbi
            obtain ⟨q0, q1, q2, q3⟩ := hRi.cells
            have hRi2 : RefR w0 wr r (.slice (some ⟨g, 0, none⟩) (upd (RS.wake fs) k L).length c) (upd (RS.wake fs) k L) Y D.calm := by rw [upd_len]; exact hRi
            have hrow := hRi.rows k y HY.out
            have p1 := (hbi.cell (p := ⟨g, k * 4 + 1, none⟩) (cell_lt d1)).trans d1
            have p2 := (hbi.cell (p := ⟨g, k * 4 + 2, none⟩) (cell_lt d2)).trans d2
            have p3 := (hbi.cell (p := ⟨g, k * 4 + 3, none⟩) (cell_lt d3)).trans d3
            have f1 : wr.frozen? ⟨g, k * 4 + 1, none⟩ = false := hRi2.own.frozenAt _
            have f2 : wr.frozen? ⟨g, k * 4 + 2, none⟩ = false := hRi2.own.frozenAt _
            have f3 : wr.frozen? ⟨g, k * 4 + 3, none⟩ = false := hRi2.own.frozenAt _
            obtain ⟨Bl, cl, hvl, _, _, _⟩ := hrow.la
            obtain ⟨Bs, cs, hvs, _, _, _⟩ := hrow.sa
            cases hkb : fs.contains y.n with
            | true =>
              have hturn := hRi2.turn (A := none) HY.out (k * 4 + 2) (k * 4 + 3) y.vl (.bool false) (flat_setB _ k y y.la y.vl false HY.out) ⟨hrow.la, hrow.la, hrow.yl, hrow.yl⟩
              have hw := HU.out
              rw [wake_kept HO.out hkb] at hw
              rw [upd_len, hw, hvl] at hturn
              rw [hvl] at p1
              rw [hvs] at p2
              generalize y.la.length = ml at hturn p1 hvl
              generalize y.sa.length = ms at p2 hvs
              have HT := Lib.hid hturn
              have HKB := Lib.hid hkb
              have HB := Lib.hid hbi
              clear hturn hw hkb hrow hRi hRi2 hvl hvs hjl d0 d1 d2 d3 b0
              go_wp2_with fail
              go_roundw
              case rel => exact ⟨k + 1, by omega, by go_num, HT.out.1, (HCR.out.trans (Chg.of_below HB.out)).trans (HT.out.2.mono (fun b _ e => Or.inr (by rw [e]; rfl)))⟩
              case measure => simp [intOf]; omega
            | false =>
              have hturn := hRi2.turn (A := none) HY.out (k * 4 + 1) (k * 4 + 3) y.vs (.bool false) (flat_setA _ k y y.sa y.vs false HY.out) ⟨hrow.sa, hrow.sa, hrow.ys, hrow.ys⟩
              have hw := HU.out
              rw [wake_lost HO.out hkb] at hw
              rw [upd_len, hw, hvs] at hturn
              rw [hvl] at p1
              rw [hvs] at p2
              generalize y.la.length = ml at p1 hvl
              generalize y.sa.length = ms at hturn p2 hvs
              have HT := Lib.hid hturn
              have HKB := Lib.hid hkb
              have HB := Lib.hid hbi
              clear hturn hw hkb hrow hRi hRi2 hvl hvs hjl d0 d1 d2 d3 b0
              go_wp2_with fail
              go_roundw
              case rel => exact ⟨k + 1, by omega, by go_num, HT.out.1, (HCR.out.trans (Chg.of_below HB.out)).trans (HT.out.2.mono (fun b _ e => Or.inr (by rw [e]; rfl)))⟩
              case measure => simp [intOf]; omega
    · obtain rfl : k = L.length := by omega
      rw [upd_all] at hRr
      clear hlt
      go_wp2_with fail
      go_end0
      refine ⟨_, rfl, ⟨⟨hRr.blk, hRr.own, hRr.rows, hRr.gr, hRr.y, hRr.sz⟩, Dk.wake_ok h.ok fs, h.rel.wake fs⟩, hcr⟩
end
end Go.Proofs.Yteeamlidmkpohaa


/-
  A device and the reference's, side by side: what each call makes of both.
-/
set_option linter.unusedVariables false
set_option linter.unusedSimpArgs false
namespace Go.Proofs.Yteeamlidmkpohaa
open Go.RowKit Go.Sort

/-- bytes of a byte's size -/
def Bytey (l : List Int) : Prop := ∀ x ∈ l, 0 ≤ x ∧ x ≤ 255
def Dk.wcode (D : Dk) (k : Int) (l : List Int) : Int := if D.may k ≠ 0 then D.may k else if l.length ≠ 512 then 2 else errOf (D.write k l).down
def Dk.writes (D : Dk) (k : Int) (l : List Int) : Dk := if D.may k ≠ 0 then D else if l.length ≠ 512 then D else D.write k l

theorem wcode_ok {D : Dk} {k : Int} {l : List Int} (h1 : D.may k = 0) (h2 : l.length = 512) : D.wcode k l = errOf (D.write k l).down ∧ D.writes k l = D.write k l := by simp [Dk.wcode, Dk.writes, h1, h2]
theorem wcode_arg {D : Dk} {k : Int} {l : List Int} (h1 : D.may k = 0) (h2 : l.length ≠ 512) : D.wcode k l = 2 ∧ D.writes k l = D := by simp [Dk.wcode, Dk.writes, h1, h2]
theorem wcode_no {D : Dk} {k : Int} {l : List Int} (h1 : D.may k ≠ 0) : D.wcode k l = D.may k ∧ D.writes k l = D := by simp [Dk.wcode, Dk.writes, h1]

section
variable {w0 w w' : World} {p ms mo r : Nat} {lv : Value} {L : List RS} {Y : Nat → Prop} {D : Dk}

theorem Dev.writes (h : Dev w0 w p ms mo D) (k : Int) {v : Value} {l : List Int} (hv : BytesIs w v l) (hb : Bytey l) :
    Calls Try.prog 52 #[.pointer (some ⟨p, 0, none⟩), .int .i64 k, v] w fun e w' => e = .returned (.int .i64 (D.wcode k l)) ∧ Dev w0 w' p ms mo (D.writes k l) ∧ Chg (DF p ms mo) w w' := by
  by_cases h1 : D.may k = 0
  · by_cases h2 : l.length = 512
    · rw [(wcode_ok h1 h2).1, (wcode_ok h1 h2).2]
      cases hd : (D.write k l).down with
      | true => exact (h.write9 k h1 hv ⟨h2, hb⟩ hd).mono fun e w' ⟨e1, e2, e3⟩ => ⟨e1, e2, e3⟩
      | false => exact (h.write0 k h1 hv ⟨h2, hb⟩ hd).mono fun e w' ⟨e1, e2, e3⟩ => ⟨e1, e2, e3⟩
    · rw [(wcode_arg h1 h2).1, (wcode_arg h1 h2).2]
      obtain ⟨A, c, rfl, hc, hm, hA⟩ := hv
      exact (h.writeArg k h1 A l.length c h2).mono fun e w' ⟨e1, e2⟩ => ⟨e1, e2 ▸ h, e2 ▸ Chg.refl _ _⟩
  · rw [(wcode_no h1).1, (wcode_no h1).2]
    exact (h.writeNo k rfl h1 v).mono fun e w' ⟨e1, e2⟩ => ⟨e1, e2 ▸ h, e2 ▸ Chg.refl _ _⟩
theorem Ref.writes (h : Ref w0 w r lv L Y D) (k : Int) {v : Value} {l : List Int} (hv : BytesIs w v l) (hb : Bytey l) (hvm : ∀ b, v.ownBlock = some b → ¬ MF r lv b) :
    Calls Try.prog 138 #[.pointer (some ⟨r, 0, none⟩), .int .i64 k, v] w fun e w' => ∃ lv' L' Y', e = .returned (.int .i64 (D.wcode k l)) ∧ Ref w0 w' r lv' L' Y' (D.writes k l) ∧ Chg (MF r lv) w w' ∧ Fresh w (MF r lv) (MF r lv') ∧ Fresh w Y Y' := by
  by_cases h1 : D.may k = 0
  · by_cases h2 : l.length = 512
    · rw [(wcode_ok h1 h2).1, (wcode_ok h1 h2).2]
      exact h.write k h1 hv ⟨h2, hb⟩ hvm
    · rw [(wcode_arg h1 h2).1, (wcode_arg h1 h2).2]
      obtain ⟨A, c, rfl, hc, hm, hA⟩ := hv
      exact (h.writeArg k h1 A l.length c h2 (by omega)).mono fun e w' ⟨e1, e2⟩ => ⟨lv, L, Y, e1, e2 ▸ h, e2 ▸ Chg.refl _ _, Fresh.refl _ _, Fresh.refl _ _⟩
  · rw [(wcode_no h1).1, (wcode_no h1).2]
    exact (h.writeNo k rfl h1 v).mono fun e w' ⟨e1, e2⟩ => ⟨lv, L, Y, e1, e2 ▸ h, e2 ▸ Chg.refl _ _, Fresh.refl _ _, Fresh.refl _ _⟩
def Dk.scode (D : Dk) : Int := if D.down = true then 9 else errOf D.sync.down
def Dk.syncs (D : Dk) : Dk := if D.down = true then D else D.sync
theorem Dev.syncs (h : Dev w0 w p ms mo D) :
    Calls Try.prog 51 #[.pointer (some ⟨p, 0, none⟩)] w fun e w' => e = .returned (.int .i64 D.scode) ∧ Dev w0 w' p ms mo D.syncs ∧ Chg (DF p ms mo) w w' := by
  unfold Dk.scode Dk.syncs
  cases hd : D.down with
  | true => exact (h.syncNo hd).mono fun e w' ⟨e1, e2⟩ => ⟨e1, e2 ▸ h, e2 ▸ Chg.refl _ _⟩
  | false =>
    simp only [Bool.false_eq_true, if_false]
    cases hs : D.sync.down with
    | true => exact (h.sync9 hd hs).mono fun e w' ⟨e1, e2, e3⟩ => ⟨e1, e2, e3⟩
    | false => exact (h.sync0 hd hs).mono fun e w' ⟨e1, e2, e3⟩ => ⟨e1, e2, e3⟩
theorem Ref.syncs (h : Ref w0 w r lv L Y D) :
    Calls Try.prog 139 #[.pointer (some ⟨r, 0, none⟩)] w fun e w' => ∃ L', e = .returned (.int .i64 D.scode) ∧ Ref w0 w' r lv L' Y D.syncs ∧ Chg (MF r lv) w w' := by
  unfold Dk.scode Dk.syncs
  cases hd : D.down with
  | true => exact (h.syncNo hd).mono fun e w' ⟨e1, e2⟩ => ⟨L, e1, e2 ▸ h, e2 ▸ Chg.refl _ _⟩
  | false =>
    simp only [Bool.false_eq_true, if_false]
    exact h.sync hd
/-- what is read: bytes, or none -/
def Dk.rbytes (D : Dk) (k : Int) : List Int := if D.may k ≠ 0 then [] else D.latest k
theorem BytesIs.nil (w : World) : BytesIs w (.slice none 0 0) [] := ⟨none, 0, rfl, Nat.le_refl _, by simp [maxLen], fun j u h => by simp [bytesV] at h⟩
theorem Dev.reads (h : Dev w0 w p ms mo D) (k : Int) :
    Calls Try.prog 55 #[.pointer (some ⟨p, 0, none⟩), .int .i64 k] w fun e w' => ∃ v, e = .returned (.tuple #[v, .int .i64 (D.may k)]) ∧ BytesIs w' v (D.rbytes k) ∧ (∀ b, v.ownBlock = some b → w.heap.size ≤ b) ∧ Below w.heap.size w w' := by
  unfold Dk.rbytes
  by_cases h1 : D.may k = 0
  · rw [if_neg (by simpa using h1), h1]
    exact (h.read k h1).mono fun e w' ⟨v, e1, e2, e3, e4⟩ => ⟨v, e1, e2, own_fresh e3, e4⟩
  · rw [if_pos h1]
    exact (h.readNo k rfl h1).mono fun e w' ⟨e1, e2⟩ => ⟨_, e1, BytesIs.nil _, (fun b e => by cases e), e2 ▸ Below.refl _ _⟩
theorem Dev.readsO (h : Dev w0 w p ms mo D) (k : Int) :
    Calls Try.prog 55 #[.pointer (some ⟨p, 0, none⟩), .int .i64 k] w fun e w' => ∃ v, e = .returned (.tuple #[v, .int .i64 (D.may k)]) ∧ w'.ownsRow w.heap.size 5 1 v (D.rbytes k).length (bytesV (D.rbytes k)) ∧ Below w.heap.size w w' := by
  unfold Dk.rbytes
  by_cases h1 : D.may k = 0
  · rw [if_neg (by simpa using h1), h1, (Dk.latest_sec h.ok k).1]
    exact (h.read k h1).mono fun e w' ⟨v, e1, e2, e3, e4⟩ => ⟨v, e1, e3, e4⟩
  · rw [if_pos h1]
    exact (h.readNo k rfl h1).mono fun e w' ⟨e1, e2⟩ => ⟨_, e1, World.ownsRow_nil _ _ _ _, e2 ▸ Below.refl _ _⟩
theorem Ref.reads (h : Ref w0 w r lv L Y D) (k : Int) :
    Calls Try.prog 141 #[.pointer (some ⟨r, 0, none⟩), .int .i64 k] w fun e w' => ∃ v, e = .returned (.tuple #[v, .int .i64 (D.may k)]) ∧ BytesIs w' v (D.rbytes k) ∧ (∀ b, v.ownBlock = some b → w.heap.size ≤ b) ∧ Below w.heap.size w w' := by
  unfold Dk.rbytes
  by_cases h1 : D.may k = 0
  · rw [if_neg (by simpa using h1), h1]
    exact h.read k h1
  · rw [if_pos h1]
    exact (h.readNo k rfl h1).mono fun e w' ⟨e1, e2⟩ => ⟨_, e1, BytesIs.nil _, (fun b e => by cases e), e2 ▸ Below.refl _ _⟩

/-- both tell D, apart -/
structure Pair (w0 w : World) (p ms mo r : Nat) (lv : Value) (L : List RS) (Y : Nat → Prop) (D : Dk) : Prop where
  dv : Dev w0 w p ms mo D
  rf : Ref w0 w r lv L Y D
  m : ∀ b, DF p ms mo b → ¬ MF r lv b
  y : ∀ b, DF p ms mo b → ¬ Y b
theorem Pair.chg {F : Nat → Prop} (h : Pair w0 w p ms mo r lv L Y D) (hc : Chg F w w') (h0 : ∀ k, F k → w0.heap.size ≤ k) (h1 : ∀ k, DF p ms mo k → ¬ F k) (h2 : ∀ k, MF r lv k → ¬ F k) (h3 : ∀ k, Y k → ¬ F k) : Pair w0 w' p ms mo r lv L Y D :=
  ⟨h.dv.chg hc h0 h1, h.rf.chg hc h2 h3, h.m, h.y⟩
theorem Pair.below (h : Pair w0 w p ms mo r lv L Y D) (hb : Below w.heap.size w w') : Pair w0 w' p ms mo r lv L Y D := ⟨h.dv.below hb, h.rf.below hb, h.m, h.y⟩
theorem Pair.alloc (h : Pair w0 w p ms mo r lv L Y D) (ob : Obj) : Pair w0 (w.alloc ob) p ms mo r lv L Y D := h.below (below_alloc' (Below.refl _ _) ob)
theorem Pair.drew (h : Pair w0 w p ms mo r lv L Y D) : Pair w0 w.drew p ms mo r lv L Y D := ⟨h.dv.drew, h.rf.drew, h.m, h.y⟩
/-- the device is turned; the reference then -/
theorem Pair.step {w1 w2 : World} {D' : Dk} {lv' : Value} {L' : List RS} {Y' : Nat → Prop} (h : Pair w0 w p ms mo r lv L Y D) (hd : Dev w0 w1 p ms mo D') (hc : Chg (DF p ms mo) w w1) (hr : Ref w0 w2 r lv' L' Y' D') (hc2 : Chg (MF r lv) w1 w2) (hm : Fresh w1 (MF r lv) (MF r lv')) (hy : Fresh w1 Y Y') :
    Pair w0 w2 p ms mo r lv' L' Y' D' ∧ Chg (fun b => DF p ms mo b ∨ MF r lv b) w w2 ∧ Fresh w (MF r lv) (MF r lv') ∧ Fresh w Y Y' := by
  have hs := hc.size
  have hdl := hd.lt
  refine ⟨⟨hd.chg hc2 (fun k e => (h.rf.mf k e).1) h.m, hr, fun b e e2 => ?_, fun b e e2 => ?_⟩, (hc.mono (fun _ _ e => .inl e)).trans (hc2.mono (fun _ _ e => .inr e)), fun b e => (hm b e).imp id (fun e => Nat.le_trans hs e), fun b e => (hy b e).imp id (fun e => Nat.le_trans hs e)⟩
  · rcases hm b e2 with e3 | e3
    · exact h.m b e e3
    · have := hdl b e; omega
  · rcases hy b e2 with e3 | e3
    · exact h.y b e e3
    · have := hdl b e; omega
/-- the reference as the device's step leaves it -/
theorem Pair.mid {w1 : World} (h : Pair w0 w p ms mo r lv L Y D) (hc : Chg (DF p ms mo) w w1) : Ref w0 w1 r lv L Y D := h.rf.chg hc (fun k e e2 => h.m k e2 e) (fun k e e2 => h.y k e2 e)
end
end Go.Proofs.Yteeamlidmkpohaa


/-
  A cache in plain words: what is kept, the eldest first; and maps of it: how many, deleting.
-/
set_option linter.unusedVariables false
set_option linter.unusedSimpArgs false
namespace Go.Proofs.Yteeamlidmkpohaa
open Go.RowKit Go.Sort

/-- a sector that is kept: its number, its bytes, the slice that holds them, when it was touched -/
structure CE where
  k : Int
  l : List Int
  v : Value
  t : Int
def CE.val (e : CE) : Value := .agg #[e.v, .int .i64 e.t]
def mapOf (C : List CE) : Int → Option Value := fun k => (C.find? (fun e => e.k == k)).map CE.val
structure KeptOk (C : List CE) (now : Int) : Prop where
  keys : C.Pairwise (fun a b => a.k ≠ b.k)
  times : C.Pairwise (fun a b => a.t < b.t)
  le : ∀ e ∈ C, e.t ≤ now
theorem KeptOk.nil (now : Int) : KeptOk [] now := ⟨.nil, .nil, fun e h => by cases h⟩
def without (C : List CE) (k : Int) : List CE := C.filter (fun e => !(e.k == k))
theorem KeptOk.without {C : List CE} {now : Int} (h : KeptOk C now) (k : Int) : KeptOk (without C k) now :=
  ⟨h.keys.filter _, h.times.filter _, fun e he => h.le e ((List.mem_filter.1 he).1)⟩
theorem KeptOk.put {C : List CE} {now : Int} (h : KeptOk C now) (e : CE) (ht : e.t = now + 1) : KeptOk (Yteeamlidmkpohaa.without C e.k ++ [e]) (now + 1) := by
  refine ⟨?_, ?_, fun x hx => ?_⟩
  · rw [List.pairwise_append]
    refine ⟨h.keys.filter _, List.pairwise_singleton _ _, fun a ha b hb => ?_⟩
    simp only [List.mem_singleton] at hb
    subst hb
    have := (List.mem_filter.1 ha).2
    simpa using this
  · rw [List.pairwise_append]
    refine ⟨h.times.filter _, List.pairwise_singleton _ _, fun a ha b hb => ?_⟩
    simp only [List.mem_singleton] at hb
    subst hb
    have := h.le a ((List.mem_filter.1 ha).1)
    omega
  · rw [List.mem_append] at hx
    rcases hx with hx | hx
    · have := h.le x ((List.mem_filter.1 hx).1); omega
    · simp only [List.mem_singleton] at hx; subst hx; omega
theorem KeptOk.tail {C : List CE} {now : Int} (h : KeptOk C now) : KeptOk C.tail now :=
  ⟨h.keys.sublist (List.tail_sublist C), h.times.sublist (List.tail_sublist C), fun e he => h.le e (List.mem_of_mem_tail he)⟩
theorem KeptOk.uniq {C : List CE} {now : Int} (h : KeptOk C now) {a b : CE} (ha : a ∈ C) (hb : b ∈ C) (e : a.k = b.k) : a = b := by
  obtain ⟨i, hi, rfl⟩ := List.mem_iff_getElem.1 ha
  obtain ⟨j, hj, rfl⟩ := List.mem_iff_getElem.1 hb
  have hp := List.pairwise_iff_getElem.1 h.keys
  rcases Nat.lt_trichotomy i j with h1 | h1 | h1
  · exact absurd e (hp i j hi hj h1)
  · subst h1; rfl
  · exact absurd e.symm (hp j i hj hi h1)
theorem mapOf_some {C : List CE} {now : Int} (h : KeptOk C now) {k : Int} {v : Value} : mapOf C k = some v ↔ ∃ e ∈ C, e.k = k ∧ e.val = v := by
  unfold mapOf
  constructor
  · intro hf
    cases hq : C.find? (fun e => e.k == k) with
    | none => rw [hq] at hf; cases hf
    | some e =>
      rw [hq] at hf
      exact ⟨e, List.mem_of_find?_eq_some hq, by simpa using List.find?_some hq, by simpa using hf⟩
  · rintro ⟨e, he, hk, hv⟩
    cases hq : C.find? (fun e => e.k == k) with
    | none =>
      rw [List.find?_eq_none] at hq
      exact absurd (by simpa using hk) (hq e he)
    | some e' =>
      have h1 := List.mem_of_find?_eq_some hq
      have h2 : e'.k = k := by simpa using List.find?_some hq
      rw [h.uniq h1 he (h2.trans hk.symm)]
      simpa using hv
theorem mapOf_none {C : List CE} {k : Int} : mapOf C k = none ↔ ∀ e ∈ C, e.k ≠ k := by
  unfold mapOf
  rw [Option.map_eq_none_iff, List.find?_eq_none]
  simp
theorem mapOf_ext {C : List CE} {now : Int} (h : KeptOk C now) {f : Int → Option Value} (hf : ∀ k v, f k = some v ↔ ∃ e ∈ C, e.k = k ∧ e.val = v) : ∀ k, f k = mapOf C k := by
  intro k
  cases hq : f k with
  | some v => exact ((mapOf_some h).2 ((hf k v).1 hq)).symm
  | none =>
    cases hm : mapOf C k with
    | none => rfl
    | some v => rw [(hf k v).2 ((mapOf_some h).1 hm)] at hq; cases hq
theorem mapOf_without {C : List CE} {now : Int} (h : KeptOk C now) (k : Int) : ∀ x, (if x = k then none else mapOf C x) = mapOf (without C k) x := by
  refine mapOf_ext (h.without k) (fun x v => ?_)
  by_cases e : x = k
  · rw [if_pos e]
    constructor
    · intro h; cases h
    · rintro ⟨a, ha, h1, _⟩
      have := (List.mem_filter.1 ha).2
      simp at this
      exact absurd (h1.trans e) this
  · rw [if_neg e, mapOf_some h]
    constructor
    · rintro ⟨a, ha, h1, h2⟩
      exact ⟨a, List.mem_filter.2 ⟨ha, by simp; rw [h1]; exact e⟩, h1, h2⟩
    · rintro ⟨a, ha, h1, h2⟩
      exact ⟨a, (List.mem_filter.1 ha).1, h1, h2⟩
theorem mapOf_put {C : List CE} {now : Int} (h : KeptOk C now) (e : CE) (ht : e.t = now + 1) : ∀ x, (if x = e.k then some e.val else mapOf C x) = mapOf (without C e.k ++ [e]) x := by
  refine mapOf_ext (h.put e ht) (fun x v => ?_)
  by_cases hx : x = e.k
  · rw [if_pos hx]
    constructor
    · intro h1
      exact ⟨e, by simp, hx.symm, by simpa using h1⟩
    · rintro ⟨a, ha, h1, h2⟩
      rw [List.mem_append] at ha
      rcases ha with ha | ha
      · have := (List.mem_filter.1 ha).2
        simp at this
        exact absurd (h1.trans hx) this
      · simp only [List.mem_singleton] at ha
        subst ha
        rw [h2]
  · rw [if_neg hx, mapOf_some h]
    constructor
    · rintro ⟨a, ha, h1, h2⟩
      exact ⟨a, List.mem_append.2 (.inl (List.mem_filter.2 ⟨ha, by simp; rw [h1]; exact hx⟩)), h1, h2⟩
    · rintro ⟨a, ha, h1, h2⟩
      rw [List.mem_append] at ha
      rcases ha with ha | ha
      · exact ⟨a, (List.mem_filter.1 ha).1, h1, h2⟩
      · simp only [List.mem_singleton] at ha
        subst ha
        exact absurd h1.symm hx
theorem tail_without {e : CE} {C : List CE} {now : Int} (h : KeptOk (e :: C) now) : without (e :: C) e.k = C := by
  have h1 := (List.pairwise_cons.1 h.keys).1
  unfold without
  rw [List.filter_cons_of_neg (by simp), List.filter_eq_self]
  intro a ha
  have := h1 a ha
  simp
  exact fun e => this e.symm

/-! ### a map of it -/
theorem kept_size {es : Array MapEntry} {clock : Nat} {C : List CE} {now : Int} (h : KeptOk C now) (ho : MapOk es clock (mapOf C)) : es.size = C.length := by
  have key : ∀ i, i < es.size → ∃ j, j < C.length ∧ ∃ e x, C[j]? = some e ∧ es[i]? = some x ∧ x.key = .int .i64 e.k := fun i hi => by
    obtain ⟨k, h1, h2⟩ := ho.key i es[i] (by simp [hi])
    obtain ⟨e, he, h3, h4⟩ := (mapOf_some h).1 h2
    obtain ⟨j, hj, hej⟩ := List.mem_iff_getElem.1 he
    exact ⟨j, hj, e, es[i], by rw [List.getElem?_eq_getElem hj, hej], by simp [hi], by rw [h1, h3]⟩
  have key2 : ∀ j, j < C.length → ∃ i, i < es.size ∧ ∃ e x, C[j]? = some e ∧ es[i]? = some x ∧ x.key = .int .i64 e.k := fun j hj => by
    obtain ⟨i, x, h1, h2, h3⟩ := ho.has C[j].k C[j].val ((mapOf_some h).2 ⟨C[j], List.getElem_mem hj, rfl, rfl⟩)
    exact ⟨i, (Array.getElem?_eq_some_iff.1 h1).1, C[j], x, List.getElem?_eq_getElem hj, h1, h2⟩
  have a1 : es.size ≤ C.length := by
    refine pigeon C.length es.size (fun i => if hi : i < es.size then Classical.choose (key i hi) else 0) (fun i hi => ?_) (fun i j hi hj e => ?_)
    · simp only [hi, dif_pos]
      exact (Classical.choose_spec (key i hi)).1
    · simp only [hi, hj, dif_pos] at e
      obtain ⟨_, e1, x1, b1, b2, b3⟩ := Classical.choose_spec (key i hi)
      obtain ⟨_, e2, x2, d1, d2, d3⟩ := Classical.choose_spec (key j hj)
      rw [e, d1] at b1
      cases b1
      exact ho.once i j x1 x2 b2 d2 (.inr (b3.trans d3.symm))
  have a2 : C.length ≤ es.size := by
    refine pigeon es.size C.length (fun i => if hi : i < C.length then Classical.choose (key2 i hi) else 0) (fun i hi => ?_) (fun i j hi hj e => ?_)
    · simp only [hi, dif_pos]
      exact (Classical.choose_spec (key2 i hi)).1
    · simp only [hi, hj, dif_pos] at e
      obtain ⟨_, e1, x1, b1, b2, b3⟩ := Classical.choose_spec (key2 i hi)
      obtain ⟨_, e2, x2, d1, d2, d3⟩ := Classical.choose_spec (key2 j hj)
      rw [e, d2] at b2
      cases b2
      have hk : e1.k = e2.k := by have := b3.symm.trans d3; simpa using this
      have hp := List.pairwise_iff_getElem.1 h.keys
      have q1 : C[i] = e1 := by rw [List.getElem?_eq_getElem hi] at b1; cases b1; rfl
      have q2 : C[j] = e2 := by rw [List.getElem?_eq_getElem hj] at d1; cases d1; rfl
      rcases Nat.lt_trichotomy i j with h1 | h1 | h1
      · exact absurd (by rw [q1, q2]; exact hk) (hp i j hi hj h1)
      · exact h1
      · exact absurd (by rw [q1, q2]; exact hk.symm) (hp j i hj hi h1)
  omega

section
set_option linter.unusedSectionVars false
variable {P : Program} {w : World} {t e : TypeId} (ht : P.underlying t = some (.map 3 e)) (h3 : P.underlying 3 = some (.int .i64))
include ht h3
theorem run_delete {b : Nat} {f : Int → Option Value} (h : MapIs w b f) (ty : TypeId) (k : Int) :
    ∃ w', (Builtin.delete_ #[t, 3] ty #[.map (some b), .int .i64 k]).run P w = .ok (.tuple #[]) w' ∧ MapIs w' b (fun x => if x = k then none else f x) ∧ Chg (fun i => i = b) w w' := by
  have hbl := h.lt
  obtain ⟨es, clock, hb, ho⟩ := h
  have hck := fun b => run_checkKey (P := P) (w := w) ht h3 b k
  rcases run_findKey (P := P) (w := w) ht h3 ho k with ⟨hf, hr⟩ | ⟨v, j, hf, hj, ⟨x, hx, hxk⟩, hr⟩
  · refine ⟨{ w with heap := w.heap.setIfInBounds b (.map es clock) }, ?_, ?_, chg_setBlock _ _ _⟩
    · simp [Builtin.delete_, run_underlying ht, run_getMap hb, run_setMap hb, hck, hr, Result.andThen]
    · refine MapIs.set hbl ?_
      refine ⟨fun i x hx => ?_, fun k' v hv => ?_, ho.born, ho.once⟩
      · obtain ⟨k', h1, h2⟩ := ho.key i x hx
        refine ⟨k', h1, ?_⟩
        rw [if_neg (fun e => by rw [e, hf] at h2; cases h2)]
        exact h2
      · by_cases e : k' = k
        · rw [if_pos e] at hv; cases hv
        · rw [if_neg e] at hv; exact ho.has k' v hv
  · refine ⟨{ w with heap := w.heap.setIfInBounds b (.map (es.eraseIdxIfInBounds j) clock) }, ?_, ?_, chg_setBlock _ _ _⟩
    · simp [Builtin.delete_, run_underlying ht, run_getMap hb, run_setMap hb, hck, hr, Result.andThen]
    · refine MapIs.set hbl ?_
      have hget : ∀ i, (es.eraseIdxIfInBounds j)[i]? = if i < j then es[i]? else es[i + 1]? := fun i => by
        rw [Array.eraseIdxIfInBounds, dif_pos hj, Array.getElem?_eraseIdx]
      have idx : ∀ i, ∃ m, m ≠ j ∧ (if i < j then es[i]? else es[i + 1]?) = es[m]? ∧ m = (if i < j then i else i + 1) := fun i => by
        by_cases h1 : i < j
        · exact ⟨i, by omega, by rw [if_pos h1], by rw [if_pos h1]⟩
        · exact ⟨i + 1, by omega, by rw [if_neg h1], by rw [if_neg h1]⟩
      refine ⟨fun i y hy => ?_, fun k' v' hv => ?_, fun i y hy => ?_, fun i m a c ha hc hac => ?_⟩
      · obtain ⟨n, hn, h1, _⟩ := idx i
        rw [hget, h1] at hy
        obtain ⟨k', h4, h5⟩ := ho.key n y hy
        refine ⟨k', h4, ?_⟩
        rw [if_neg (fun e => hn (ho.once n j y x hy hx (.inr (by rw [h4, hxk, e]))))]
        exact h5
      · by_cases e : k' = k
        · rw [if_pos e] at hv; cases hv
        · rw [if_neg e] at hv
          obtain ⟨n, y, h1, h2, h4⟩ := ho.has k' v' hv
          have hne : n ≠ j := fun e2 => by
            subst e2
            rw [hx] at h1
            cases h1
            rw [hxk] at h2
            cases h2
            exact e rfl
          rcases Nat.lt_or_gt_of_ne hne with h5 | h5
          · exact ⟨n, y, by rw [hget, if_pos h5]; exact h1, h2, h4⟩
          · exact ⟨n - 1, y, by rw [hget, if_neg (by omega), show n - 1 + 1 = n by omega]; exact h1, h2, h4⟩
      · obtain ⟨n, hn, h1, _⟩ := idx i
        rw [hget, h1] at hy
        exact ho.born n y hy
      · obtain ⟨n, hn, h1, h2⟩ := idx i
        obtain ⟨q, hq, h4, h5⟩ := idx m
        rw [hget, h1] at ha
        rw [hget, h4] at hc
        have := ho.once n q a c ha hc hac
        by_cases q1 : i < j <;> by_cases q2 : m < j <;> simp [q1, q2] at h2 h5 <;> omega
theorem wpList_delete {ops : Array Oper} {rest : List Oper} {o : Oper} {a : Act} {Q : Exit → Act → World → Prop} (hg : o.guard = none) (x y : Operand) (ho : o.op = .call { callee := .builtin .delete, args := #[x, y], argTypes := #[t, 3] }) (b : Nat) (k : Int) (hx : a.eval x = .map (some b)) (hy : a.eval y = .int .i64 k) (f : Int → Option Value) (hm : MapIs w b f)
    (h : ∀ w', MapIs w' b (fun x => if x = k then none else f x) → Chg (fun i => i = b) w w' → wpList P ops Q rest (a.put o.dst (.tuple #[])) w') : wpList P ops Q (o :: rest) a w := by
  obtain ⟨w', hr, h1, h2⟩ := run_delete (P := P) ht h3 hm o.type k
  exact wpList_val hg (w' := w') (by simp [execOp, ho, hx, hy, hr, Result.andThen, resolve, invoke, builtin]) (h w' h1 h2)
end
end Go.Proofs.Yteeamlidmkpohaa


/-
  The cache in memory, and its smaller functions.
-/
set_option linter.unusedVariables false
set_option linter.unusedSimpArgs false
namespace Go.Proofs.Yteeamlidmkpohaa
open Go.RowKit Go.Sort

/-- a cache's numbers, and what it keeps -/
structure Ck where
  most : Int
  now : Int
  hits : Int
  misses : Int
  C : List CE
/-- block c is a cache over the disk at p; its map is block mk; its bytes lie in blocks of Y -/
structure CacheAt (w0 w : World) (c mk p : Nat) (K : Ck) (Y : Nat → Prop) : Prop where
  blk : w.heap[c]? = some (.cells #[.pointer (some ⟨p, 0, none⟩), .int .i64 K.most, .int .i64 K.now, .map (some mk), .int .i64 K.hits, .int .i64 K.misses] 126 (0, 0))
  mp : MapIs w mk (mapOf K.C)
  ok : KeptOk K.C K.now
  len : (K.C.length : Int) ≤ K.most
  m1 : 1 ≤ K.most
  m2 : K.most ≤ 9223372036854775807
  n0 : 0 ≤ K.now
  h0 : 0 ≤ K.hits
  s0 : 0 ≤ K.misses
  rows : ∀ e ∈ K.C, BytesIs w e.v e.l ∧ IsSec e.l ∧ ∀ b, e.v.ownBlock = some b → Y b
  gc : w0.heap.size ≤ c
  gm : w0.heap.size ≤ mk
  y : ∀ b, Y b → w0.heap.size ≤ b ∧ b < w.heap.size ∧ b ≠ c ∧ b ≠ mk
def CF (c mk : Nat) : Nat → Prop := fun b => b = c ∨ b = mk

section
variable {w0 w w' : World} {c mk p : Nat} {K : Ck} {Y : Nat → Prop}
theorem CacheAt.lt (h : CacheAt w0 w c mk p K Y) : c < w.heap.size := (Array.getElem?_eq_some_iff.1 h.blk).1
theorem CacheAt.ne (h : CacheAt w0 w c mk p K Y) : c ≠ mk := fun e => by
  obtain ⟨es, clock, hb, _⟩ := h.mp
  rw [← e, h.blk] at hb
  cases hb
theorem CacheAt.cf (h : CacheAt w0 w c mk p K Y) : ∀ b, CF c mk b → w0.heap.size ≤ b ∧ b < w.heap.size := fun b e => by
  rcases e with rfl | rfl
  · exact ⟨h.gc, h.lt⟩
  · exact ⟨h.gm, h.mp.lt⟩
theorem CacheAt.cells (h : CacheAt w0 w c mk p K Y) : w.cell? ⟨c, 0, none⟩ = some (.pointer (some ⟨p, 0, none⟩)) ∧ w.cell? ⟨c, 1, none⟩ = some (.int .i64 K.most) ∧ w.cell? ⟨c, 2, none⟩ = some (.int .i64 K.now) ∧ w.cell? ⟨c, 3, none⟩ = some (.map (some mk)) ∧ w.cell? ⟨c, 4, none⟩ = some (.int .i64 K.hits) ∧ w.cell? ⟨c, 5, none⟩ = some (.int .i64 K.misses) := by
  refine ⟨?_, ?_, ?_, ?_, ?_, ?_⟩ <;> simp [World.cell?, h.blk]
theorem CacheAt.free (h : CacheAt w0 w c mk p K Y) (i : Nat) : w.frozen? ⟨c, i, none⟩ = false := by
  simp [World.frozen?, h.blk]
/-- a step elsewhere -/
theorem CacheAt.chg {F : Nat → Prop} (h : CacheAt w0 w c mk p K Y) (hc : Chg F w w') (hM : ∀ b, CF c mk b → ¬ F b) (hY : ∀ b, Y b → ¬ F b) : CacheAt w0 w' c mk p K Y :=
  ⟨(hc.block c h.lt (hM c (.inl rfl))).trans h.blk, h.mp.chg hc (hM mk (.inr rfl)), h.ok, h.len, h.m1, h.m2, h.n0, h.h0, h.s0, fun e he => ⟨(h.rows e he).1.chg hc (fun b e2 => hY b ((h.rows e he).2.2 b e2)), (h.rows e he).2⟩, h.gc, h.gm, fun b e => ⟨(h.y b e).1, Nat.lt_of_lt_of_le (h.y b e).2.1 hc.size, (h.y b e).2.2⟩⟩
theorem CacheAt.below (h : CacheAt w0 w c mk p K Y) (hb : Below w.heap.size w w') : CacheAt w0 w' c mk p K Y := h.chg (Chg.of_below (F := fun _ => False) hb) (fun _ _ => id) (fun _ _ => id)
/-- its own block is written -/
theorem CacheAt.self (h : CacheAt w0 w c mk p K Y) (i : Nat) (v : Value) (now hits misses : Int) (hn : K.now ≤ now) (hh : 0 ≤ hits) (hs : 0 ≤ misses)
    (hb : (#[.pointer (some ⟨p, 0, none⟩), .int .i64 K.most, .int .i64 K.now, .map (some mk), .int .i64 K.hits, .int .i64 K.misses] : Array Value).setIfInBounds i v = #[.pointer (some ⟨p, 0, none⟩), .int .i64 K.most, .int .i64 now, .map (some mk), .int .i64 hits, .int .i64 misses]) :
    CacheAt w0 (w.setCell ⟨c, i, none⟩ v) c mk p { K with now := now, hits := hits, misses := misses } Y := by
  have hc := chg_setCell w c i v
  have hcm := h.ne
  refine ⟨?_, h.mp.chg hc (fun e => hcm e.symm), ⟨h.ok.keys, h.ok.times, fun e he => Int.le_trans (h.ok.le e he) hn⟩, h.len, h.m1, h.m2, Int.le_trans h.n0 hn, hh, hs, fun e he => ⟨(h.rows e he).1.chg hc (fun b e2 e3 => (h.y b ((h.rows e he).2.2 b e2)).2.2.1 e3), (h.rows e he).2⟩, h.gc, h.gm, fun b e => ⟨(h.y b e).1, by simpa using (h.y b e).2.1, (h.y b e).2.2⟩⟩
  rw [heap_setCell w c i v _ _ _ h.blk, hb]
end

set_option maxRecDepth 100000
theorem add_any (w : World) (c o : Nat) (x : Int) (hc : w.cell? ⟨c, o, none⟩ = some (.int .i64 x)) (hf : w.frozen? ⟨c, o, none⟩ = false) (h0 : 0 ≤ x) (h1 : x < 9223372036854775807) :
    Calls Try.prog 160 #[.pointer (some ⟨c, o, none⟩), .int .i64 1] w fun e w' => e = .returned (.int .i64 (x + 1)) ∧ w' = w.setCell ⟨c, o, none⟩ (.int .i64 (x + 1)) := by
  have hadd : (callFunc 201 #[.pointer (some ⟨c, o, none⟩), .int .i64 1]).run Try.prog w = .ok (.value (.int .i64 (x + 1))) (w.setCell ⟨c, o, none⟩ (.int .i64 (x + 1))) :=
    run_call_add (P := Try.prog) (f := 201) Try.func201 (by kernel_rfl) (by kernel_rfl) (by kernel_rfl) .i64 (by kernel_rfl) hc hf (by
      have e : IntKind.i64.wrap (x + 1) = x + 1 := by rw [IntKind.wrap_i64]; omega
      simp [Op.intArith, e])
  go_enter Try.func160, Try.ntmps160
  go_wp2
  go_ret
  exact ⟨rfl, rfl⟩
theorem load_any (w : World) (c o : Nat) (x : Int) (hc : w.cell? ⟨c, o, none⟩ = some (.int .i64 x)) :
    Calls Try.prog 163 #[.pointer (some ⟨c, o, none⟩)] w fun e w' => e = .returned (.int .i64 x) ∧ w' = w := by
  have hld : (callFunc 202 #[.pointer (some ⟨c, o, none⟩)]).run Try.prog w = .ok (.value (.int .i64 x)) w :=
    run_call_load (P := Try.prog) (f := 202) Try.func202 (by kernel_rfl) (by kernel_rfl) (by kernel_rfl) .i64 (by kernel_rfl) hc
  go_enter Try.func163, Try.ntmps163
  go_wp2
  go_ret
  exact ⟨rfl, rfl⟩
end Go.Proofs.Yteeamlidmkpohaa


/-
  The cache: New, known, Sectors, Clone, Counts, Sync, Drop.
-/
set_option linter.unusedVariables false
set_option linter.unusedSimpArgs false
namespace Go.Proofs.Yteeamlidmkpohaa
open Go.RowKit Go.Sort

section
variable {w0 w w' : World} {c mk p ms mo : Nat} {K : Ck} {Y : Nat → Prop} {D : Dk}
set_option maxRecDepth 100000

theorem CacheAt.known (h : CacheAt w0 w c mk p K Y) : Calls Try.prog 159 #[.pointer (some ⟨c, 0, none⟩)] w fun e w' => e = .returned (.bool true) ∧ w = w' := by
  obtain ⟨c0, c1, c2, c3, c4, c5⟩ := h.cells
  have hm1 := h.m1
  have hp : 0 < K.most := by omega
  go_enter Try.func159, Try.ntmps159
  go_wp2
  go_ret
  exact ⟨rfl, rfl⟩
theorem CacheAt.sectors (h : CacheAt w0 w c mk p K Y) (hd : Dev w0 w p ms mo D) : Calls Try.prog 110 #[.pointer (some ⟨c, 0, none⟩)] w fun e w' => e = .returned (.int .i64 D.n) ∧ w = w' := by
  obtain ⟨c0, c1, c2, c3, c4, c5⟩ := h.cells
  have hk := h.known
  go_enter Try.func110, Try.ntmps110
  go_wp2_with
    (first
      | (go_at_call 159; refine hk.mono ?_; rintro e w1 ⟨rfl, rfl⟩)
      | (go_at_call 56; refine (hd.sectors rfl).mono ?_; rintro e w1 ⟨rfl, rfl⟩))
  go_ret
  exact ⟨rfl, rfl⟩
theorem CacheAt.sync (h : CacheAt w0 w c mk p K Y) (hd : Dev w0 w p ms mo D) : Calls Try.prog 109 #[.pointer (some ⟨c, 0, none⟩)] w fun e w' => e = .returned (.int .i64 D.scode) ∧ Dev w0 w' p ms mo D.syncs ∧ Chg (DF p ms mo) w w' := by
  obtain ⟨c0, c1, c2, c3, c4, c5⟩ := h.cells
  have hk := h.known
  go_enter Try.func109, Try.ntmps109
  go_wp2_with
    (first
      | (go_at_call 159; refine hk.mono ?_; rintro e w1 ⟨rfl, rfl⟩)
      | (go_at_call 51; refine hd.syncs.mono ?_; rintro e w1 ⟨rfl, h1, h2⟩))
  go_ret
  exact ⟨rfl, h1, h2⟩
theorem CacheAt.counts (h : CacheAt w0 w c mk p K Y) : Calls Try.prog 106 #[.pointer (some ⟨c, 0, none⟩)] w fun e w' => e = .returned (.tuple #[.int .i64 K.hits, .int .i64 K.misses]) ∧ Below w.heap.size w w' := by
  obtain ⟨c0, c1, c2, c3, c4, c5⟩ := h.cells
  have hk := h.known
  have hl4 := fun W (e : W = w) => load_any W c 4 K.hits (by rw [e]; exact c4)
  have h4 : ∀ n, (w.drewN n).cell? ⟨c, 4, none⟩ = some (.int .i64 K.hits) := fun n => c4
  have h5 : ∀ n, (w.drewN n).cell? ⟨c, 5, none⟩ = some (.int .i64 K.misses) := fun n => c5
  have H4 := Lib.hid h4
  have H5 := Lib.hid h5
  clear h4 h5 hl4
  go_enter Try.func106, Try.ntmps106
  go_wp2_with
    (first
      | (go_at_call 159; refine hk.mono ?_; rintro e w1 ⟨rfl, rfl⟩))
  go_quiet ((first | (go_at_call 163; exact Calls.quiet_of_same (load_any _ c 4 K.hits (H4.out _))) | (go_at_call 163; exact Calls.quiet_of_same (load_any _ c 5 K.misses (H5.out _)))))
  go_wp2_with fail
  exact bodyPost_ret (v := .tuple #[.int .i64 K.hits, .int .i64 K.misses]) (by simp [results, Try.results106, go_sem]) rfl ⟨rfl, drewN_below (Below.refl _ _) _⟩
theorem CacheAt.drop (h : CacheAt w0 w c mk p K Y) : Calls Try.prog 104 #[.pointer (some ⟨c, 0, none⟩)] w fun e w' => e = .returned (.tuple #[]) ∧ CacheAt w0 w' c mk p { K with C := [] } Y ∧ Chg (CF c mk) w w' := by
  obtain ⟨c0, c1, c2, c3, c4, c5⟩ := h.cells
  have hk := h.known
  have hm := h.mp
  have hcm := h.ne
  go_enter Try.func104, Try.ntmps104
  go_wp2_with
    (first
      | (go_at_call 159; refine hk.mono ?_; rintro e w1 ⟨rfl, rfl⟩)
      | (refine wpList_clear Try.underlying119 Try.underlying3 rfl _ rfl mk rfl _ hm ?_; intro w6 hm6 hc6))
  go_end0
  refine ⟨rfl, ⟨(hc6.block c h.lt hcm).trans h.blk, ?_, KeptOk.nil _, ?_, h.m1, h.m2, h.n0, h.h0, h.s0, (fun e he => by cases he), h.gc, h.gm, fun b e => ⟨(h.y b e).1, Nat.lt_of_lt_of_le (h.y b e).2.1 hc6.size, (h.y b e).2.2⟩⟩, hc6.mono (fun b _ e => .inr e)⟩
  · exact hm6.congr (fun k => by simp [mapOf])
  · have := h.m1; simp; omega
theorem cnew_some (w : World) (hb : Below w0.heap.size w0 w) (hd : Dev w0 w p ms mo D) (n : Int) (h1 : 1 ≤ n) (h2 : n ≤ 9223372036854775807) :
    Calls Try.prog 65 #[.pointer (some ⟨p, 0, none⟩), .int .i64 n] w fun e w' => e = .returned (.pointer (some ⟨w.heap.size + 1, 0, none⟩)) ∧ CacheAt w0 w' (w.heap.size + 1) w.heap.size p ⟨n, 0, 0, 0, []⟩ (fun _ => False) ∧ Below w.heap.size w w' := by
  have hmm := @run_makeMap Try.prog
  have hn1 := hd.ok.n1
  have hz : (D.n == 0) = false := by simp; omega
  have hsz := hb.size
  go_enter Try.func65, Try.ntmps65
  go_wp2_with
    (first
      | (go_at_call 56; refine (hd.sectors rfl).mono ?_; rintro e w1 ⟨rfl, rfl⟩))
  go_ret
  refine ⟨rfl, ⟨?_, ?_, KeptOk.nil _, by simp; omega, h1, h2, by simp, by simp, by simp, (fun e he => by cases he), by omega, by omega, fun b e => e.elim⟩, below_alloc' (below_alloc' (Below.refl _ _) _) _⟩
  · have := heap_alloc_new (w.alloc (.map #[] 0)) (.cells #[.pointer (some ⟨p, 0, none⟩), .int .i64 n, .int .i64 0, .map (some w.heap.size), .int .i64 0, .int .i64 0] 126)
    simpa using this
  · refine (MapIs.new w).of_block ?_ |>.congr (fun k => by simp [mapOf])
    rw [Below.heap_alloc _ _ _ (by simp)]
theorem cnew_none (hd : Dev w0 w p ms mo D) (n : Int) (h1 : n < 1) :
    Calls Try.prog 65 #[.pointer (some ⟨p, 0, none⟩), .int .i64 n] w fun e w' => e = .returned (.pointer none) ∧ w = w' := by
  have hn1 := hd.ok.n1
  have hz : (D.n == 0) = false := by simp; omega
  go_enter Try.func65, Try.ntmps65
  go_wp2_with
    (first
      | (go_at_call 56; refine (hd.sectors rfl).mono ?_; rintro e w1 ⟨rfl, rfl⟩))
  go_ret
  exact ⟨rfl, rfl⟩
theorem cnew_nil (w : World) (n : Int) :
    Calls Try.prog 65 #[.pointer none, .int .i64 n] w fun e w' => e = .returned (.pointer none) ∧ w = w' := by
  go_enter Try.func65, Try.ntmps65
  go_wp2_with
    (first
      | (go_at_call 56; refine (dsectors_nil _).mono ?_; rintro e w1 ⟨rfl, rfl⟩))
  go_ret
  exact ⟨rfl, rfl⟩
set_option maxHeartbeats 1000000 in
theorem clone_own (w : World) (v : Value) (l : List Int) (hv : BytesIs w v l) (hl : l.length = 512) :
    Calls Try.prog 162 #[v] w fun e w' => ∃ v', e = .returned v' ∧ w'.ownsRow w.heap.size 5 1 v' 512 (bytesV l) ∧ Below w.heap.size w w' := by
  obtain ⟨A, cl, rfl, hcl, hcm, hA⟩ := hv
  rw [hl] at hcl ⊢
  obtain ⟨ad, rfl⟩ : ∃ ad, A = some ad := by
    obtain ⟨ad, e, _⟩ := hA 0 (.int .u8 (l.getD 0 0)) (by simp [bytesV, hl])
    exact ⟨ad, e⟩
  obtain ⟨ie, hi, hz, hsize, hby⟩ := info_parts (P := Try.prog) (e := 5) (z := .int .u8 0) (size := 1) (bytes := 1) (by kernel_rfl)
  have hal := below_alloc' (Below.refl _ w) (.cells #[] 5)
  have hlx : Hid ((bytesV l).length = 512 * 1) := Lib.hid (by rw [bytesV_len, hl])
  have hnil : ∀ W : World, (binOp .eql 47 (.slice (some ad) 512 cl) (.slice none 0 0)).run Try.prog W = .ok (.bool false) W := fun W => Lib.run_eql_slice_nil W 47 5 ad 512 cl 0 0 Try.underlying47
  have HA := Lib.hid hA
  have HL := Lib.hid hl
  clear hl hA
  go_enter Try.func162, Try.ntmps162
  go_wp2_with
    (first
      | (refine wpList_val (by rfl) (run_empty47 _) ?_)
      | (refine wpList_append_own _ (by rfl) _ _ 47 (by rfl) w.heap.size 5 ie (.int .u8 0) 1 1 Try.underlying47 hi hz hsize hby (by rfl) (by decide) (.slice (some ⟨w.heap.size, 0, none⟩) 0 0) 0 [] (by rfl) (ownsRow_empty (Nat.le_refl _) (heap_alloc_new w _)) ad 512 cl (bytesV l) (by rfl) hlx.out (fun j u hj => by obtain ⟨ad', e, h1⟩ := HA.out j u hj; cases e; exact (hal.cell (cell_lt h1)).trans h1) (bytesV_one _) (by decide) (by decide) (by simp) ?_
         intro v' w2 hown hgr _))
  go_ret
  exact ⟨_, rfl, by simpa using hown, below_grown (below_alloc' (Below.refl _ _) _) hgr (by intro k e; simp [Value.ownBlock] at e; omega)⟩
theorem clone_any (w : World) (v : Value) (l : List Int) (hv : BytesIs w v l) (hl : l.length = 512) :
    Calls Try.prog 162 #[v] w fun e w' => ∃ v', e = .returned v' ∧ BytesIs w' v' l ∧ (∀ b, v'.ownBlock = some b → w.heap.size ≤ b) ∧ Below w.heap.size w w' :=
  (clone_own w v l hv hl).mono fun e w' ⟨v', h1, h2, h3⟩ => ⟨v', h1, BytesIs.of_own hl h2, own_fresh h2, h3⟩
end
end Go.Proofs.Yteeamlidmkpohaa


/-
  The cache: keep.
-/
set_option linter.unusedVariables false
set_option linter.unusedSimpArgs false
namespace Go.Proofs.Yteeamlidmkpohaa
open Go.RowKit Go.Sort

theorem cellBlk {w : World} {b : Nat} {cs : Array Value} {t : TypeId} {fr : Nat × Nat} (h : w.heap[b]? = some (.cells cs t fr)) (i : Nat) (u : Value) (hu : cs[i]? = some u) : w.cell? ⟨b, i, none⟩ = some u := by
  simp [World.cell?, h, hu]
theorem sliceBlock {A : Option Addr} {n c m d : Nat} {b : Nat} (h : (Value.slice A n c).ownBlock = some b) : (Value.slice A m d).ownBlock = some b := by
  cases A with
  | none => cases h
  | some a => exact h
theorem step_len {P : Program} {w : World} {ops : Array Oper} {o : Oper} {a : Act} {K : Act → World → Prop} {Q : Exit → Act → World → Prop} {E : Prop} (hgd : o.guard = none) (x : Operand) (t : TypeId)
    (ho : o.op = .call { callee := .builtin .len, args := #[x], argTypes := #[t] }) (b : Nat) (n : Nat) (hx : a.eval x = .map (some b)) (k e : TypeId) (ht : P.underlying t = some (.map k e)) (es : Array MapEntry) (clock : Nat) (hb : w.heap[b]? = some (.map es clock)) (hn : es.size = n)
    (h : K (a.put o.dst (.int .i64 n)) w) : if Region.wanted o (yielded ops a.tmps) = true then Oper.wp P o a w K Q else E := by
  have hw : Region.wanted o (yielded ops a.tmps) = true := by simp [Region.wanted, hgd]
  rw [if_pos hw]
  have hr : (Builtin.len_ #[t] o.type #[.map (some b)]).run P w = .ok (.int .i64 n) w := by
    simp [Builtin.len_, run_underlying ht, run_getMap hb, hn, Result.andThen, goInt]
  unfold Oper.wp
  simp [execOp, ho, hx, hr, Result.andThen, resolve, invoke, builtin]
  exact h

theorem len_map {P : Program} {t k e ty : TypeId} (ht : P.underlying t = some (.map k e)) (b : Nat) (es : Array MapEntry) (clock n : Nat) (hn : es.size = n) :
    ∀ W : World, W.heap[b]? = some (.map es clock) → (Builtin.len_ #[t] ty #[.map (some b)]).run P W = .ok (.int .i64 n) W := fun W hb => by
  simp [Builtin.len_, run_underlying ht, run_getMap hb, hn, Result.andThen, goInt]
/-- what is kept behind a touch -/
def keepL (C : List CE) (e : CE) (most : Int) : List CE :=
  if ((without C e.k ++ [e]).length : Int) ≤ most then without C e.k ++ [e] else (without C e.k ++ [e]).tail

/-- a cache whose map may be one too long -/
structure CacheRaw (w0 w : World) (c mk p : Nat) (K : Ck) (C : List CE) (Y : Nat → Prop) : Prop where
  blk : w.heap[c]? = some (.cells #[.pointer (some ⟨p, 0, none⟩), .int .i64 K.most, .int .i64 K.now, .map (some mk), .int .i64 K.hits, .int .i64 K.misses] 126 (0, 0))
  mp : MapIs w mk (mapOf C)
  ok : KeptOk C K.now
  m1 : 1 ≤ K.most
  m2 : K.most ≤ 9223372036854775807
  n0 : 0 ≤ K.now
  h0 : 0 ≤ K.hits
  s0 : 0 ≤ K.misses
  rows : ∀ e ∈ C, BytesIs w e.v e.l ∧ IsSec e.l ∧ ∀ b, e.v.ownBlock = some b → Y b
  gc : w0.heap.size ≤ c
  gm : w0.heap.size ≤ mk
  y : ∀ b, Y b → w0.heap.size ≤ b ∧ b < w.heap.size ∧ b ≠ c ∧ b ≠ mk
theorem CacheRaw.done {w0 w : World} {c mk p : Nat} {K : Ck} {C : List CE} {Y : Nat → Prop} (h : CacheRaw w0 w c mk p K C Y) (hl : (C.length : Int) ≤ K.most) : CacheAt w0 w c mk p { K with C := C } Y :=
  ⟨h.blk, h.mp, h.ok, hl, h.m1, h.m2, h.n0, h.h0, h.s0, h.rows, h.gc, h.gm, h.y⟩
theorem CacheRaw.chg {F : Nat → Prop} {w0 w w' : World} {c mk p : Nat} {K : Ck} {C : List CE} {Y : Nat → Prop} (h : CacheRaw w0 w c mk p K C Y) (hc : Chg F w w') (h1 : ¬ F c) (h2 : ¬ F mk) (hY : ∀ b, Y b → ¬ F b) : CacheRaw w0 w' c mk p K C Y :=
  ⟨(hc.block c (Array.getElem?_eq_some_iff.1 h.blk).1 h1).trans h.blk, h.mp.chg hc h2, h.ok, h.m1, h.m2, h.n0, h.h0, h.s0, fun e he => ⟨(h.rows e he).1.chg hc (fun b e2 => hY b ((h.rows e he).2.2 b e2)), (h.rows e he).2⟩, h.gc, h.gm, fun b e => ⟨(h.y b e).1, Nat.lt_of_lt_of_le (h.y b e).2.1 hc.size, (h.y b e).2.2⟩⟩
/-- the map is written: a sector is put in -/
theorem CacheAt.putIn {w0 w w5 w7 : World} {c mk p : Nat} {K : Ck} {Y : Nat → Prop} (h : CacheAt w0 w c mk p { K with now := K.now + 1 } Y) (hok : KeptOk K.C K.now) (hn0 : 0 ≤ K.now) (hb5 : Below w.heap.size w w5) (e : CE) (ht : e.t = K.now + 1) (hv : BytesIs w5 e.v e.l) (hs : IsSec e.l) (hf : ∀ b, e.v.ownBlock = some b → w.heap.size ≤ b ∧ b < w5.heap.size)
    (hm : MapIs w7 mk (fun x => if x = e.k then some e.val else mapOf K.C x)) (hc : Chg (fun i => i = mk) w5 w7) :
    CacheRaw w0 w7 c mk p { K with now := K.now + 1 } (without K.C e.k ++ [e]) (fun b => Y b ∨ e.v.ownBlock = some b) := by
  have hcm := h.ne
  have hs5 := hb5.size
  have hs7 := hc.size
  have hml := h.mp.lt
  have hcl := h.lt
  have hsz := h.gc
  have hblk := (h.below hb5).blk
  refine ⟨(hc.block c (by omega) hcm).trans hblk, hm.congr (mapOf_put hok e ht), hok.put e ht, h.m1, h.m2, by show 0 ≤ K.now + 1; omega, h.h0, h.s0, fun x hx => ?_, h.gc, h.gm, fun b hb => ?_⟩
  · rw [List.mem_append] at hx
    rcases hx with hx | hx
    · have hr := h.rows x (List.mem_filter.1 hx).1
      refine ⟨(hr.1.below hb5).chg hc (fun b e2 e3 => (h.y b (hr.2.2 b e2)).2.2.2 e3), hr.2.1, fun b e2 => .inl (hr.2.2 b e2)⟩
    · simp only [List.mem_singleton] at hx
      subst hx
      exact ⟨hv.chg hc (fun b e2 e3 => by have := hf b e2; omega), hs, fun b e2 => .inr e2⟩
  · rcases hb with hb | hb
    · obtain ⟨y1, y2, y3, y4⟩ := h.y b hb
      exact ⟨y1, by omega, y3, y4⟩
    · have := hf b hb
      exact ⟨by omega, by omega, by omega, by omega⟩
/-- the eldest goes -/
theorem CacheRaw.cut {w0 w w' : World} {c mk p : Nat} {K : Ck} {e : CE} {C : List CE} {Y : Nat → Prop} (h : CacheRaw w0 w c mk p K (e :: C) Y) (hm : MapIs w' mk (fun x => if x = e.k then none else mapOf (e :: C) x)) (hc : Chg (fun i => i = mk) w w') : CacheRaw w0 w' c mk p K C Y := by
  have hok : KeptOk C K.now := by have := h.ok.tail; simpa using this
  have hcm : c ≠ mk := fun e2 => by
    obtain ⟨es, clock, hb, _⟩ := h.mp
    rw [← e2, h.blk] at hb
    cases hb
  refine ⟨(hc.block c (Array.getElem?_eq_some_iff.1 h.blk).1 hcm).trans h.blk, ?_, hok, h.m1, h.m2, h.n0, h.h0, h.s0, fun x hx => ?_, h.gc, h.gm, fun b e => ⟨(h.y b e).1, Nat.lt_of_lt_of_le (h.y b e).2.1 hc.size, (h.y b e).2.2⟩⟩
  · have := hm.congr (mapOf_without h.ok e.k)
    rwa [tail_without h.ok] at this
  · have hr := h.rows x (List.mem_cons_of_mem _ hx)
    exact ⟨hr.1.chg hc (fun b e2 e3 => (h.y b (hr.2.2 b e2)).2.2.2 e3), hr.2⟩
end Go.Proofs.Yteeamlidmkpohaa


/-
  The cache: keep, walked.
-/
set_option linter.unusedVariables false
set_option linter.unusedSimpArgs false
namespace Go.Proofs.Yteeamlidmkpohaa
open Go.RowKit Go.Sort

theorem zero211 (w : World) : (zeroValue 211).run Try.prog w = .ok (.agg #[.slice none 0 0, .int .i64 0]) w := by kernel_rfl
theorem look_up1 {P : Program} {t e : TypeId} (ht : P.underlying t = some (.map 3 e)) (h3 : P.underlying 3 = some (.int .i64)) {b : Nat} {f : Int → Option Value} (k : Int) (z : Value) (hz : ∀ w, (zeroValue e).run P w = .ok z w) :
    ∀ W, MapIs W b f → (Instr.lookup t (.map (some b)) (.int .i64 k) false).run P W = .ok ((f k).getD z) W := fun W hm => (run_lookup ht h3 hm k z (hz W)).2

theorem fld211_1 (A : Option Addr) (n c : Nat) (t : Int) (w : World) : (Instr.field 211 (.agg #[.slice A n c, .int .i64 t]) 1).run Try.prog w = .ok (.int .i64 t) w := by kernel_rfl
/-- the eldest is the first -/
theorem eldest_first {e x : CE} {C : List CE} {now : Int} (h : KeptOk (e :: C) now) (hx : x ∈ e :: C) (hm : ∀ y ∈ e :: C, x.t ≤ y.t) : x = e := by
  rcases List.mem_cons.1 hx with h1 | h1
  · exact h1
  · have := (List.pairwise_cons.1 h.times).1 x h1
    have := hm e (List.mem_cons_self ..)
    omega

section
variable {w0 w w' : World} {c mk p : Nat} {K : Ck} {Y : Nat → Prop}
set_option maxRecDepth 100000
set_option maxHeartbeats 4000000 in
theorem keep_any (h : CacheAt w0 w c mk p K Y) (k : Int) {v : Value} {l : List Int} (hv : BytesIs w v l) (hs : IsSec l) (hvc : ∀ b, v.ownBlock = some b → b ≠ c) (hnow : K.now < 9223372036854775806) :
    Calls Try.prog 161 #[.pointer (some ⟨c, 0, none⟩), .int .i64 k, v] w fun e w' => ∃ v' Y', e = .returned (.tuple #[]) ∧ CacheAt w0 w' c mk p { K with now := K.now + 1, C := keepL K.C ⟨k, l, v', K.now + 1⟩ K.most } Y' ∧ Chg (CF c mk) w w' ∧ Fresh w Y Y' := by
  obtain ⟨c0, c1, c2, c3, c4, c5⟩ := h.cells
  have f2 := h.free 2
  have hn0 := h.n0
  have hcl := h.lt
  have hml := h.mp.lt
  have hcm := h.ne
  have hA := h.self 2 (.int .i64 (K.now + 1)) (K.now + 1) K.hits K.misses (by omega) h.h0 h.s0 rfl
  have hvA := hv.chg (chg_setCell w c 2 (.int .i64 (K.now + 1))) (fun b e e2 => hvc b e e2)
  have hcA := chg_setCell w c 2 (.int .i64 (K.now + 1))
  have HA := Lib.hid hA
  have HVA := Lib.hid hvA
  have HCA := Lib.hid hcA
  have HS := Lib.hid hs
  have H := Lib.hid h
  clear hA hvA hcA hs h hv hvc
  go_enter Try.func161, Try.ntmps161
  go_wp2_with fail
  have hA := HA.out
  have hvA := HVA.out
  have hcA := HCA.out
  clear HA HVA HCA c0 c1 c2 c3 c4 c5 f2
  generalize w.setCell ⟨c, 2, none⟩ (.int .i64 (K.now + 1)) = wa at hA hvA hcA ⊢
  obtain ⟨a0, a1, a2, a3, a4, a5⟩ := hA.cells
  have hca := hA.lt
  have hAd := hA.chg (F := fun _ => False) ((Chg.refl _ wa).drew) (fun _ _ => id) (fun _ _ => id)
  have hvd := hvA.drew
  have HL := Lib.hid HS.out.1
  have HAD := Lib.hid hAd
  have HVD := Lib.hid hvd
  clear hAd hvd
  have d2 : wa.drew.cell? ⟨c, 2, none⟩ = some (.int .i64 (K.now + 1)) := a2
  have d3 : wa.drew.cell? ⟨c, 3, none⟩ = some (.map (some mk)) := a3
  go_region_held3 (fun w' => w'.cell? ⟨c, 3, none⟩ = some (.map (some mk)) ∧ w'.cell? ⟨c, 2, none⟩ = some (.int .i64 (K.now + 1))) (first | exact ⟨a3, a2⟩ | exact ⟨d3, d2⟩ | exact m5 | exact m7)
    (first
      | (go_at_call 162; refine (clone_any _ _ _ HVD.out HL.out).mono ?_
         rintro e w5 ⟨vn, rfl, hv5, hf5, hb5⟩
         have m5 : w5.cell? ⟨c, 3, none⟩ = some (.map (some mk)) ∧ w5.cell? ⟨c, 2, none⟩ = some (.int .i64 (K.now + 1)) := ⟨(hb5.cell (p := ⟨c, 3, none⟩) hca).trans d3, (hb5.cell (p := ⟨c, 2, none⟩) hca).trans d2⟩
         have hm5 := (HAD.out.below hb5).mp
         have HV5 := Lib.hid hv5
         obtain ⟨An, cn, rfl, hn1, hn2, hn3⟩ := hv5
         rw [HL.out] at hn1 HV5 ⊢
         obtain ⟨w7, hup, hm7, hc7⟩ := map_update w5 Try.underlying119 Try.underlying3 hm5 k (.agg #[.slice An 512 cn, .int .i64 (K.now + 1)])
         have m7 : w7.cell? ⟨c, 3, none⟩ = some (.map (some mk)) ∧ w7.cell? ⟨c, 2, none⟩ = some (.int .i64 (K.now + 1)) := ⟨(hc7.cell (p := ⟨c, 3, none⟩) (cell_lt m5.1) hcm).trans m5.1, (hc7.cell (p := ⟨c, 2, none⟩) (cell_lt m5.2) hcm).trans m5.2⟩))
  have hln : ∀ b, (Value.slice An 512 cn).ownBlock = some b → wa.drew.heap.size ≤ b ∧ b < w5.heap.size := fun b e => ⟨hf5 b (sliceBlock e), by
    obtain ⟨A9, c9, e9, _, _, h9⟩ := HV5.out
    simp only [Value.slice.injEq] at e9
    obtain ⟨rfl, _, rfl⟩ := e9
    cases An with
    | none => cases e
    | some ad =>
      cases e
      obtain ⟨ad', e8, h8⟩ := h9 0 (.int .u8 (l.getD 0 0)) (by simp [bytesV, HL.out])
      cases e8
      have := cell_lt h8
      rwa [add_block] at this⟩
  have hraw := HAD.out.putIn H.out.ok hn0 hb5 ⟨k, l, .slice An 512 cn, K.now + 1⟩ rfl HV5.out HS.out hln hm7 hc7
  have hC7 : Chg (CF c mk) w w7 := (((hcA.mono (fun _ _ e => Or.inl e)).drew).trans (Chg.of_below hb5)).then hc7 (fun _ _ e => .inr e)
  have hlnw : ∀ b, (Value.slice An 512 cn).ownBlock = some b → w.heap.size ≤ b := fun b e => Nat.le_trans hcA.size (hf5 b (sliceBlock e))
  clear m5 hm5 hup hm7 hc7 hb5 hf5 hln d2 d3 a0 a1 a2 a3 a4 a5 HAD HVD hcA hvA hA HV5 hn3
  simp only at hraw
  have HLW := Lib.hid hlnw
  have HC7 := Lib.hid hC7
  clear hlnw hC7
  have hkl : keepL K.C ⟨k, l, .slice An 512 cn, K.now + 1⟩ K.most = if ((without K.C k ++ [CE.mk k l (.slice An 512 cn) (K.now + 1)]).length : Int) ≤ K.most then without K.C k ++ [CE.mk k l (.slice An 512 cn) (K.now + 1)] else (without K.C k ++ [CE.mk k l (.slice An 512 cn) (K.now + 1)]).tail := rfl
  have HKL := Lib.hid hkl
  clear hkl
  have hlast : (CE.mk k l (.slice An 512 cn) (K.now + 1)) ∈ without K.C k ++ [CE.mk k l (.slice An 512 cn) (K.now + 1)] := by simp
  have hln : ((without K.C k ++ [CE.mk k l (.slice An 512 cn) (K.now + 1)]).length : Int) ≤ K.most + 1 := by
    have h1 := H.out.len
    have h2 : (without K.C k).length ≤ K.C.length := List.length_filter_le _ _
    simp only [List.length_append, List.length_singleton]
    omega
  have HLN := Lib.hid hln
  clear hln
  generalize without K.C k ++ [CE.mk k l (.slice An 512 cn) (K.now + 1)] = C' at hraw HKL hlast HLN
  have b1 : w7.cell? ⟨c, 1, none⟩ = some (.int .i64 K.most) := cellBlk hraw.blk 1 _ rfl
  have b3 : w7.cell? ⟨c, 3, none⟩ = some (.map (some mk)) := cellBlk hraw.blk 3 _ rfl
  have hmk7 := hraw.mp
  obtain ⟨es, clock, hbes, hoes⟩ := hmk7
  have hsz := kept_size hraw.ok hoes
  have HSZ := Lib.hid hsz
  have HBES := Lib.hid hbes
  have HOES := Lib.hid hoes
  have HRAW := Lib.hid hraw
  clear hsz hbes hoes hraw
  have e1 : w7.drew.cell? ⟨c, 1, none⟩ = some (.int .i64 K.most) := b1
  have e3 : w7.drew.cell? ⟨c, 3, none⟩ = some (.map (some mk)) := b3
  go_wp2_with fail
  have hlm := len_map (ty := 3) Try.underlying119 mk es clock C'.length HSZ.out
  have hb7' := HBES.out
  have hb7d : w7.drew.heap[mk]? = some (.map es clock) := HBES.out
  go_region_held3 (fun w' => w'.cell? ⟨c, 3, none⟩ = some (.map (some mk)) ∧ w'.cell? ⟨c, 1, none⟩ = some (.int .i64 K.most) ∧ w'.heap[mk]? = some (.map es clock)) (first | exact ⟨b3, b1, hb7'⟩ | exact ⟨e3, e1, hb7d⟩) (fail)
  clear hlm hb7' hb7d e1 e3 b1
  by_cases hle : (C'.length : Int) ≤ K.most
  · have HK2 := HKL.out
    rw [if_pos hle] at HK2
    have HKK := Lib.hid HK2
    have HLE := Lib.hid hle
    clear HK2
    go_wp2_with fail
    refine bodyPost_ret (results_none rfl _ _ _) rfl ⟨.slice An 512 cn, fun b => Y b ∨ (Value.slice An 512 cn).ownBlock = some b, rfl, ?_, HC7.out.drew, fun b e => ?_⟩
    · rw [HKK.out]
      have := HRAW.out.done HLE.out
      exact this.chg (F := fun _ => False) ((Chg.refl _ _).drew) (fun _ _ => id) (fun _ _ => id)
    · rcases e with e | e
      · exact .inl e
      · exact .inr (HLW.out b e)
  · have HK2 := HKL.out
    rw [if_neg hle] at HK2
    have HKK := Lib.hid HK2
    have HLE := Lib.hid hle
    have hle1 : decide ((C'.length : Int) ≤ K.most) = false := by simpa using hle
    have hm1 := H.out.m1
    obtain ⟨e0, C0, hC0⟩ : ∃ e0 C0, C' = e0 :: C0 := by
      cases C' with
      | nil => simp at hle; omega
      | cons a b => exact ⟨a, b, rfl⟩
    have HC0 := Lib.hid hC0
    clear HK2 hle hC0
    have hmp := HRAW.out.mp
    have hmpd : MapIs w7.drew mk (mapOf C') := hmp
    have hC7d := HC7.out.drew
    have hrawd : CacheRaw w0 w7.drew c mk p { K with now := K.now + 1 } C' (fun b => Y b ∨ (Value.slice An 512 cn).ownBlock = some b) := HRAW.out.chg (F := fun _ => False) ((Chg.refl _ _).drew) id id (fun _ _ => id)
    have b3d : w7.drew.cell? ⟨c, 3, none⟩ = some (.map (some mk)) := b3
    have HRD := Lib.hid hrawd
    have HCD := Lib.hid hC7d
    have HMD := Lib.hid hmpd
    clear hmp hmpd hC7d hrawd b3 HRAW HC7 HBES HOES HSZ
    generalize w7.drew = w8 at b3d HRD HCD HMD
    go_wp2_with
      (first
        | (refine wpList_range_map Try.underlying119 Try.underlying3 (by rfl) _ (by rfl) mk (by rfl) _ HMD.out ?_; intro ob hit; go_simp))
    have HR9 := Lib.hid (HRD.out.chg (F := fun _ => False) ((Chg.refl _ w8).alloc ob) id id (fun _ _ => id))
    have HC9 := Lib.hid (HCD.out.alloc ob)
    have hmk8 := HMD.out.lt
    have hYit : ∀ b, (Y b ∨ (Value.slice An 512 cn).ownBlock = some b) → b < w8.heap.size := fun b e => (HRD.out.y b e).2.1
    have HYI := Lib.hid hYit
    have hwi : w.heap.size ≤ w8.heap.size := HCD.out.size
    clear hYit
    have hc8 : c < w8.heap.size := cell_lt b3d
    have b3e : (w8.alloc ob).cell? ⟨c, 3, none⟩ = some (.map (some mk)) := ((below_alloc' (Below.refl _ w8) ob).cell (p := ⟨c, 3, none⟩) hc8).trans b3d
    have hitl : w8.heap.size < (w8.alloc ob).heap.size := by simp
    clear HRD HCD HMD b3d
    generalize w8.heap.size = it at hit hmk8 hc8 hitl HYI hwi ⊢
    generalize w8.alloc ob = w9 at hit HR9 HC9 b3e hitl ⊢
    have HIT := Lib.hid hit
    clear hit
    go_loopw [6] (fun s wr => ∃ (T : Int → Bool) (x : CE), x ∈ C' ∧ s = .int .i64 x.k ∧ (∀ y ∈ C', T y.k = true → x.t ≤ y.t) ∧ IterIs wr it mk (mapOf C') T ∧ Chg (fun b => b = it) w9 wr) (fun _ wr => leftOf wr it mk)
    case atStart => exact ⟨fun _ => false, _, hlast, rfl, fun y _ e => (Bool.noConfusion e), HIT.out, Chg.refl _ _⟩
    case round =>
      obtain ⟨T, x, hxC, rfl, hxm, hI, hcr⟩ := hrel
      rcases run_next (P := Try.prog) hI 0 with ⟨hall, w5, hnx, hc5⟩ | ⟨kk, vv, w5, hkv, hTk, hnx, hc5, hI5, hlf, hen⟩
      · have hc95 : Chg (fun b => b = it) w9 w5 := hcr.then hc5 (fun _ _ e => e.elim)
        have b35 := (hc95.cell (p := ⟨c, 3, none⟩) (cell_lt b3e) (by simp only; omega)).trans b3e
        have hR5 := HR9.out.chg hc95 (by omega) (by omega) (fun b e e2 => by have := HYI.out b e; omega)
        have hxe : x = e0 := by
          have hok := HR9.out.ok
          rw [HC0.out] at hok hxC hxm
          exact eldest_first hok hxC (fun y hy => hxm y hy (by
            refine hall y.k y.val ?_
            rw [HC0.out]
            exact (mapOf_some hok).2 ⟨y, hy, rfl, rfl⟩))
        have HXE := Lib.hid hxe
        have HALL := Lib.hid hall
        have HXC := Lib.hid hxC
        have HXM := Lib.hid hxm
        have HI := Lib.hid hI
        have HR5 := Lib.hid hR5
        have HC5 := Lib.hid hc95
        clear hxe hall hxC hxm hI hcr hR5 hc95
        go_wp2_with
          (first
            | (refine wpList_delete Try.underlying119 Try.underlying3 (by rfl) _ _ (by rfl) mk x.k (by rfl) (by rfl) _ HR5.out.mp ?_; intro w6 hm6 hc6))
        go_end0
        refine ⟨rfl, .slice An 512 cn, fun b => Y b ∨ (Value.slice An 512 cn).ownBlock = some b, ?_, ?_, fun b e => ?_⟩
        · have hR := HR5.out
          have hxe := HXE.out
          rw [HKK.out]
          rw [HC0.out] at hR hm6
          rw [hxe] at hm6
          have hcut := hR.cut hm6 hc6
          have hln := HLN.out
          rw [HC0.out] at hln
          have := hcut.done (by simp at hln; omega)
          rw [HC0.out]
          exact this
        · exact ((HC9.out.then HC5.out (fun i hi e => by omega)).then hc6 (fun i hi e => .inr e))
        · rcases e with e | e
          · exact .inl e
          · exact .inr (HLW.out b e)
      · obtain ⟨y, hyC, hyk, hyv⟩ := (mapOf_some HR9.out.ok).1 hkv
        subst hyk
        subst hyv
        obtain ⟨By, cy, hvy, _, _, _⟩ := (HR9.out.rows y hyC).1
        rw [(HR9.out.rows y hyC).2.1.1] at hvy
        obtain ⟨Bx, cx, hvx, _, _, _⟩ := (HR9.out.rows x hxC).1
        rw [(HR9.out.rows x hxC).2.1.1] at hvx
        have hval : y.val = .agg #[.slice By 512 cy, .int .i64 y.t] := by simp [CE.val, hvy]
        have hmx : mapOf C' x.k = some (.agg #[.slice Bx 512 cx, .int .i64 x.t]) := (mapOf_some HR9.out.ok).2 ⟨x, hxC, rfl, by simp [CE.val, hvx]⟩
        rw [hval] at hnx hen
        have hit := hI.lt
        have hc95 : Chg (fun b => b = it) w9 w5 := hcr.trans hc5
        have hs5 := hc95.size
        have b35 := (hc95.cell (p := ⟨c, 3, none⟩) (cell_lt b3e) (by simp only; omega)).trans b3e
        have hR5 := HR9.out.chg hc95 (by omega) (by omega) (fun b e e2 => by have := HYI.out b e; omega)
        have hlk := look_up1 Try.underlying119 Try.underlying3 (b := mk) (f := mapOf C') x.k (.agg #[.slice none 0 0, .int .i64 0]) zero211
        rw [hmx] at hlk
        simp only [Option.getD_some] at hlk
        have hbx := heap_alloc_new w5 (.cells #[.slice By 512 cy, .int .i64 y.t] 211)
        have hax := below_alloc' (Below.refl _ w5) (.cells #[.slice By 512 cy, .int .i64 y.t] 211)
        have b36 := (hax.cell (p := ⟨c, 3, none⟩) (cell_lt b35)).trans b35
        have hm6 := hR5.mp.chg (Chg.of_below (F := fun _ => False) hax) id
        have b7 := cellBlk hbx 1 _ rfl
        have HYC := Lib.hid hyC
        have HXC := Lib.hid hxC
        have HXM := Lib.hid hxm
        have HI5 := Lib.hid hI5
        have HLF := Lib.hid hlf
        have HC5 := Lib.hid hc95
        have HTK := Lib.hid hTk
        have HR5 := Lib.hid hR5
        clear hyC hxC hxm hI5 hlf hc95 hcr hvy hvx hval hmx hI hkv hTk hR5 hc5
        have S1 : (w5.alloc (.cells #[.slice By 512 cy, .int .i64 y.t] 211)).cell? ⟨w5.heap.size, 1, none⟩ = some (.int .i64 y.t) ∧ (w5.alloc (.cells #[.slice By 512 cy, .int .i64 y.t] 211)).cell? ⟨c, 3, none⟩ = some (.map (some mk)) ∧ MapIs (w5.alloc (.cells #[.slice By 512 cy, .int .i64 y.t] 211)) mk (mapOf C') := ⟨b7, b36, hm6⟩
        have S2 : (w5.alloc (.cells #[.slice By 512 cy, .int .i64 y.t] 211)).drew.cell? ⟨w5.heap.size, 1, none⟩ = some (.int .i64 y.t) ∧ (w5.alloc (.cells #[.slice By 512 cy, .int .i64 y.t] 211)).drew.cell? ⟨c, 3, none⟩ = some (.map (some mk)) ∧ MapIs (w5.alloc (.cells #[.slice By 512 cy, .int .i64 y.t] 211)).drew mk (mapOf C') := ⟨b7, b36, hm6⟩
        go_wp2_with fail
        have hfl := fld211_1 Bx 512 cx x.t
        have hI6 := Lib.hid (HI5.out.chg (F := fun _ => False) (((Chg.refl _ w5).alloc (.cells #[.slice By 512 cy, .int .i64 y.t] 211)).drew) id id)
        have hC6 := Lib.hid ((HC5.out.alloc (.cells #[.slice By 512 cy, .int .i64 y.t] 211)).drew)
        by_cases hlt : y.t < x.t
        · go_region_held3 (fun w' => w'.cell? ⟨w5.heap.size, 1, none⟩ = some (.int .i64 y.t) ∧ w'.cell? ⟨c, 3, none⟩ = some (.map (some mk)) ∧ MapIs w' mk (mapOf C')) (first | exact S1 | exact S2) (fail)
          go_wp2_with fail
          go_roundw
          case rel =>
            refine ⟨fun z => T z || z == y.k, y, HYC.out, rfl, fun z hz e => ?_, hI6.out.1, hC6.out⟩
            rcases Bool.or_eq_true_iff.1 e with e | e
            · have := HXM.out z hz e; omega
            · have e : z.k = y.k := by simpa using e
              rw [HR9.out.ok.uniq hz HYC.out e]
              omega
          case measure => rw [hI6.out.2]; exact HLF.out
        · go_region_held3 (fun w' => w'.cell? ⟨w5.heap.size, 1, none⟩ = some (.int .i64 y.t) ∧ w'.cell? ⟨c, 3, none⟩ = some (.map (some mk)) ∧ MapIs w' mk (mapOf C')) (first | exact S1 | exact S2) (fail)
          go_wp2_with fail
          go_roundw
          case rel =>
            refine ⟨fun z => T z || z == y.k, x, HXC.out, rfl, fun z hz e => ?_, hI6.out.1, hC6.out⟩
            rcases Bool.or_eq_true_iff.1 e with e | e
            · exact HXM.out z hz e
            · have e : z.k = y.k := by simpa using e
              rw [HR9.out.ok.uniq hz HYC.out e]
              omega
          case measure => rw [hI6.out.2]; exact HLF.out
end
end Go.Proofs.Yteeamlidmkpohaa
