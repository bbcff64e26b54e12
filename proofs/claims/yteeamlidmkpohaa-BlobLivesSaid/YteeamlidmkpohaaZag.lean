/-
  Rows of sectors: blob.may, blob.Read over a cache.
-/
import Derived.Test.YteeamlidmkpohaaZaf
import Derived.Maps.AppendAt
import Derived.Test.YteeamlidmkpohaaZaa
import Derived.RangeFuncBound
import Derived.Shelf.Abstract
import Derived.Shelf.RegionOpen
import Derived.OwnWalkIn
import Derived.TacticsInMore
import Derived.LoopNIn
import Derived.LoopIn
import Derived.Test.YteeamlidmkpohaaZae
import Derived.Deep.RegionHeld3
set_option linter.unusedVariables false
set_option linter.unusedSimpArgs false
set_option maxRecDepth 100000
namespace Go.Proofs.Yteeamlidmkpohaa
open Go.RowKit Go.Sort

/-- may so many sectors be had, from one on? -/
def Dk.inRow (D : Dk) (a n : Int) : Int := if a < 0 then 6 else if D.n < a then 6 else if D.n - a < n then 6 else 0
theorem inRow_cases (D : Dk) (a n : Int) : D.inRow a n = 6 ∨ (D.inRow a n = 0 ∧ 0 ≤ a ∧ a ≤ D.n ∧ n ≤ D.n - a) := by
  unfold Dk.inRow
  by_cases h1 : a < 0
  · rw [if_pos h1]; exact .inl rfl
  · by_cases h2 : D.n < a
    · rw [if_neg h1, if_pos h2]; exact .inl rfl
    · by_cases h3 : D.n - a < n
      · rw [if_neg h1, if_neg h2, if_pos h3]; exact .inl rfl
      · rw [if_neg h1, if_neg h2, if_neg h3]; exact .inr ⟨rfl, by omega, by omega, by omega⟩
/-- the bytes of so many sectors -/
def Dk.row (D : Dk) (a : Int) (n : Nat) : List Int := (List.range n).flatMap fun (i : Nat) => D.latest (a + i)
theorem Dk.row_succ (D : Dk) (a : Int) (n : Nat) : D.row a (n + 1) = D.row a n ++ D.latest (a + n) := by simp [Dk.row, List.range_succ]
theorem Dk.row_len {D : Dk} (h : D.Ok) (a : Int) : ∀ n, (D.row a n).length = n * 512
  | 0 => by simp [Dk.row]
  | n + 1 => by rw [Dk.row_succ, List.length_append, Dk.row_len h a n, (Dk.latest_sec h _).1]; omega
def Dk.rrcode (D : Dk) (a n : Int) : Int := if n < 0 ∨ 1024 < n then 2 else if D.inRow a n = 6 then 6 else if 0 < n ∧ D.down = true then 9 else 0
def Dk.rrow (D : Dk) (a n : Int) : List Int := if D.rrcode a n = 0 then D.row a n.toNat else []

section
variable {w0 w w' : World} {p ms mo c mk : Nat} {K K' : Ck} {Y Y' : Nat → Prop} {D D' : Dk} {N : Int}
set_option maxHeartbeats 1000000 in
theorem CD.bmay (h : CD w0 w p ms mo c mk K Y D) (a n : Int) :
    Calls Try.prog 167 #[.pointer (some ⟨c, 0, none⟩), .int .i64 a, .int .i64 n] w fun e w' => e = .returned (.int .i64 (D.inRow a n)) ∧ w = w' := by
  have hs := Lib.hid (h.ca.sectors h.dv)
  have hn1 := h.dv.ok.n1
  have hn2 := h.dv.ok.n2
  unfold Dk.inRow
  generalize D.n = dn at hs hn1 hn2 ⊢
  clear h
  by_cases h1 : a < 0
  · rw [if_pos h1]
    go_enter Try.func167, Try.ntmps167
    go_wp2
    go_ret
    exact ⟨rfl, rfl⟩
  · rw [if_neg h1]
    by_cases h2 : dn < a
    · rw [if_pos h2]
      go_enter Try.func167, Try.ntmps167
      go_wp2_with (go_at_call 110; refine hs.out.mono ?_; rintro e w1 ⟨rfl, rfl⟩)
      go_ret
      exact ⟨rfl, rfl⟩
    · rw [if_neg h2]
      by_cases h3 : dn - a < n
      · rw [if_pos h3]
        go_enter Try.func167, Try.ntmps167
        go_wp2_with (go_at_call 110; refine hs.out.mono ?_; rintro e w1 ⟨rfl, rfl⟩)
        go_ret
        exact ⟨rfl, rfl⟩
      · rw [if_neg h3]
        go_enter Try.func167, Try.ntmps167
        go_wp2_with (go_at_call 110; refine hs.out.mono ?_; rintro e w1 ⟨rfl, rfl⟩)
        go_ret
        exact ⟨rfl, rfl⟩

/-- what blob.Read tells, and what it leaves -/
def BRead (w0 w : World) (p ms mo c mk : Nat) (Y : Nat → Prop) (D : Dk) (N : Int) (a n : Int) (e : Ending) (w' : World) : Prop :=
  ∃ v K' Y', e = .returned (.tuple #[v, .int .i64 (D.rrcode a n)]) ∧ w'.ownsRow w.heap.size 5 1 v (D.rrow a n).length (bytesV (D.rrow a n)) ∧ (∀ b, v.ownBlock = some b → ¬ Y' b) ∧
    CD w0 w' p ms mo c mk K' Y' D ∧ FitN K' D (N + 1024) ∧ Chg (CF c mk) w w' ∧ Fresh w Y Y'

set_option maxHeartbeats 4000000 in
theorem CD.bread (h : CD w0 w p ms mo c mk K Y D) (hi : FitN K D N) (a n : Int) (hN : N < 900000000) :
    Calls Try.prog 115 #[.pointer (some ⟨c, 0, none⟩), .int .i64 a, .int .i64 n] w (BRead w0 w p ms mo c mk Y D N a n) := by
  have hs := Lib.hid (h.ca.sectors h.dv)
  have hm := Lib.hid (h.bmay a n)
  have hn1 := h.dv.ok.n1
  have hn2 := h.dv.ok.n2
  have H := Lib.hid h
  have HI := Lib.hid hi
  have hz : (D.n == 0) = false := by simp; omega
  have hno : ∀ r : Int, r ≠ 0 → D.rrcode a n = r → BRead w0 w p ms mo c mk Y D N a n (.returned (.tuple #[.slice none 0 0, .int .i64 r])) w := fun r hr e => by
    refine ⟨.slice none 0 0, K, Y, by rw [e], ?_, (fun b e => by cases e), H.out, HI.out.mono (by omega), Chg.refl _ _, Fresh.refl _ _⟩
    have : D.rrow a n = [] := by unfold Dk.rrow; rw [if_neg (by rw [e]; exact hr)]
    rw [this]
    exact World.ownsRow_nil _ _ _ _
  have HNO := Lib.hid hno
  have hok := h.dv.ok
  have HL := Lib.hid (Dk.row_len hok a)
  clear h hi hno hok
  by_cases h1 : n < 0 ∨ 1024 < n
  · have hc : Hid (D.rrcode a n = 2) := Lib.hid (by unfold Dk.rrcode; rw [if_pos h1])
    rcases h1 with h1 | h1
    iterate 2
      · go_enter Try.func115, Try.ntmps115
        go_wp2_with (go_at_call 110; refine hs.out.mono ?_; rintro e w1 ⟨rfl, rfl⟩)
        exact bodyPost_ret (v := .tuple #[.slice none 0 0, .int .i64 2]) (by simp [results, Try.results115, go_sem]) rfl (HNO.out 2 (by decide) hc.out)
  · have h10 : 0 ≤ n := by omega
    have h11 : n ≤ 1024 := by omega
    rcases inRow_cases D a n with h6 | ⟨h6, ha0, ha1, ha2⟩
    · have hc : Hid (D.rrcode a n = 6) := Lib.hid (by unfold Dk.rrcode; rw [if_neg h1, if_pos h6])
      have hm' := hm.out
      rw [h6] at hm'
      have HM := Lib.hid hm'
      clear hm' h6 h1
      go_enter Try.func115, Try.ntmps115
      go_wp2_with
        (first
          | (go_at_call 110; refine hs.out.mono ?_; rintro e w1 ⟨rfl, rfl⟩)
          | (go_at_call 167; refine HM.out.mono ?_; rintro e w1 ⟨rfl, rfl⟩))
      exact bodyPost_ret (v := .tuple #[.slice none 0 0, .int .i64 6]) (by simp [results, Try.results115, go_sem]) rfl (HNO.out 6 (by decide) hc.out)
    · have hc : Hid (∀ b, D.down = b → (n = 0 ∨ b = false) → D.rrcode a n = 0) := Lib.hid (fun b e e2 => by
        unfold Dk.rrcode
        rw [if_neg h1, if_neg (by omega), if_neg (by rintro ⟨x, y⟩; rcases e2 with e2 | e2; omega; rw [e, e2] at y; cases y)])
      have hc9 : Hid (D.down = true → 0 < n → D.rrcode a n = 9) := Lib.hid (fun e e2 => by
        unfold Dk.rrcode
        rw [if_neg h1, if_neg (by omega), if_pos ⟨e2, e⟩])
      have hm' := hm.out
      rw [h6] at hm'
      have HM := Lib.hid hm'
      obtain ⟨m, rfl⟩ : ∃ m : Nat, n = m := ⟨n.toNat, by omega⟩
      clear hm' h6 h1 hm
      obtain ⟨ie, hie, hze, hsize, hby⟩ := info_parts (P := Try.prog) (e := 5) (z := .int .u8 0) (size := 1) (bytes := 1) (by kernel_rfl)
      go_enter Try.func115, Try.ntmps115
      go_wp2_with
        (first
          | (go_at_call 110; refine hs.out.mono ?_; rintro e w1 ⟨rfl, rfl⟩)
          | (go_at_call 167; refine HM.out.mono ?_; rintro e w1 ⟨rfl, rfl⟩))
      go_loopw [9, 32] (fun s t wr => ∃ k : Nat, k ≤ m ∧ t = .int .i64 k ∧ (D.down = true → k = 0) ∧ ∃ K' Y', CD w0 wr p ms mo c mk K' Y' D ∧ FitN K' D (N + k) ∧ wr.ownsRow w.heap.size 5 1 s (k * 512) (bytesV (D.row a k)) ∧ (∀ b, s.ownBlock = some b → ¬ Y' b) ∧ Chg (CF c mk) w wr ∧ Fresh w Y Y') (fun _ t _ => m - (intOf t).toNat)
      case atStart => exact ⟨0, by omega, rfl, fun _ => rfl, K, Y, H.out, by simpa using HI.out, by simpa [Dk.row, bytesV] using World.ownsRow_nil w w.heap.size 5 1, (fun b e => by cases e), Chg.refl _ _, Fresh.refl _ _⟩
      case round =>
        obtain ⟨k, hk, rfl, hk0, K', Y', hcd, hfi, hro, hny, hch, hfr⟩ := hrel
        have HK0 := Lib.hid hk0
        have HR := Lib.hid (hcd.readsF hfi (a + k) (by omega))
        have HCD := Lib.hid hcd
        have HFI := Lib.hid hfi
        have HRO := Lib.hid hro
        have HNY := Lib.hid hny
        have HCH := Lib.hid hch
        have HFR := Lib.hid hfr
        clear hk0 hcd hfi hro hny hch hfr
        by_cases hlt : k < m
        · cases hd : D.down with
          | true =>
            have hk00 : k = 0 := HK0.out hd
            have hc2 : Hid (D.rrcode a m = 9) := Lib.hid (hc9.out hd (by omega))
            have hr := HR.out
            rw [mayDown hd] at hr
            have HR9 := Lib.hid hr
            have hrb : Hid (D.rrow a m = []) := Lib.hid (by unfold Dk.rrow; rw [hc2.out]; rfl)
            clear hr hd hk00
            go_wp2_with (go_at_call 105; refine HR9.out.mono ?_; rintro e w3 ⟨v3, K3, Y3, rfl, ho3, hy3, hcd3, hi3, hc3, hf3⟩)
            refine bodyPost_ret (v := .tuple #[.slice none 0 0, .int .i64 9]) (by simp [results, Try.results115, go_sem]) rfl ?_
            exact ⟨.slice none 0 0, K3, Y3, by rw [hc2.out], by rw [hrb.out]; exact World.ownsRow_nil _ _ _ _, (fun b e => by cases e), hcd3, hi3.mono (by omega), HCH.out.trans hc3, HFR.out.trans hf3 HCH.out.size⟩
          | false =>
            have hr := HR.out
            have hm0 : D.may (a + k) = 0 := mayOk hd (by omega) (by omega)
            have hrb : D.rbytes (a + k) = D.latest (a + k) := by simp [Dk.rbytes, hm0]
            rw [hrb, hm0, (Dk.latest_sec HCD.out.dv.ok _).1] at hr
            have HR0 := Lib.hid hr
            have HD := Lib.hid hd
            have hsec := Lib.hid (Dk.latest_sec HCD.out.dv.ok (a + k))
            have hgl : w.heap.size ≤ wr.heap.size := HCH.out.size
            clear hr hm0 hrb hd
            go_wp2_with
              (first
                | (go_at_call 105; refine HR0.out.mono ?_; rintro e w3 ⟨v3, K3, Y3, rfl, ho3, hy3, hcd3, hi3, hc3, hf3⟩
                   have hv3 := BytesIs.of_own hsec.out.1 ho3
                   obtain ⟨Bl, cl, rfl, hcl, hcm, hBl⟩ := hv3
                   rw [hsec.out.1] at hcl ⊢
                   obtain ⟨ad, rfl⟩ : ∃ ad, Bl = some ad := by
                     obtain ⟨ad, e, _⟩ := hBl 0 (.int .u8 ((D.latest (a + k)).getD 0 0)) (by simp [bytesV, hsec.out.1])
                     exact ⟨ad, e⟩
                   have hlt3 : ∀ b, u9.ownBlock = some b → w.heap.size ≤ b ∧ b < wr.heap.size := HRO.out.lt
                   have HO3 := Lib.hid (rowOwn_chg HRO.out hc3 (fun b e e2 => by have := hlt3 b e; have := (H.out.ca.cf b e2).2; omega))
                   have hny3 : ∀ b, u9.ownBlock = some b → ¬ Y3 b := fun b e e2 => by
                     rcases hf3 b e2 with e3 | e3
                     · exact HNY.out b e e3
                     · have := hlt3 b e; omega
                   have hgl3 : w.heap.size ≤ w3.heap.size := Nat.le_trans hgl hc3.size
                   have HNY3 := Lib.hid hny3
                   have HC3 := Lib.hid hc3
                   have HF3 := Lib.hid hf3
                   have HI3 := Lib.hid hi3
                   have HCD3 := Lib.hid hcd3
                   have HLT3 := Lib.hid hlt3
                   have hlx : Hid ((bytesV (D.latest (a + k))).length = 512 * 1) := Lib.hid (by rw [bytesV_len, hsec.out.1])
                   clear hny3 hc3 hf3 hi3 hcd3 hlt3 ho3 hy3 hcl)
                | (refine wpList_append_own_at _ (by rfl) _ _ 47 (by rfl) w.heap.size 5 ie (.int .u8 0) 1 1 Try.underlying47 hie hze hsize hby (by rfl) (by decide) u9 (k * 512) (bytesV (D.row a k)) (by rfl) HO3.out ad 512 cl (bytesV (D.latest (a + k))) (by rfl) hlx.out (fun j u hj => by obtain ⟨ad', e, h1⟩ := hBl j u hj; cases e; exact h1) (bytesV_one _) (by simp only [maxLen]; omega) (by omega) hgl3 ?_
                   intro v' w4 hown hgr _ hat))
            have hc4 : Chg (fun b => u9.ownBlock = some b) w3 w4 := (Chg.refl _ w3).grown hgr (fun b e _ => e)
            have hcd4 : CD w0 w4 p ms mo c mk K3 Y3 D := HCD3.out.chg hc4 (fun b e => by have := HLT3.out b e; have := H.out.dv.be.size; omega) (fun b e e2 => by have := HLT3.out b e2; have := H.out.dv.lt b e; omega) (fun b e e2 => by have := HLT3.out b e2; have := (H.out.ca.cf b e).2; omega) (fun b e e2 => HNY3.out b e2 e)
            have hch4 : Chg (CF c mk) w w4 := (HCH.out.trans HC3.out).then hc4 (fun b hb e => by have := HLT3.out b e; omega)
            have hny4 : ∀ b, v'.ownBlock = some b → ¬ Y3 b := fun b e e2 => by
              rcases hat with h1 | h1
              · exact HNY3.out b (h1 ▸ e) e2
              · rw [h1] at e; cases e
                have := (HCD3.out.ca.y _ e2).2.1; omega
            have hfr4 : Fresh w Y Y3 := HFR.out.trans HF3.out hgl
            have hown4 : w4.ownsRow w.heap.size 5 1 v' ((k + 1) * 512) (bytesV (D.row a (k + 1))) := by
              rw [Dk.row_succ, bytesV_append, show (k + 1) * 512 = k * 512 + 512 by omega]
              exact hown
            go_roundw
            case rel => exact ⟨k + 1, by omega, by go_num, (fun e => by first | cases e | (rw [HD.out] at e; cases e)), K3, Y3, hcd4, HI3.out.mono (by omega), hown4, hny4, hch4, hfr4⟩
            case measure => simp [intOf]; omega
        · obtain rfl : k = m := by omega
          have hc2 : Hid (D.rrcode a k = 0) := Lib.hid (by
            cases hd : D.down with
            | true => exact hc.out true hd (.inl (by have := HK0.out hd; omega))
            | false => exact hc.out false hd (.inr rfl))
          have hrb : Hid (D.rrow a k = D.row a k) := Lib.hid (by unfold Dk.rrow; rw [if_pos hc2.out]; simp)
          go_wp2
          refine bodyPost_ret (v := .tuple #[u9, .int .i64 0]) (by simp [results, Try.results115, go_sem]) rfl ?_
          exact ⟨u9, K', Y', by rw [hc2.out], by rw [hrb.out, HL.out k]; exact HRO.out, HNY.out, HCD.out, HFI.out.mono (by omega), HCH.out, HFR.out⟩
end
end Go.Proofs.Yteeamlidmkpohaa


/-
  blob.Write over a cache: the parts.
-/
set_option linter.unusedVariables false
set_option linter.unusedSimpArgs false
set_option maxRecDepth 100000
namespace Go.Proofs.Yteeamlidmkpohaa
open Go.RowKit Go.Sort Go.Shelf
attribute [local go_sem] Oper.semAt_some

/-- sectors written one by one, from a on, with n rows of 512 out of l: the device behind it, and the code -/
def Dk.bw : Nat → Dk → Int → List Int → Dk × Int
  | 0, D, _, _ => (D, 0)
  | n + 1, D, a, l => if D.wcode a (l.take 512) = 0 then Dk.bw n (D.writes a (l.take 512)) (a + 1) (l.drop 512) else (D.writes a (l.take 512), D.wcode a (l.take 512))

/-- a slice of a slice A of L elements, from i on -/
structure SubS (A : Option Addr) (L i : Nat) (A' : Option Addr) (n' c' : Nat) : Prop where
  len : n' + i = L
  le : n' ≤ c'
  cap : c' ≤ maxLen
  blk : ∀ ad', A' = some ad' → ∃ ad, A = some ad ∧ ad'.block = ad.block
  at_ : ∀ j, j < n' → ∃ ad ad', A = some ad ∧ A' = some ad' ∧ ad'.add j = ad.add (i + j)
theorem SubS.self {A : Option Addr} {L c : Nat} (h1 : L ≤ c) (h2 : c ≤ maxLen) (h3 : 0 < L → ∃ ad, A = some ad) : SubS A L 0 A L c :=
  ⟨by omega, h1, h2, fun ad' e => ⟨ad', e, rfl⟩, fun j hj => by obtain ⟨ad, e⟩ := h3 (by omega); exact ⟨ad, ad, e, e, by simp⟩⟩
theorem SubS.bytes {w : World} {A : Option Addr} {L i : Nat} {A' : Option Addr} {n' c' : Nat} {l : List Int} (h : SubS A L i A' n' c') (hl : l.length = L) (hb : CellsAt w A (bytesV l)) (n : Nat) (hn : n ≤ n') : BytesIs w (.slice A' n c') ((l.drop i).take n) := by
  have h1 := h.len
  have e : ((l.drop i).take n).length = n := by simp; omega
  refine ⟨A', c', by rw [e], by rw [e]; have := h.le; omega, h.cap, fun j u hu => ?_⟩
  have hj : j < n := by
    rw [← e]
    have := (List.getElem?_eq_some_iff.1 hu).1
    simpa [bytesV] using this
  obtain ⟨ad, ad', e1, e2, e3⟩ := h.at_ j (by omega)
  refine ⟨ad', e2, ?_⟩
  rw [e3]
  have hu' : (bytesV l)[i + j]? = some u := by
    rw [← hu]
    simp only [bytesV, List.getElem?_map, List.getElem?_take_of_lt hj, List.getElem?_drop]
  obtain ⟨ad2, e4, e5⟩ := hb _ _ hu'
  rw [e1] at e4; cases e4
  exact e5
theorem add_add (ad : Addr) (i j : Nat) : (ad.add i).add j = ad.add (i + j) := by
  unfold Addr.add
  by_cases h1 : i = 0
  · subst h1; simp
  · by_cases h2 : j = 0
    · subst h2; simp
    · rw [if_neg h2, if_neg h1, if_neg (by omega)]; simp; omega
theorem SubS.last {A : Option Addr} {L i : Nat} {A' : Option Addr} (h : SubS A L i A' 512 512) : SubS A L (i + 512) A' 0 0 :=
  ⟨by have := h.len; omega, by omega, by simp [maxLen], h.blk, fun j hj => by omega⟩
theorem SubS.step {A : Option Addr} {L i : Nat} {A' : Option Addr} {n' c' : Nat} (h : SubS A L i A' n' c') (hn : 512 ≤ n') : SubS A L (i + 512) (Option.map (fun x => { block := x.block, off := x.off + 512 }) A') (n' - 512) (c' - 512) := by
  have hl := h.len
  have hle := h.le
  have hc := h.cap
  refine ⟨by omega, by omega, by omega, fun ad' e => ?_, fun j hj => ?_⟩
  · cases A' with
    | none => cases e
    | some x =>
      cases e
      exact h.blk x rfl
  · obtain ⟨ad, ad', e1, e2, e3⟩ := h.at_ (512 + j) (by omega)
    subst e2
    refine ⟨ad, _, e1, rfl, ?_⟩
    have : (⟨ad'.block, ad'.off + 512, none⟩ : Addr) = ad'.add 512 := by simp [Addr.add]
    show (⟨ad'.block, ad'.off + 512, none⟩ : Addr).add j = _
    rw [this, add_add, e3]
    congr 1; omega
theorem CD.restrict {w0 w : World} {p ms mo c mk : Nat} {K : Ck} {Y : Nat → Prop} {D : Dk} (h : CD w0 w p ms mo c mk K Y D) : CD w0 w p ms mo c mk K (fun b => Y b ∧ ∃ o : Obj, w.heap[b]? = some o ∧ o.isCells = true) D := by
  have hca := h.ca
  refine ⟨h.dv, ⟨hca.blk, hca.mp, hca.ok, hca.len, hca.m1, hca.m2, hca.n0, hca.h0, hca.s0, fun e he => ?_, hca.gc, hca.gm, fun b e => hca.y b e.1⟩, h.a1, fun b e e2 => h.a2 b e e2.1⟩
  obtain ⟨h1, h2, h3⟩ := hca.rows e he
  refine ⟨h1, h2, fun b e2 => ⟨h3 b e2, ?_⟩⟩
  obtain ⟨A, cc, hv, _, _, hc⟩ := h1
  obtain ⟨ad, e3, hcell⟩ := hc 0 (.int .u8 (e.l.getD 0 0)) (by simp [bytesV, h2.1])
  rw [hv, e3] at e2
  simp [Value.ownBlock] at e2
  obtain ⟨o, ho, hco⟩ := cells_of_cell hcell
  exact ⟨o, by rw [← e2]; simpa [add_block] using ho, hco⟩
theorem CD.grown {w0 w w' : World} {p ms mo c mk : Nat} {K : Ck} {Y : Nat → Prop} {D : Dk} {B : Nat} {row : Option Nat} (h : CD w0 w p ms mo c mk K Y D) (hB : ∀ b, (DF p ms mo b ∨ CF c mk b) → b < B) (hB0 : w0.heap.size ≤ B) (hg : w.grownBy w' row) (hr : ∀ r, row = some r → B ≤ r ∧ ∃ o : Obj, w.heap[r]? = some o ∧ o.isCells = false) :
    ∃ Y', CD w0 w' p ms mo c mk K Y' D ∧ ∀ b, Y' b → Y b := by
  have hc : Chg (fun b => row = some b) w w' := (Chg.refl _ w).grown hg (fun k e _ => e)
  refine ⟨_, h.restrict.chg hc (fun b e => by have := (hr b e).1; omega) (fun b e e2 => by have := hB b (.inl e); have := (hr b e2).1; omega) (fun b e e2 => by have := hB b (.inr e); have := (hr b e2).1; omega) (fun b e e2 => ?_), fun b e => e.1⟩
  obtain ⟨_, o, ho, hco⟩ := e
  obtain ⟨_, o', ho', hco'⟩ := hr b e2
  rw [ho] at ho'; cases ho'
  rw [hco] at hco'; cases hco'
theorem chg_keepsFrom {F : Nat → Prop} {B : Nat} {W W' : World} (h : Chg F W W') (hF : ∀ b, F b → b < W.heap.size → b < B) : KeepsFrom B W W' :=
  ⟨h.size, fun k o hk ho hc => by
    have hlt := (Array.getElem?_eq_some_iff.1 ho).1
    exact (h.block k hlt (fun e => by have := hF k e hlt; omega)).trans ho⟩

theorem bsectors_any (w : World) (a : Int) (A : Option Addr) (n c : Nat) :
    Calls Try.prog 168 #[.int .i64 a, .slice A n c] w fun e w' => e = .returned (.func (.func 204) #[] #[.pointer (some ⟨w.heap.size + 1, 0, none⟩), .pointer (some ⟨w.heap.size, 0, none⟩)]) ∧ w' = (w.alloc (.cells #[.int .i64 a] 3)).alloc (.cells #[.slice A n c] 47) := by
  go_enter Try.func168, Try.ntmps168
  go_wp2
  go_ret
  exact ⟨rfl, rfl⟩
def leftB (g : Nat) (w : World) : Nat := match w.cell? ⟨g, 0, none⟩ with | some (.slice _ n _) => n | _ => 0
theorem leftB_box {g : Nat} {w : World} {A : Option Addr} {n c : Nat} (h : Boxed w g 47 (.slice A n c)) : leftB g w = n := by simp [leftB, h.cell]
theorem Boxed.chg {F : Nat → Prop} {W W' : World} {B : Nat} {t : TypeId} {v : Value} (h : Boxed W B t v) (hc : Chg F W W') (hF : ¬ F B) : Boxed W' B t v := (hc.block B h.lt hF).trans h

set_option maxHeartbeats 2000000 in
theorem biter (F : Fence) (n : Nat) (h204 : F.fn 204) (hro : F.round = none) (hn : 1 ≤ n) (l ga gb : Nat) (hab : ga ≠ gb) (A : Option Addr) (m : Nat) (a : Int) (ha0 : 0 ≤ a) (ha1 : a + m ≤ 262144) (Rd : Nat → World → Prop) (Bk St : World → Prop)
    (hst : ∀ i W W', Rd i W → Chg (fun b => b = ga ∨ b = gb) W W' → Rd i W') (hbk : ∀ W W', Bk W → Chg (fun b => b = ga ∨ b = gb) W W' → Bk W')
    (hY : ∀ i A' n' c' W, i < m → SubS A (512 * m) (512 * i) A' n' c' → Rd i W → Boxed W ga 3 (.int .i64 (a + i)) → Boxed W gb 47 (.slice A' n' c') → Bk W →
      YieldAt F (n - 1) Try.prog l #[.int .i64 (a + i), .slice A' 512 c'] W fun e W' => (e = .returned (.bool true) ∧ Rd (i + 1) W' ∧ Boxed W' ga 3 (.int .i64 (a + i)) ∧ Boxed W' gb 47 (.slice A' n' c') ∧ Bk W') ∨ (e = .returned (.bool false) ∧ St W'))
    (W : World) (A0 : Option Addr) (n0 c0 : Nat) (h0 : Rd 0 W) (hs0 : SubS A (512 * m) 0 A0 n0 c0) (hba : Boxed W ga 3 (.int .i64 (a + (0 : Nat)))) (hbb : Boxed W gb 47 (.slice A0 n0 c0)) (hk0 : Bk W) :
    CallsIn F n Try.prog 204 #[.func (.yield l) #[] #[], .pointer (some ⟨gb, 0, none⟩), .pointer (some ⟨ga, 0, none⟩)] W fun e W' => (∃ v, e = .returned v) ∧ ((Rd m W' ∧ Bk W') ∨ St W') := by
  refine callsIn_of_wp Try.func204 rfl h204 ?_ hro
  simp only [Try.ntmps204, List.size_toArray, List.length_cons, List.length_nil, Nat.reduceAdd, Nat.reduceSub, Array.replicate_succ, Array.replicate_zero, List.push_toArray, List.append_toArray, List.nil_append, List.cons_append]
  gi_wp2
  gi_loopw [4] (fun p wr => ∃ i A' n' c', i ≤ m ∧ SubS A (512 * m) (512 * i) A' n' c' ∧ Rd i wr ∧ Boxed wr ga 3 (.int .i64 (a + (i : Nat))) ∧ Boxed wr gb 47 (.slice A' n' c') ∧ Bk wr) (fun p wr => leftB gb wr)
  case atStart => exact ⟨0, A0, n0, c0, by omega, hs0, h0, hba, hbb, hk0⟩
  case round =>
    obtain ⟨i, A', n', c', hi, hs, hrd, hxa, hxb, hk⟩ := hrel
    have ca := hxa.cell
    have cb := hxb.cell
    have hln := hs.len
    by_cases hlt : i < m
    · have hn5 : 512 ≤ n' := by omega
      have hc5 : 512 ≤ c' := by have := hs.le; omega
      have hcm : c' ≤ 9223372036854775807 := by have := hs.cap; simp only [maxLen] at this; omega
      have hdr : Chg (fun b => b = ga ∨ b = gb) wr wr.drew := (Chg.refl _ wr).drew
      obtain ⟨fn, tmps, assign, body, hy, hR⟩ := hY i A' n' c' wr.drew hlt hs (hst _ _ _ hrd hdr) (Boxed.chg hxa (Chg.of_below (F := fun _ => False) (Below.refl _ wr).drew) id) (Boxed.chg hxb (Chg.of_below (F := fun _ => False) (Below.refl _ wr).drew) id) (hbk _ _ hk hdr)
      have hmx : Try.prog.follows .mixedOrders = true := by kernel_rfl
      gi_wp2
      have hR2 := hR.mono (R' := fun e W' => ∃ b, e = .returned (.bool b) ∧ (if b = true then Rd (i + 1) W' ∧ Boxed W' ga 3 (.int .i64 (a + i)) ∧ Boxed W' gb 47 (.slice A' n' c') ∧ Bk W' else St W')) (by
        rintro e W' (⟨rfl, g⟩ | ⟨rfl, g⟩)
        · exact ⟨true, rfl, by simpa using g⟩
        · exact ⟨false, rfl, by simpa using g⟩)
      have HR2 := Lib.hid hR2
      clear hR hR2
      refine wpIn_mono (Q := fun e a' W' => e = .normal ∧ ∃ b, a' = { tmps := #[.func (.yield l) #[] #[], .pointer (some ⟨gb, 0, none⟩), .pointer (some ⟨ga, 0, none⟩), undef, .slice A' n' c', .int .i64 n', .bool true, u7, u8, .func (.yield l) #[] #[], .int .i64 (a + i), .slice A' n' c', .slice A' 512 c', .bool b, .bool (!b), u15, u16], defers := [] } ∧ (if b = true then Rd (i + 1) W' ∧ Boxed W' ga 3 (.int .i64 (a + i)) ∧ Boxed W' gb 47 (.slice A' n' c') ∧ Bk W' else St W')) ?reg ?rest
      case reg =>
        gi_region_with_o (refine HR2.out.mono ?_; rintro e W' ⟨b, rfl, hb⟩; have HB := Lib.hid hb; clear hb)
        all_goals exact ⟨rfl, b, rfl, HB.out⟩
      case rest =>
        rintro e a' W' ⟨rfl, b, rfl, hb⟩
        cases b with
        | false =>
          have hb' : St W' := by simpa using hb
          clear hb
          gi_wp2
          refine bodyPost_ret (results_none rfl _ _ _) rfl ?_
          exact ⟨⟨_, rfl⟩, .inr hb'⟩
        | true =>
          obtain ⟨g1, g2, g3, g4⟩ : Rd (i + 1) W' ∧ Boxed W' ga 3 (.int .i64 (a + i)) ∧ Boxed W' gb 47 (.slice A' n' c') ∧ Bk W' := by simpa using hb
          have ea := g2.cell
          have eb := g3.cell
          have fa := g2.frozen
          have fb := g3.frozen
          clear hb
          have hne : ¬ gb = ga := fun e => hab e.symm
          have key : ∀ A2 n2 c2, SubS A (512 * m) (512 * i + 512) A2 n2 c2 → n2 < n' →
              (∃ i' A' n' c', i' ≤ m ∧ SubS A (512 * m) (512 * i') A' n' c' ∧ Rd i' ((W'.setCell ⟨gb, 0, none⟩ (.slice A2 n2 c2)).setCell ⟨ga, 0, none⟩ (.int .i64 (a + i + 1))) ∧ Boxed ((W'.setCell ⟨gb, 0, none⟩ (.slice A2 n2 c2)).setCell ⟨ga, 0, none⟩ (.int .i64 (a + i + 1))) ga 3 (.int .i64 (a + (i' : Nat))) ∧ Boxed ((W'.setCell ⟨gb, 0, none⟩ (.slice A2 n2 c2)).setCell ⟨ga, 0, none⟩ (.int .i64 (a + i + 1))) gb 47 (.slice A' n' c') ∧ Bk ((W'.setCell ⟨gb, 0, none⟩ (.slice A2 n2 c2)).setCell ⟨ga, 0, none⟩ (.int .i64 (a + i + 1)))) ∧
              leftB gb ((W'.setCell ⟨gb, 0, none⟩ (.slice A2 n2 c2)).setCell ⟨ga, 0, none⟩ (.int .i64 (a + i + 1))) < leftB gb wr := by
            intro A2 n2 c2 hs2 hn2
            have hca : Chg (fun b => b = ga ∨ b = gb) W' ((W'.setCell ⟨gb, 0, none⟩ (.slice A2 n2 c2)).setCell ⟨ga, 0, none⟩ (.int .i64 (a + i + 1))) := (((Chg.refl _ W').setCell (p := ⟨gb, 0, none⟩) (fun _ => .inr rfl) _).setCell (p := ⟨ga, 0, none⟩) (fun _ => .inl rfl) _)
            have hb1 : Boxed (W'.setCell ⟨gb, 0, none⟩ (.slice A2 n2 c2)) ga 3 (.int .i64 (a + i)) := Boxed.chg g2 (chg_setCell W' gb 0 _) hab
            have hb2 : Boxed ((W'.setCell ⟨gb, 0, none⟩ (.slice A2 n2 c2)).setCell ⟨ga, 0, none⟩ (.int .i64 (a + i + 1))) gb 47 (.slice A2 n2 c2) := Boxed.chg (Boxed.set _ g3) (chg_setCell _ ga 0 _) hne
            refine ⟨⟨i + 1, A2, n2, c2, by omega, by rw [show 512 * (i + 1) = 512 * i + 512 by omega]; exact hs2, hst _ _ _ g1 hca, ?_, hb2, hbk _ _ g4 hca⟩, ?_⟩
            · have := Boxed.set (.int .i64 (a + i + 1)) hb1
              rw [show a + ((i + 1 : Nat) : Int) = a + i + 1 by omega]
              exact this
            · rw [leftB_box hb2, leftB_box hxb]; exact hn2
          have KEY := Lib.hid key
          clear key
          by_cases hcc : c' = 512
          · subst hcc
            obtain rfl : n' = 512 := by have := hs.le; omega
            have HS := Lib.hid hs.last
            gi_wp2
            exact KEY.out _ _ _ HS.out (by omega)
          · have HS := Lib.hid (hs.step hn5)
            gi_wp2
            exact KEY.out _ _ _ HS.out (by omega)
    · have hn5 : n' = 0 := by omega
      subst hn5
      have hR : Hid (Rd m wr ∧ Bk wr) := Lib.hid (by have e : i = m := (by omega); rw [e] at hrd; exact ⟨hrd, hk⟩)
      gi_wp2
      go_end0
      exact ⟨⟨_, rfl⟩, .inl hR.out⟩
end Go.Proofs.Yteeamlidmkpohaa


/-
  blob.Write over a cache.
-/
set_option linter.unusedVariables false
set_option linter.unusedSimpArgs false
set_option maxRecDepth 100000
namespace Go.Proofs.Yteeamlidmkpohaa
open Go.RowKit Go.Sort Go.Shelf
attribute [local go_sem] Oper.semAt_some

def Dk.bwr (D : Dk) (a : Int) (l : List Int) : Dk × Int :=
  if l.length % 512 ≠ 0 then (D, 2) else if D.inRow a ((l.length / 512 : Nat) : Int) = 6 then (D, 6) else Dk.bw (l.length / 512) D a l

section
variable {w0 w w' : World} {p ms mo c mk : Nat} {K K' : Ck} {Y Y' : Nat → Prop} {D D' : Dk} {N : Int}
def BWrite (w0 w : World) (p ms mo c mk : Nat) (Y : Nat → Prop) (R : Dk × Int) (N : Int) (e : Ending) (w' : World) : Prop :=
  ∃ K' Y', e = .returned (.int .i64 R.2) ∧ CD w0 w' p ms mo c mk K' Y' R.1 ∧ FitN K' R.1 (N + 262144) ∧ Chg (fun b => DF p ms mo b ∨ CF c mk b) w w' ∧ Fresh w Y Y'

set_option maxHeartbeats 2000000 in
theorem bwrite_arg (h : CD w0 w p ms mo c mk K Y D) (hi : FitN K D N) (a : Int) (A : Option Addr) (n cc : Nat) (hn : n % 512 ≠ 0) (hm : n ≤ 9223372036854775807) :
    Calls Try.prog 116 #[.pointer (some ⟨c, 0, none⟩), .int .i64 a, .slice A n cc] w (BWrite w0 w p ms mo c mk Y (D, 2) N) := by
  have hs := Lib.hid (h.below (below_alloc' (below_alloc' (Below.refl _ w) (.cells #[.pointer (some ⟨c, 0, none⟩)] 63)) (.cells #[.int .i64 0] 44)))
  have hs2 := Lib.hid (hs.out.ca.sectors hs.out.dv)
  have hn1 := h.dv.ok.n1
  have H := Lib.hid h
  have HI := Lib.hid hi
  have hr : ((n : Int) % 512 != 0) = true := by simp; omega
  clear h hi
  go_enter Try.func116, Try.ntmps116
  go_wp2_with (go_at_call 110; refine hs2.out.mono ?_; rintro e w1 ⟨rfl, rfl⟩)
  refine bodyPost_ret (v := .int .i64 2) (by simp [results, Try.results116, go_sem]) rfl ?_
  have hb := below_alloc' (below_alloc' (Below.refl _ w) (.cells #[.pointer (some ⟨c, 0, none⟩)] 63)) (.cells #[.int .i64 2] 44)
  exact ⟨K, Y, rfl, H.out.below hb, HI.out.mono (by omega), Chg.of_below hb, Fresh.refl _ _⟩
set_option maxHeartbeats 2000000 in
theorem bwrite_none (h : CD w0 w p ms mo c mk K Y D) (hi : FitN K D N) (a : Int) (A : Option Addr) (n cc : Nat) (hn : n % 512 = 0) (hm : n ≤ 9223372036854775807) (h6 : D.inRow a ((n / 512 : Nat) : Int) = 6) :
    Calls Try.prog 116 #[.pointer (some ⟨c, 0, none⟩), .int .i64 a, .slice A n cc] w (BWrite w0 w p ms mo c mk Y (D, 6) N) := by
  have hs := Lib.hid (h.below (below_alloc' (below_alloc' (Below.refl _ w) (.cells #[.pointer (some ⟨c, 0, none⟩)] 63)) (.cells #[.int .i64 0] 44)))
  have hs2 := Lib.hid (hs.out.ca.sectors hs.out.dv)
  have hs3 := hs.out.bmay a ((n / 512 : Nat) : Int)
  rw [h6] at hs3
  obtain ⟨m, hm2⟩ : ∃ m : Nat, n = 512 * m := ⟨n / 512, by omega⟩
  subst hm2
  have e5 : 512 * m / 512 = m := by omega
  rw [e5] at hs3
  have HS3 := Lib.hid hs3
  have hn1 := h.dv.ok.n1
  have H := Lib.hid h
  have HI := Lib.hid hi
  have hr : (((512 * m : Nat) : Int) % 512 != 0) = false := by simp
  have hq : (((512 * m : Nat) : Int) / 512) = (m : Int) := by omega
  clear h hi hn h6 e5 hs3
  go_enter Try.func116, Try.ntmps116
  go_wp2_with
    (first
      | (go_at_call 110; refine hs2.out.mono ?_; rintro e w1 ⟨rfl, rfl⟩)
      | (go_at_call 167; refine HS3.out.mono ?_; rintro e w1 ⟨rfl, rfl⟩))
  refine bodyPost_ret (v := .int .i64 6) (by simp [results, Try.results116, go_sem]) rfl ?_
  have hb := below_alloc' (below_alloc' (Below.refl _ w) (.cells #[.pointer (some ⟨c, 0, none⟩)] 63)) (.cells #[.int .i64 6] 44)
  exact ⟨K, Y, rfl, H.out.below hb, HI.out.mono (by omega), Chg.of_below hb, Fresh.refl _ _⟩

/-- between two rounds, i rows written; w4: the world in which the loop began -/
def Cr (w0 w w4 : World) (p ms mo c mk : Nat) (Y : Nat → Prop) (D : Dk) (N : Int) (a : Int) (l : List Int) (m i : Nat) (W : World) : Prop :=
  ∃ K' Y' D', CD w0 W p ms mo c mk K' Y' D' ∧ FitN K' D' (N + i) ∧ D'.n = D.n ∧ Dk.bw m D a l = Dk.bw (m - i) D' (a + i) (l.drop (512 * i)) ∧ Chg (fun b => DF p ms mo b ∨ CF c mk b) w W ∧ Fresh w4 Y Y' ∧
    Boxed W w.heap.size 63 (.pointer (some ⟨c, 0, none⟩)) ∧ Boxed W (w.heap.size + 1) 44 (.int .i64 0)
/-- a round has left -/
def Lf (w0 w w4 : World) (p ms mo c mk : Nat) (Y : Nat → Prop) (R : Dk × Int) (N : Int) (W : World) : Prop :=
  ∃ K' Y', CD w0 W p ms mo c mk K' Y' R.1 ∧ FitN K' R.1 (N + 262144) ∧ Chg (fun b => DF p ms mo b ∨ CF c mk b) w W ∧ Fresh w4 Y Y' ∧ Boxed W (w.heap.size + 1) 44 (.int .i64 R.2)
theorem boxed_grown {B : Nat} {W W' : World} {row : Option Nat} {g : Nat} {t : TypeId} {v : Value} (h : Boxed W g t v) (hg : W.grownBy W' row) (hr : ∀ r, row = some r → B ≤ r ∧ ∃ o : Obj, W.heap[r]? = some o ∧ o.isCells = false) : Boxed W' g t v := by
  refine h.kept hg (fun e => ?_)
  obtain ⟨_, o, ho, hc⟩ := hr g e.symm
  rw [show W.heap[g]? = _ from h] at ho
  cases ho; cases hc
theorem Fresh.less {w : World} {Y Y1 Y2 : Nat → Prop} (h : Fresh w Y Y1) (h2 : ∀ b, Y2 b → Y1 b) : Fresh w Y Y2 := fun b e => h b (h2 b e)
theorem Cr.abides {w4 : World} {a : Int} {l : List Int} {m i : Nat} (hw : w.heap.size ≤ w4.heap.size) (h0 : w0.heap.size ≤ w.heap.size) (hq : ∀ b, (DF p ms mo b ∨ CF c mk b) → b < w.heap.size) : Abides w4.heap.size (Cr w0 w w4 p ms mo c mk Y D N a l m i) := by
  rintro W W' row ⟨K', Y', D', h1, h2, h3, h4, h5, h6, h7, h8⟩ hg hr
  obtain ⟨Y2, g1, g2⟩ := h1.grown (B := w4.heap.size) (fun b e => by have := hq b e; omega) (by omega) hg hr
  exact ⟨K', Y2, D', g1, h2, h3, h4, h5.grown hg (fun k e hk => by have := (hr k e).1; omega), h6.less g2, boxed_grown h7 hg hr, boxed_grown h8 hg hr⟩
theorem Lf.abides {w4 : World} {R : Dk × Int} (hw : w.heap.size ≤ w4.heap.size) (h0 : w0.heap.size ≤ w.heap.size) (hq : ∀ b, (DF p ms mo b ∨ CF c mk b) → b < w.heap.size) : Abides w4.heap.size (Lf w0 w w4 p ms mo c mk Y R N) := by
  rintro W W' row ⟨K', Y', h1, h2, h5, h6, h8⟩ hg hr
  obtain ⟨Y2, g1, g2⟩ := h1.grown (B := w4.heap.size) (fun b e => by have := hq b e; omega) (by omega) hg hr
  exact ⟨K', Y2, g1, h2, h5.grown hg (fun k e hk => by have := (hr k e).1; omega), h6.less g2, boxed_grown h8 hg hr⟩
/-- the iterator's boxes are written -/
theorem Cr.boxes {w4 W W' : World} {a : Int} {l : List Int} {m i : Nat} (h : Cr w0 w w4 p ms mo c mk Y D N a l m i W) (hc : Chg (fun b => b = w.heap.size + 2 ∨ b = w.heap.size + 3) W W') (hw : w4.heap.size = w.heap.size + 4) (h0 : w0.heap.size ≤ w.heap.size) (hq : ∀ b, (DF p ms mo b ∨ CF c mk b) → b < w.heap.size) (hy : ∀ b, Y b → b < w.heap.size) : Cr w0 w w4 p ms mo c mk Y D N a l m i W' := by
  obtain ⟨K', Y', D', h1, h2, h3, h4, h5, h6, h7, h8⟩ := h
  refine ⟨K', Y', D', h1.chg hc (fun b e => by omega) (fun b e e2 => by have := hq b (.inl e); omega) (fun b e e2 => by have := hq b (.inr e); omega) (fun b e e2 => ?_), h2, h3, h4, h5.then hc (fun b hb e => by omega), h6, Boxed.chg h7 hc (by omega), Boxed.chg h8 hc (by omega)⟩
  rcases h6 b e with e3 | e3
  · have := hy b e3; omega
  · omega
theorem Lf.fin {w4 W : World} {R : Dk × Int} {D4 : Nat} (h : Lf w0 w w4 p ms mo c mk Y R N W) (hw : w.heap.size ≤ w4.heap.size) (h0 : w0.heap.size ≤ w.heap.size) (hq : ∀ b, (DF p ms mo b ∨ CF c mk b) → b < w.heap.size) (hD : w4.heap.size ≤ D4) (hK : W.heap[D4]? = some (.deferred (some []))) :
    BWrite w0 w p ms mo c mk Y R N (.returned (.int .i64 R.2)) (W.putObj D4 (.deferred none)) ∧ (W.putObj D4 (.deferred none)).cell? ⟨w.heap.size + 1, 0, none⟩ = some (.int .i64 R.2) := by
  obtain ⟨K', Y', h1, h2, h3, h4, h5⟩ := Lf.abides hw h0 hq W _ _ h (grownBy_putObj' W D4 (.deferred none)) (fun r e => by cases e; exact ⟨hD, _, hK, rfl⟩)
  exact ⟨⟨K', Y', rfl, h1, h2, h3, fun b e => (h4 b e).imp id (fun e => by omega)⟩, h5.cell⟩
theorem Cr.leave {w4 W : World} {a : Int} {l : List Int} {m : Nat} (h : Cr w0 w w4 p ms mo c mk Y D N a l m m W) (hm : m ≤ 262144) (hw : w4.heap.size = w.heap.size + 4) (h0 : w0.heap.size ≤ w.heap.size) (hq : ∀ b, (DF p ms mo b ∨ CF c mk b) → b < w.heap.size) (hy : ∀ b, Y b → b < w.heap.size) : (Dk.bw m D a l).2 = 0 ∧ Lf w0 w w4 p ms mo c mk Y (Dk.bw m D a l) N (W.setCell ⟨w.heap.size + 1, 0, none⟩ (.int .i64 0)) := by
  obtain ⟨K', Y', D', h1, h2, h3, h4, h5, h6, h7, h8⟩ := h
  have e : Dk.bw m D a l = (D', 0) := by rw [h4]; simp [Dk.bw]
  rw [e]
  have hc := chg_setCell W (w.heap.size + 1) 0 (.int .i64 0)
  refine ⟨rfl, K', Y', h1.chg hc (fun b e => by omega) (fun b e e2 => by have := hq b (.inl e); omega) (fun b e e2 => by have := hq b (.inr e); omega) (fun b e e2 => ?_), h2.mono (by omega), h5.then hc (fun b hb e => by omega), h6, Boxed.set _ h8⟩
  rcases h6 b e with e3 | e3
  · have := hy b e3; omega
  · omega
theorem bw_step {D : Dk} {a : Int} {l : List Int} {m i : Nat} (hi : i < m) : Dk.bw (m - i) D (a + i) (l.drop (512 * i)) =
    if D.wcode (a + i) ((l.drop (512 * i)).take 512) = 0 then Dk.bw (m - (i + 1)) (D.writes (a + i) ((l.drop (512 * i)).take 512)) (a + ((i + 1 : Nat) : Int)) (l.drop (512 * (i + 1))) else (D.writes (a + i) ((l.drop (512 * i)).take 512), D.wcode (a + i) ((l.drop (512 * i)).take 512)) := by
  obtain ⟨k, hk⟩ : ∃ k, m - i = k + 1 := ⟨m - i - 1, by omega⟩
  rw [hk, Dk.bw]
  have e1 : m - (i + 1) = k := by omega
  have e2 : (a + (i : Int)) + 1 = a + ((i + 1 : Nat) : Int) := by omega
  rw [e1, e2, List.drop_drop, show 512 * (i + 1) = 512 * i + 512 by omega]

set_option maxHeartbeats 4000000 in
theorem bwrite_go (h : CD w0 w p ms mo c mk K Y D) (hi : FitN K D N) (a : Int) (A : Option Addr) (m cc : Nat) (l : List Int) (hl : l.length = 512 * m) (hv : BytesIs w (.slice A (512 * m) cc) l) (hb : Bytey l) (hvd : ∀ b, (Value.slice A (512 * m) cc).ownBlock = some b → ¬ DF p ms mo b) (hvc : ∀ b, (Value.slice A (512 * m) cc).ownBlock = some b → ¬ CF c mk b)
    (ha0 : 0 ≤ a) (ha1 : a + m ≤ D.n) (h6 : D.inRow a (m : Int) = 0) (hN : N < 900000000) :
    Calls Try.prog 116 #[.pointer (some ⟨c, 0, none⟩), .int .i64 a, .slice A (512 * m) cc] w (BWrite w0 w p ms mo c mk Y (Dk.bw m D a l) N) := by
  have hs := Lib.hid (h.below (below_alloc' (below_alloc' (Below.refl _ w) (.cells #[.pointer (some ⟨c, 0, none⟩)] 63)) (.cells #[.int .i64 0] 44)))
  have hs2 := Lib.hid (hs.out.ca.sectors hs.out.dv)
  have hs3 := hs.out.bmay a (m : Int)
  rw [h6] at hs3
  have HS3 := Lib.hid hs3
  have hn1 := h.dv.ok.n1
  have hn2 := h.dv.ok.n2
  have H := Lib.hid h
  have HI := Lib.hid hi
  have hr : (((512 * m : Nat) : Int) % 512 != 0) = false := by simp
  have hq : (((512 * m : Nat) : Int) / 512) = (m : Int) := by omega
  have hm9 : 512 * m ≤ 9223372036854775807 := by omega
  have HL := Lib.hid hl
  have HV := Lib.hid hv
  have HB := Lib.hid hb
  have HVD := Lib.hid hvd
  have HVC := Lib.hid hvc
  clear h hi h6 hs3 hl hv hb hvd hvc
  refine (callsIn_wide (n := 6)).1 ?_
  refine callsIn_of_wp_marks Try.func116 rfl trivial ?_ rfl
  simp only [Try.ntmps116, List.size_toArray, List.length_cons, List.length_nil, Nat.reduceAdd, Nat.reduceSub, Array.replicate_succ, Array.replicate_zero, List.push_toArray, List.append_toArray, List.nil_append, List.cons_append]
  gi_wp2_with
    (first
      | (refine ⟨trivial, ?_⟩; gi_at_call 110; refine (callsIn_wide.2 hs2.out).mono ?_; rintro e w1 ⟨rfl, rfl⟩)
      | (refine ⟨trivial, ?_⟩; gi_at_call 167; refine (callsIn_wide.2 HS3.out).mono ?_; rintro e w1 ⟨rfl, rfl⟩)
      | (refine ⟨trivial, ?_⟩; gi_at_call 168; refine (callsIn_wide.2 (bsectors_any _ _ _ _ _)).mono ?_; rintro e w1 ⟨rfl, rfl⟩))
  have hB4 : Below w.heap.size w ((((w.alloc (.cells #[.pointer (some ⟨c, 0, none⟩)] 63)).alloc (.cells #[.int .i64 0] 44)).alloc (.cells #[.int .i64 a] 3)).alloc (.cells #[.slice A (512 * m) cc] 47)) := below_alloc' (below_alloc' (below_alloc' (below_alloc' (Below.refl _ w) _) _) _) _
  have x0 : Boxed ((((w.alloc (.cells #[.pointer (some ⟨c, 0, none⟩)] 63)).alloc (.cells #[.int .i64 0] 44)).alloc (.cells #[.int .i64 a] 3)).alloc (.cells #[.slice A (512 * m) cc] 47)) w.heap.size 63 (.pointer (some ⟨c, 0, none⟩)) := (((Boxed.new w 63 _).alloc _).alloc _).alloc _
  have x1 : Boxed ((((w.alloc (.cells #[.pointer (some ⟨c, 0, none⟩)] 63)).alloc (.cells #[.int .i64 0] 44)).alloc (.cells #[.int .i64 a] 3)).alloc (.cells #[.slice A (512 * m) cc] 47)) (w.heap.size + 1) 44 (.int .i64 0) := by
    have := ((Boxed.new (w.alloc (.cells #[.pointer (some ⟨c, 0, none⟩)] 63)) 44 (.int .i64 0)).alloc (.cells #[.int .i64 a] 3)).alloc (.cells #[.slice A (512 * m) cc] 47)
    simpa using this
  have x2 : Boxed ((((w.alloc (.cells #[.pointer (some ⟨c, 0, none⟩)] 63)).alloc (.cells #[.int .i64 0] 44)).alloc (.cells #[.int .i64 a] 3)).alloc (.cells #[.slice A (512 * m) cc] 47)) (w.heap.size + 2) 3 (.int .i64 a) := by
    have := (Boxed.new ((w.alloc (.cells #[.pointer (some ⟨c, 0, none⟩)] 63)).alloc (.cells #[.int .i64 0] 44)) 3 (.int .i64 a)).alloc (.cells #[.slice A (512 * m) cc] 47)
    simpa using this
  have x3 : Boxed ((((w.alloc (.cells #[.pointer (some ⟨c, 0, none⟩)] 63)).alloc (.cells #[.int .i64 0] 44)).alloc (.cells #[.int .i64 a] 3)).alloc (.cells #[.slice A (512 * m) cc] 47)) (w.heap.size + 3) 47 (.slice A (512 * m) cc) := by
    have := Boxed.new (((w.alloc (.cells #[.pointer (some ⟨c, 0, none⟩)] 63)).alloc (.cells #[.int .i64 0] 44)).alloc (.cells #[.int .i64 a] 3)) 47 (.slice A (512 * m) cc)
    simpa using this
  have hz4 : ((((w.alloc (.cells #[.pointer (some ⟨c, 0, none⟩)] 63)).alloc (.cells #[.int .i64 0] 44)).alloc (.cells #[.int .i64 a] 3)).alloc (.cells #[.slice A (512 * m) cc] 47)).heap.size = w.heap.size + 4 := by simp
  rw [show w.heap.size + 1 + 1 + 1 = w.heap.size + 3 by omega, show w.heap.size + 1 + 1 = w.heap.size + 2 by omega]
  generalize ((((w.alloc (.cells #[.pointer (some ⟨c, 0, none⟩)] 63)).alloc (.cells #[.int .i64 0] 44)).alloc (.cells #[.int .i64 a] 3)).alloc (.cells #[.slice A (512 * m) cc] 47)) = w4 at hB4 x0 x1 x2 x3 hz4 ⊢
  have hq : ∀ b, (DF p ms mo b ∨ CF c mk b) → b < w.heap.size := fun b e => by
    rcases e with e | e
    · exact H.out.dv.lt b e
    · exact (H.out.ca.cf b e).2
  have hy : ∀ b, Y b → b < w.heap.size := fun b e => (H.out.ca.y b e).2.1
  have h00 : w0.heap.size ≤ w.heap.size := H.out.dv.be.size
  have hw4 : w.heap.size ≤ w4.heap.size := by omega
  obtain ⟨A0, c0, hve, hlc, hcm, hcA⟩ := id HV.out
  rw [HL.out] at hve
  cases hve
  rw [HL.out] at hlc
  have hsub : SubS A (512 * m) 0 A (512 * m) cc := SubS.self hlc hcm (fun hp => by
    obtain ⟨ad, e, _⟩ := hcA 0 (.int .u8 (l.getD 0 0)) (by
      have : 0 < l.length := by rw [HL.out]; exact hp
      simp [bytesV, this])
    exact ⟨ad, e⟩)
  have hcr0 : Cr w0 w w4 p ms mo c mk Y D N a l m 0 w4 := ⟨K, Y, D, H.out.below hB4, by simpa using HI.out, rfl, by simp, Chg.of_below hB4, Fresh.refl _ _, x0, x1⟩
  refine wpIn_rangeFunc_st (α := Int × Value) (F := Fence.wide) (n := 6) rfl (by decide) (gf := 204) (lb := #[.pointer (some ⟨w.heap.size + 3, 0, none⟩), .pointer (some ⟨w.heap.size + 2, 0, none⟩)]) rfl trivial (enters_of Try.func204 (by kernel_rfl) rfl)
    (fun x => #[.int .i64 x.1, x.2]) (fun _ => rfl)
    (fun W => Cr w0 w w4 p ms mo c mk Y D N a l m 0 W ∧ Boxed W (w.heap.size + 2) 3 (.int .i64 (a + (0 : Nat))) ∧ Boxed W (w.heap.size + 3) 47 (.slice A (512 * m) cc))
    (fun W => Cr w0 w w4 p ms mo c mk Y D N a l m m W)
    (fun x W => ∃ i A' n' c', i < m ∧ x = (a + (i : Int), Value.slice A' 512 c') ∧ SubS A (512 * m) (512 * i) A' n' c' ∧ Cr w0 w w4 p ms mo c mk Y D N a l m i W ∧ Boxed W (w.heap.size + 2) 3 (.int .i64 (a + (i : Nat))) ∧ Boxed W (w.heap.size + 3) 47 (.slice A' n' c'))
    (fun x W => ∃ i A' n' c', i < m ∧ x = (a + (i : Int), Value.slice A' 512 c') ∧ SubS A (512 * m) (512 * i) A' n' c' ∧ Cr w0 w w4 p ms mo c mk Y D N a l m (i + 1) W ∧ Boxed W (w.heap.size + 2) 3 (.int .i64 (a + (i : Nat))) ∧ Boxed W (w.heap.size + 3) 47 (.slice A' n' c'))
    (fun j W => j = .ret ∧ Lf w0 w w4 p ms mo c mk Y (Dk.bw m D a l) N W)
    (fun W W' row hs hg hr => ⟨Cr.abides hw4 h00 hq W W' row hs.1 hg hr, boxed_grown hs.2.1 hg hr, boxed_grown hs.2.2 hg hr⟩)
    (Cr.abides hw4 h00 hq)
    (fun x W W' row hs hg hr => by
      obtain ⟨i, A', n', c', g1, g2, g3, g4, g5, g6⟩ := hs
      exact ⟨i, A', n', c', g1, g2, g3, Cr.abides hw4 h00 hq W W' row g4 hg hr, boxed_grown g5 hg hr, boxed_grown g6 hg hr⟩)
    (fun x W W' row hs hg hr => by
      obtain ⟨i, A', n', c', g1, g2, g3, g4, g5, g6⟩ := hs
      exact ⟨i, A', n', c', g1, g2, g3, Cr.abides hw4 h00 hq W W' row g4 hg hr, boxed_grown g5 hg hr, boxed_grown g6 hg hr⟩)
    (fun j W W' row hs hg hr => ⟨hs.1, Lf.abides hw4 h00 hq W W' row hs.2 hg hr⟩)
    ⟨hcr0, by simpa using x2, x3⟩
    (fun x => { tmps := #[.pointer (some ⟨c, 0, none⟩), .int .i64 a, .slice A (512 * m) cc, .pointer (some ⟨w.heap.size, 0, none⟩), undef, undef, .pointer (some ⟨w.heap.size + 1, 0, none⟩), .int .i64 0, .int .i64 x.1, x.2, undef, .bool false, .pointer (some ⟨c, 0, none⟩), .int .i64 D.n, .bool false, .bool false, .slice A (512 * m) cc, .int .i64 (512 * m), .int .i64 0, .bool false, .pointer (some ⟨c, 0, none⟩), .int .i64 a, .slice A (512 * m) cc, .int .i64 (512 * m), .int .i64 m, .int .i64 0, .int .i64 0, .bool false, undef, .int .i64 a, .slice A (512 * m) cc, .func (.func 204) #[] #[.pointer (some ⟨w.heap.size + 3, 0, none⟩), .pointer (some ⟨w.heap.size + 2, 0, none⟩)], .int .i64 x.1, x.2, undef, undef, undef, undef, undef, undef, undef], defers := [] })
    ?assign ?body ?iter ?done ?stop
  case assign =>
    intro l' x W K hK
    gi_wp2
    exact hK
  case body =>
    rintro l' x W hW ⟨i, A', n', c', hi, rfl, hs, ⟨K', Y', D', h1, h2, h3, h4, h5, h6, h7, h8⟩, hb2, hb3⟩
    have hln := hs.len
    have hAW : CellsAt W A (bytesV l) := hcA.chg h5 (fun ad e e2 => by
      subst e
      rcases e2 with e2 | e2
      · exact HVD.out _ rfl e2
      · exact HVC.out _ rfl e2)
    have hrow := hs.bytes HL.out hAW 512 (by omega)
    have hown : ∀ b, (Value.slice A' 512 c').ownBlock = some b → (¬ DF p ms mo b ∧ ¬ CF c mk b) := fun b e => by
      cases A' with
      | none => cases e
      | some ad' =>
        obtain ⟨ad, e1, e2⟩ := hs.blk ad' rfl
        have e3 : ad'.block = b := by simpa [Value.ownBlock] using e
        subst e1
        rw [← e3, e2]
        exact ⟨HVD.out _ rfl, HVC.out _ rfl⟩
    have hwr := h1.writesF h2 (a + i) hrow (fun z hz => HB.out z (List.mem_of_mem_drop (List.mem_of_mem_take hz))) (fun b e => (hown b e).1) (fun b e e2 => (hown b e).2 (.inl e2)) (by omega)
    have hst := bw_step (D := D') (a := a) (l := l) (m := m) hi
    rw [← h4] at hst
    generalize hrw : (l.drop (512 * i)).take 512 = row at hwr hst
    have k0 := h7.cell
    have k1 := h8.cell
    have k1f := h8.frozen
    have H5 := Lib.hid h5
    have H6 := Lib.hid h6
    have H7 := Lib.hid h7
    have H8 := Lib.hid h8
    have HS := Lib.hid hs
    have HB2 := Lib.hid hb2
    have HB3 := Lib.hid hb3
    have HN3 := Lib.hid h3
    have hyl : Hid (∀ b, Y' b → Y b ∨ w4.heap.size ≤ b) := Lib.hid h6
    by_cases hc : D'.wcode (a + i) row = 0
    · rw [if_pos hc] at hst
      rw [hc] at hwr
      have HW := Lib.hid hwr
      have HST := Lib.hid hst
      clear h1 h2 h3 h4 h5 h6 h7 h8 hs hb2 hb3 hwr hst hrow hown hrw hc hAW hln
      dsimp only
      gi_wp2_with (refine ⟨trivial, ?_⟩; gi_at_call 107; refine (CallsIn.inRound l' (callsIn_wide.2 HW.out)).mono ?_; rintro e W2 ⟨K2, Y2, rfl, hcd, hfi, hch, hfr⟩)
      refine ⟨chg_keepsFrom hch (fun b e _ => by have := hq b e; omega), i, A', n', c', hi, rfl, HS.out, ⟨K2, Y2, _, hcd, ?_, by rw [Dk.writes_n]; exact HN3.out, HST.out, H5.out.trans hch, H6.out.trans hfr hW, Boxed.chg H7.out hch (fun e => by have := hq _ e; omega), Boxed.chg H8.out hch (fun e => by have := hq _ e; omega)⟩, Boxed.chg HB2.out hch (fun e => by have := hq _ e; omega), Boxed.chg HB3.out hch (fun e => by have := hq _ e; omega)⟩
      rw [show N + ((i + 1 : Nat) : Int) = N + i + 1 by omega]
      exact hfi
    · rw [if_neg hc] at hst
      have HW := Lib.hid hwr
      have HST := Lib.hid hst
      have hne : (D'.wcode (a + i) row != 0) = true := by simpa using hc
      generalize hwc : D'.wcode (a + i) row = wc at HW hne
      have HWC := Lib.hid hwc
      clear h1 h2 h3 h4 h5 h6 h7 h8 hs hb2 hb3 hwr hst hrow hown hrw hc hAW hln hwc
      dsimp only
      gi_wp2_with (refine ⟨trivial, ?_⟩; gi_at_call 107; refine (CallsIn.inRound l' (callsIn_wide.2 HW.out)).mono ?_; rintro e W2 ⟨K2, Y2, rfl, hcd, hfi, hch, hfr⟩; have k2 := (hch.cell (p := ⟨w.heap.size + 1, 0, none⟩) (by have := hW; show w.heap.size + 1 < _; omega) (fun e => by have h9 : w.heap.size + 1 < w.heap.size := hq _ e; omega)).trans k1; have k2f := (hch.frozen (p := ⟨w.heap.size + 1, 0, none⟩) (by have := hW; show w.heap.size + 1 < _; omega) (fun e => by have h9 : w.heap.size + 1 < w.heap.size := hq _ e; omega)).trans k1f)
      have hsc := chg_setCell W2 (w.heap.size + 1) 0 (.int .i64 wc)
      have hf2 := H6.out.trans hfr hW
      refine ⟨(chg_keepsFrom hch (fun b e _ => by have := hq b e; omega)).trans ((KeepsOthers.setCell W2 _ _).from _), rfl, ?_⟩
      rw [HST.out, ← HWC.out]
      refine ⟨K2, Y2, hcd.chg (chg_setCell W2 (w.heap.size + 1) 0 _) (fun b e => by omega) (fun b e e2 => by have := hq b (.inl e); omega) (fun b e e2 => by have := hq b (.inr e); omega) (fun b e e2 => ?_), hfi.mono (by omega), (H5.out.trans hch).then (chg_setCell W2 (w.heap.size + 1) 0 _) (fun b hb e => by omega), hf2, Boxed.set _ (Boxed.chg H8.out hch (fun e => by have := hq _ e; omega))⟩
      rcases hf2 b e with e3 | e3
      · have := hy b e3; omega
      · omega
  case iter =>
    intro l' Bk Bx W hW hl hBk hBx hY hI hk
    obtain ⟨hc0, hb2, hb3⟩ := hI
    have := biter Fence.wide 5 trivial rfl (by decide) l' (w.heap.size + 2) (w.heap.size + 3) (by omega) A m a ha0 (by omega) (fun i W => Cr w0 w w4 p ms mo c mk Y D N a l m i W) Bk (fun W => ∃ j, (j = Code.ret ∧ Lf w0 w w4 p ms mo c mk Y (Dk.bw m D a l) N W) ∧ Bx j W)
      (fun i W W' h hc => h.boxes hc hz4 h00 hq hy) (fun W W' h hc => hBk W W' h (chg_keepsFrom hc (fun b e _ => by omega)))
      (fun i A' n' c' W2 hi hs hr ha hb hbk => by
        obtain ⟨fn, tmps, assign, body, hy1, hR⟩ := hY (a + (i : Int), .slice A' 512 c') W2 ⟨i, A', n', c', hi, rfl, hs, hr, ha, hb⟩ hbk
        refine ⟨fn, tmps, assign, body, hy1, hR.mono ?_⟩
        rintro e W3 (⟨rfl, ⟨i2, A2, n2, c2, g1, g2, g3, g4, g5, g6⟩, g7⟩ | ⟨rfl, j, g1, g2⟩)
        · left
          have e1 : (a + (i : Int)) = a + (i2 : Int) := congrArg Prod.fst g2
          have e2 : (Value.slice A' 512 c') = Value.slice A2 512 c2 := congrArg Prod.snd g2
          obtain rfl : i2 = i := by omega
          cases e2
          obtain rfl : n2 = n' := by have := g3.len; have := hs.len; omega
          exact ⟨rfl, g4, g5, g6, g7⟩
        · exact .inr ⟨rfl, j, g1, g2⟩)
      W A (512 * m) cc hc0 hsub hb2 hb3 hk
    exact this
  case done =>
    rintro D4 W hD hcr hK
    obtain ⟨hz, hlf⟩ := hcr.leave (by omega) hz4 h00 hq hy
    have k1 := hcr.choose_spec.choose_spec.choose_spec.2.2.2.2.2.2.2.cell
    have k1f := hcr.choose_spec.choose_spec.choose_spec.2.2.2.2.2.2.2.frozen
    have HLF := Lib.hid hlf
    have HZ := Lib.hid hz
    clear hlf hz hcr
    gi_wp2
    have hK' := (KeepsOthers.setCell W ⟨w.heap.size + 1, 0, none⟩ (.int .i64 0)).same D4 _ hK rfl
    obtain ⟨g1, g2⟩ := HLF.out.fin hw4 h00 hq hD hK'
    rw [HZ.out] at g1 g2
    refine ⟨by simp, .inl ⟨_, _, rfl, run_takeDeferred hK', ?_⟩⟩
    refine ⟨.int .i64 0, ?_, g1⟩
    simp [results, Try.f116, go_sem, g2]
  case stop =>
    rintro D4 j W hD ⟨rfl, hlf⟩ hK
    obtain ⟨g1, g2⟩ := hlf.fin hw4 h00 hq hD hK
    generalize hr2 : (Dk.bw m D a l).2 = r2 at g1 g2
    clear hr2
    gi_wp2
    refine ⟨by simp, .inl ⟨_, _, rfl, run_takeDeferred hK, ?_⟩⟩
    refine ⟨.int .i64 r2, ?_, g1⟩
    simp [results, Try.f116, go_sem, g2]
/-- blob.Write, whole -/
theorem CD.bwrite (h : CD w0 w p ms mo c mk K Y D) (hi : FitN K D N) (a : Int) {v : Value} {l : List Int} (hv : BytesIs w v l) (hb : Bytey l) (hvd : ∀ b, v.ownBlock = some b → ¬ DF p ms mo b) (hvc : ∀ b, v.ownBlock = some b → ¬ CF c mk b) (hN : N < 900000000) :
    Calls Try.prog 116 #[.pointer (some ⟨c, 0, none⟩), .int .i64 a, v] w (BWrite w0 w p ms mo c mk Y (D.bwr a l) N) := by
  have hv0 := hv
  obtain ⟨A, cc, rfl, h1, h2, h3⟩ := hv
  have hm : l.length ≤ 9223372036854775807 := by simp only [maxLen] at h2; omega
  unfold Dk.bwr
  by_cases h5 : l.length % 512 ≠ 0
  · rw [if_pos h5]
    exact bwrite_arg h hi a A _ cc h5 hm
  · rw [if_neg h5]
    have h50 : l.length % 512 = 0 := by omega
    rcases inRow_cases D a ((l.length / 512 : Nat) : Int) with h6 | ⟨h6, g1, g2, g3⟩
    · rw [if_pos h6]
      exact bwrite_none h hi a A _ cc h50 hm h6
    · rw [if_neg (by omega)]
      obtain ⟨m, hm2⟩ : ∃ m : Nat, l.length = 512 * m := ⟨l.length / 512, by omega⟩
      have e5 : l.length / 512 = m := by omega
      rw [e5] at h6 g3 ⊢
      rw [hm2] at hv0 hvd hvc ⊢
      exact bwrite_go h hi a A m cc l hm2 hv0 hb hvd hvc g1 (by omega) h6 hN
end
end Go.Proofs.Yteeamlidmkpohaa


/-
  No cache, and one that nobody made.
-/
set_option linter.unusedVariables false
set_option linter.unusedSimpArgs false
set_option maxRecDepth 100000
namespace Go.Proofs.Yteeamlidmkpohaa
open Go.RowKit Go.Sort

def ZeroC (w : World) (c : Nat) : Prop := w.heap[c]? = some (.cells #[.pointer none, .int .i64 0, .int .i64 0, .map none, .int .i64 0, .int .i64 0] 126 (0, 0))
/-- a cache that is none -/
def NilC (w : World) (v : Value) : Prop := v = .pointer none ∨ ∃ c, v = .pointer (some ⟨c, 0, none⟩) ∧ ZeroC w c
theorem NilC.below {w w' : World} {v : Value} (h : NilC w v) (hb : Below w.heap.size w w') : NilC w' v := by
  rcases h with rfl | ⟨c, rfl, h⟩
  · exact .inl rfl
  · exact .inr ⟨c, rfl, (hb.block c (Array.getElem?_eq_some_iff.1 h).1).trans h⟩
theorem nilc_known (w : World) (v : Value) (h : NilC w v) : Calls Try.prog 159 #[v] w fun e w' => e = .returned (.bool false) ∧ w = w' := by
  rcases h with rfl | ⟨c, rfl, h⟩
  · go_enter Try.func159, Try.ntmps159
    go_wp2
    go_ret
    exact ⟨rfl, rfl⟩
  · have c1 := cellBlk h 1 _ rfl
    go_enter Try.func159, Try.ntmps159
    go_wp2
    go_ret
    exact ⟨rfl, rfl⟩
theorem nilc_drop (w : World) (v : Value) (h : NilC w v) : Calls Try.prog 104 #[v] w fun e w' => e = .returned (.tuple #[]) ∧ w = w' := by
  have hk := nilc_known w v h
  go_enter Try.func104, Try.ntmps104
  go_wp2_with (first | (go_at_call 159; refine hk.mono ?_; rintro e w1 ⟨rfl, rfl⟩))
  go_end0
  exact ⟨rfl, rfl⟩
theorem nilc_read (w : World) (v : Value) (h : NilC w v) (k : Int) : Calls Try.prog 105 #[v, .int .i64 k] w fun e w' => e = .returned (.tuple #[.slice none 0 0, .int .i64 1]) ∧ w = w' := by
  have hk := nilc_known w v h
  go_enter Try.func105, Try.ntmps105
  go_wp2_with (first | (go_at_call 159; refine hk.mono ?_; rintro e w1 ⟨rfl, rfl⟩))
  exact bodyPost_ret (v := .tuple #[.slice none 0 0, .int .i64 1]) (by simp [results, Try.results105, go_sem]) rfl ⟨rfl, rfl⟩
theorem nilc_write (w : World) (v : Value) (h : NilC w v) (k : Int) (u : Value) : Calls Try.prog 107 #[v, .int .i64 k, u] w fun e w' => e = .returned (.int .i64 1) ∧ w = w' := by
  have hk := nilc_known w v h
  go_enter Try.func107, Try.ntmps107
  go_wp2_with (first | (go_at_call 159; refine hk.mono ?_; rintro e w1 ⟨rfl, rfl⟩))
  go_ret
  exact ⟨rfl, rfl⟩
theorem nilc_sync (w : World) (v : Value) (h : NilC w v) : Calls Try.prog 109 #[v] w fun e w' => e = .returned (.int .i64 1) ∧ w = w' := by
  have hk := nilc_known w v h
  go_enter Try.func109, Try.ntmps109
  go_wp2_with (first | (go_at_call 159; refine hk.mono ?_; rintro e w1 ⟨rfl, rfl⟩))
  go_ret
  exact ⟨rfl, rfl⟩
theorem nilc_counts (w : World) (v : Value) (h : NilC w v) : Calls Try.prog 106 #[v] w fun e w' => e = .returned (.tuple #[.int .i64 0, .int .i64 0]) ∧ w = w' := by
  have hk := nilc_known w v h
  go_enter Try.func106, Try.ntmps106
  go_wp2_with (first | (go_at_call 159; refine hk.mono ?_; rintro e w1 ⟨rfl, rfl⟩))
  exact bodyPost_ret (v := .tuple #[.int .i64 0, .int .i64 0]) (by simp [results, Try.results106, go_sem]) rfl ⟨rfl, rfl⟩
theorem nilc_sectors (w : World) (v : Value) (h : NilC w v) : Calls Try.prog 110 #[v] w fun e w' => e = .returned (.int .i64 0) ∧ w = w' := by
  have hk := nilc_known w v h
  go_enter Try.func110, Try.ntmps110
  go_wp2_with (first | (go_at_call 159; refine hk.mono ?_; rintro e w1 ⟨rfl, rfl⟩))
  go_ret
  exact ⟨rfl, rfl⟩

set_option maxHeartbeats 4000000 in
theorem cacheNil_row (w : World) {v0 : Value} {a : Int} (A0 : ArgInt v0 a) : Calls Try.prog 19 #[v0] w fun e w' => e = .returned (.bool true) ∧ Below w.heap.size w w' := by
  obtain ⟨rfl, _⟩ := A0
  have hB := Below.refl w.heap.size w
  go_enter Try.func19, Try.ntmps19
  go_wp2_with
    (first
      | (go_at_call 103; refine (awake09 _).mono ?_; rintro e w1 ⟨rfl, hb⟩; replace hB := below_trans' hB hb; clear hb))
  have hz := heap_alloc2_old w1 (.cells #[.pointer none, .int .i64 0, .int .i64 0, .map none, .int .i64 0, .int .i64 0] 126) (.cells #[.pointer none, .pointer (some ⟨w1.heap.size, 0, none⟩)] 63)
  have hl := heap_alloc2_new w1 (.cells #[.pointer none, .int .i64 0, .int .i64 0, .map none, .int .i64 0, .int .i64 0] 126) (.cells #[.pointer none, .pointer (some ⟨w1.heap.size, 0, none⟩)] 63)
  have hbe : Below w.heap.size w ((w1.alloc (.cells #[.pointer none, .int .i64 0, .int .i64 0, .map none, .int .i64 0, .int .i64 0] 126)).alloc (.cells #[.pointer none, .pointer (some ⟨w1.heap.size, 0, none⟩)] 63)) := below_alloc' (below_alloc' hB _) _
  have HZ := Lib.hid hz
  have HL := Lib.hid hl
  have HBE := Lib.hid hbe
  clear hz hl hbe hB
  go_wp2_with fail
  generalize ((w1.alloc (.cells #[.pointer none, .int .i64 0, .int .i64 0, .map none, .int .i64 0, .int .i64 0] 126)).alloc (.cells #[.pointer none, .pointer (some ⟨w1.heap.size, 0, none⟩)] 63)) = wa at HZ HL HBE ⊢
  generalize w1.heap.size + 1 = g at HL ⊢
  generalize w1.heap.size = z at HZ HL
  go_loopw [4] (fun t wr => ∃ k : Nat, k ≤ 2 ∧ t = .int .i64 k ∧ Below wa.heap.size wa wr) (fun t _ => 2 - (intOf t).toNat)
  case atStart => exact ⟨0, by omega, rfl, Below.refl _ _⟩
  case round =>
    obtain ⟨k, hk, rfl, hbr⟩ := hrel
    by_cases hlt : k < 2
    · obtain ⟨o, hco, hno⟩ : ∃ o, wr.cell? ⟨g, k, none⟩ = some (.pointer o) ∧ NilC wr (.pointer o) := by
        rcases (show k = 0 ∨ k = 1 by omega) with rfl | rfl
        · have c0 := cellBlk HL.out 0 _ rfl
          exact ⟨none, (hbr.cell (p := ⟨g, 0, none⟩) (cell_lt c0)).trans c0, .inl rfl⟩
        · have c1 := cellBlk HL.out 1 _ rfl
          exact ⟨some ⟨z, 0, none⟩, (hbr.cell (p := ⟨g, 1, none⟩) (cell_lt c1)).trans c1, .inr ⟨z, rfl, (hbr.block z (Array.getElem?_eq_some_iff.1 HZ.out).1).trans HZ.out⟩⟩
      have HBR := Lib.hid hbr
      clear hbr
      have hcl := cell_lt hco
      have hnod : NilC wr.drew (.pointer o) := hno.below (Below.refl _ _).drew
      have hcod : wr.drew.cell? ⟨g, k, none⟩ = some (.pointer o) := hco
      go_wp2_with
        (first
          | (go_at_call 104; refine (nilc_drop _ _ hno).mono ?_; rintro e w2 ⟨rfl, rfl⟩)
          | (go_at_call 105; refine (nilc_read _ _ hno _).mono ?_; rintro e w2 ⟨rfl, rfl⟩)
          | (go_at_call 106; refine (nilc_counts _ _ hno).mono ?_; rintro e w2 ⟨rfl, rfl⟩))
      go_region_held3 (fun w' => w'.cell? ⟨g, k, none⟩ = some (.pointer o)) (first | exact hco | exact hcod | exact m3)
        (first
          | (go_at_call 108; refine (full9_any _ _ (by decide) (by decide)).mono ?_
             rintro e w3 ⟨v3, rfl, ho3, hb3⟩
             have m3 : w3.cell? ⟨g, k, none⟩ = some (.pointer o) := (hb3.cell (p := ⟨g, k, none⟩) hcl).trans hcod
             have hn3 := hnod.below hb3
             have HB3 := Lib.hid hb3)
          | (go_at_call 107; refine (nilc_write _ _ hn3 _ _).mono ?_; rintro e w4 ⟨rfl, rfl⟩)
          | (go_at_call 109; refine (nilc_sync _ _ hn3).mono ?_; rintro e w4 ⟨rfl, rfl⟩)
          | (go_at_call 110; refine (nilc_sectors _ _ hn3).mono ?_; rintro e w4 ⟨rfl, rfl⟩))
      go_wp2_with fail
      go_roundw
      case rel => exact ⟨k + 1, by omega, by go_num, (HBR.out.drew).trans (HB3.out.mono HBR.out.size)⟩
      case measure => simp [intOf]; omega
    · obtain rfl : k = 2 := by omega
      have HBR := Lib.hid hbr
      clear hbr
      go_wp2_with fail
      go_ret
      exact ⟨rfl, below_trans' HBE.out HBR.out⟩
end Go.Proofs.Yteeamlidmkpohaa


/-
  Blob: full, the chapter's example, nil caches.
-/
set_option linter.unusedVariables false
set_option linter.unusedSimpArgs false
set_option maxRecDepth 100000
namespace Go.Proofs.Yteeamlidmkpohaa
open Go.RowKit Go.Sort

def fullL20 (n : Nat) (b : Int) : List Int := fillTo (fullF9 b) n n
theorem fullL20_len (n : Nat) (b : Int) : (fullL20 n b).length = n := fillTo_len _ _ _
theorem fullL20_bytey (n : Nat) (b : Int) : Bytey (fullL20 n b) := fun x hx => by
  simp only [fullL20, fillTo, List.mem_map, List.mem_range] at hx
  obtain ⟨i, hi, rfl⟩ := hx
  rw [if_pos hi, fullF9]
  omega
set_option maxHeartbeats 2000000 in
theorem full20_any (w : World) (n : Nat) (hn : n ≤ 100000) (b : Int) (h0 : 0 ≤ b) (h1 : b ≤ 255) :
    Calls Try.prog 118 #[.int .i64 (n : Int), .int .u8 b] w fun e w' => ∃ v, e = .returned v ∧ w'.ownsRow w.heap.size 5 1 v n (bytesV (fullL20 n b)) ∧ Below w.heap.size w w' := by
  have hmk : ∀ W : World, (Instr.makeSlice 47 (.int .i64 (n : Int)) (.int .i64 (n : Int))).run Try.prog W = .ok (.slice (some ⟨W.heap.size, 0, none⟩) n n) (W.alloc (.cells (madeCells #[.int .u8 0] n) 5)) := fun W => Go.run_make_row' (P := Try.prog) 47 5 (.int .u8 0) 1 Try.underlying47 (by kernel_rfl) rfl .i64 .i64 n (by omega) (by omega) W
  go_enter Try.func118, Try.ntmps118
  go_wp2
  have hrow := rowB_made w n
  have hbe : Below w.heap.size w (w.alloc (.cells (madeCells #[Value.int .u8 0] n) 5)) := below_alloc' (Below.refl _ _) _
  rw [← fillTo_zero (fullF9 b)] at hrow
  generalize w.alloc (.cells (madeCells #[Value.int .u8 0] n) 5) = wa at hrow hbe ⊢
  have hg : w.heap.size ≤ w.heap.size := Nat.le_refl _
  generalize hgg : w.heap.size = g at hrow hg ⊢
  have HGG := Lib.hid hgg
  have hbe2 : Below g w wa := hgg ▸ hbe
  clear hgg hbe
  go_loopw [6] (fun x wr => ∃ k : Nat, k ≤ n ∧ x = .int .i64 k ∧ RowB wr g (fillTo (fullF9 b) n k) ∧ Below g w wr) (fun x _ => n - (intOf x).toNat)
  case atStart => exact ⟨0, by omega, rfl, hrow, hbe2⟩
  case round =>
    obtain ⟨k, hk, rfl, hr, hbw⟩ := hrel
    by_cases hlt : k < n
    · have hc := hr.cell k (by rw [fillTo_len]; exact hlt)
      have hf := hr.free k
      go_wp2
      go_roundw
      case rel =>
        refine ⟨k + 1, by omega, by go_num, ?_, hbw.setCell (p := ⟨g, k, none⟩) hg _⟩
        have := hr.set k (fullF9 b k)
        rw [fillTo_set] at this
        exact this
      case measure => simp [intOf]; omega
    · obtain rfl : k = n := by omega
      go_wp2
      go_ret
      exact ⟨_, rfl, hr.own (Nat.le_of_eq HGG.out) (fillTo_len _ _ _) (by simp [maxLen]; omega), by rw [HGG.out]; exact hbw⟩

section
variable {w0 w w' : World} {p ms mo c mk : Nat} {D : Dk} {N : Int}
/-- a cache over its device, whatever it keeps -/
def Sq (w0 w : World) (p ms mo c mk : Nat) (D : Dk) (N : Int) : Prop := ∃ K Y, CD w0 w p ms mo c mk K Y D ∧ FitN K D N
theorem Sq.be (h : Sq w0 w p ms mo c mk D N) : Below w0.heap.size w0 w := by
  obtain ⟨K, Y, h1, _⟩ := h
  exact h1.dv.be
theorem Sq.below (h : Sq w0 w p ms mo c mk D N) (hb : Below w.heap.size w w') : Sq w0 w' p ms mo c mk D N := by
  obtain ⟨K, Y, h1, h2⟩ := h
  exact ⟨K, Y, h1.below hb, h2⟩
/-- v was made behind the cache -/
theorem Sq.bwrite {u : World} (hu : Sq w0 u p ms mo c mk D N) (h : Sq w0 w p ms mo c mk D N) (a : Int) {v : Value} {l : List Int} (hv : BytesIs w v l) (hb : Bytey l) (hf : ∀ b, v.ownBlock = some b → u.heap.size ≤ b) (hN : N < 900000000) :
    Calls Try.prog 116 #[.pointer (some ⟨c, 0, none⟩), .int .i64 a, v] w fun e w' => e = .returned (.int .i64 (D.bwr a l).2) ∧ Sq w0 w' p ms mo c mk (D.bwr a l).1 (N + 262144) ∧ Chg (fun b => DF p ms mo b ∨ CF c mk b) w w' := by
  obtain ⟨K0, Y0, g1, _⟩ := hu
  obtain ⟨K, Y, h1, h2⟩ := h
  refine (h1.bwrite h2 a hv hb (fun b e e2 => by have := hf b e; have := g1.dv.lt b e2; omega) (fun b e e2 => by have := hf b e; have := (g1.ca.cf b e2).2; omega) hN).mono ?_
  rintro e w' ⟨K', Y', rfl, h3, h4, h5, h6⟩
  exact ⟨rfl, ⟨K', Y', h3, h4⟩, h5⟩
theorem Sq.bread (h : Sq w0 w p ms mo c mk D N) (a n : Int) (hN : N < 900000000) :
    Calls Try.prog 115 #[.pointer (some ⟨c, 0, none⟩), .int .i64 a, .int .i64 n] w fun e w' => ∃ v, e = .returned (.tuple #[v, .int .i64 (D.rrcode a n)]) ∧ w'.ownsRow w.heap.size 5 1 v (D.rrow a n).length (bytesV (D.rrow a n)) ∧ Sq w0 w' p ms mo c mk D (N + 1024) ∧ Chg (CF c mk) w w' := by
  obtain ⟨K, Y, h1, h2⟩ := h
  refine (h1.bread h2 a n hN).mono ?_
  rintro e w' ⟨v, K', Y', rfl, ho, hy, h3, h4, h5, h6⟩
  exact ⟨v, rfl, ho, ⟨K', Y', h3, h4⟩, h5⟩
end

theorem nilc_bread (w : World) (v : Value) (h : NilC w v) (a n : Int) : Calls Try.prog 115 #[v, .int .i64 a, .int .i64 n] w fun e w' => e = .returned (.tuple #[.slice none 0 0, .int .i64 1]) ∧ w = w' := by
  have hk := nilc_sectors w v h
  go_enter Try.func115, Try.ntmps115
  go_wp2_with (go_at_call 110; refine hk.mono ?_; rintro e w1 ⟨rfl, rfl⟩)
  exact bodyPost_ret (v := .tuple #[.slice none 0 0, .int .i64 1]) (by simp [results, Try.results115, go_sem]) rfl ⟨rfl, rfl⟩
theorem nilc_bwrite (w : World) (o : Option Addr) (h : NilC w (.pointer o)) (a : Int) (u : Value) : Calls Try.prog 116 #[.pointer o, .int .i64 a, u] w fun e w' => e = .returned (.int .i64 1) ∧ Below w.heap.size w w' := by
  have hb1 := below_alloc' (below_alloc' (Below.refl _ w) (.cells #[.pointer o] 63)) (.cells #[.int .i64 0] 44)
  have hk := nilc_sectors _ _ (h.below hb1)
  have hb2 := below_alloc' (below_alloc' (Below.refl _ w) (.cells #[.pointer o] 63)) (.cells #[.int .i64 1] 44)
  have HB := Lib.hid hb2
  clear hb1 hb2 h
  go_enter Try.func116, Try.ntmps116
  go_wp2_with (go_at_call 110; refine hk.mono ?_; rintro e w1 ⟨rfl, rfl⟩)
  exact bodyPost_ret (v := .int .i64 1) (by simp [results, Try.results116, go_sem]) rfl ⟨rfl, HB.out⟩

def aD : Dk := ((Dk.new 4).bwr 1 (fullL20 1024 9)).1
theorem aw_1 : (Dk.new 4).bwr 3 (fullL20 1024 1) = (Dk.new 4, 6) := by kernel_rfl
theorem aw_2 : (Dk.new 4).bwr (-1) [] = (Dk.new 4, 6) := by kernel_rfl
theorem aw_3 : (Dk.new 4).bwr 4 [] = (Dk.new 4, 0) := by kernel_rfl
theorem aw_4 : (Dk.new 4).bwr 0 (fullL20 5 1) = (Dk.new 4, 2) := by kernel_rfl
theorem aw_5 : ((Dk.new 4).bwr 1 (fullL20 1024 9)).2 = 0 := by kernel_rfl
theorem aw_6 : aD.rrcode 1 3 = 0 := by kernel_rfl
theorem aw_7 : aD.rrow 1 3 = fullL20 1024 9 ++ noughts := by kernel_rfl
theorem aw_8 : aD.rrcode 1 (-1) = 2 := by kernel_rfl

theorem aw_len : (fullL20 1024 9 ++ noughts).length = 1536 := by rw [List.length_append, fullL20_len, noughts_sec.1]
/-- the first part of a slice, and one byte of it -/
theorem own_front {w : World} {base g n cap : Nat} {l : List Int} (h : w.ownsRow base 5 1 (.slice (some ⟨g, 0, none⟩) n cap) n (bytesV l)) (hl : l.length = n) (m : Nat) (hm : m ≤ n) : BytesIs w (.slice (some ⟨g, 0, none⟩) m cap) (l.take m) ∧ ∀ i, i < n → w.cell? ⟨g, i, none⟩ = some (.int .u8 (l.getD i 0)) := by
  obtain ⟨A, c, hv, h1, h2, h3⟩ := BytesIs.of_own hl h
  cases hv
  constructor
  · have hs : SubS (some ⟨g, 0, none⟩) l.length 0 (some ⟨g, 0, none⟩) l.length cap := SubS.self h1 h2 (fun _ => ⟨_, rfl⟩)
    simpa using hs.bytes rfl h3 m (by omega)
  · intro i hi
    obtain ⟨ad, e, hc⟩ := BytesIs.at_ (c := cap) h3 i (by omega)
    cases e
    have e2 : (⟨g, 0, none⟩ : Addr).add i = ⟨g, i, none⟩ := by unfold Addr.add; split <;> simp_all
    rw [e2] at hc
    exact hc
theorem aw_take : (fullL20 1024 9 ++ noughts).take 1024 = fullL20 1024 9 := by rw [List.take_append_of_le_length (by rw [fullL20_len]; omega), List.take_of_length_le (by rw [fullL20_len]; omega)]
theorem aw_at : (fullL20 1024 9 ++ noughts).getD 1024 0 = 0 := by kernel_rfl
set_option maxHeartbeats 4000000 in
theorem awake20 (w : World) : Calls Try.prog 114 #[] w fun e w' => e = .returned (.bool true) ∧ Below w.heap.size w w' := by
  have hB := Below.refl w.heap.size w
  have HA : Hid (aD = ((Dk.new 4).bwr 1 (fullL20 1024 9)).1) := Lib.hid rfl
  go_enter Try.func114, Try.ntmps114
  go_wp2_with
    (first
      | (go_at_call 50; refine (Dev.newF _ hB 4 (by decide) (by decide)).mono ?_; rintro e w1 ⟨p, ms, mo, rfl, hD, hn, hb⟩; clear hn hb)
      | (go_at_call 65; refine (CD.newF hD 3 (by decide) (by decide)).mono ?_; rintro e w2 ⟨c, mk, rfl, hC, hn, hb⟩; have hS : Sq w w2 p ms mo c mk (Dk.new 4) 0 := ⟨_, _, hC, FitN.new⟩; clear hn hb hC hD)
      | (go_at_call 118; have hq := hS6; refine (full20_any _ 1024 (by decide) 9 (by decide) (by decide)).mono ?_; rintro e w7 ⟨v7, rfl, ho7, hb7⟩; have hS7 := hS6.below hb7; clear hb7)
      | (go_at_call 116; refine (hS6.bwrite hS7 1 (BytesIs.of_own (fullL20_len _ _) ho7) (fullL20_bytey _ _) (own_fresh ho7) (by decide)).mono ?_; rw [aw_5]; rintro e w8 ⟨rfl, hS8, hc8⟩; rw [← HA.out] at hS8; clear hc8 hS7 ho7)
      | (go_at_call 118; have hq := hS4b; refine (full20_any _ 5 (by decide) 1 (by decide) (by decide)).mono ?_; rintro e w5 ⟨v5, rfl, ho5, hb5⟩; have hS5 := hS4b.below hb5; clear hb5)
      | (go_at_call 116; refine (hS4b.bwrite hS5 0 (BytesIs.of_own (fullL20_len _ _) ho5) (fullL20_bytey _ _) (own_fresh ho5) (by decide)).mono ?_; rw [aw_4]; rintro e w6 ⟨rfl, hS6, hc6⟩; clear hc6 hS5 ho5)
      | (go_at_call 116; refine (hS4a.bwrite hS4a 4 (BytesIs.nil _) (fun _ h => by cases h) (fun b e => by cases e) (by decide)).mono ?_; rw [aw_3]; rintro e w4b ⟨rfl, hS4b, hc4⟩; clear hc4)
      | (go_at_call 116; refine (hS4.bwrite hS4 (-1) (BytesIs.nil _) (fun _ h => by cases h) (fun b e => by cases e) (by decide)).mono ?_; rw [aw_2]; rintro e w4a ⟨rfl, hS4a, hc4⟩; clear hc4)
      | (go_at_call 118; refine (full20_any _ 1024 (by decide) 1 (by decide) (by decide)).mono ?_; rintro e w3 ⟨v3, rfl, ho3, hb3⟩; have hS3 := hS.below hb3; clear hb3)
      | (go_at_call 116; refine (hS.bwrite hS3 3 (BytesIs.of_own (fullL20_len _ _) ho3) (fullL20_bytey _ _) (own_fresh ho3) (by decide)).mono ?_; rw [aw_1]; rintro e w4 ⟨rfl, hS4, hc4⟩; clear hc4 hS3 ho3))
  clear hS hS4 hS4a hS4b hS6
  go_wp2_with
    (first
      | (go_at_call 115; have hq := hS10; refine (nilc_bread _ _ (.inl rfl) 0 0).mono ?_; rintro e w11 ⟨rfl, rfl⟩; clear hq)
      | (go_at_call 115; have hq := hS9; refine (hS9.bread 1 (-1) (by decide)).mono ?_; rw [aw_8]; rintro e w10 ⟨v10, rfl, ho10, hS10, hc10⟩; clear hq ho10)
      | (go_at_call 115; refine (hS8.bread 1 3 (by decide)).mono ?_; rw [aw_6, aw_7, aw_len]; rintro e w9 ⟨v9, rfl, ho9, hS9, hc9⟩
         obtain ⟨g, cap, rfl⟩ := ownsRow_succ (k := 1535) ho9
         have HO9 := Lib.hid ho9
         have HC9 := Lib.hid hc9
         clear ho9 hc9))
  have ho10 : w10.ownsRow w8.heap.size 5 1 (.slice (some ⟨g, 0, none⟩) 1536 cap) 1536 (bytesV (fullL20 1024 9 ++ noughts)) := rowOwn_chg HO9.out hc10 (fun b e e2 => by
    have h1 := own_fresh HO9.out b e
    obtain ⟨K, Y, h2, _⟩ := hS8
    have := (h2.ca.cf b e2).2
    omega)
  obtain ⟨hf1, hf2⟩ := own_front ho10 aw_len 1024 (by decide)
  have hc1 := hf2 1024 (by decide)
  rw [aw_at] at hc1
  rw [aw_take] at hf1
  have hcap : 1536 ≤ cap := by
    rcases ho10.2 with ⟨e, _⟩ | ⟨g', c', cur, e, h⟩
    · cases e
    · cases e; exact h.2.2.1
  have hcm : cap ≤ 9223372036854775807 := by
    rcases ho10.2 with ⟨e, _⟩ | ⟨g', c', cur, e, h⟩
    · cases e
    · cases e; have := h.2.2.2.1; simp only [maxLen] at this; omega
  have HF1 := Lib.hid hf1
  have HBE := Lib.hid hS10.be
  have hcd := fun (V : World) (hV : Below w10.heap.size w10 V) => (hV.cell (p := ⟨g, 1024, none⟩) (cell_lt hc1)).trans hc1
  have HCD := Lib.hid hcd
  clear hf1 hf2 ho10 hcd hS8 hS9 hS10 hc10
  have hcap2 : 1024 ≤ cap := by omega
  have hcap3 : (1024 : Int) ≤ (cap : Int) := by omega
  go_region_held3 (fun w' => w'.cell? ⟨g, 1024, none⟩ = some (.int .u8 0)) (first | exact hc1 | exact HCD.out _ (Below.refl _ _).drew | exact HCD.out _ HB12.out | exact HCD.out _ HB13.out)
    (first
      | (go_at_call 118; refine (full20_any _ 1024 (by decide) 9 (by decide) (by decide)).mono ?_; rintro e w12 ⟨v12, rfl, ho12, hb12⟩; have HB12 := Lib.hid ((Below.refl w10.heap.size w10).drew.trans (hb12.mono (by simp))); have HV12 := Lib.hid (BytesIs.of_own (fullL20_len 1024 9) ho12); clear ho12 hb12)
      | (go_at_call 58; refine (sameBytes_eq _ _ _ _ (HF1.out.below HB12.out) HV12.out).mono ?_; rintro e w13 ⟨rfl, hb13⟩; have HB13 := Lib.hid (HB12.out.trans (hb13.mono HB12.out.size)); clear hb13))
  go_wp2
  go_ret
  exact ⟨rfl, HBE.out.trans (HB13.out.mono HBE.out.size)⟩
end Go.Proofs.Yteeamlidmkpohaa


/-
  Rows of sectors of the reference's disk, one by one.
-/
set_option linter.unusedVariables false
set_option linter.unusedSimpArgs false
set_option maxRecDepth 100000
namespace Go.Proofs.Yteeamlidmkpohaa
open Go.RowKit Go.Sort

section
variable {w0 w w' : World} {r : Nat} {lv : Value} {L : List RS} {Y : Nat → Prop} {D : Dk}
set_option maxHeartbeats 4000000 in
theorem Ref.brow (h : Ref w0 w r lv L Y D) (a n : Int) :
    Calls Try.prog 170 #[.pointer (some ⟨r, 0, none⟩), .int .i64 a, .int .i64 n] w fun e w' => ∃ v, e = .returned (.tuple #[v, .int .i64 (D.rrcode a n)]) ∧ BytesIs w' v (D.rrow a n) ∧ Below w.heap.size w w' := by
  have hs := Lib.hid h.sectors
  have hn1 := h.ok.n1
  have hn2 := h.ok.n2
  have H := Lib.hid h
  have hno : ∀ q : Int, q ≠ 0 → D.rrcode a n = q → D.rrow a n = [] := fun q hq e => by unfold Dk.rrow; rw [if_neg (by rw [e]; exact hq)]
  have HNO := Lib.hid hno
  have hok := h.ok
  have HL := Lib.hid (Dk.row_len hok a)
  have HOK := Lib.hid hok
  clear h hno hok
  by_cases h1 : n < 0 ∨ 1024 < n
  · have hc : Hid (D.rrcode a n = 2) := Lib.hid (by unfold Dk.rrcode; rw [if_pos h1])
    rcases h1 with h1 | h1
    iterate 2
      · go_enter Try.func170, Try.ntmps170
        go_wp2
        exact bodyPost_ret (v := .tuple #[.slice none 0 0, .int .i64 2]) (by simp [results, Try.results170, go_sem]) rfl ⟨_, by rw [hc.out], by rw [HNO.out 2 (by decide) hc.out]; exact BytesIs.nil _, Below.refl _ _⟩
  · have h10 : 0 ≤ n := by omega
    have h11 : n ≤ 1024 := by omega
    rcases inRow_cases D a n with h6 | ⟨h6, ha0, ha1, ha2⟩
    · have hc : Hid (D.rrcode a n = 6) := Lib.hid (by unfold Dk.rrcode; rw [if_neg h1, if_pos h6])
      unfold Dk.inRow at h6
      clear h1
      generalize D.n = dn at hs hn1 hn2 h6
      have h66 : a < 0 ∨ (0 ≤ a ∧ dn < a) ∨ (0 ≤ a ∧ a ≤ dn ∧ dn - a < n) := by
        split at h6
        · exact .inl (by assumption)
        · split at h6
          · exact .inr (.inl ⟨by omega, by assumption⟩)
          · split at h6
            · exact .inr (.inr ⟨by omega, by omega, by assumption⟩)
            · cases h6
      clear h6
      rcases h66 with g | ⟨g, g2⟩ | ⟨g, g2, g3⟩
      iterate 3
        · go_enter Try.func170, Try.ntmps170
          go_wp2_with (go_at_call 112; refine hs.out.mono ?_; rintro e w1 ⟨rfl, rfl⟩)
          exact bodyPost_ret (v := .tuple #[.slice none 0 0, .int .i64 6]) (by simp [results, Try.results170, go_sem]) rfl ⟨_, by rw [hc.out], by rw [HNO.out 6 (by decide) hc.out]; exact BytesIs.nil _, Below.refl _ _⟩
    · have hc : Hid (∀ b, D.down = b → (n = 0 ∨ b = false) → D.rrcode a n = 0) := Lib.hid (fun b e e2 => by
        unfold Dk.rrcode
        rw [if_neg h1, if_neg (by omega), if_neg (by rintro ⟨x, y⟩; rcases e2 with e2 | e2; omega; rw [e, e2] at y; cases y)])
      have hc9 : Hid (D.down = true → 0 < n → D.rrcode a n = 9) := Lib.hid (fun e e2 => by
        unfold Dk.rrcode
        rw [if_neg h1, if_neg (by omega), if_pos ⟨e2, e⟩])
      obtain ⟨m, rfl⟩ : ∃ m : Nat, n = m := ⟨n.toNat, by omega⟩
      clear h6 h1
      obtain ⟨ie, hie, hze, hsize, hby⟩ := info_parts (P := Try.prog) (e := 5) (z := .int .u8 0) (size := 1) (bytes := 1) (by kernel_rfl)
      have HN2 : Hid (D.n ≤ 262144) := Lib.hid hn2
      go_enter Try.func170, Try.ntmps170
      go_wp2_with (go_at_call 112; refine hs.out.mono ?_; rintro e w1 ⟨rfl, rfl⟩)
      go_loopw [8, 9] (fun s t wr => ∃ k : Nat, k ≤ m ∧ t = .int .i64 k ∧ (D.down = true → k = 0) ∧ wr.ownsRow w.heap.size 5 1 s (k * 512) (bytesV (D.row a k)) ∧ Below w.heap.size w wr) (fun _ t _ => m - (intOf t).toNat)
      case atStart => exact ⟨0, by omega, rfl, fun _ => rfl, by simpa [Dk.row, bytesV] using World.ownsRow_nil w w.heap.size 5 1, Below.refl _ _⟩
      case round =>
        obtain ⟨k, hk, rfl, hk0, hro, hbe⟩ := hrel
        have HK0 := Lib.hid hk0
        have HR := Lib.hid ((H.out.below hbe).reads (a + k))
        have HRO := Lib.hid hro
        have HBE := Lib.hid hbe
        clear hk0 hro hbe
        by_cases hlt : k < m
        · cases hd : D.down with
          | true =>
            have hk00 : k = 0 := HK0.out hd
            have hc2 : Hid (D.rrcode a m = 9) := Lib.hid (hc9.out hd (by omega))
            have hr := HR.out
            rw [mayDown hd] at hr
            have HR9 := Lib.hid hr
            clear hr hd hk00
            go_wp2_with (go_at_call 141; refine HR9.out.mono ?_; rintro e w3 ⟨v3, rfl, hv3, hf3, hb3⟩)
            exact bodyPost_ret (v := .tuple #[.slice none 0 0, .int .i64 9]) (by simp [results, Try.results170, go_sem]) rfl ⟨_, by rw [hc2.out], by rw [HNO.out 9 (by decide) hc2.out]; exact BytesIs.nil _, HBE.out.trans (hb3.mono HBE.out.size)⟩
          | false =>
            have hr := HR.out
            have hm0 : D.may (a + k) = 0 := mayOk hd (by omega) (by omega)
            have hrb : D.rbytes (a + k) = D.latest (a + k) := by simp [Dk.rbytes, hm0]
            rw [hrb, hm0] at hr
            have HR0 := Lib.hid hr
            have hsec := Lib.hid (Dk.latest_sec HOK.out (a + k))
            have hgl : w.heap.size ≤ wr.heap.size := HBE.out.size
            clear hr hm0 hrb hd
            go_wp2_with
              (first
                | (go_at_call 141; refine HR0.out.mono ?_; rintro e w3 ⟨v3, rfl, hv3, hf3, hb3⟩
                   obtain ⟨Bl, cl, rfl, hcl, hcm, hBl⟩ := hv3
                   rw [hsec.out.1] at hcl ⊢
                   obtain ⟨ad, rfl⟩ : ∃ ad, Bl = some ad := by
                     obtain ⟨ad, e, _⟩ := hBl 0 (.int .u8 ((D.latest (a + k)).getD 0 0)) (by simp [bytesV, hsec.out.1])
                     exact ⟨ad, e⟩
                   have HO3 := Lib.hid (rowOwn_below HRO.out hb3)
                   have hgl3 : w.heap.size ≤ w3.heap.size := Nat.le_trans hgl hb3.size
                   have HB3 := Lib.hid hb3
                   have hlx : Hid ((bytesV (D.latest (a + k))).length = 512 * 1) := Lib.hid (by rw [bytesV_len, hsec.out.1])
                   clear hb3 hf3 hcl)
                | (refine wpList_append_own _ (by rfl) _ _ 47 (by rfl) w.heap.size 5 ie (.int .u8 0) 1 1 Try.underlying47 hie hze hsize hby (by rfl) (by decide) u8 (k * 512) (bytesV (D.row a k)) (by rfl) HO3.out ad 512 cl (bytesV (D.latest (a + k))) (by rfl) hlx.out (fun j u hj => by obtain ⟨ad', e, h1⟩ := hBl j u hj; cases e; exact h1) (bytesV_one _) (by simp only [maxLen]; omega) (by omega) hgl3 ?_
                   intro v' w4 hown hgr _))
            have hb4 : Below w.heap.size w w4 := below_grown (HBE.out.trans (HB3.out.mono HBE.out.size)) hgr (fun b e => (HO3.out.lt b e).1)
            have hown4 : w4.ownsRow w.heap.size 5 1 v' ((k + 1) * 512) (bytesV (D.row a (k + 1))) := by
              rw [Dk.row_succ, bytesV_append, show (k + 1) * 512 = k * 512 + 512 by omega]
              exact hown
            go_roundw
            case rel => exact ⟨k + 1, by omega, by go_num, (fun e => by first | cases e | omega), hown4, hb4⟩
            case measure => simp [intOf]; omega
        · obtain rfl : k = m := by omega
          have hc2 : Hid (D.rrcode a k = 0) := Lib.hid (by
            cases hd : D.down with
            | true => exact hc.out true hd (.inl (by have := HK0.out hd; omega))
            | false => exact hc.out false hd (.inr rfl))
          have hrb : Hid (D.rrow a k = D.row a k) := Lib.hid (by unfold Dk.rrow; rw [if_pos hc2.out]; simp)
          go_wp2
          exact bodyPost_ret (v := .tuple #[u8, .int .i64 0]) (by simp [results, Try.results170, go_sem]) rfl ⟨u8, by rw [hc2.out], by rw [hrb.out]; exact BytesIs.of_own (HL.out k) HRO.out, HBE.out⟩

theorem SubS.sub {A : Option Addr} {L c : Nat} (h1 : L ≤ c) (h2 : c ≤ maxLen) (h3 : 0 < L → ∃ ad, A = some ad) (i : Nat) (hi : i ≤ L) : SubS A L i (Option.map (fun x => x.add i) A) (L - i) (c - i) := by
  refine ⟨by omega, by omega, by omega, fun ad' e => ?_, fun j hj => ?_⟩
  · cases A with
    | none => cases e
    | some x => cases e; exact ⟨x, rfl, by simp [add_block]⟩
  · obtain ⟨ad, rfl⟩ := h3 (by omega)
    exact ⟨ad, _, rfl, rfl, add_add ad i j⟩
def RWrite (w0 w : World) (r : Nat) (lv : Value) (Y : Nat → Prop) (R : Dk × Int) (e : Ending) (w' : World) : Prop :=
  ∃ lv' L' Y', e = .returned (.int .i64 R.2) ∧ Ref w0 w' r lv' L' Y' R.1 ∧ Chg (MF r lv) w w' ∧ Fresh w (MF r lv) (MF r lv') ∧ Fresh w Y Y'
set_option maxHeartbeats 4000000 in
theorem Ref.bwrite (h : Ref w0 w r lv L Y D) (a : Int) {v : Value} {l : List Int} (hv : BytesIs w v l) (hb : Bytey l) (hvm : ∀ b, v.ownBlock = some b → ¬ MF r lv b ∧ b < w.heap.size) (hll : l.length ≤ 1000000) :
    Calls Try.prog 169 #[.pointer (some ⟨r, 0, none⟩), .int .i64 a, v] w (RWrite w0 w r lv Y (D.bwr a l)) := by
  have hs := Lib.hid h.sectors
  have hn1 := h.ok.n1
  have hn2 := h.ok.n2
  have H := Lib.hid h
  have hv0 := hv
  obtain ⟨A, cc, rfl, g1, g2, g3⟩ := hv
  have HV := Lib.hid hv0
  have HB := Lib.hid hb
  have HVM := Lib.hid hvm
  clear h hv0 hb hvm
  have hstay : ∀ c : Int, RWrite w0 w r lv Y (D, c) (.returned (.int .i64 c)) w := fun c => ⟨lv, L, Y, rfl, H.out, Chg.refl _ _, Fresh.refl _ _, Fresh.refl _ _⟩
  have HST := Lib.hid hstay
  clear hstay
  unfold Dk.bwr
  by_cases h5 : l.length % 512 ≠ 0
  · rw [if_pos h5]
    have hr : ((l.length : Int) % 512 != 0) = true := by simp; omega
    go_enter Try.func169, Try.ntmps169
    go_wp2
    go_ret
    exact HST.out 2
  · rw [if_neg h5]
    obtain ⟨m, hm2⟩ : ∃ m : Nat, l.length = 512 * m := ⟨l.length / 512, by omega⟩
    have e5 : l.length / 512 = m := by omega
    have HL := Lib.hid hm2
    have HG3 := Lib.hid g3
    rw [e5]
    rw [hm2] at HV HVM g1 ⊢
    have hr : (((512 * m : Nat) : Int) % 512 != 0) = false := by simp
    have hq : (((512 * m : Nat) : Int) / 512) = (m : Int) := by omega
    have hccm : cc ≤ 9223372036854775807 := by simp only [maxLen] at g2; omega
    rw [hm2] at hll
    clear h5 e5 hm2 g3 g2
    rcases inRow_cases D a (m : Int) with h6 | ⟨h6, ha0, ha1, ha2⟩
    · rw [if_pos h6]
      unfold Dk.inRow at h6
      generalize hdn : D.n = dn at hs hn1 hn2 h6
      have h66 : a < 0 ∨ (0 ≤ a ∧ dn < a) ∨ (0 ≤ a ∧ a ≤ dn ∧ dn - a < m) := by
        split at h6
        · exact .inl (by assumption)
        · split at h6
          · exact .inr (.inl ⟨by omega, by assumption⟩)
          · split at h6
            · exact .inr (.inr ⟨by omega, by omega, by assumption⟩)
            · cases h6
      clear h6 hdn
      rcases h66 with g | ⟨g, g2⟩ | ⟨g, g2, g3⟩
      iterate 3
        · go_enter Try.func169, Try.ntmps169
          go_wp2_with (go_at_call 112; refine hs.out.mono ?_; rintro e w1 ⟨rfl, rfl⟩)
          go_ret
          exact HST.out 6
    · rw [if_neg (by omega)]
      clear h6
      go_enter Try.func169, Try.ntmps169
      go_wp2_with (go_at_call 112; refine hs.out.mono ?_; rintro e w1 ⟨rfl, rfl⟩)
      go_loopw [8] (fun t wr => ∃ i : Nat, i ≤ m ∧ t = .int .i64 i ∧ ∃ lv' L' Y' D', Ref w0 wr r lv' L' Y' D' ∧ D'.n = D.n ∧ Dk.bw m D a l = Dk.bw (m - i) D' (a + i) (l.drop (512 * i)) ∧ Chg (MF r lv) w wr ∧ Fresh w (MF r lv) (MF r lv') ∧ Fresh w Y Y') (fun t _ => m - (intOf t).toNat)
      case atStart => exact ⟨0, by omega, rfl, lv, L, Y, D, H.out, rfl, by simp, Chg.refl _ _, Fresh.refl _ _, Fresh.refl _ _⟩
      case round =>
        obtain ⟨i, hi, rfl, lv', L', Y', D', hrf, hdn, hbw, hch, hf1, hf2⟩ := hrel
        by_cases hlt : i < m
        · have hi5 : 512 * (i : Int) ≤ 512 * ((i : Int) + 1) := by omega
          obtain ⟨A1, c1, hve, hlc, hcm, hcA⟩ := id HV.out
          rw [HL.out] at hve hlc
          cases hve
          have hsub := (SubS.sub (A := A) (L := 512 * m) hlc hcm (fun hp => by
            obtain ⟨ad, e, _⟩ := hcA 0 (.int .u8 (l.getD 0 0)) (by
              have : 0 < l.length := by rw [HL.out]; exact hp
              simp [bytesV, this])
            exact ⟨ad, e⟩) (512 * i) (by omega))
          have hAm : ∀ ad, A = some ad → ¬ MF r lv' ad.block := fun ad e e2 => by
            have h1 := HVM.out ad.block (by rw [e]; rfl)
            rcases hf1 _ e2 with e3 | e3
            · exact h1.1 e3
            · omega
          have hAw : CellsAt wr A (bytesV l) := hcA.chg hch (fun ad e => (HVM.out ad.block (by rw [e]; rfl)).1)
          have hrow := hsub.bytes HL.out hAw 512 (by omega)
          have hwr := hrf.writes (a + i) hrow (fun z hz => HB.out z (List.mem_of_mem_drop (List.mem_of_mem_take hz))) (fun b e e2 => by
            cases A with
            | none => cases e
            | some x =>
              have e3 : (x.add (512 * i)).block = b := by simpa [Value.ownBlock] using e
              rw [add_block] at e3
              exact hAm x rfl (e3 ▸ e2))
          have hst := bw_step (D := D') (a := a) (l := l) (m := m) hlt
          rw [← hbw] at hst
          generalize hrw : (l.drop (512 * i)).take 512 = row at hwr hst
          have HWR := Lib.hid hwr
          have HCH := Lib.hid hch
          have HF1 := Lib.hid hf1
          have HF2 := Lib.hid hf2
          have HDN := Lib.hid hdn
          clear hrw hwr hrow hAw hAm hsub hcA hlc hcm hbw hch hf1 hf2 hrf hdn
          by_cases hc : D'.wcode (a + i) row = 0
          · rw [if_pos hc] at hst
            have HSTP := Lib.hid hst
            have HW := HWR.out
            rw [hc] at HW
            have HW0 := Lib.hid HW
            clear hst hc HW
            go_wp2_with fail
            rw [show 512 * (i + 1) - 512 * i = 512 by omega]
            refine HW0.out.mono ?_
            rintro e w3 ⟨lv3, L3, Y3, rfl, hrf3, hch3, hf13, hf23⟩
            have hR : Hid (∃ lv' L' Y' D', Ref w0 w3 r lv' L' Y' D' ∧ D'.n = D.n ∧ Dk.bw m D a l = Dk.bw (m - (i + 1)) D' (a + ((i + 1 : Nat) : Int)) (l.drop (512 * (i + 1))) ∧ Chg (MF r lv) w w3 ∧ Fresh w (MF r lv) (MF r lv') ∧ Fresh w Y Y') := Lib.hid ⟨lv3, L3, Y3, _, hrf3, by rw [Dk.writes_n]; exact HDN.out, HSTP.out, HCH.out.then hch3 (fun b hb e => by rcases HF1.out b e with e3 | e3; exact e3; omega), HF1.out.trans hf13 HCH.out.size, HF2.out.trans hf23 HCH.out.size⟩
            clear hrf3 hch3 hf13 hf23
            go_wp2_with fail
            go_roundw
            case rel => exact ⟨i + 1, by omega, by go_num, hR.out⟩
            case measure => simp [intOf]; omega
          · rw [if_neg hc] at hst
            have hne : (D'.wcode (a + i) row != 0) = true := by simpa using hc
            generalize hwc : D'.wcode (a + i) row = wc at HWR hne hst
            have HSTP := Lib.hid hst
            clear hst hc hwc
            go_wp2_with fail
            rw [show 512 * (i + 1) - 512 * i = 512 by omega]
            refine HWR.out.mono ?_
            rintro e w3 ⟨lv3, L3, Y3, rfl, hrf3, hch3, hf13, hf23⟩
            have hR : Hid (RWrite w0 w r lv Y (Dk.bw m D a l) (.returned (.int .i64 wc)) w3) := Lib.hid (by
              rw [HSTP.out]
              exact ⟨lv3, L3, Y3, rfl, hrf3, HCH.out.then hch3 (fun b hb e => by rcases HF1.out b e with e3 | e3; exact e3; omega), HF1.out.trans hf13 HCH.out.size, HF2.out.trans hf23 HCH.out.size⟩)
            clear hrf3 hch3 hf13 hf23
            go_wp2_with fail
            go_ret
            exact hR.out
        · have hR : Hid (RWrite w0 w r lv Y (Dk.bw m D a l) (.returned (.int .i64 0)) wr) := Lib.hid (by
            have e : Dk.bw m D a l = (D', 0) := by rw [hbw, show m - i = 0 by omega]; rfl
            rw [e]
            exact ⟨lv', L', Y', rfl, hrf, hch, hf1, hf2⟩)
          clear hrf hdn hbw hch hf1 hf2
          go_wp2_with fail
          go_ret
          exact hR.out
end
end Go.Proofs.Yteeamlidmkpohaa


/-
  A step of a blob's life: a row is written.
-/
set_option linter.unusedVariables false
set_option linter.unusedSimpArgs false
set_option maxRecDepth 100000
namespace Go.Proofs.Yteeamlidmkpohaa
open Go.RowKit Go.Sort

structure Do20 where
  op : Int
  at_ : Int
  n : Int
  byte : Int
structure Do20.Ok (x : Do20) : Prop where
  i0 : In64 x.op
  i1 : In64 x.at_
  i2 : In64 x.n
  i3 : 0 ≤ x.byte ∧ x.byte ≤ 255
def Do20.val (x : Do20) : Value := .agg #[.int .i64 x.op, .int .i64 x.at_, .int .i64 x.n, .int .u8 x.byte]
def Do20.bytes (x : Do20) : List Int := if x.n.tmod 11 = 7 then fullL20 (x.n % 1500).toNat x.byte else fullL20 ((x.n % 6).toNat * 512) x.byte
def does20 (x : Do20) (D : Dk) : Dk :=
  if x.op % 6 ≤ 1 then (D.bwr x.at_ x.bytes).1 else if x.op % 6 = 4 then D.arm x.n else if x.op % 6 = 5 then D.syncs else D

/-- a cache over its device, and the reference's, apart -/
structure Duo (w0 w : World) (p ms mo c mk : Nat) (K : Ck) (Y : Nat → Prop) (D : Dk) (r : Nat) (lv : Value) (L : List RS) (Z : Nat → Prop) (D2 : Dk) : Prop where
  cd : CD w0 w p ms mo c mk K Y D
  rf : Ref w0 w r lv L Z D2
  qr : ∀ b, Qs p ms mo c mk Y b → ¬ Rs r lv Z b
def DuP (w0 w : World) (p ms mo c mk r : Nat) (D : Dk) (N : Int) : Prop := ∃ K Y lv L Z, Duo w0 w p ms mo c mk K Y D r lv L Z D ∧ FitN K D N
section
variable {w0 w w' : World} {p ms mo c mk r : Nat} {K K' : Ck} {Y Y' Z Z' : Nat → Prop} {D D2 D' : Dk} {lv lv' : Value} {L L' : List RS} {N : Int}
theorem Duo.below (h : Duo w0 w p ms mo c mk K Y D r lv L Z D2) (hb : Below w.heap.size w w') : Duo w0 w' p ms mo c mk K Y D r lv L Z D2 := ⟨h.cd.below hb, h.rf.below hb, h.qr⟩
theorem Duo.chg {F : Nat → Prop} (h : Duo w0 w p ms mo c mk K Y D r lv L Z D2) (hc : Chg F w w') (h0 : ∀ b, F b → w0.heap.size ≤ b) (h1 : ∀ b, Qs p ms mo c mk Y b → ¬ F b) (h2 : ∀ b, Rs r lv Z b → ¬ F b) : Duo w0 w' p ms mo c mk K Y D r lv L Z D2 :=
  ⟨h.cd.chg hc h0 (fun b e => h1 b (.inl e)) (fun b e => h1 b (.inr (.inl e))) (fun b e => h1 b (.inr (.inr e))), h.rf.chg hc (fun b e => h2 b (.inl e)) (fun b e => h2 b (.inr e)), h.qr⟩
theorem Duo.cstep (h : Duo w0 w p ms mo c mk K Y D r lv L Z D2) (hd : CD w0 w' p ms mo c mk K' Y' D') (hc : Chg (fun b => DF p ms mo b ∨ CF c mk b) w w') (hf : Fresh w Y Y') : Duo w0 w' p ms mo c mk K' Y' D' r lv L Z D2 := by
  have hq : ∀ b, (DF p ms mo b ∨ CF c mk b) → Qs p ms mo c mk Y b := fun b e => e.imp id .inl
  refine ⟨hd, h.rf.chg hc (fun b e e2 => h.qr b (hq b e2) (.inl e)) (fun b e e2 => h.qr b (hq b e2) (.inr e)), fun b e e2 => ?_⟩
  rcases qs_fresh hf b e with e3 | e3
  · exact h.qr b e3 e2
  · have := (h.rf.rs b e2).2; omega
theorem Duo.rstep (h : Duo w0 w p ms mo c mk K Y D r lv L Z D2) (hd : Ref w0 w' r lv' L' Z' D') (hc : Chg (MF r lv) w w') (hm : Fresh w (MF r lv) (MF r lv')) (hz : Fresh w Z Z') : Duo w0 w' p ms mo c mk K Y D r lv' L' Z' D' := by
  refine ⟨h.cd.chg hc (fun b e => (h.rf.mf b e).1) (fun b e e2 => h.qr b (.inl e) (.inl e2)) (fun b e e2 => h.qr b (.inr (.inl e)) (.inl e2)) (fun b e e2 => h.qr b (.inr (.inr e)) (.inl e2)), hd, fun b e e2 => ?_⟩
  have : Rs r lv Z b ∨ w.heap.size ≤ b := by
    rcases e2 with e2 | e2
    · exact (hm b e2).imp .inl id
    · exact (hz b e2).imp .inr id
  rcases this with e3 | e3
  · exact h.qr b e e3
  · have := (h.cd.qs b e).2; omega
theorem Duo.drew (h : Duo w0 w p ms mo c mk K Y D r lv L Z D2) : Duo w0 w.drew p ms mo c mk K Y D r lv L Z D2 := h.below (Below.refl _ _).drew
theorem Do20.bytes_len (x : Do20) : x.bytes.length ≤ 3000 := by
  unfold Do20.bytes
  split
  · rw [fullL20_len]; omega
  · rw [fullL20_len]; omega
theorem Do20.bytes_bytey (x : Do20) : Bytey x.bytes := by
  unfold Do20.bytes
  split
  · exact fullL20_bytey _ _
  · exact fullL20_bytey _ _

set_option maxHeartbeats 8000000 in
theorem step20_write (h : Duo w0 w p ms mo c mk K Y D r lv L Z D) (hi : FitN K D N) (x : Do20) (hx : x.Ok) (hk : x.op % 6 ≤ 1) (hN : N < 900000000) :
    Calls Try.prog 117 #[.pointer (some ⟨c, 0, none⟩), .pointer (some ⟨p, 0, none⟩), .pointer (some ⟨r, 0, none⟩), x.val] w fun e w' => e = .returned (.bool true) ∧ DuP w0 w' p ms mo c mk r (does20 x D) (N + 262144) := by
  have hdo : does20 x D = (D.bwr x.at_ x.bytes).1 := by simp [does20, hk]
  rw [hdo]
  clear hdo
  obtain ⟨q1, q2⟩ := hx.i0
  obtain ⟨n1, n2⟩ := hx.i2
  obtain ⟨b1, b2⟩ := hx.i3
  have hcase : x.op % 6 = 0 ∨ x.op % 6 = 1 := by omega
  have hob := heap_alloc_new w (.cells #[.int .i64 x.op, .int .i64 x.at_, .int .i64 x.n, .int .u8 x.byte] 144)
  have hbe : Below w.heap.size w (w.alloc (.cells #[.int .i64 x.op, .int .i64 x.at_, .int .i64 x.n, .int .u8 x.byte] 144)) := below_alloc' (Below.refl _ _) _
  have hP := h.below hbe
  have k0 := cell_blk hob 0 _ rfl
  have k1 := cell_blk hob 1 _ rfl
  have k2 := cell_blk hob 2 _ rfl
  have k3 := cell_blk hob 3 _ rfl
  have hbl : w.heap.size < (w.alloc (.cells #[.int .i64 x.op, .int .i64 x.at_, .int .i64 x.n, .int .u8 x.byte] 144)).heap.size := by simp
  obtain ⟨q, hq⟩ : ∃ q : Nat, x.n % 6 = q := ⟨(x.n % 6).toNat, by omega⟩
  obtain ⟨q5, hq5⟩ : ∃ q : Nat, x.n % 1500 = q := ⟨(x.n % 1500).toNat, by omega⟩
  obtain ⟨L1, hL1⟩ : ∃ L1 : Nat, L1 = q * 512 := ⟨_, rfl⟩
  have hq6 : q < 6 := by omega
  have hq15 : q5 < 1500 := by omega
  have hL16 : L1 ≤ 3000 := by omega
  have hw1 : IntKind.i64.wrap ((q : Int) * 512) = (L1 : Int) := by rw [IntKind.wrap_i64]; omega
  have P6 : Hid (∀ W, Calls Try.prog 31 #[.int .i64 x.n, .int .i64 6] W fun e w' => e = .returned (.int .i64 (q : Int)) ∧ W = w') := Lib.hid (fun W => by
    refine (pick_pos x.n 6 W (by decide) (by decide) n1 n2).mono ?_
    rintro e w' ⟨rfl, rfl⟩
    exact ⟨by rw [hq], rfl⟩)
  have P15 : Hid (∀ W, Calls Try.prog 31 #[.int .i64 x.n, .int .i64 1500] W fun e w' => e = .returned (.int .i64 (q5 : Int)) ∧ W = w') := Lib.hid (fun W => by
    refine (pick_pos x.n 1500 W (by decide) (by decide) n1 n2).mono ?_
    rintro e w' ⟨rfl, rfl⟩
    exact ⟨by rw [hq5], rfl⟩)
  have HBY : Hid (x.bytes = if x.n.tmod 11 = 7 then fullL20 q5 x.byte else fullL20 L1 x.byte) := Lib.hid (by
    unfold Do20.bytes
    rw [hq, hq5, hL1]
    simp)
  have HQ : Hid (∀ b, (DF p ms mo b ∨ CF c mk b) → b < w.heap.size) := Lib.hid (fun b e => by
    rcases e with e | e
    · exact h.cd.dv.lt b e
    · exact (h.cd.ca.cf b e).2)
  have HY : Hid (∀ b, Y b → b < w.heap.size) := Lib.hid (fun b e => (h.cd.ca.y b e).2.1)
  have HMF : Hid (∀ b, MF r lv b → b < w.heap.size) := Lib.hid (fun b e => (h.rf.mf b e).2)
  have HZ : Hid (∀ b, Z b → b < w.heap.size) := Lib.hid (fun b e => (h.rf.y b e).2.1)
  have H0 : Hid (w0.heap.size ≤ w.heap.size) := Lib.hid h.cd.dv.be.size
  have HI := Lib.hid hi
  have HBE := Lib.hid hbe
  have HXL := Lib.hid x.bytes_len
  have HXB := Lib.hid x.bytes_bytey
  have HB12 := Lib.hid (And.intro b1 b2)
  clear hq hq5 hL1 hq6 hob hbe hi h n1 n2 b1 b2
  unfold Do20.val
  rcases hcase with e | e
  iterate 2
    · have hpk := pick_pos x.op 6
      rw [e] at hpk
      have HPK := Lib.hid hpk
      clear hpk e hk
      by_cases ht : x.n.tmod 11 = 7
      · have ht1 : (x.n.tmod 11 == 7) = true := by simpa using ht
        rw [if_pos ht] at HBY
        clear ht
        go_enter Try.func117, Try.ntmps117
        go_wp2_with
          (first
            | (go_at_call 31; refine (HPK.out _ (by omega) (by omega) q1 q2).mono ?_; rintro e w1 ⟨rfl, rfl⟩))
        clear HPK
        generalize w.alloc (.cells #[.int .i64 x.op, .int .i64 x.at_, .int .i64 x.n, .int .u8 x.byte] 144) = w1 at hP k0 k1 k2 k3 hbl HBE ⊢
        have hk123 : Hid (∀ V, Below w1.heap.size w1 V → V.cell? ⟨w.heap.size, 1, none⟩ = some (.int .i64 x.at_) ∧ V.cell? ⟨w.heap.size, 2, none⟩ = some (.int .i64 x.n) ∧ V.cell? ⟨w.heap.size, 3, none⟩ = some (.int .u8 x.byte)) := Lib.hid (fun V hV => ⟨(hV.cell (p := ⟨w.heap.size, 1, none⟩) hbl).trans k1, (hV.cell (p := ⟨w.heap.size, 2, none⟩) hbl).trans k2, (hV.cell (p := ⟨w.heap.size, 3, none⟩) hbl).trans k3⟩)
        go_region_held3 (fun w' => w'.cell? ⟨w.heap.size, 2, none⟩ = some (.int .i64 x.n) ∧ w'.cell? ⟨w.heap.size, 3, none⟩ = some (.int .u8 x.byte)) (first | exact ⟨k2, k3⟩ | exact (hk123.out _ (Below.refl _ _).drew).2 | exact (hk123.out _ HB2.out).2)
          (first
            | (go_at_call 31; refine (P6.out _).mono ?_; rintro e w5 ⟨rfl, rfl⟩)
            | (go_at_call 118; refine (full20_any _ L1 (by omega) _ HB12.out.1 HB12.out.2).mono ?_; rintro e w2 ⟨vb, rfl, hvb, hb2⟩; have HB2 := Lib.hid ((Below.refl w1.heap.size w1).drew.trans (hb2.mono (Nat.le_refl _))); have HVB := Lib.hid hvb; clear hvb hb2))
        clear P6
        have k2b := (hk123.out _ HB2.out).2.1
        have k3b := (hk123.out _ HB2.out).2.2
        go_wp2_with fail
        go_region_held3 (fun w' => w'.cell? ⟨w.heap.size, 2, none⟩ = some (.int .i64 x.n) ∧ w'.cell? ⟨w.heap.size, 3, none⟩ = some (.int .u8 x.byte)) (first | exact ⟨k2b, k3b⟩ | exact (hk123.out _ HB2.out.drew).2 | exact (hk123.out _ HB3.out).2)
          (first
            | (go_at_call 31; refine (P15.out _).mono ?_; rintro e w5 ⟨rfl, rfl⟩)
            | (go_at_call 118; refine (full20_any _ q5 (by omega) _ HB12.out.1 HB12.out.2).mono ?_; rintro e w3 ⟨vc, rfl, hvc, hb3⟩; have HB3 := Lib.hid (HB2.out.drew.trans (hb3.mono HB2.out.size)); have HVC := Lib.hid hvc; clear hvc hb3))
        have HP2 := Lib.hid (hP.below HB3.out)
        have hfv : Hid (∀ b, vc.ownBlock = some b → w.heap.size < b ∧ b < w3.heap.size) := Lib.hid (fun b e => by have h1 := (HVC.out.lt b e); have := hbl; have := HB2.out.size; simp at h1; omega)
        have HV2 : Hid (BytesIs w3 vc x.bytes) := Lib.hid (by rw [HBY.out]; exact BytesIs.of_own (fullL20_len _ _) HVC.out)
        have hgl : w.heap.size < w3.heap.size := Nat.lt_of_lt_of_le hbl HB3.out.size
        clear hP
        go_wp2_with
          (first
            | (go_at_call 75; refine (lentBytes_any _ _ _ HV2.out (by have := HXL.out; omega)).mono ?_; rintro e w4 ⟨rfl, hL4, hb4⟩
               have HP4 := Lib.hid (HP2.out.below hb4).drew
               have HL4 : Hid (LentB w4.drew w3.heap.size x.bytes) := Lib.hid (hL4.chg (F := fun _ => False) (Chg.refl _ _).drew id)
               have HV4 : Hid (BytesIs w4.drew vc x.bytes) := Lib.hid (HV2.out.below hb4).drew
               have m4 : w4.cell? ⟨w.heap.size, 1, none⟩ = some (.int .i64 x.at_) := (hk123.out _ (HB3.out.trans (hb4.mono HB3.out.size))).1
               have m4d : w4.drew.cell? ⟨w.heap.size, 1, none⟩ = some (.int .i64 x.at_) := m4
               have hg4 : w3.heap.size < w4.drew.heap.size := LentB.lt hL4
               have hw4 : w3.heap.size ≤ w4.heap.size := hb4.size
               clear hL4 hb4))
        have HWR := Lib.hid (HP4.out.cd.bwrite HI.out x.at_ (HL4.out.bytes (by have := HXL.out; omega)) HXB.out (fun b e e2 => by have h1 := HQ.out b (.inl e2); simp [Value.ownBlock] at e; omega) (fun b e e2 => by have h1 := HQ.out b (.inr e2); simp [Value.ownBlock] at e; omega) hN)
        go_region_held3 (fun w' => w'.cell? ⟨w.heap.size, 1, none⟩ = some (.int .i64 x.at_)) (first | exact m4 | exact m4d | exact m5 | exact m6 | exact m7)
          (first
            | (go_at_call 116; refine HWR.out.mono ?_
               rintro e w5 ⟨K5, Y5, rfl, hcd5, hfi5, hc5, hf5⟩
               have HP5 := Lib.hid (HP4.out.cstep hcd5 hc5 hf5)
               have m5 : w5.cell? ⟨w.heap.size, 1, none⟩ = some (.int .i64 x.at_) := (hc5.cell (p := ⟨w.heap.size, 1, none⟩) (by show w.heap.size < _; omega) (fun e => by have h9 : w.heap.size < w.heap.size := HQ.out _ e; omega)).trans m4d
               have hw5 : w4.drew.heap.size ≤ w5.heap.size := hc5.size
               have HL5 := Lib.hid (HL4.out.chg hc5 (fun e => by have h9 := HQ.out _ e; omega))
               have HV5 := Lib.hid (HV4.out.chg hc5 (fun b e e2 => by have h1 := HQ.out _ e2; have h2 := hfv.out b e; omega))
               have HFI5 := Lib.hid hfi5
               have HF5 := Lib.hid hf5
               clear hcd5 hfi5 hc5 hf5)
            | (go_at_call 169; refine (HP5.out.rf.bwrite x.at_ HV5.out HXB.out (fun b e => ⟨fun e2 => by have h1 := HMF.out _ e2; have h2 := hfv.out b e; omega, by have h2 := hfv.out b e; omega⟩) (by have := HXL.out; omega)).mono ?_
               rintro e w6 ⟨lv6, L6, Z6, rfl, hR6, hc6, hm6, hz6⟩
               have m6 : w6.cell? ⟨w.heap.size, 1, none⟩ = some (.int .i64 x.at_) := (hc6.cell (p := ⟨w.heap.size, 1, none⟩) (by show w.heap.size < _; omega) (fun e => by have h9 : w.heap.size < w.heap.size := HMF.out _ e; omega)).trans m5
               have hw6 : w5.heap.size ≤ w6.heap.size := hc6.size
               have HL6 := Lib.hid (HL5.out.chg hc6 (fun e => by have h9 := HMF.out _ e; omega))
               have HV6 := Lib.hid (HV5.out.chg hc6 (fun b e e2 => by have h1 := HMF.out _ e2; have h2 := hfv.out b e; omega))
               have HP6 := Lib.hid (HP5.out.rstep hR6 hc6 hm6 hz6)
               have HM6 := Lib.hid hm6
               have HZ6 := Lib.hid hz6
               clear hR6 hc6 hm6 hz6)
            | (go_at_call 77; refine (keptBytes_any _ _ _ _ HL6.out HV6.out (by have := HXL.out; omega)).mono ?_
               rintro e w7 ⟨rfl, hb7⟩
               have m7 : w7.cell? ⟨w.heap.size, 1, none⟩ = some (.int .i64 x.at_) := (hb7.cell (p := ⟨w.heap.size, 1, none⟩) (by show w.heap.size < _; omega)).trans m6
               have HL7 := Lib.hid (HL6.out.below hb7)
               have HP7 := Lib.hid (HP6.out.below hb7)
               clear hb7))
        clear m4 m4d m5 m6 m7
        go_wp2_with (go_at_call 78; refine (overBytes_any _ _ _ HL7.out (by have := HXL.out; omega)).mono ?_; rintro e w8 ⟨rfl, hc8⟩)
        go_ret
        refine ⟨rfl, K5, Y5, lv6, L6, Z6, HP7.out.chg hc8 (fun b e => by have := H0.out; omega) (fun b e e2 => ?_) (fun b e e2 => ?_), HFI5.out⟩
        · rcases e with e | e | e
          · have := HQ.out b (.inl e); omega
          · have := HQ.out b (.inr e); omega
          · rcases HF5.out b e with e3 | e3
            · have := HY.out b e3; omega
            · omega
        · rcases e with e | e
          · rcases HM6.out b e with e3 | e3
            · have := HMF.out b e3; omega
            · omega
          · rcases HZ6.out b e with e3 | e3
            · have := HZ.out b e3; omega
            · omega
      · have ht1 : (x.n.tmod 11 == 7) = false := by simpa using ht
        rw [if_neg ht] at HBY
        clear ht
        go_enter Try.func117, Try.ntmps117
        go_wp2_with
          (first
            | (go_at_call 31; refine (HPK.out _ (by omega) (by omega) q1 q2).mono ?_; rintro e w1 ⟨rfl, rfl⟩))
        clear HPK
        generalize w.alloc (.cells #[.int .i64 x.op, .int .i64 x.at_, .int .i64 x.n, .int .u8 x.byte] 144) = w1 at hP k0 k1 k2 k3 hbl HBE ⊢
        have hk123 : Hid (∀ V, Below w1.heap.size w1 V → V.cell? ⟨w.heap.size, 1, none⟩ = some (.int .i64 x.at_) ∧ V.cell? ⟨w.heap.size, 2, none⟩ = some (.int .i64 x.n) ∧ V.cell? ⟨w.heap.size, 3, none⟩ = some (.int .u8 x.byte)) := Lib.hid (fun V hV => ⟨(hV.cell (p := ⟨w.heap.size, 1, none⟩) hbl).trans k1, (hV.cell (p := ⟨w.heap.size, 2, none⟩) hbl).trans k2, (hV.cell (p := ⟨w.heap.size, 3, none⟩) hbl).trans k3⟩)
        go_region_held3 (fun w' => w'.cell? ⟨w.heap.size, 2, none⟩ = some (.int .i64 x.n) ∧ w'.cell? ⟨w.heap.size, 3, none⟩ = some (.int .u8 x.byte)) (first | exact ⟨k2, k3⟩ | exact (hk123.out _ (Below.refl _ _).drew).2 | exact (hk123.out _ HB2.out).2)
          (first
            | (go_at_call 31; refine (P6.out _).mono ?_; rintro e w5 ⟨rfl, rfl⟩)
            | (go_at_call 118; refine (full20_any _ L1 (by omega) _ HB12.out.1 HB12.out.2).mono ?_; rintro e w2 ⟨vb, rfl, hvb, hb2⟩; have HB2 := Lib.hid ((Below.refl w1.heap.size w1).drew.trans (hb2.mono (Nat.le_refl _))); have HVB := Lib.hid hvb; clear hvb hb2))
        clear P6
        have k2b := (hk123.out _ HB2.out).2.1
        have k3b := (hk123.out _ HB2.out).2.2
        have HP2 := Lib.hid (hP.below HB2.out)
        have hfv : Hid (∀ b, vb.ownBlock = some b → w.heap.size < b ∧ b < w2.heap.size) := Lib.hid (fun b e => by have h1 := (HVB.out.lt b e); have := hbl; have := HB2.out.size; simp at h1; omega)
        have HV2 : Hid (BytesIs w2 vb x.bytes) := Lib.hid (by rw [HBY.out]; exact BytesIs.of_own (fullL20_len _ _) HVB.out)
        have hgl : w.heap.size < w2.heap.size := Nat.lt_of_lt_of_le hbl HB2.out.size
        clear hP
        go_wp2_with
          (first
            | (go_at_call 75; refine (lentBytes_any _ _ _ HV2.out (by have := HXL.out; omega)).mono ?_; rintro e w4 ⟨rfl, hL4, hb4⟩
               have HP4 := Lib.hid (HP2.out.below hb4).drew
               have HL4 : Hid (LentB w4.drew w2.heap.size x.bytes) := Lib.hid (hL4.chg (F := fun _ => False) (Chg.refl _ _).drew id)
               have HV4 : Hid (BytesIs w4.drew vb x.bytes) := Lib.hid (HV2.out.below hb4).drew
               have m4 : w4.cell? ⟨w.heap.size, 1, none⟩ = some (.int .i64 x.at_) := (hk123.out _ (HB2.out.trans (hb4.mono HB2.out.size))).1
               have m4d : w4.drew.cell? ⟨w.heap.size, 1, none⟩ = some (.int .i64 x.at_) := m4
               have hg4 : w2.heap.size < w4.drew.heap.size := LentB.lt hL4
               have hw4 : w2.heap.size ≤ w4.heap.size := hb4.size
               clear hL4 hb4))
        have HWR := Lib.hid (HP4.out.cd.bwrite HI.out x.at_ (HL4.out.bytes (by have := HXL.out; omega)) HXB.out (fun b e e2 => by have h1 := HQ.out b (.inl e2); simp [Value.ownBlock] at e; omega) (fun b e e2 => by have h1 := HQ.out b (.inr e2); simp [Value.ownBlock] at e; omega) hN)
        go_region_held3 (fun w' => w'.cell? ⟨w.heap.size, 1, none⟩ = some (.int .i64 x.at_)) (first | exact m4 | exact m4d | exact m5 | exact m6 | exact m7)
          (first
            | (go_at_call 116; refine HWR.out.mono ?_
               rintro e w5 ⟨K5, Y5, rfl, hcd5, hfi5, hc5, hf5⟩
               have HP5 := Lib.hid (HP4.out.cstep hcd5 hc5 hf5)
               have m5 : w5.cell? ⟨w.heap.size, 1, none⟩ = some (.int .i64 x.at_) := (hc5.cell (p := ⟨w.heap.size, 1, none⟩) (by show w.heap.size < _; omega) (fun e => by have h9 : w.heap.size < w.heap.size := HQ.out _ e; omega)).trans m4d
               have hw5 : w4.drew.heap.size ≤ w5.heap.size := hc5.size
               have HL5 := Lib.hid (HL4.out.chg hc5 (fun e => by have h9 := HQ.out _ e; omega))
               have HV5 := Lib.hid (HV4.out.chg hc5 (fun b e e2 => by have h1 := HQ.out _ e2; have h2 := hfv.out b e; omega))
               have HFI5 := Lib.hid hfi5
               have HF5 := Lib.hid hf5
               clear hcd5 hfi5 hc5 hf5)
            | (go_at_call 169; refine (HP5.out.rf.bwrite x.at_ HV5.out HXB.out (fun b e => ⟨fun e2 => by have h1 := HMF.out _ e2; have h2 := hfv.out b e; omega, by have h2 := hfv.out b e; omega⟩) (by have := HXL.out; omega)).mono ?_
               rintro e w6 ⟨lv6, L6, Z6, rfl, hR6, hc6, hm6, hz6⟩
               have m6 : w6.cell? ⟨w.heap.size, 1, none⟩ = some (.int .i64 x.at_) := (hc6.cell (p := ⟨w.heap.size, 1, none⟩) (by show w.heap.size < _; omega) (fun e => by have h9 : w.heap.size < w.heap.size := HMF.out _ e; omega)).trans m5
               have hw6 : w5.heap.size ≤ w6.heap.size := hc6.size
               have HL6 := Lib.hid (HL5.out.chg hc6 (fun e => by have h9 := HMF.out _ e; omega))
               have HV6 := Lib.hid (HV5.out.chg hc6 (fun b e e2 => by have h1 := HMF.out _ e2; have h2 := hfv.out b e; omega))
               have HP6 := Lib.hid (HP5.out.rstep hR6 hc6 hm6 hz6)
               have HM6 := Lib.hid hm6
               have HZ6 := Lib.hid hz6
               clear hR6 hc6 hm6 hz6)
            | (go_at_call 77; refine (keptBytes_any _ _ _ _ HL6.out HV6.out (by have := HXL.out; omega)).mono ?_
               rintro e w7 ⟨rfl, hb7⟩
               have m7 : w7.cell? ⟨w.heap.size, 1, none⟩ = some (.int .i64 x.at_) := (hb7.cell (p := ⟨w.heap.size, 1, none⟩) (by show w.heap.size < _; omega)).trans m6
               have HL7 := Lib.hid (HL6.out.below hb7)
               have HP7 := Lib.hid (HP6.out.below hb7)
               clear hb7))
        clear m4 m4d m5 m6 m7
        go_wp2_with (go_at_call 78; refine (overBytes_any _ _ _ HL7.out (by have := HXL.out; omega)).mono ?_; rintro e w8 ⟨rfl, hc8⟩)
        go_ret
        refine ⟨rfl, K5, Y5, lv6, L6, Z6, HP7.out.chg hc8 (fun b e => by have := H0.out; omega) (fun b e e2 => ?_) (fun b e e2 => ?_), HFI5.out⟩
        · rcases e with e | e | e
          · have := HQ.out b (.inl e); omega
          · have := HQ.out b (.inr e); omega
          · rcases HF5.out b e with e3 | e3
            · have := HY.out b e3; omega
            · omega
        · rcases e with e | e
          · rcases HM6.out b e with e3 | e3
            · have := HMF.out b e3; omega
            · omega
          · rcases HZ6.out b e with e3 | e3
            · have := HZ.out b e3; omega
            · omega
end
end Go.Proofs.Yteeamlidmkpohaa
