/-
  The reference's disk in plain words: a list of sectors, and the disk that it tells.
-/
import Derived.Test.YteeamlidmkpohaaDh
set_option linter.unusedVariables false
set_option linter.unusedSimpArgs false
namespace Go.Proofs.Yteeamlidmkpohaa
open Go.RowKit Go.Sort

/-- a sector that was written: its number, its latest and its safe bytes, is it open; and the slices that hold the bytes -/
structure RS where
  n : Int
  la : List Int
  sa : List Int
  op : Bool
  vl : Value
  vs : Value
def RS.cells (x : RS) : List Value := [.int .i64 x.n, x.vl, x.vs, .bool x.op]
def flat : List RS → List Value
  | [] => []
  | x :: r => x.cells ++ flat r
theorem flat_len : ∀ L : List RS, (flat L).length = L.length * 4
  | [] => rfl
  | x :: r => by simp [flat, RS.cells, flat_len r]; omega
theorem flat_append : ∀ (L M : List RS), flat (L ++ M) = flat L ++ flat M
  | [], M => rfl
  | x :: r, M => by simp [flat, flat_append r M]
theorem flat_at : ∀ (L : List RS) (i : Nat) (x : RS), L[i]? = some x → (flat L)[i * 4]? = some (.int .i64 x.n) ∧ (flat L)[i * 4 + 1]? = some x.vl ∧ (flat L)[i * 4 + 2]? = some x.vs ∧ (flat L)[i * 4 + 3]? = some (.bool x.op)
  | [], i, x, h => by simp at h
  | y :: r, 0, x, h => by
    simp at h
    subst h
    simp [flat, RS.cells]
  | y :: r, i + 1, x, h => by
    have h' : r[i]? = some x := by simpa using h
    have := flat_at r i x h'
    have e : ∀ j, (flat (y :: r))[(i + 1) * 4 + j]? = (flat r)[i * 4 + j]? := fun j => by
      rw [show (i + 1) * 4 + j = (i * 4 + j) + 4 by omega]
      simp [flat, RS.cells]
    exact ⟨by simpa using (e 0).trans this.1, (e 1).trans this.2.1, (e 2).trans this.2.2.1, (e 3).trans this.2.2.2⟩
theorem flat_set1 : ∀ (L : List RS) (i : Nat) (x : RS) (v : Value), L[i]? = some x → (flat L).set (i * 4 + 1) v = flat (L.set i { x with vl := v })
  | [], i, x, v, h => by simp at h
  | y :: r, 0, x, v, h => by
    simp at h
    subst h
    simp [flat, RS.cells]
  | y :: r, i + 1, x, v, h => by
    have h' : r[i]? = some x := by simpa using h
    have := flat_set1 r i x v h'
    rw [show (i + 1) * 4 + 1 = (i * 4 + 1) + 4 by omega]
    simp [flat, RS.cells, this]
theorem flat_set2 : ∀ (L : List RS) (i : Nat) (x : RS) (v : Value), L[i]? = some x → (flat L).set (i * 4 + 2) v = flat (L.set i { x with vs := v })
  | [], i, x, v, h => by simp at h
  | y :: r, 0, x, v, h => by
    simp at h
    subst h
    simp [flat, RS.cells]
  | y :: r, i + 1, x, v, h => by
    have h' : r[i]? = some x := by simpa using h
    have := flat_set2 r i x v h'
    rw [show (i + 1) * 4 + 2 = (i * 4 + 2) + 4 by omega]
    simp [flat, RS.cells, this]
theorem flat_set3 : ∀ (L : List RS) (i : Nat) (x : RS) (b : Bool), L[i]? = some x → (flat L).set (i * 4 + 3) (.bool b) = flat (L.set i { x with op := b })
  | [], i, x, v, h => by simp at h
  | y :: r, 0, x, v, h => by
    simp at h
    subst h
    simp [flat, RS.cells]
  | y :: r, i + 1, x, v, h => by
    have h' : r[i]? = some x := by simpa using h
    have := flat_set3 r i x v h'
    rw [show (i + 1) * 4 + 3 = (i * 4 + 3) + 4 by omega]
    simp [flat, RS.cells, this]

theorem flat_setA : ∀ (L : List RS) (i : Nat) (x : RS) (l : List Int) (v : Value) (b : Bool), L[i]? = some x → ((flat L).set (i * 4 + 1) v).set (i * 4 + 3) (.bool b) = flat (L.set i { x with la := l, op := b, vl := v })
  | [], i, x, l, v, b, h => by simp at h
  | y :: r, 0, x, l, v, b, h => by
    simp at h
    subst h
    simp [flat, RS.cells]
  | y :: r, i + 1, x, l, v, b, h => by
    have h' : r[i]? = some x := by simpa using h
    have := flat_setA r i x l v b h'
    rw [show (i + 1) * 4 + 1 = (i * 4 + 1) + 4 by omega, show (i + 1) * 4 + 3 = (i * 4 + 3) + 4 by omega]
    simp [flat, RS.cells, this]
theorem flat_setB : ∀ (L : List RS) (i : Nat) (x : RS) (l : List Int) (v : Value) (b : Bool), L[i]? = some x → ((flat L).set (i * 4 + 2) v).set (i * 4 + 3) (.bool b) = flat (L.set i { x with sa := l, op := b, vs := v })
  | [], i, x, l, v, b, h => by simp at h
  | y :: r, 0, x, l, v, b, h => by
    simp at h
    subst h
    simp [flat, RS.cells]
  | y :: r, i + 1, x, l, v, b, h => by
    have h' : r[i]? = some x := by simpa using h
    have := flat_setB r i x l v b h'
    rw [show (i + 1) * 4 + 2 = (i * 4 + 2) + 4 by omega, show (i + 1) * 4 + 3 = (i * 4 + 3) + 4 by omega]
    simp [flat, RS.cells, this]

/-- the list tells the disk -/
structure Rel (L : List RS) (D : Dk) : Prop where
  sec : ∀ (i : Nat) (x : RS), L[i]? = some x → IsSec x.la ∧ IsSec x.sa
  lat : ∀ (i : Nat) (x : RS), L[i]? = some x → D.latest x.n = x.la
  saf : ∀ (i : Nat) (x : RS), L[i]? = some x → (D.safe x.n).getD noughts = x.sa
  op : ∀ (i : Nat) (x : RS), L[i]? = some x → x.op = (D.opn x.n).isSome
  uniq : ∀ (i j : Nat) (x y : RS), L[i]? = some x → L[j]? = some y → x.n = y.n → i = j
  no : ∀ k : Int, (∀ (i : Nat) (x : RS), L[i]? = some x → x.n ≠ k) → D.opn k = none ∧ D.safe k = none
  rng : ∀ (i : Nat) (x : RS), L[i]? = some x → 0 ≤ x.n ∧ x.n < D.n

theorem pigeon : ∀ (n m : Nat) (f : Nat → Nat), (∀ i, i < m → f i < n) → (∀ i j, i < m → j < m → f i = f j → i = j) → m ≤ n
  | 0, m, f, h1, _ => by
    rcases Nat.eq_zero_or_pos m with h | h
    · omega
    · have := h1 0 h; omega
  | n + 1, 0, f, _, _ => by omega
  | n + 1, k + 1, f, h1, h2 => by
    have hk := h1 k (by omega)
    have := pigeon n k (fun i => if f i = n then f k else f i) (fun i hi => by
      have a := h1 i (by omega)
      have b : f i = f k → i = k := h2 i k (by omega) (by omega)
      by_cases e : f i = n
      · simp only [e, if_true]
        have : f k ≠ n := fun e2 => by have := b (by omega); omega
        omega
      · simp only [e, if_false]; omega) (fun i j hi hj e => by
      have a : f i = f k → i = k := h2 i k (by omega) (by omega)
      have b : f j = f k → j = k := h2 j k (by omega) (by omega)
      have c : f i = f j → i = j := h2 i j (by omega) (by omega)
      by_cases e1 : f i = n
      · by_cases e2 : f j = n
        · exact c (by omega)
        · simp only [e1, e2, if_true, if_false] at e
          have := b e.symm; omega
      · by_cases e2 : f j = n
        · simp only [e1, e2, if_true, if_false] at e
          have := a e; omega
        · simp only [e1, e2, if_false] at e
          exact c e)
    omega
theorem Rel.len {L : List RS} {D : Dk} (h : Rel L D) (hn : 0 ≤ D.n) : (L.length : Int) ≤ D.n := by
  have := pigeon D.n.toNat L.length (fun i => ((L[i]?).elim 0 RS.n).toNat) (fun i hi => by
    have e : L[i]? = some L[i] := List.getElem?_eq_getElem hi
    have := h.rng i _ e
    simp only [e, Option.elim_some]
    omega) (fun i j hi hj e => by
    have e1 : L[i]? = some L[i] := List.getElem?_eq_getElem hi
    have e2 : L[j]? = some L[j] := List.getElem?_eq_getElem hj
    have r1 := h.rng i _ e1
    have r2 := h.rng j _ e2
    simp only [e1, e2, Option.elim_some] at e
    exact h.uniq i j _ _ e1 e2 (by omega))
  omega

theorem Rel.congr {L : List RS} {D E : Dk} (h : Rel L D) (h1 : E.opn = D.opn) (h2 : E.safe = D.safe) (h3 : E.n = D.n) : Rel L E :=
  ⟨h.sec, fun i x e => by rw [← h.lat i x e]; simp [Dk.latest, h1, h2], fun i x e => by rw [h2]; exact h.saf i x e, fun i x e => by rw [h1]; exact h.op i x e, h.uniq, fun k hk => by rw [h1, h2]; exact h.no k hk, fun i x e => by rw [h3]; exact h.rng i x e⟩
theorem Rel.new (n : Int) : Rel [] (Dk.new n) := ⟨by simp, by simp, by simp, by simp, by simp, fun k _ => ⟨rfl, rfl⟩, by simp⟩

theorem put_latest (D : Dk) (k : Int) (l : List Int) (j : Int) : (D.put k l).latest j = if j = k then l else D.latest j := by
  by_cases e : j = k
  · simp [Dk.latest, Dk.put, e]
  · simp [Dk.latest, Dk.put, e]
/-- a sector is written anew -/
theorem Rel.put {L : List RS} {D : Dk} (h : Rel L D) {i : Nat} {x : RS} (hx : L[i]? = some x) {l : List Int} (hl : IsSec l) (v : Value) : Rel (L.set i { x with la := l, op := true, vl := v }) (D.put x.n l) := by
  have hi : i < L.length := (List.getElem?_eq_some_iff.1 hx).1
  have key : ∀ (j : Nat) (y : RS), (L.set i { x with la := l, op := true, vl := v })[j]? = some y → (j = i ∧ y = { x with la := l, op := true, vl := v }) ∨ (j ≠ i ∧ L[j]? = some y ∧ y.n ≠ x.n) := by
    intro j y hy
    by_cases e : j = i
    · subst e
      rw [List.getElem?_set_self hi] at hy
      cases hy
      exact .inl ⟨rfl, rfl⟩
    · rw [List.getElem?_set_ne (fun e2 => e e2.symm)] at hy
      exact .inr ⟨e, hy, fun e2 => e (h.uniq j i y x hy hx e2)⟩
  have old : ∀ (j : Nat) (y : RS), L[j]? = some y → ∃ z, (L.set i { x with la := l, op := true, vl := v })[j]? = some z ∧ z.n = y.n := by
    intro j y hy
    by_cases e : j = i
    · subst e
      rw [hx] at hy
      cases hy
      exact ⟨_, List.getElem?_set_self hi, rfl⟩
    · exact ⟨y, by rw [List.getElem?_set_ne (fun e2 => e e2.symm)]; exact hy, rfl⟩
  refine ⟨fun j y hy => ?_, fun j y hy => ?_, fun j y hy => ?_, fun j y hy => ?_, fun j m y z hy hz e => ?_, fun k hk => ?_, fun j y hy => ?_⟩
  · rcases key j y hy with ⟨rfl, rfl⟩ | ⟨_, h1, _⟩
    · exact ⟨hl, (h.sec j x hx).2⟩
    · exact h.sec j y h1
  · rcases key j y hy with ⟨rfl, rfl⟩ | ⟨_, h1, h2⟩
    · rw [put_latest, if_pos rfl]
    · rw [put_latest, if_neg h2]; exact h.lat j y h1
  · rcases key j y hy with ⟨rfl, rfl⟩ | ⟨_, h1, h2⟩
    · exact h.saf j x hx
    · exact h.saf j y h1
  · rcases key j y hy with ⟨rfl, rfl⟩ | ⟨_, h1, h2⟩
    · simp [Dk.put]
    · show _ = (if y.n = x.n then some l else D.opn y.n).isSome
      rw [if_neg h2]; exact h.op j y h1
  · rcases key j y hy with ⟨rfl, rfl⟩ | ⟨h0, h1, h2⟩
    · rcases key m z hz with ⟨rfl, rfl⟩ | ⟨_, h3, h4⟩
      · rfl
      · exact absurd e.symm h4
    · rcases key m z hz with ⟨rfl, rfl⟩ | ⟨_, h3, h4⟩
      · exact absurd e h2
      · exact h.uniq j m y z h1 h3 e
  · have hno := h.no k (fun j y hy => by obtain ⟨z, hz, e⟩ := old j y hy; rw [← e]; exact hk j z hz)
    have hne : k ≠ x.n := fun e => by
      obtain ⟨z, hz, e2⟩ := old i x hx
      exact hk i z hz (e2.trans e.symm)
    exact ⟨by show (if k = x.n then some l else D.opn k) = none; rw [if_neg hne]; exact hno.1, hno.2⟩
  · rcases key j y hy with ⟨rfl, rfl⟩ | ⟨_, h1, h2⟩
    · exact h.rng j x hx
    · exact h.rng j y h1
/-- a sector is written for the first time -/
theorem Rel.add {L : List RS} {D : Dk} (h : Rel L D) {k : Int} (k0 : 0 ≤ k) (k1 : k < D.n) (hk : ∀ (i : Nat) (x : RS), L[i]? = some x → x.n ≠ k) {l : List Int} (hl : IsSec l) (v u : Value) : Rel (L ++ [⟨k, l, noughts, true, v, u⟩]) (D.put k l) := by
  obtain ⟨ho, hs⟩ := h.no k hk
  have key : ∀ (j : Nat) (y : RS), (L ++ [⟨k, l, noughts, true, v, u⟩])[j]? = some y → (j = L.length ∧ y = ⟨k, l, noughts, true, v, u⟩) ∨ (L[j]? = some y ∧ y.n ≠ k) := by
    intro j y hy
    by_cases e : j < L.length
    · rw [List.getElem?_append_left e] at hy
      exact .inr ⟨hy, hk j y hy⟩
    · rw [List.getElem?_append_right (by omega)] at hy
      by_cases e2 : j = L.length
      · subst e2
        simp at hy
        exact .inl ⟨rfl, hy.symm⟩
      · rw [List.getElem?_eq_none (by simp; omega)] at hy
        cases hy
  refine ⟨fun j y hy => ?_, fun j y hy => ?_, fun j y hy => ?_, fun j y hy => ?_, fun j m y z hy hz e => ?_, fun m hm => ?_, fun j y hy => ?_⟩
  · rcases key j y hy with ⟨rfl, rfl⟩ | ⟨h1, h2⟩
    · exact ⟨hl, noughts_sec⟩
    · exact h.sec j y h1
  · rcases key j y hy with ⟨rfl, rfl⟩ | ⟨h1, h2⟩
    · rw [put_latest, if_pos rfl]
    · rw [put_latest, if_neg h2]; exact h.lat j y h1
  · rcases key j y hy with ⟨rfl, rfl⟩ | ⟨h1, h2⟩
    · show (D.safe k).getD noughts = noughts
      rw [hs]; rfl
    · exact h.saf j y h1
  · rcases key j y hy with ⟨rfl, rfl⟩ | ⟨h1, h2⟩
    · simp [Dk.put]
    · show _ = (if y.n = k then some l else D.opn y.n).isSome
      rw [if_neg h2]; exact h.op j y h1
  · rcases key j y hy with ⟨rfl, rfl⟩ | ⟨h1, h2⟩
    · rcases key m z hz with ⟨rfl, rfl⟩ | ⟨h3, h4⟩
      · rfl
      · exact absurd e.symm h4
    · rcases key m z hz with ⟨rfl, rfl⟩ | ⟨h3, h4⟩
      · exact absurd e h2
      · exact h.uniq j m y z h1 h3 e
  · have hne : m ≠ k := fun e => hm L.length ⟨k, l, noughts, true, v, u⟩ (by simp) e.symm
    have hno := h.no m (fun j y hy => hm j y (by rw [List.getElem?_append_left (List.getElem?_eq_some_iff.1 hy).1]; exact hy))
    exact ⟨by show (if m = k then some l else D.opn m) = none; rw [if_neg hne]; exact hno.1, hno.2⟩
  · rcases key j y hy with ⟨rfl, rfl⟩ | ⟨h1, h2⟩
    · exact ⟨k0, k1⟩
    · exact h.rng j y h1

/-- each of the first i turned -/
def upd (f : RS → RS) (i : Nat) (L : List RS) : List RS := (L.take i).map f ++ L.drop i
theorem upd_zero (f : RS → RS) (L : List RS) : upd f 0 L = L := by simp [upd]
theorem upd_all (f : RS → RS) (L : List RS) : upd f L.length L = L.map f := by simp [upd]
theorem upd_len (f : RS → RS) (i : Nat) (L : List RS) : (upd f i L).length = L.length := by simp [upd]; omega
theorem upd_at {f : RS → RS} {i : Nat} {L : List RS} {x : RS} (h : L[i]? = some x) : (upd f i L)[i]? = some x := by
  have hi := (List.getElem?_eq_some_iff.1 h).1
  unfold upd
  rw [List.getElem?_append_right (by simp; omega)]
  simp [Nat.min_eq_left (Nat.le_of_lt hi), h]
theorem upd_succ {f : RS → RS} {i : Nat} {L : List RS} {x : RS} (h : L[i]? = some x) : (upd f i L).set i (f x) = upd f (i + 1) L := by
  have hi := (List.getElem?_eq_some_iff.1 h).1
  apply List.ext_getElem?
  intro j
  unfold upd
  rw [List.getElem?_set]
  by_cases e : i = j
  · subst e
    rw [if_pos rfl, if_pos (by simp; omega)]
    rw [List.getElem?_append_left (by simp; omega)]
    rw [List.getElem?_map, List.getElem?_take_of_lt (by omega), h]
    rfl
  · rw [if_neg e]
    by_cases e2 : j < i
    · rw [List.getElem?_append_left (by simp; omega), List.getElem?_append_left (by simp; omega)]
      simp [e2, show j < i + 1 by omega]
    · rw [List.getElem?_append_right (by simp; omega), List.getElem?_append_right (by simp; omega)]
      simp [Nat.min_eq_left (Nat.le_of_lt hi), Nat.min_eq_left hi]
      congr 1
      omega

theorem map_rel {L : List RS} {D E : Dk} (h : Rel L D) (hN : E.n = D.n) (f : RS → RS) (hn : ∀ x, (f x).n = x.n) (hf : ∀ (i : Nat) (x : RS), L[i]? = some x → IsSec (f x).la ∧ IsSec (f x).sa ∧ E.latest x.n = (f x).la ∧ (E.safe x.n).getD noughts = (f x).sa ∧ (f x).op = (E.opn x.n).isSome)
    (hno : ∀ k, D.opn k = none → D.safe k = none → E.opn k = none ∧ E.safe k = none) : Rel (L.map f) E := by
  have key : ∀ (j : Nat) (y : RS), (L.map f)[j]? = some y → ∃ x, L[j]? = some x ∧ y = f x := fun j y hy => by
    rw [List.getElem?_map, Option.map_eq_some_iff] at hy
    obtain ⟨x, h1, h2⟩ := hy
    exact ⟨x, h1, h2.symm⟩
  refine ⟨fun j y hy => ?_, fun j y hy => ?_, fun j y hy => ?_, fun j y hy => ?_, fun j m y z hy hz e => ?_, fun m hm => ?_, fun j y hy => ?_⟩
  · obtain ⟨x, h1, rfl⟩ := key j y hy; exact ⟨(hf j x h1).1, (hf j x h1).2.1⟩
  · obtain ⟨x, h1, rfl⟩ := key j y hy; rw [hn]; exact (hf j x h1).2.2.1
  · obtain ⟨x, h1, rfl⟩ := key j y hy; rw [hn]; exact (hf j x h1).2.2.2.1
  · obtain ⟨x, h1, rfl⟩ := key j y hy; rw [hn]; exact (hf j x h1).2.2.2.2
  · obtain ⟨x, h1, rfl⟩ := key j y hy
    obtain ⟨x2, h3, rfl⟩ := key m z hz
    exact h.uniq j m x x2 h1 h3 (by rw [← hn x, ← hn x2]; exact e)
  · have := h.no m (fun j y hy => by rw [← hn y]; exact hm j (f y) (by rw [List.getElem?_map, hy]; rfl))
    exact hno m this.1 this.2
  · obtain ⟨x, h1, rfl⟩ := key j y hy; rw [hn, hN]; exact h.rng j x h1

def RS.flush (x : RS) : RS := { x with sa := x.la, vs := x.vl, op := false }
theorem Rel.flush {L : List RS} {D : Dk} (h : Rel L D) : Rel (L.map RS.flush) D.flush := by
  refine map_rel (E := D.flush) h rfl RS.flush (fun _ => rfl) (fun i x hx => ?_) (fun k h1 h2 => ⟨rfl, by simp [Dk.flush, Dk.wiped, Dk.laid, h1, h2]⟩)
  have hl := h.lat i x hx
  have e : (if (D.opn x.n).isSome = true then D.opn x.n else D.safe x.n).getD noughts = x.la := by
    rw [← hl]
    unfold Dk.latest
    cases D.opn x.n with
    | some l => simp
    | none => simp
  refine ⟨(h.sec i x hx).1, (h.sec i x hx).1, ?_, e, rfl⟩
  show _ = x.la; simpa [Dk.latest, Dk.flush, Dk.wiped, Dk.laid] using e
def RS.wake (fs : List Int) (x : RS) : RS := if x.op = true then (if fs.contains x.n = true then { x with sa := x.la, vs := x.vl, op := false } else { x with la := x.sa, vl := x.vs, op := false }) else x
theorem RS.wake_n (fs : List Int) (x : RS) : (x.wake fs).n = x.n := by
  unfold RS.wake
  split <;> (try split) <;> rfl
theorem Rel.wake {L : List RS} {D : Dk} (h : Rel L D) (fs : List Int) : Rel (L.map (RS.wake fs)) (D.wake fs) := by
  refine map_rel (E := D.wake fs) h rfl (RS.wake fs) (RS.wake_n fs) (fun i x hx => ?_) (fun k h1 h2 => ⟨rfl, by simp [Dk.wake, Dk.kept, Dk.wiped, Dk.laid, h1, h2]⟩)
  have hl := h.lat i x hx
  have hs := h.saf i x hx
  have ho := h.op i x hx
  obtain ⟨s1, s2⟩ := h.sec i x hx
  have e1 : (D.wake fs).latest x.n = (if (fs.contains x.n && (D.opn x.n).isSome) = true then D.opn x.n else D.safe x.n).getD noughts := rfl
  have e2 : (D.wake fs).safe x.n = (if (fs.contains x.n && (D.opn x.n).isSome) = true then D.opn x.n else D.safe x.n) := rfl
  have e3 : (D.wake fs).opn x.n = none := rfl
  rw [e1, e2, e3]
  unfold RS.wake
  unfold Dk.latest at hl
  cases hop : D.opn x.n with
  | some l =>
    rw [hop] at ho hl
    simp only [Option.isSome_some] at ho
    rw [if_pos ho]
    cases hc : fs.contains x.n with
    | true => simp at hl; simp [hl, s1]
    | false => simp [hs, s2]
  | none =>
    rw [hop] at ho hl
    simp at ho hl
    simp [ho]
    exact ⟨s1, s2, hl, hs⟩
end Go.Proofs.Yteeamlidmkpohaa
