/- Rotating and merging in place: plain facts on lists. No program. -/
import Derived.Test.YticchchcobjpdaaStA
namespace Go.Proofs.Yticchchcobjpdaa
set_option linter.unusedVariables false
set_option linter.unusedSimpArgs false
set_option linter.unusedSectionVars false
open Go.Sort
variable {α : Type} [Inhabited α]

theorem range_step (X A1 A2 Y B1 B2 Z : List α) (x y : α) (h : B1.length = A1.length) :
    swp (X ++ B1 ++ (x :: A2) ++ Y ++ A1 ++ (y :: B2) ++ Z).toArray (X.length + A1.length) (X.length + (A1.length + 1 + A2.length) + Y.length + A1.length) = (X ++ (B1 ++ [y]) ++ A2 ++ Y ++ (A1 ++ [x]) ++ B2 ++ Z).toArray := by
  have h0 := swp_mid (X ++ B1) (A2 ++ Y ++ A1) (B2 ++ Z) x y
  have e1 : X ++ B1 ++ x :: (A2 ++ Y ++ A1) ++ y :: (B2 ++ Z) = X ++ B1 ++ (x :: A2) ++ Y ++ A1 ++ (y :: B2) ++ Z := by simp
  have e2 : X ++ B1 ++ y :: (A2 ++ Y ++ A1) ++ x :: (B2 ++ Z) = X ++ (B1 ++ [y]) ++ A2 ++ Y ++ (A1 ++ [x]) ++ B2 ++ Z := by simp
  have e3 : (X ++ B1).length = X.length + A1.length := by simp [h]
  have e4 : (X ++ B1).length + 1 + (A2 ++ Y ++ A1).length = X.length + (A1.length + 1 + A2.length) + Y.length + A1.length := by simp [h]; omega
  rw [e1, e2, e4, e3] at h0
  exact h0

theorem get_A (X A W : List α) (t : Nat) (ht : t < A.length) : (X ++ A ++ W)[X.length + t]! = A[t]! := by
  rw [getElem!_pos _ _ (by simp; omega), getElem!_pos A t ht]
  rw [List.getElem_append_left (by simp; omega), List.getElem_append_right (by omega)]
  congr 1
  omega
theorem get_B (X A B Z : List α) (t : Nat) (ht : t < B.length) : (X ++ A ++ B ++ Z)[X.length + A.length + t]! = B[t]! := by
  have := get_A (X ++ A) B Z t ht
  rw [List.length_append] at this
  exact this
theorem get_Aa (X A B Z : List α) (t : Nat) (ht : t < A.length) : (X ++ A ++ B ++ Z)[X.length + t]! = A[t]! := by
  have := get_A X A (B ++ Z) t ht
  rw [← List.append_assoc] at this
  exact this

/-- where two sorted runs are cut, crosswise, so that all of the first halves stand ahead of all of the second -/
structure Cut (key : α → Int) (A B : List α) (p q : Nat) : Prop where
  hp : p ≤ A.length
  hq : q ≤ B.length
  f1 : p < A.length → 0 < q → key B[q - 1]! < key A[p]!
  f2 : 0 < p → q < B.length → key A[p - 1]! ≤ key B[q]!
theorem Srt.takele {key : α → Int} {A : List α} (h : Srt key A) (p : Nat) (hp : 0 < p) (hl : p ≤ A.length) : ∀ x ∈ A.take p, key x ≤ key A[p - 1]! := by
  intro x hx
  obtain ⟨i, hi, rfl⟩ := List.mem_iff_getElem.1 hx
  have hi' : i < p := by rw [List.length_take] at hi; omega
  rw [List.getElem_take]
  have := h.getle i (p - 1) (by omega) (by omega)
  rw [getElem!_pos A i (by omega)] at this
  exact this
theorem Srt.dropge {key : α → Int} {A : List α} (h : Srt key A) (p : Nat) (hl : p < A.length) : ∀ x ∈ A.drop p, key A[p]! ≤ key x := by
  intro x hx
  obtain ⟨i, hi, rfl⟩ := List.mem_iff_getElem.1 hx
  have hi' : p + i < A.length := by rw [List.length_drop] at hi; omega
  rw [List.getElem_drop]
  have := h.getle p (p + i) (by omega) hi'
  rw [getElem!_pos A (p + i) hi'] at this
  exact this
theorem Srt.take {key : α → Int} {A : List α} (h : Srt key A) (p : Nat) : Srt key (A.take p) := List.Pairwise.sublist (List.take_sublist p A) h
theorem Srt.drop {key : α → Int} {A : List α} (h : Srt key A) (p : Nat) : Srt key (A.drop p) := List.Pairwise.sublist (List.drop_sublist p A) h

theorem Cut.lt {key : α → Int} {A B : List α} {p q : Nat} (c : Cut key A B p q) (hA : Srt key A) (hB : Srt key B) : ∀ x ∈ A.drop p, ∀ y ∈ B.take q, key y < key x := by
  intro x hx y hy
  have h1 : p < A.length := by
    rcases Nat.lt_or_ge p A.length with h | h
    · exact h
    · rw [List.drop_eq_nil_of_le h] at hx; simp at hx
  have h2 : 0 < q := by
    rcases Nat.eq_zero_or_pos q with h | h
    · subst h; simp at hy
    · exact h
  have := c.f1 h1 h2
  have g1 := hA.dropge p h1 x hx
  have g2 := hB.takele q h2 c.hq y hy
  omega
theorem Cut.le {key : α → Int} {A B : List α} {p q : Nat} (c : Cut key A B p q) (hA : Srt key A) (hB : Srt key B) : ∀ x ∈ A.take p, ∀ y ∈ B.drop q, key x ≤ key y := by
  intro x hx y hy
  have h1 : q < B.length := by
    rcases Nat.lt_or_ge q B.length with h | h
    · exact h
    · rw [List.drop_eq_nil_of_le h] at hy; simp at hy
  have h2 : 0 < p := by
    rcases Nat.eq_zero_or_pos p with h | h
    · subst h; simp at hx
    · exact h
  have := c.f2 h2 h1
  have g1 := hB.dropge q h1 y hy
  have g2 := hA.takele p h2 c.hp x hx
  omega
theorem take_le_drop {key : α → Int} {A : List α} (h : Srt key A) (p : Nat) : ∀ x ∈ A.take p, ∀ y ∈ A.drop p, key x ≤ key y := by
  have := h
  rw [← List.take_append_drop p A] at this
  exact (Srt.app.1 this).2.2
/-- crosswise: stable -/
theorem Cut.stb {key : α → Int} {A B : List α} {p q : Nat} (c : Cut key A B p q) (hA : Srt key A) (hB : Srt key B) : Stb key (A ++ B) (A.take p ++ B.take q ++ (A.drop p ++ B.drop q)) := by
  have h := Stb.swap (key := key) (A.drop p) (B.take q) (c.lt hA hB)
  have h2 := Stb.app (Stb.app (Stb.refl key (A.take p)) h) (Stb.refl key (B.drop q))
  have e1 : A.take p ++ (A.drop p ++ B.take q) ++ B.drop q = A ++ B := by
    rw [← List.append_assoc, List.take_append_drop, List.append_assoc, List.take_append_drop]
  have e2 : A.take p ++ (B.take q ++ A.drop p) ++ B.drop q = A.take p ++ B.take q ++ (A.drop p ++ B.drop q) := by simp
  rw [e1, e2] at h2
  exact h2
/-- .. and the two halves, sorted, are the whole, sorted -/
theorem Cut.whole {key : α → Int} {A B M1 M2 : List α} {p q : Nat} (c : Cut key A B p q) (hA : Srt key A) (hB : Srt key B) (s1 : Srt key M1) (s2 : Srt key M2)
    (t1 : Stb key (A.take p ++ B.take q) M1) (t2 : Stb key (A.drop p ++ B.drop q) M2) : Srt key (M1 ++ M2) ∧ Stb key (A ++ B) (M1 ++ M2) := by
  refine ⟨Srt.app.2 ⟨s1, s2, ?_⟩, (c.stb hA hB).trans (t1.app t2)⟩
  intro x hx y hy
  have hx' := (t1.mem x).1 hx
  have hy' := (t2.mem y).1 hy
  rcases List.mem_append.1 hx' with h1 | h1 <;> rcases List.mem_append.1 hy' with h2 | h2
  · exact take_le_drop hA p x h1 y h2
  · exact c.le hA hB x h1 y h2
  · exact Int.le_of_lt (c.lt hA hB y h2 x h1)
  · exact take_le_drop hB q x h1 y h2
/-- one into a sorted run, ahead of it -/
theorem one_ahead {key : α → Int} {x : α} {B : List α} {q : Nat} (hB : Srt key B) (hq : q ≤ B.length) (f1 : 0 < q → key B[q - 1]! < key x) (f2 : q < B.length → key x ≤ key B[q]!) :
    Srt key (B.take q ++ x :: B.drop q) ∧ Stb key ([x] ++ B) (B.take q ++ x :: B.drop q) := by
  have c0 : Cut key [x] B 0 q := ⟨by simp, hq, fun _ h => by simpa using f1 h, fun h _ => absurd h (by omega)⟩
  have hst := c0.stb (Srt.one _ _) hB
  refine ⟨Srt.app.2 ⟨hB.take q, List.pairwise_cons.2 ⟨?_, hB.drop q⟩, ?_⟩, by simpa using hst⟩
  · intro y hy
    have h1 : q < B.length := by
      rcases Nat.lt_or_ge q B.length with h | h
      · exact h
      · rw [List.drop_eq_nil_of_le h] at hy; simp at hy
    have := hB.dropge q h1 y hy
    have := f2 h1
    omega
  · intro y hy z hz
    have h1 : 0 < q := by
      rcases Nat.eq_zero_or_pos q with h | h
      · subst h; simp at hy
      · exact h
    rcases List.mem_cons.1 hz with rfl | hz
    · have := hB.takele q h1 hq y hy
      have := f1 h1
      omega
    · exact take_le_drop hB q y hy z hz
/-- one into a sorted run, behind it -/
theorem one_behind {key : α → Int} {y : α} {A : List α} {p : Nat} (hA : Srt key A) (hp : p ≤ A.length) (f1 : 0 < p → key A[p - 1]! ≤ key y) (f2 : p < A.length → key y < key A[p]!) :
    Srt key (A.take p ++ y :: A.drop p) ∧ Stb key (A ++ [y]) (A.take p ++ y :: A.drop p) := by
  have c0 : Cut key A [y] p 1 := ⟨hp, by simp, fun h _ => by simpa using f2 h, fun _ h => absurd h (by simp)⟩
  have hst := c0.stb hA (Srt.one _ _)
  refine ⟨Srt.app.2 ⟨hA.take p, List.pairwise_cons.2 ⟨?_, hA.drop p⟩, ?_⟩, by simpa using hst⟩
  · intro z hz
    have h1 : p < A.length := by
      rcases Nat.lt_or_ge p A.length with h | h
      · exact h
      · rw [List.drop_eq_nil_of_le h] at hz; simp at hz
    have := hA.dropge p h1 z hz
    have := f2 h1
    omega
  · intro x hx z hz
    have h1 : 0 < p := by
      rcases Nat.eq_zero_or_pos p with h | h
      · subst h; simp at hx
      · exact h
    rcases List.mem_cons.1 hz with rfl | hz
    · have := hA.takele p h1 hp x hx
      have := f1 h1
      omega
    · exact take_le_drop hA p x hx z hz
/-- one that goes step by step to the right, to the left -/
theorem bub_r (X C1 C2 Z : List α) (x c : α) : swp (X ++ C1 ++ x :: (c :: C2) ++ Z).toArray (X.length + C1.length) (X.length + C1.length + 1) = (X ++ (C1 ++ [c]) ++ x :: C2 ++ Z).toArray := by
  have h := swp_adj (X ++ C1) (C2 ++ Z) x c
  rw [List.length_append] at h
  simpa using h
theorem bub_l (X C1 C2 Z : List α) (y c : α) : swp (X ++ (C1 ++ [c]) ++ y :: C2 ++ Z).toArray (X.length + C1.length + 1) (X.length + C1.length) = (X ++ C1 ++ y :: (c :: C2) ++ Z).toArray := by
  have h := swp_adj' (X ++ C1) (C2 ++ Z) c y
  rw [List.length_append] at h
  simpa using h

/-! ### blocks -/
/-- the blocks of so many elements, from so many on, are sorted -/
def Blks (key : α → Int) (bs : Nat) (l : List α) : Prop := ∀ i, Srt key ((l.drop (i * bs)).take bs)
end Go.Proofs.Yticchchcobjpdaa
