/- Stable sorting by a key: plain facts on lists, on exchanges, insertion and merging in place. No program. -/
import Derived.Shelf.SlSortCmp.KitK
namespace Go.Proofs.Yticchchcobjpdaa
set_option linter.unusedVariables false
set_option linter.unusedSimpArgs false
set_option linter.unusedSectionVars false
open Go.Sort
variable {α : Type} [Inhabited α]

/-- sorted by a key -/
def Srt (key : α → Int) (l : List α) : Prop := l.Pairwise (fun x y => key x ≤ key y)
/-- the same elements, those of one key in the same order -/
def Stb (key : α → Int) (l l' : List α) : Prop := l'.Perm l ∧ ∀ c : Int, l'.filter (fun x => decide (key x = c)) = l.filter (fun x => decide (key x = c))
theorem Stb.refl (key : α → Int) (l : List α) : Stb key l l := ⟨List.Perm.refl _, fun _ => rfl⟩
theorem Stb.trans {key : α → Int} {a b c : List α} (h : Stb key a b) (k : Stb key b c) : Stb key a c := ⟨k.1.trans h.1, fun i => (k.2 i).trans (h.2 i)⟩
theorem Stb.app {key : α → Int} {a b c d : List α} (h : Stb key a b) (k : Stb key c d) : Stb key (a ++ c) (b ++ d) := ⟨h.1.append k.1, fun i => by rw [List.filter_append, List.filter_append, h.2, k.2]⟩
theorem Stb.len {key : α → Int} {a b : List α} (h : Stb key a b) : b.length = a.length := h.1.length_eq
theorem Stb.mem {key : α → Int} {a b : List α} (h : Stb key a b) (x : α) : x ∈ b ↔ x ∈ a := h.1.mem_iff
theorem Stb.good {key : α → Int} {a b : List α} (h : Stb key a b) {G : α → Prop} (g : ∀ x ∈ a, G x) : ∀ x ∈ b, G x := fun x hx => g x ((h.mem x).1 hx)
/-- two runs change places, if all of the one are less than all of the other -/
theorem Stb.swap {key : α → Int} (A B : List α) (h : ∀ x ∈ A, ∀ y ∈ B, key y < key x) : Stb key (A ++ B) (B ++ A) := by
  refine ⟨List.perm_append_comm, fun c => ?_⟩
  rw [List.filter_append, List.filter_append]
  by_cases hA : ∃ x ∈ A, key x = c
  · obtain ⟨x, hx, hc⟩ := hA
    have hB : B.filter (fun x => decide (key x = c)) = [] := by
      rw [List.filter_eq_nil_iff]
      intro y hy hyc
      have h1 := h x hx y hy
      have h2 := of_decide_eq_true hyc
      omega
    rw [hB]; simp
  · have hA' : A.filter (fun x => decide (key x = c)) = [] := by
      rw [List.filter_eq_nil_iff]
      intro x hx hxc
      exact hA ⟨x, hx, of_decide_eq_true hxc⟩
    rw [hA']; simp

theorem Srt.app {key : α → Int} {A B : List α} : Srt key (A ++ B) ↔ Srt key A ∧ Srt key B ∧ ∀ x ∈ A, ∀ y ∈ B, key x ≤ key y := by
  unfold Srt; rw [List.pairwise_append]
theorem Srt.nil (key : α → Int) : Srt key [] := List.Pairwise.nil
theorem Srt.one (key : α → Int) (x : α) : Srt key [x] := List.pairwise_singleton _ _
theorem Srt.getle {key : α → Int} {l : List α} (h : Srt key l) (i j : Nat) (hij : i ≤ j) (hj : j < l.length) : key l[i]! ≤ key l[j]! := by
  rcases Nat.lt_or_eq_of_le hij with h1 | rfl
  · rw [getElem!_pos l i (by omega), getElem!_pos l j hj]
    exact List.pairwise_iff_getElem.1 h i j (by omega) hj h1
  · exact Int.le_refl _

/-! ### exchanges -/
theorem arr_get (l : List α) (i : Nat) : l.toArray[i]! = l[i]! := by simp
theorem app_get0 (P Q : List α) (x : α) : (P ++ x :: Q)[P.length]! = x := by
  rw [getElem!_pos _ _ (by simp)]
  simp
theorem app_get1 (P Q R : List α) (x y : α) : (P ++ x :: Q ++ y :: R)[P.length + 1 + Q.length]! = y := by
  have := app_get0 (P ++ x :: Q) R y
  rw [show (P ++ x :: Q).length = P.length + 1 + Q.length by simp; omega] at this
  exact this
theorem swp_mid (P Q R : List α) (x y : α) : swp (P ++ x :: Q ++ y :: R).toArray P.length (P.length + 1 + Q.length) = (P ++ y :: Q ++ x :: R).toArray := by
  have h1 : (P ++ x :: Q ++ y :: R).toArray[P.length]! = x := by rw [arr_get, List.append_assoc, List.cons_append]; exact app_get0 P _ x
  have h2 : (P ++ x :: Q ++ y :: R).toArray[P.length + 1 + Q.length]! = y := by rw [arr_get]; exact app_get1 P Q R x y
  unfold swp
  rw [h1, h2]
  rw [List.setIfInBounds_toArray, List.setIfInBounds_toArray]
  congr 1
  rw [List.append_assoc, List.set_append_right _ _ (Nat.le_refl _), Nat.sub_self, List.cons_append, List.set_cons_zero,
    List.set_append_right _ _ (by omega), show P.length + 1 + Q.length - P.length = Q.length + 1 by omega, List.set_cons_succ, List.set_append_right _ _ (Nat.le_refl _), Nat.sub_self, List.set_cons_zero]
  simp
theorem swp_mid' (P Q R : List α) (x y : α) : swp (P ++ x :: Q ++ y :: R).toArray (P.length + 1 + Q.length) P.length = (P ++ y :: Q ++ x :: R).toArray := by
  have e : ∀ (d : Array α) (i j : Nat), i ≠ j → i < d.size → j < d.size → swp d j i = swp d i j := by
    intro d i j hne hi hj
    unfold swp
    exact Array.setIfInBounds_comm _ _ (Ne.symm hne)
  rw [e _ P.length (P.length + 1 + Q.length) (by omega) (by simp) (by simp; omega)]
  exact swp_mid P Q R x y
/-- neighbours -/
theorem swp_adj (P R : List α) (x y : α) : swp (P ++ x :: y :: R).toArray P.length (P.length + 1) = (P ++ y :: x :: R).toArray := by
  have := swp_mid P [] R x y
  simpa using this
theorem swp_adj' (P R : List α) (x y : α) : swp (P ++ x :: y :: R).toArray (P.length + 1) P.length = (P ++ y :: x :: R).toArray := by
  have := swp_mid' P [] R x y
  simpa using this

/-! ### the compare, by a key, where it is good -/
def KeyOn (cf : α → α → Int) (key : α → Int) (G : α → Prop) : Prop := ∀ x y, G x → G y → (cf x y < 0 ↔ key x < key y)

/-! ### insertion -/
theorem ins_inner {cf : α → α → Int} {key : α → Int} {G : α → Prop} (K : KeyOn cf key G) (X Z : List α) (x : α) (hx : G x) :
    ∀ (n : Nat) (S : List α), S.length = n → (∀ y ∈ S, G y) → Srt key S → ∀ T : List α, ∃ S1 S2, S = S1 ++ S2 ∧ (∀ y ∈ S1, key y ≤ key x) ∧ (∀ y ∈ S2, key x < key y) ∧
      insInner (ltOf cf) X.length (X.length + S.length) (X ++ S ++ x :: T).toArray = (X ++ S1 ++ x :: S2 ++ T).toArray := by
  intro n
  induction n with
  | zero =>
    intro S hS hg hs T
    have : S = [] := List.length_eq_zero_iff.1 hS
    subst this
    exact ⟨[], [], rfl, by simp, by simp, by rw [insInner_stop _ _ _ _ (Or.inl (by simp))]; simp⟩
  | succ n ih =>
    intro S hS hg hs T
    obtain ⟨S', s, rfl⟩ : ∃ S' s, S = S' ++ [s] := ⟨S.dropLast, S.getLast (by intro h; simp [h] at hS), (List.dropLast_concat_getLast _).symm⟩
    have hl : S'.length = n := by simpa using hS
    have hsg : G s := hg s (by simp)
    have e1 : (X ++ (S' ++ [s]) ++ x :: T) = (X ++ S') ++ s :: x :: T := by simp
    have ej : X.length + (S' ++ [s]).length = (X ++ S').length + 1 := by simp; omega
    have gj : (X ++ (S' ++ [s]) ++ x :: T).toArray[(X ++ S').length + 1]! = x := by
      rw [arr_get, e1]
      have := app_get0 ((X ++ S') ++ [s]) T x
      simp only [List.length_append, List.length_cons, List.length_nil, List.append_assoc, List.cons_append, List.nil_append] at this ⊢
      rw [show X.length + S'.length + 1 = X.length + (S'.length + (0 + 1)) by omega]
      exact this
    have gi : (X ++ (S' ++ [s]) ++ x :: T).toArray[(X ++ S').length]! = s := by
      rw [arr_get, e1]; exact app_get0 _ _ _
    rw [ej]
    by_cases hlt : key x < key s
    · have hc : ltOf cf x s = true := decide_eq_true ((K x s hx hsg).2 hlt)
      rw [insInner_go _ _ _ _ (by simp; omega) (by rw [Nat.add_sub_cancel, gj, gi]; exact hc), Nat.add_sub_cancel, e1, swp_adj']
      obtain ⟨S1, S2, rfl, h1, h2, h3⟩ := ih S' hl (fun y hy => hg y (by simp [hy])) ((Srt.app.1 hs).1) (s :: T)
      refine ⟨S1, S2 ++ [s], by simp, h1, ?_, ?_⟩
      · intro y hy
        rcases List.mem_append.1 hy with h | h
        · exact h2 y h
        · rw [List.mem_singleton.1 h]; exact hlt
      · rw [List.length_append]
        rw [h3]
        congr 1
        simp
    · have hc : ltOf cf x s = false := decide_eq_false (fun h => hlt ((K x s hx hsg).1 h))
      refine ⟨S' ++ [s], [], by simp, ?_, by simp, ?_⟩
      · intro y hy
        rcases List.mem_append.1 hy with h | h
        · have := (Srt.app.1 hs).2.2 y h s (by simp)
          omega
        · rw [List.mem_singleton.1 h]; omega
      · rw [insInner_stop _ _ _ _ (Or.inr (by rw [Nat.add_sub_cancel, gj, gi]; exact hc))]
        congr 1
        simp

theorem ins_outer {cf : α → α → Int} {key : α → Int} {G : α → Prop} (K : KeyOn cf key G) (X Z : List α) :
    ∀ (R S : List α), (∀ y ∈ S, G y) → (∀ y ∈ R, G y) → Srt key S → ∃ S', Srt key S' ∧ Stb key (S ++ R) S' ∧
      insOuter (ltOf cf) X.length (X.length + S.length + R.length) (X.length + S.length) (X ++ S ++ R ++ Z).toArray = (X ++ S' ++ Z).toArray := by
  intro R
  induction R with
  | nil =>
    intro S hg _ hs
    refine ⟨S, hs, by rw [List.append_nil]; exact Stb.refl _ _, ?_⟩
    rw [insOuter_stop _ _ _ _ _ (by simp)]
    simp
  | cons x R ih =>
    intro S hg hr hs
    have hx : G x := hr x (by simp)
    obtain ⟨S1, S2, rfl, h1, h2, h3⟩ := ins_inner K X Z x hx S.length S rfl hg hs (R ++ Z)
    have hs' : Srt key (S1 ++ x :: S2) := by
      obtain ⟨ha, hb, hc⟩ := Srt.app.1 hs
      refine Srt.app.2 ⟨ha, List.pairwise_cons.2 ⟨fun y hy => Int.le_of_lt (h2 y hy), hb⟩, ?_⟩
      intro y hy z hz
      rcases List.mem_cons.1 hz with rfl | hz
      · exact h1 y hy
      · exact hc y hy z hz
    have hst : Stb key (S1 ++ S2 ++ [x]) (S1 ++ x :: S2) := by
      have := Stb.app (Stb.refl key S1) (Stb.swap (key := key) S2 [x] (fun a ha b hb => by rw [List.mem_singleton.1 hb]; exact h2 a ha))
      simpa using this
    obtain ⟨S', g1, g2, g3⟩ := ih (S1 ++ x :: S2) (hst.good (fun y hy => by
      rcases List.mem_append.1 hy with h | h
      · exact hg y h
      · rw [List.mem_singleton.1 h]; exact hx)) (fun y hy => hr y (by simp [hy])) hs'
    refine ⟨S', g1, ?_, ?_⟩
    · refine Stb.trans ?_ g2
      have := Stb.app hst (Stb.refl key R)
      simpa using this
    · rw [insOuter_go _ _ _ _ _ (by simp)]
      have e : X ++ (S1 ++ S2) ++ (x :: R) ++ Z = X ++ (S1 ++ S2) ++ x :: (R ++ Z) := by simp
      rw [e, h3]
      have e2 : (S1 ++ x :: S2).length = (S1 ++ S2).length + 1 := by simp; omega
      have g3' := g3
      rw [e2] at g3'
      rw [show X.length + (S1 ++ S2).length + (x :: R).length = X.length + ((S1 ++ S2).length + 1) + R.length by rw [List.length_cons]; omega,
        show X.length + (S1 ++ S2).length + 1 = X.length + ((S1 ++ S2).length + 1) by omega]
      rw [← g3']
      congr 1
      simp

/-- the insertion sort of a part of a row -/
theorem ins_sort {cf : α → α → Int} {key : α → Int} {G : α → Prop} (K : KeyOn cf key G) (X M Z : List α) (hg : ∀ y ∈ M, G y) :
    ∃ M', Srt key M' ∧ Stb key M M' ∧ Sort.insertionSort (ltOf cf) (X ++ M ++ Z).toArray X.length (X.length + M.length) = (X ++ M' ++ Z).toArray := by
  cases M with
  | nil =>
    refine ⟨[], Srt.nil _, Stb.refl _ _, ?_⟩
    unfold Sort.insertionSort
    rw [insOuter_stop _ _ _ _ _ (by simp)]
  | cons x R =>
    obtain ⟨S', h1, h2, h3⟩ := ins_outer K X Z R [x] (fun y hy => by rw [List.mem_singleton.1 hy]; exact hg x (by simp)) (fun y hy => hg y (by simp [hy])) (Srt.one _ _)
    refine ⟨S', h1, h2, ?_⟩
    unfold Sort.insertionSort
    rw [← h3]
    congr 1
    · simp; omega
    · simp
end Go.Proofs.Yticchchcobjpdaa
