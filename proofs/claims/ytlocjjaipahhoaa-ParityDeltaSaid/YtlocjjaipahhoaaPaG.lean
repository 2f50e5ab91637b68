/- Plain facts for parity: the order of texts does not count, a text twice is as none. No walk is in sight. -/
import Derived.Test.YtlocjjaipahhoaaPaB
namespace Go.Proofs.Ytlocjjaipahhoaa
set_option linter.unusedVariables false

theorem xorL_comm (a b : List UInt8) : xorL a b = xorL b a := by
  rw [xorL, xorL, List.zipWith_comm]
  congr 1
  funext x y
  exact UInt8.xor_comm y x
theorem xorL_assoc : ∀ (a b c : List UInt8), xorL (xorL a b) c = xorL a (xorL b c)
  | [], b, c => by simp [xorL]
  | x :: a, [], c => by simp [xorL]
  | x :: a, y :: b, [] => by simp [xorL]
  | x :: a, y :: b, z :: c => by
    have ih := xorL_assoc a b c
    simp only [xorL, List.zipWith_cons_cons] at ih ⊢
    rw [ih, UInt8.xor_assoc]
theorem xorL_self (a : List UInt8) : xorL a a = List.replicate a.length 0 := by
  induction a with
  | nil => rfl
  | cons x a ih =>
    simp only [xorL, List.zipWith_cons_cons, List.length_cons, List.replicate_succ, UInt8.xor_self] at ih ⊢
    rw [ih]
theorem xorL_self64 (a : List UInt8) (h : a.length = 64) : xorL a a = z64 := by rw [xorL_self, h]; rfl
theorem xorL_zero : ∀ (a : List UInt8) (n : Nat), a.length ≤ n → xorL a (List.replicate n 0) = a
  | [], n, _ => by simp [xorL]
  | x :: a, 0, h => by simp at h
  | x :: a, n + 1, h => by
    have ih := xorL_zero a n (by simpa using h)
    simp only [xorL, List.replicate_succ, List.zipWith_cons_cons] at ih ⊢
    rw [ih, UInt8.xor_zero]
theorem xorL_z64 (a : List UInt8) (h : a.length = 64) : xorL a z64 = a := xorL_zero a 64 (by omega)
theorem xorL_right (a b c : List UInt8) : xorL (xorL a b) c = xorL (xorL a c) b := by
  rw [xorL_assoc, xorL_assoc, xorL_comm b c]
theorem foldl_perm {l m : List (List UInt8)} (h : l.Perm m) : ∀ c, l.foldl xorL c = m.foldl xorL c := by
  induction h with
  | nil => intro c; rfl
  | cons x _ ih => intro c; exact ih _
  | swap x y l => intro c; simp only [List.foldl_cons]; rw [xorL_right]
  | trans _ _ ih1 ih2 => intro c; rw [ih1, ih2]
theorem paS_perm {l m : List (List UInt8)} (h : l.Perm m) : paS l = paS m := foldl_perm h _
theorem paS_cons (s : List UInt8) (l : List (List UInt8)) : paS (s :: l) = xorL (paS l) s := by
  rw [← paS_snoc]
  exact paS_perm (List.perm_append_singleton s l).symm
theorem paOk_of {l : List (List UInt8)} (h : ∀ s ∈ l, s.length = 64) : paOk l = true := by
  rw [paOk, List.all_eq_true]
  intro s hs
  rw [h s hs]; rfl
theorem paS_64 {l : List (List UInt8)} (h : ∀ s ∈ l, s.length = 64) : (paS l).length = 64 := paS_len l z64 (by simp [z64]) h
theorem paV_of {l : List (List UInt8)} (h : ∀ s ∈ l, s.length = 64) : paV l = (paS l, 0) := by rw [paV, paOk_of h]; rfl

/-- sectors and their sum -/
def withSum (x : List (List UInt8)) : List (List UInt8) := x ++ [paS x]
theorem withSum_64 {x : List (List UInt8)} (h : ∀ s ∈ x, s.length = 64) : ∀ s ∈ withSum x, s.length = 64 := by
  intro s hs
  rw [withSum, List.mem_append] at hs
  rcases hs with hs | hs
  · exact h s hs
  · rw [List.mem_singleton] at hs
    rw [hs]; exact paS_64 h
theorem withSum_zero {x : List (List UInt8)} (h : ∀ s ∈ x, s.length = 64) : paS (withSum x) = z64 := by
  rw [withSum, paS_snoc, xorL_self64 _ (paS_64 h)]
theorem withSum_right {x : List (List UInt8)} (h : ∀ s ∈ x, s.length = 64) : riV (withSum x) = true := by
  rw [riV, paOk_of (withSum_64 h), withSum_zero h]; rfl
theorem miss_of {l : List (List UInt8)} (h : ∀ s ∈ l, s.length = 64) (hz : paS l = z64) (i : Nat) (hi : i < l.length) : miV l (i : Int) = (l[i], 0) := by
  have hn : ¬ ((i : Int) < 0 ∨ (l.length : Int) ≤ (i : Int)) := by omega
  have hm : ∀ s ∈ l.take i ++ l.drop (i + 1), s.length = 64 := by
    intro s hs
    rw [List.mem_append] at hs
    rcases hs with hs | hs
    · exact h s (List.mem_of_mem_take hs)
    · exact h s (List.mem_of_mem_drop hs)
  rw [miV, if_neg hn, Int.toNat_natCast, paV_of hm]
  have hp : l.Perm (l[i] :: (l.take i ++ l.drop (i + 1))) := by
    have e : l = l.take i ++ l[i] :: l.drop (i + 1) := by rw [← List.drop_eq_getElem_cons hi, List.take_append_drop]
    exact (List.Perm.of_eq e).trans List.perm_middle
  have e := paS_perm hp
  rw [hz, paS_cons] at e
  have h1 := paS_64 hm
  have h2 := h _ (List.getElem_mem hi)
  have e2 : xorL z64 l[i] = paS (l.take i ++ l.drop (i + 1)) := by rw [e, xorL_assoc, xorL_self64 _ h2, xorL_z64 _ h1]
  rw [← e2, xorL_comm, xorL_z64 _ h2]

/-- a row turned, a sector put to both ends -/
theorem rows_same {x : List (List UInt8)} (h : ∀ s ∈ x, s.length = 64) (y : List UInt8) (hy : y.length = 64) (k : Nat) :
    paS (([y] ++ x.reverse.drop k) ++ x.reverse.take k ++ [y]) = paS x := by
  have hp : (([y] ++ x.reverse.drop k) ++ x.reverse.take k ++ [y]).Perm (y :: y :: x) := by
    refine (List.perm_append_singleton _ _).trans (List.Perm.cons _ ?_)
    show (y :: (x.reverse.drop k ++ x.reverse.take k)).Perm _
    refine List.Perm.cons _ ?_
    refine List.perm_append_comm.trans ?_
    rw [List.take_append_drop]
    exact List.reverse_perm x
  rw [paS_perm hp, paS_cons, paS_cons, xorL_assoc, xorL_self64 _ hy, xorL_z64 _ (paS_64 h)]

/-- one sector becomes another one -/
theorem delta_same {x : List (List UInt8)} (h : ∀ s ∈ x, s.length = 64) (k : Nat) (hk : k < x.length) (n : List UInt8) (hn : n.length = 64) :
    paV [paS x, x[k], n] = (paS (x.set k n), 0) := by
  have hx := h _ (List.getElem_mem hk)
  have hs := paS_64 h
  have hm : ∀ s ∈ x.take k ++ x.drop (k + 1), s.length = 64 := by
    intro s hs
    rw [List.mem_append] at hs
    rcases hs with hs | hs
    · exact h s (List.mem_of_mem_take hs)
    · exact h s (List.mem_of_mem_drop hs)
  rw [paV_of (by
    intro s hs'
    simp only [List.mem_cons, List.not_mem_nil, or_false] at hs'
    rcases hs' with rfl | rfl | rfl
    · exact hs
    · exact hx
    · exact hn)]
  have e1 : x.Perm (x[k] :: (x.take k ++ x.drop (k + 1))) := by
    have e : x = x.take k ++ x[k] :: x.drop (k + 1) := by rw [← List.drop_eq_getElem_cons hk, List.take_append_drop]
    exact (List.Perm.of_eq e).trans List.perm_middle
  have e2 : (x.set k n).Perm (n :: (x.take k ++ x.drop (k + 1))) := by
    rw [List.set_eq_take_append_cons_drop, if_pos hk]
    exact List.perm_middle
  have s1 := paS_perm e1
  rw [paS_cons] at s1
  have s2 := paS_perm e2
  rw [paS_cons] at s2
  rw [s2]
  have h1 := paS_64 hm
  have e3 : paS [paS x, x[k], n] = xorL (xorL (xorL z64 (paS x)) x[k]) n := rfl
  rw [e3, xorL_comm z64, xorL_z64 _ hs, s1, xorL_assoc (paS _) x[k] x[k], xorL_self64 _ hx, xorL_z64 _ h1]
end Go.Proofs.Ytlocjjaipahhoaa
