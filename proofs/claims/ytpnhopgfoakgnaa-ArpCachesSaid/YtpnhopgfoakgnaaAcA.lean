/- The cache of package arp, in plain words: entries, what learning, finding and ticking make of a list of them. No condition. -/
import Derived.Test.YtpnhopgfoakgnaaArpO
import Derived.Lib.SlBy
namespace Go.Proofs.Ytpnhopgfoakgnaa
set_option linter.unusedVariables false
set_option linter.unusedSimpArgs false
set_option maxRecDepth 100000
open Go.RowKit Go.Proofs

structure En where
  i0 : UInt8
  i1 : UInt8
  i2 : UInt8
  i3 : UInt8
  m0 : UInt8
  m1 : UInt8
  m2 : UInt8
  m3 : UInt8
  m4 : UInt8
  m5 : UInt8
  age : Int
deriving Inhabited
def En.ip (x : En) : List UInt8 := [x.i0, x.i1, x.i2, x.i3]
def En.mac (x : En) : List UInt8 := [x.m0, x.m1, x.m2, x.m3, x.m4, x.m5]
theorem En.ip_len (x : En) : x.ip.length = 4 := rfl
theorem En.mac_len (x : En) : x.mac.length = 6 := rfl
def mkE (i m : List UInt8) (a : Int) : En := ⟨i.getD 0 0, i.getD 1 0, i.getD 2 0, i.getD 3 0, m.getD 0 0, m.getD 1 0, m.getD 2 0, m.getD 3 0, m.getD 4 0, m.getD 5 0, a⟩
theorem mkE_ip (i m : List UInt8) (a : Int) (h : i.length = 4) : (mkE i m a).ip = i := by
  obtain ⟨x, y, z, u, rfl⟩ := list4 h
  rfl
theorem mkE_mac (i m : List UInt8) (a : Int) (h : m.length = 6) : (mkE i m a).mac = m := by
  obtain ⟨x, y, z, u, v, t, rfl⟩ := list6 h
  rfl
/-- an entry's cells -/
def enC (x : En) : Array Value := #[ubv x.i0, ubv x.i1, ubv x.i2, ubv x.i3, ubv x.m0, ubv x.m1, ubv x.m2, ubv x.m3, ubv x.m4, ubv x.m5, .int .i64 x.age]
def enE (x : En) : List Value := (enC x).toList
theorem enC_size (x : En) : (enC x).size = 11 := rfl
theorem enE_len (x : En) : (enE x).length = 11 := rfl
theorem enC_one (x : En) : (enC x).toList.all (·.oneCell') = true := rfl
theorem enE_one (x : En) : ∀ u ∈ enE x, u.oneCell' = true := fun u hu => List.all_eq_true.1 (enC_one x) u hu
theorem enC_age (x : En) : (enC x)[10]? = some (.int .i64 x.age) := rfl
theorem enC_ip (x : En) (j : Nat) (h : j < x.ip.length) : (enC x)[0 + j]? = some (ubv x.ip[j]) := by
  have hj : j < 4 := h
  obtain rfl | rfl | rfl | rfl : j = 0 ∨ j = 1 ∨ j = 2 ∨ j = 3 := by omega
  all_goals rfl
theorem enC_mac (x : En) (j : Nat) (h : j < x.mac.length) : (enC x)[4 + j]? = some (ubv x.mac[j]) := by
  have hj : j < 6 := h
  obtain rfl | rfl | rfl | rfl | rfl | rfl : j = 0 ∨ j = 1 ∨ j = 2 ∨ j = 3 ∨ j = 4 ∨ j = 5 := by omega
  all_goals rfl
def en0 : En := ⟨0, 0, 0, 0, 0, 0, 0, 0, 0, 0, 0⟩
/-- entries' cells, one behind the other -/
def flatE (L : List En) : List Value := L.flatMap enE
theorem flatE_len (L : List En) : (flatE L).length = L.length * 11 := by
  unfold flatE
  induction L with
  | nil => rfl
  | cons r l ih => rw [List.flatMap_cons, List.length_append, ih, List.length_cons, enE_len]; omega
theorem flatE_app (L M : List En) : flatE (L ++ M) = flatE L ++ flatE M := by simp [flatE]
theorem flatE_get : ∀ (L : List En) (j i : Nat) (hj : j < L.length), i < 11 → (flatE L)[j * 11 + i]? = (enE L[j])[i]?
  | [], j, i, hj, _ => by simp at hj
  | r :: l, 0, i, hj, hi => by
    rw [show flatE (r :: l) = enE r ++ flatE l from rfl, List.getElem?_append_left (by rw [enE_len]; omega), Nat.zero_mul, Nat.zero_add]
    rfl
  | r :: l, j + 1, i, hj, hi => by
    rw [List.length_cons] at hj
    rw [show flatE (r :: l) = enE r ++ flatE l from rfl, List.getElem?_append_right (by rw [enE_len]; omega), enE_len, show (j + 1) * 11 + i - 11 = j * 11 + i by omega, flatE_get l j i (by omega) hi]
    rfl
theorem flatE_take (L : List En) (n : Nat) : (flatE L).take (n * 11) = flatE (L.take n) := by
  induction L generalizing n with
  | nil => simp [flatE]
  | cons r l ih =>
    cases n with
    | zero => simp [flatE]
    | succ n =>
      rw [show flatE (r :: l) = enE r ++ flatE l from rfl, List.take_succ_cons, show flatE (r :: List.take n l) = enE r ++ flatE (l.take n) from rfl, ← ih, List.take_append, enE_len, List.take_of_length_le (by rw [enE_len]; omega), show (n + 1) * 11 - 11 = n * 11 by omega]

/-! ### what the cache does, on a list of entries -/
def ipIs (i : List UInt8) (x : En) : Bool := x.ip == i
/-- the place of the eldest of the first k -/
def oldK (L : List En) : Nat → Nat
  | 0 => 0
  | k + 1 => if (L[oldK L k]!).age < (L[k]!).age then k else oldK L k
theorem oldK_lt (L : List En) : ∀ k, 0 < k → oldK L k < k
  | 0, h => absurd h (Nat.lt_irrefl _)
  | k + 1, _ => by
    rw [oldK]
    split
    · omega
    · rcases Nat.eq_zero_or_pos k with h | h
      · subst h; exact Nat.zero_lt_one
      · have := oldK_lt L k h; omega
theorem oldK_one (L : List En) : oldK L 1 = 0 := by
  unfold oldK
  split <;> rfl
/-- room for one more: the eldest of eight goes -/
def roomV (L : List En) : List En := if 8 ≤ L.length then L.eraseIdx (oldK L L.length) else L
def learnV (L : List En) (i m : List UInt8) : List En :=
  if L.any (ipIs i) then L.map (fun x => if ipIs i x then mkE i m 0 else x) else roomV L ++ [mkE i m 0]
def older (x : En) : En := { x with age := x.age + 1 }
def tickV (lim : Int) (L : List En) : List En := (L.map older).filter (fun x => decide (x.age < lim))
def findV (L : List En) (i : List UInt8) : List UInt8 × Bool :=
  match L.find? (ipIs i) with
  | some x => (x.mac, true)
  | none => ([0, 0, 0, 0, 0, 0], false)

/-- what holds of a cache's entries: at most eight, each address once, none too old -/
structure Good (lim : Int) (L : List En) : Prop where
  len : L.length ≤ 8
  age : ∀ x ∈ L, 0 ≤ x.age ∧ x.age < lim
  nd : (L.map En.ip).Nodup
theorem good_nil (lim : Int) : Good lim [] := ⟨by simp, fun x h => by simp at h, by simp⟩

theorem idx_spec (p : En → Bool) (L : List En) : (Lib.idxBy (fun _ y => p y) L default = -1 ∧ ∀ j (h : j < L.length), p L[j] = false) ∨ ∃ k, ∃ hk : k < L.length, Lib.idxBy (fun _ y => p y) L default = (k : Int) ∧ p L[k] = true ∧ ∀ j (h : j < k), p (L[j]'(by omega)) = false := by
  have key : ∀ (L : List En) (i : Nat), (Lib.idxByFrom (fun _ y => p y) default L i = -1 ∧ ∀ j (h : j < L.length), p L[j] = false) ∨ ∃ k, ∃ hk : k < L.length, Lib.idxByFrom (fun _ y => p y) default L i = ((i + k : Nat) : Int) ∧ p L[k] = true ∧ ∀ j (h : j < k), p (L[j]'(by omega)) = false := by
    intro L
    induction L with
    | nil => intro i; exact Or.inl ⟨rfl, fun j h => by simp at h⟩
    | cons y r ih =>
      intro i
      cases h : p y with
      | true => exact Or.inr ⟨0, by simp, by simp [Lib.idxByFrom, h], by simpa using h, fun j hj => absurd hj (Nat.not_lt_zero _)⟩
      | false =>
        rcases ih (i + 1) with ⟨e, ha⟩ | ⟨k, hk, e, ht, ha⟩
        · refine Or.inl ⟨by simp [Lib.idxByFrom, h, e], fun j hj => ?_⟩
          cases j with
          | zero => simpa using h
          | succ j => simpa using ha j (by simpa using hj)
        · refine Or.inr ⟨k + 1, by simpa using hk, ?_, by simpa using ht, fun j hj => ?_⟩
          · simp only [Lib.idxByFrom, h]
            rw [show (if false = true then (i : Int) else Lib.idxByFrom (fun _ y => p y) default r (i + 1)) = Lib.idxByFrom (fun _ y => p y) default r (i + 1) from rfl, e]
            congr 1
            omega
          · cases j with
            | zero => simpa using h
            | succ j => simpa using ha j (by omega)
  rcases key L 0 with h | ⟨k, hk, e, h⟩
  · exact Or.inl h
  · exact Or.inr ⟨k, hk, by unfold Lib.idxBy; rw [e, Nat.zero_add], h⟩
theorem find_miss {p : En → Bool} {L : List En} (h : ∀ j (h : j < L.length), p L[j] = false) : L.find? p = none ∧ L.any p = false := by
  have hx : ∀ x ∈ L, p x = false := fun x hx => by
    obtain ⟨j, hj, rfl⟩ := List.mem_iff_getElem.1 hx
    exact h j hj
  exact ⟨List.find?_eq_none.2 (fun x hx' => by rw [hx x hx']; simp), List.any_eq_false.2 (fun x hx' => by rw [hx x hx']; simp)⟩
theorem find_hit {p : En → Bool} {L : List En} {k : Nat} (hk : k < L.length) (h : p L[k] = true) (ha : ∀ j (h : j < k), p (L[j]'(by omega)) = false) : L.find? p = some L[k] ∧ L.any p = true := by
  refine ⟨?_, List.any_eq_true.2 ⟨L[k], List.getElem_mem hk, h⟩⟩
  induction L generalizing k with
  | nil => simp at hk
  | cons y r ih =>
    cases k with
    | zero =>
      have h' : p y = true := by simpa using h
      simp [List.find?_cons, h']
    | succ k =>
      have h0 : p y = false := by simpa using ha 0 (Nat.succ_pos _)
      rw [List.find?_cons, h0]
      simpa using ih (k := k) (by simpa using hk) (by simpa using h) (fun j hj => by simpa using ha (j + 1) (by omega))

theorem nd_ip {L : List En} (h : (L.map En.ip).Nodup) {j k : Nat} (hj : j < L.length) (hk : k < L.length) (e : L[j].ip = L[k].ip) : j = k := by
  have h2 := List.pairwise_iff_getElem.1 h
  rcases Nat.lt_trichotomy j k with h3 | h3 | h3
  · exact absurd (by rw [List.getElem_map, List.getElem_map]; exact e) (h2 j k (by simpa using hj) (by simpa using hk) h3)
  · exact h3
  · exact absurd (by rw [List.getElem_map, List.getElem_map]; exact e.symm) (h2 k j (by simpa using hk) (by simpa using hj) h3)
theorem map_set {L : List En} (hnd : (L.map En.ip).Nodup) {i : List UInt8} {k : Nat} (hk : k < L.length) (h : ipIs i L[k] = true) (e : En) : L.map (fun x => if ipIs i x then e else x) = L.set k e := by
  apply List.ext_getElem
  · simp
  · intro j h1 h2
    have hj : j < L.length := by simpa using h1
    rw [List.getElem_map, List.getElem_set]
    by_cases hjk : k = j
    · subst hjk
      rw [if_pos h, if_pos rfl]
    · rw [if_neg hjk, if_neg]
      intro h3
      exact hjk (nd_ip hnd hk hj ((beq_iff_eq.1 h).trans (beq_iff_eq.1 h3).symm))
theorem learn_hit {lim : Int} {L : List En} (hG : Good lim L) {i m : List UInt8} {k : Nat} (hk : k < L.length) (h : ipIs i L[k] = true) : learnV L i m = L.set k (mkE i m 0) := by
  unfold learnV
  rw [if_pos (List.any_eq_true.2 ⟨L[k], List.getElem_mem hk, h⟩), map_set hG.nd hk h]
theorem learn_miss {L : List En} {i m : List UInt8} (h : L.any (ipIs i) = false) : learnV L i m = roomV L ++ [mkE i m 0] := by
  unfold learnV
  rw [h]
  rfl
theorem room_small {L : List En} (h : ¬ 8 ≤ L.length) : roomV L = L := by unfold roomV; rw [if_neg h]
theorem room_full {L : List En} (h : 8 ≤ L.length) : roomV L = L.eraseIdx (oldK L L.length) := by unfold roomV; rw [if_pos h]
theorem room_len {L : List En} (h : L.length ≤ 8) : (roomV L).length ≤ 7 := by
  unfold roomV
  split
  · rw [List.length_eraseIdx]
    have := oldK_lt L L.length (by omega)
    rw [if_pos (by omega)]
    omega
  · omega
theorem room_sub (L : List En) : (roomV L).Sublist L := by
  unfold roomV
  split
  · exact List.eraseIdx_sublist _ _
  · exact List.Sublist.refl _
theorem good_learn {lim : Int} {L : List En} (hG : Good lim L) (hlim : 1 ≤ lim) {i m : List UInt8} (hi : i.length = 4) : Good lim (learnV L i m) := by
  have he : (mkE i m 0).ip = i := mkE_ip i m 0 hi
  unfold learnV
  cases ha : L.any (ipIs i) with
  | true =>
    rw [if_pos rfl]
    refine ⟨by simpa using hG.len, fun x hx => ?_, ?_⟩
    · obtain ⟨y, hy, rfl⟩ := List.mem_map.1 hx
      split
      · exact ⟨Int.le_refl _, by show (0 : Int) < lim; omega⟩
      · exact hG.age y hy
    · have e : (L.map (fun x => if ipIs i x then mkE i m 0 else x)).map En.ip = L.map En.ip := by
        rw [List.map_map]
        apply List.map_congr_left
        intro x hx
        show (if ipIs i x then mkE i m 0 else x).ip = x.ip
        split
        · rename_i h
          rw [he]
          exact (beq_iff_eq.1 h).symm
        · rfl
      rw [e]
      exact hG.nd
  | false =>
    rw [if_neg (by simp)]
    have hs := room_sub L
    refine ⟨by rw [List.length_append, List.length_singleton]; have := room_len hG.len; omega, fun x hx => ?_, ?_⟩
    · rcases List.mem_append.1 hx with h | h
      · exact hG.age x (hs.subset h)
      · rw [List.mem_singleton.1 h]
        exact ⟨Int.le_refl _, by show (0 : Int) < lim; omega⟩
    · rw [List.map_append, List.nodup_append]
      refine ⟨(hs.map En.ip).nodup hG.nd, by simp, fun a ha' b hb => ?_⟩
      have hb2 : b = i := by simpa [he] using hb
      rw [hb2]
      intro e
      obtain ⟨x, hx, rfl⟩ := List.mem_map.1 ha'
      have h1 := List.any_eq_false.1 ha x (hs.subset hx)
      exact h1 (beq_iff_eq.2 e)
theorem good_tick {lim : Int} {L : List En} (hG : Good lim L) : Good lim (tickV lim L) := by
  refine ⟨Nat.le_trans (List.length_filter_le _ _) (by simpa using hG.len), fun x hx => ?_, ?_⟩
  · obtain ⟨h1, h2⟩ := List.mem_filter.1 hx
    obtain ⟨y, hy, rfl⟩ := List.mem_map.1 h1
    have := (hG.age y hy).1
    exact ⟨by show 0 ≤ y.age + 1; omega, of_decide_eq_true h2⟩
  · have h := (List.filter_sublist (p := fun x => decide (x.age < lim)) (l := L.map older)).map En.ip
    refine h.nodup ?_
    have e : (L.map older).map En.ip = L.map En.ip := by rw [List.map_map]; rfl
    rw [e]
    exact hG.nd
theorem find_at {lim : Int} {L : List En} (hG : Good lim L) {k : Nat} (hk : k < L.length) : findV L L[k].ip = (L[k].mac, true) := by
  have h := find_hit (p := ipIs L[k].ip) hk (beq_iff_eq.2 rfl) (fun j hj => by
    apply beq_eq_false_iff_ne.2
    intro e
    have := nd_ip hG.nd (by omega : j < L.length) hk e
    omega)
  unfold findV
  rw [h.1]
end Go.Proofs.Ytpnhopgfoakgnaa
