/- Rows of pointers to datagrams: slices.IndexFunc and slices.DeleteFunc, by a predicate that only reads. No condition beyond what each lemma says. -/
import Derived.Test.YticchchcobjpdaaJiE
namespace Go.Proofs.Yticchchcobjpdaa
set_option linter.unusedVariables false
set_option linter.unusedSimpArgs false
set_option maxRecDepth 100000
open Go.RowKit Go.Proofs Go.Shelf Go.Lib Go.Sort
attribute [local go_sem ↓] Go.wp_at_zero Go.wp_at_succ
attribute [local go_sem ↓] ld_pk ld_ip
theorem own_storedK {B size n cap g : Nat} {e : TypeId} : ∀ (vs : List Value) (o : Nat) (w : World) (xs : List Value), w.ownsRow B e size (.slice (some ⟨g, 0, none⟩) n cap) n xs → o + vs.length ≤ xs.length →
    (w.setCells g o vs).ownsRow B e size (.slice (some ⟨g, 0, none⟩) n cap) n (xs.take o ++ vs ++ xs.drop (o + vs.length))
  | [], o, w, xs, h, _ => by
    have : xs.take o ++ ([] : List Value) ++ xs.drop (o + 0) = xs := by simp
    simp only [World.setCells, List.length_nil]
    rw [this]
    exact h
  | v :: r, o, w, xs, h, hl => by
    have hl0 : o + (r.length + 1) ≤ xs.length := by simpa using hl
    have ih := own_storedK r (o + 1) (w.setCell ⟨g, o, none⟩ v) (xs.set o v) (h.stored o v).1 (by rw [List.length_set]; omega)
    rw [World.setCells]
    have e1 : (xs.set o v).take (o + 1) ++ r ++ (xs.set o v).drop (o + 1 + r.length) = xs.take o ++ (v :: r) ++ xs.drop (o + (v :: r).length) := by
      rw [List.drop_set_of_lt (by omega), List.length_cons, show o + (r.length + 1) = o + 1 + r.length by omega]
      have e2 : (xs.set o v).take (o + 1) = xs.take o ++ [v] := by
        rw [List.take_add_one, List.getElem?_set_self (by omega), List.take_set, List.set_eq_of_length_le (by simp; omega)]
        rfl
      rw [e2]
      simp
    rw [e1] at ih
    exact ih
theorem own_shrink {w : World} {B size n cap g : Nat} {e : TypeId} {xs : List Value} (h : w.ownsRow B e size (.slice (some ⟨g, 0, none⟩) n cap) n xs) (m : Nat) (hm : m ≤ n) :
    w.ownsRow B e size (.slice (some ⟨g, 0, none⟩) m cap) m (xs.take (m * size)) := by
  obtain ⟨hl, h⟩ := h
  have hms : m * size ≤ n * size := Nat.mul_le_mul_right _ hm
  rcases h with ⟨h', _⟩ | ⟨g', cap', cur, h', hb, hg, hnc, hcm, hcs, htake⟩
  · simp at h'
  · simp only [Value.slice.injEq, Option.some.injEq, Addr.mk.injEq, and_true, true_and] at h'
    obtain ⟨rfl, rfl⟩ := h'
    refine ⟨by rw [List.length_take, hl]; omega, .inr ⟨g, cap, cur, rfl, hb, hg, by omega, hcm, hcs, ?_⟩⟩
    rw [← htake, List.take_take, Nat.min_eq_left hms]

abbrev ptr (b : Nat) : Value := .pointer (some ⟨b, 0, none⟩)
/-- pointers lie in a row of their own -/
def PtrRow (w : World) (B g cap : Nat) (L : List Nat) : Prop := w.ownsRow B 72 1 (.slice (some ⟨g, 0, none⟩) L.length cap) L.length (L.map ptr) ∧ L.length ≤ cap ∧ cap ≤ maxLen
theorem PtrRow.cell {w : World} {B g cap : Nat} {L : List Nat} (h : PtrRow w B g cap L) (k : Nat) (hk : k < L.length) : w.cell? ⟨g, k, none⟩ = some (ptr L[k]) := by
  rw [h.1.cellAt k (by simpa using hk), List.getElem?_map, List.getElem?_eq_getElem hk]; rfl
theorem PtrRow.free {w : World} {B g cap : Nat} {L : List Nat} (h : PtrRow w B g cap L) (k : Nat) : w.frozen? ⟨g, k, none⟩ = false := h.1.frozenAt k
theorem PtrRow.lt {w : World} {B g cap : Nat} {L : List Nat} (h : PtrRow w B g cap L) : B ≤ g ∧ g < w.heap.size := h.1.lt g rfl
theorem PtrRow.set {w : World} {B g cap : Nat} {L : List Nat} (h : PtrRow w B g cap L) (k : Nat) (b : Nat) : PtrRow (w.setCell ⟨g, k, none⟩ (ptr b)) B g cap (L.set k b) := by
  obtain ⟨h1, h2, h3⟩ := h
  refine ⟨?_, by rw [List.length_set]; exact h2, h3⟩
  have := (h1.stored k (ptr b)).1
  rw [List.length_set, List.map_set]
  exact this
/-- what a predicate's call does -/
def PredD (f : Nat) (lb : Array Value) (p : Nat → Bool) (L : List Nat) (g : Nat) (w : World) : Prop :=
  ∀ (W : World) (b : Nat), b ∈ L → w.grownBy W (some g) → Calls Try.prog f (#[ptr b] ++ lb) W fun e w' => e = .returned (.bool (p b)) ∧ ∃ q, w' = W.drewN q
theorem grown_drewN {w w' : World} {row : Option Nat} (h : w.grownBy w' row) (q : Nat) : w.grownBy (w'.drewN q) row := ⟨h.os, h.tape, h.output, h.size, h.block⟩
theorem grown_set {w w' : World} {g k : Nat} (h : w.grownBy w' (some g)) (v : Value) : w.grownBy (w'.setCell ⟨g, k, none⟩ v) (some g) := by
  have hb := Below.setCell (p := ⟨g, k, none⟩) (Below.refl 0 w') (Nat.zero_le _) v
  refine ⟨hb.os.trans h.os, hb.tape.trans h.tape, hb.output.trans h.output, Nat.le_trans h.size hb.size, fun q hq hne => ?_⟩
  rw [RowKit.Below.heap_setCell _ _ _ _ (fun e => hne (by rw [e]))]
  exact h.block q hq hne
theorem grown_comp {u v w : World} {row : Option Nat} (h : u.grownBy v row) (k : v.grownBy w row) : u.grownBy w row :=
  ⟨k.os.trans h.os, k.tape.trans h.tape, k.output.trans h.output, Nat.le_trans h.size k.size, fun i hi hn => (k.block i (Nat.lt_of_lt_of_le hi h.size) hn).trans (h.block i hi hn)⟩
theorem grown_cells (w : World) (g o : Nat) (vs : List Value) : w.grownBy (w.setCells g o vs) (some g) := by
  induction vs generalizing w o with
  | nil => exact World.grownBy.refl w _
  | cons v vs ih => exact grown_comp (grown_set (World.grownBy.refl w _) v) (ih _ _)
theorem idx_one (p : Nat → Bool) (L : List Nat) (k : Nat) (hk : k < L.length) (h : ∀ j (hj : j < L.length), j < k → p L[j] = false) (hp : p L[k] = false) : ∀ j (hj : j < L.length), j < k + 1 → p L[j] = false := by
  intro j hj hjk
  by_cases e : j = k
  · subst e; exact hp
  · exact h j hj (by omega)

set_option maxHeartbeats 1000000 in
theorem idxD_any (f : Nat) (lb : Array Value) (eg : ∀ args w, (callFunc f args).run Try.prog w = .ok (.enter f args) w) (p : Nat → Bool) (L : List Nat) (B g cap : Nat) (hn : L.length ≤ 1000) (w : World) (h : PtrRow w B g cap L) (hp : PredD f lb p L g w) :
    Calls Try.prog 55 #[.slice (some ⟨g, 0, none⟩) L.length cap, .func (.func f) #[] lb] w fun e w' => (∃ q, w' = w.drewN q) ∧ ((e = .returned (.int .i64 (-1)) ∧ ∀ j (hj : j < L.length), p L[j] = false) ∨ ∃ k, ∃ (hk : k < L.length), e = .returned (.int .i64 (k : Int)) ∧ p L[k] = true ∧ ∀ j (hj : j < L.length), j < k → p L[j] = false) := by
  have HP := Lib.hid hp
  have HR := Lib.hid h
  obtain ⟨n, hnn⟩ : ∃ n, n = L.length := ⟨_, rfl⟩
  rw [← hnn] at hn
  have HN := Lib.hid hnn
  clear hp h hnn
  obtain ⟨Q, hQ⟩ : ∃ Q : Ending → World → Prop, Q = fun e w' => (∃ q, w' = w.drewN q) ∧ ((e = .returned (.int .i64 (-1)) ∧ ∀ j (hj : j < L.length), p L[j] = false) ∨ ∃ k, ∃ (hk : k < L.length), e = .returned (.int .i64 (k : Int)) ∧ p L[k] = true ∧ ∀ j (hj : j < L.length), j < k → p L[j] = false) := ⟨_, rfl⟩
  have HQ1 : Hid (∀ q, (∀ j (hj : j < L.length), p L[j] = false) → Q (.returned (.int .i64 (-1))) (w.drewN q)) := Lib.hid (fun q h => by rw [hQ]; exact ⟨⟨q, rfl⟩, Or.inl ⟨rfl, h⟩⟩)
  have HQ2 : Hid (∀ q k (hk : k < L.length), p L[k] = true → (∀ j (hj : j < L.length), j < k → p L[j] = false) → Q (.returned (.int .i64 (k : Int))) (w.drewN q)) := Lib.hid (fun q k hk h1 h2 => by rw [hQ]; exact ⟨⟨q, rfl⟩, Or.inr ⟨k, hk, rfl, h1, h2⟩⟩)
  suffices hs : Calls Try.prog 55 #[.slice (some ⟨g, 0, none⟩) n cap, .func (.func f) #[] lb] w (fun e w' => Q e w') from by
    rw [hQ, HN.out] at hs
    exact hs
  clear hQ
  go_enter Try.func55, Try.ntmps55
  go_wp2
  go_loopg [8] n (fun kx s8 wr => ∃ k q : Nat, s8 = .int .i64 k ∧ k ≤ n ∧ n - k ≤ kx ∧ Hid (∀ j (hj : j < L.length), j < k → p L[j] = false) ∧ Hid (wr = w.drewN q))
  case atStart => exact ⟨0, 0, rfl, Nat.zero_le _, by omega, Lib.hid (fun j hj h => by omega), Lib.hid rfl⟩
  case round =>
    obtain ⟨k, q, rfl, hk, hkx, HA, HW⟩ := hrel
    by_cases hlt : k < n
    · have hltz : (k : Int) < (n : Int) := by omega
      have hkL : k < L.length := by rw [← HN.out]; exact hlt
      have hc : wr.cell? ⟨g, k, none⟩ = some (ptr L[k]) := by rw [HW.out]; exact HR.out.cell k hkL
      have HC := Lib.hid (HP.out wr L[k] (List.getElem_mem _) (by rw [HW.out]; exact grown_drewN (World.grownBy.refl w _) q))
      have HI : Hid (p L[k] = false → ∀ j (hj : j < L.length), j < k + 1 → p L[j] = false) := Lib.hid (fun h => idx_one p L k hkL HA.out h)
      have HQ3 : Hid (p L[k] = true → ∀ q, Q (.returned (.int .i64 (k : Int))) (w.drewN q)) := Lib.hid (fun h q => HQ2.out q k hkL h HA.out)
      generalize L[k] = b at hc HC HI HQ3
      generalize p b = pb at HC HI HQ3
      go_wp2_with fail
      go_at_fn f
      refine HC.out.mono ?_
      rintro e w2 ⟨rfl, q2, hw2⟩
      have HW2 : Hid (w2 = w.drewN (q + q2)) := Lib.hid (by rw [hw2, HW.out, World.drewN_drewN])
      clear hw2 hc HC
      cases pb with
      | true =>
        have HQ4 := Lib.hid (HQ3.out rfl)
        go_wp2
        rw [HW2.out]
        exact HQ4.out _
      | false =>
        have HA2 := Lib.hid (HI.out rfl)
        go_wp2
        go_roundg (n - (k + 1))
        case measure => omega
        case rel => exact ⟨k + 1, q + q2, by go_num, by omega, Nat.le_refl _, HA2, HW2⟩
    · have hltz : ¬ (k : Int) < (n : Int) := by omega
      have hkn : k = n := by omega
      have HF : Hid (∀ j (hj : j < L.length), p L[j] = false) := Lib.hid (fun j hj => HA.out j hj (by have := HN.out; omega))
      go_wp2
      rw [HW.out]
      exact HQ1.out _ HF.out
/-! ### slices.DeleteFunc -/
theorem filter_allD {p : Nat → Bool} {L : List Nat} (h : ∀ j (h : j < L.length), p L[j] = false) : L.filter (fun b => !p b) = L := by
  rw [List.filter_eq_self]
  intro x hx
  obtain ⟨j, hj, rfl⟩ := List.mem_iff_getElem.1 hx
  simp [h j hj]
/-- the row while DeleteFunc goes: what is kept of the first b lies in front, what stands from b on is as it was -/
structure DkD (p : Nat → Bool) (L D : List Nat) (a b : Nat) : Prop where
  len : D.length = L.length
  lt : a < b
  le : b ≤ L.length
  pre : D.take a = (L.take b).filter (fun b => !p b)
  post : ∀ j (h1 : b ≤ j) (h : j < L.length), D[j]? = some L[j]
theorem DkD.start {p : Nat → Bool} {L : List Nat} {k : Nat} (hk : k < L.length) (ht : p L[k] = true) (ha : ∀ j (h : j < L.length), j < k → p L[j] = false) : DkD p L L k (k + 1) := by
  refine ⟨rfl, by omega, by omega, ?_, fun j _ h => List.getElem?_eq_getElem h⟩
  rw [List.take_add_one, List.getElem?_eq_getElem hk, List.filter_append]
  have e1 : (L.take k).filter (fun b => !p b) = L.take k := filter_allD (L := L.take k) (fun j h => by
    rw [List.getElem_take]
    rw [List.length_take] at h
    exact ha j (by omega) (by omega))
  rw [e1]
  simp [ht]
theorem DkD.keep {p : Nat → Bool} {L D : List Nat} {a b : Nat} (h : DkD p L D a b) (hb : b < L.length) (hp : p L[b] = false) : DkD p L (D.set a L[b]) (a + 1) (b + 1) := by
  have hlt := h.lt
  have hlen := h.len
  refine ⟨by rw [List.length_set]; exact h.len, by omega, by omega, ?_, fun j h1 h2 => by rw [List.getElem?_set_ne (by omega)]; exact h.post j (by omega) h2⟩
  rw [List.take_add_one, List.getElem?_set_self (by omega), List.take_set, List.set_eq_of_length_le (by simp; omega), h.pre, List.take_add_one, List.getElem?_eq_getElem hb, List.filter_append]
  simp [hp]
theorem DkD.skip {p : Nat → Bool} {L D : List Nat} {a b : Nat} (h : DkD p L D a b) (hb : b < L.length) (hp : p L[b] = true) : DkD p L D a (b + 1) := by
  have hlt := h.lt
  refine ⟨h.len, by omega, by omega, ?_, fun j h1 h2 => h.post j (by omega) h2⟩
  rw [h.pre, List.take_add_one, List.getElem?_eq_getElem hb, List.filter_append]
  simp [hp]
theorem DkD.done {p : Nat → Bool} {L D : List Nat} {a b : Nat} (h : DkD p L D a b) (hb : b = L.length) : D.take a = L.filter (fun b => !p b) ∧ a = (L.filter (fun b => !p b)).length := by
  subst hb
  have h1 := h.pre
  rw [List.take_of_length_le (Nat.le_refl _)] at h1
  refine ⟨h1, ?_⟩
  rw [← h1, List.length_take]
  have := h.lt
  have := h.len
  omega
theorem clear_ptrs (w : World) (ty : TypeId) (b o n c : Nat) (hn : 0 < n) (ht : w.there b o n) :
    (Builtin.clear_ #[54] ty #[.slice (some ⟨b, o, none⟩) n c]).run Try.prog w = .ok (.tuple #[]) (w.setCells b o (List.replicate n (.pointer none))) := by
  have hst := run_storeCells_cells (P := Try.prog) b o (List.replicate n (.pointer none)) 0 w (fun j hj => by rw [Nat.add_zero]; exact (ht j (by simpa using hj)).1) (fun j hj => by rw [Nat.add_zero]; exact (ht j (by simpa using hj)).2) (fun u hu => by rw [List.eq_of_mem_replicate hu]; rfl)
  simp only [Nat.add_zero] at hst
  obtain ⟨m, rfl⟩ : ∃ m, n = m + 1 := ⟨n - 1, by omega⟩
  have hz : (Builtin.zeroCells #[.pointer none] (m + 1)).toList = List.replicate (m + 1) (.pointer none) := by
    refine List.ext_getElem (by simp [Builtin.zeroCells]) (fun i h1 h2 => ?_)
    simp [Builtin.zeroCells, Nat.mod_one]
  simp [Builtin.clear_, run_underlying Try.underlying54, Try.zeroValue72, Value.cells, hz, hst]

set_option maxHeartbeats 4000000 in
theorem delD_any (f : Nat) (lb : Array Value) (eg : ∀ args w, (callFunc f args).run Try.prog w = .ok (.enter f args) w) (p : Nat → Bool) (L : List Nat) (B g cap : Nat) (hn : L.length ≤ 1000) (w : World) (h : PtrRow w B g cap L) (hp : PredD f lb p L g w) :
    Calls Try.prog 47 #[.slice (some ⟨g, 0, none⟩) L.length cap, .func (.func f) #[] lb] w fun e w' => e = .returned (.slice (some ⟨g, 0, none⟩) (L.filter (fun b => !p b)).length cap) ∧ PtrRow w' B g cap (L.filter (fun b => !p b)) ∧ w.grownBy w' (some g) := by
  have hif : ∀ n, n = L.length → Calls Try.prog 55 #[.slice (some ⟨g, 0, none⟩) n cap, .func (.func f) #[] lb] w fun e w' => (∃ q, w' = w.drewN q) ∧ ((e = .returned (.int .i64 (-1)) ∧ ∀ j (hj : j < L.length), p L[j] = false) ∨ ∃ k, ∃ (hk : k < L.length), e = .returned (.int .i64 (k : Int)) ∧ p L[k] = true ∧ ∀ j (hj : j < L.length), j < k → p L[j] = false) := by
    intro n hnL
    subst hnL
    exact idxD_any f lb eg p L B g cap hn w h hp
  have HP := Lib.hid hp
  have HR := Lib.hid h
  obtain ⟨n, hnn⟩ : ∃ n, n = L.length := ⟨_, rfl⟩
  rw [← hnn] at hn
  have HN := Lib.hid hnn
  have hnc : n ≤ cap := by rw [hnn]; exact h.2.1
  have hcm : cap ≤ 9223372036854775807 := h.2.2
  obtain ⟨Q, hQ⟩ : ∃ Q : Ending → World → Prop, Q = fun e w' => e = .returned (.slice (some ⟨g, 0, none⟩) (L.filter (fun b => !p b)).length cap) ∧ PtrRow w' B g cap (L.filter (fun b => !p b)) ∧ w.grownBy w' (some g) := ⟨_, rfl⟩
  have HQ1 : Hid (∀ q, (∀ j (hj : j < L.length), p L[j] = false) → Q (.returned (.slice (some ⟨g, 0, none⟩) n cap)) (w.drewN q)) := Lib.hid (fun q h1 => by
    rw [hQ, hnn]
    refine ⟨by rw [filter_allD h1], ?_, grown_drewN (World.grownBy.refl w _) q⟩
    rw [filter_allD h1]
    exact ⟨h.1.kept (grown_drewN (World.grownBy.refl w none) q) (by cases Value.ownBlock _ <;> simp), h.2⟩)
  have HQ2 : Hid (∀ (wr : World) (a : Nat) (D : List Nat), DkD p L D a n → PtrRow wr B g cap D → w.grownBy wr (some g) → Q (.returned (.slice (some ⟨g, 0, none⟩) a cap)) (wr.setCells g a (List.replicate (n - a) (.pointer none)))) := Lib.hid (fun wr a D hd hr hg => by
    obtain ⟨h1, h2⟩ := hd.done hnn
    have hlt := hd.lt
    have hDn : D.length = n := by rw [hd.len, hnn]
    rw [hQ]
    refine ⟨by rw [← h2], ⟨?_, by omega, h.2.2⟩, ?_⟩
    · have hr1 := hr.1
      have e1 := own_storedK (List.replicate (n - a) (.pointer none)) a wr _ hr1 (by rw [List.length_map, List.length_replicate]; omega)
      have e2 := own_shrink e1 a (by omega)
      rw [← h2, ← h1, List.map_take]
      rw [List.append_assoc, Nat.mul_one, List.take_append_of_le_length (by rw [List.length_take, List.length_map]; omega), List.take_take, Nat.min_self] at e2
      exact e2
    · exact grown_comp hg (grown_cells _ _ _ _))
  have hnn2 := hnn
  clear hp h hnn
  suffices hs : Calls Try.prog 47 #[.slice (some ⟨g, 0, none⟩) n cap, .func (.func f) #[] lb] w (fun e w' => Q e w') from by
    rw [hQ, hnn2] at hs
    exact hs
  have HIF := Lib.hid (hif n hnn2)
  clear hQ hnn2 hif
  go_enter Try.func47, Try.ntmps47
  go_wp2_with fail
  refine HIF.out.mono ?_
  rintro e w1 ⟨⟨q1, hw1⟩, hcs⟩
  have HW1 := Lib.hid hw1
  clear hw1 HIF
  rcases hcs with ⟨rfl, ha⟩ | ⟨k0, hk, rfl, ht, ha⟩
  · have HA := Lib.hid ha
    clear ha
    go_wp2
    rw [HW1.out]
    exact HQ1.out _ HA.out
  · have HD := Lib.hid (DkD.start hk ht ha)
    have HR1 : Hid (PtrRow w1 B g cap L) := Lib.hid (by rw [HW1.out]; exact ⟨HR.out.1.kept (grown_drewN (World.grownBy.refl w none) q1) (by cases Value.ownBlock _ <;> simp), HR.out.2⟩)
    have HG1 : Hid (w.grownBy w1 (some g)) := Lib.hid (by rw [HW1.out]; exact grown_drewN (World.grownBy.refl w _) q1)
    rw [← HN.out] at hk
    clear ha ht HQ1 HW1 HR
    have hw0 : IntKind.i64.wrap ((k0 : Int) + 1) = (k0 : Int) + 1 := IntWalk.i64_in _ ⟨by omega, by omega⟩
    have hne1 : ((k0 : Int) == -1) = false := beq_eq_false_iff_ne.2 (by omega)
    have hne2 : ¬ (k0 : Int) = -1 := by omega
    go_wp2
    go_loopg [5, 6] n (fun kx i j wr => ∃ (a b : Nat) (D : List Nat), i = .int .i64 a ∧ j = .int .i64 b ∧ a < b ∧ b ≤ n ∧ n - b ≤ kx ∧ Hid (DkD p L D a b) ∧ Hid (PtrRow wr B g cap D) ∧ Hid (w.grownBy wr (some g)))
    case atStart => exact ⟨k0, k0 + 1, L, rfl, by go_num, by omega, by omega, by omega, HD, HR1, HG1⟩
    case round =>
      obtain ⟨a, b, D, rfl, rfl, hab, hbl, hkx, HDK, HRR, HGG⟩ := hrel
      clear HD HR1 HG1 hw0 hne1 hne2
      by_cases hlt : b < n
      · have hlt' : (b : Int) < (n : Int) := by omega
        have hal : (a : Int) < (n : Int) := by omega
        have ha0 : 0 ≤ (a : Int) := by omega
        have hb0 : 0 ≤ (b : Int) := by omega
        have hbL : b < L.length := by rw [← HN.out]; exact hlt
        have hc : wr.cell? ⟨g, b, none⟩ = some (ptr L[b]) := by
          have h1 := HDK.out.post b (Nat.le_refl _) hbL
          have hbD : b < D.length := by rw [HDK.out.len]; exact hbL
          rw [HRR.out.cell b hbD]
          rw [List.getElem?_eq_getElem hbD] at h1
          rw [Option.some.inj h1]
        have HC := Lib.hid (HP.out wr L[b] (List.getElem_mem _) HGG.out)
        have HK1 : Hid (p L[b] = false → DkD p L (D.set a L[b]) (a + 1) (b + 1)) := Lib.hid (fun h => HDK.out.keep hbL h)
        have HK2 : Hid (p L[b] = true → DkD p L D a (b + 1)) := Lib.hid (fun h => HDK.out.skip hbL h)
        generalize L[b] = x at hc HC HK1 HK2
        generalize p x = px at HC HK1 HK2
        go_wp2_with fail
        go_at_fn f
        refine HC.out.mono ?_
        rintro e w2 ⟨rfl, q2, hw2⟩
        have HR2 : Hid (PtrRow w2 B g cap D) := Lib.hid (by rw [hw2]; exact ⟨HRR.out.1.kept (grown_drewN (World.grownBy.refl wr none) q2) (by cases Value.ownBlock _ <;> simp), HRR.out.2⟩)
        have HG2 : Hid (w.grownBy w2 (some g)) := Lib.hid (by rw [hw2]; exact grown_drewN HGG.out q2)
        clear hw2 hc HC
        cases px with
        | false =>
          have HE := Lib.hid (HK1.out rfl)
          have haD : a < D.length := by rw [HDK.out.len, ← HN.out]; omega
          have hca : w2.cell? ⟨g, a, none⟩ = some (ptr D[a]) := HR2.out.cell a haD
          have hfa : w2.frozen? ⟨g, a, none⟩ = false := HR2.out.free a
          have HR3 := Lib.hid (HR2.out.set a x)
          have HG3 := Lib.hid (grown_set (k := a) HG2.out (ptr x))
          generalize D[a] = y at hca
          have hwa : IntKind.i64.wrap ((a : Int) + 1) = (a : Int) + 1 := IntWalk.i64_in _ ⟨by omega, by omega⟩
          go_wp2
          go_roundg (n - (b + 1))
          case measure => omega
          case rel => exact ⟨a + 1, b + 1, _, by go_num, by go_num, by omega, by omega, Nat.le_refl _, HE, HR3, HG3⟩
        | true =>
          have HE := Lib.hid (HK2.out rfl)
          go_wp2
          go_roundg (n - (b + 1))
          case measure => omega
          case rel => exact ⟨a, b + 1, _, rfl, by go_num, by omega, by omega, Nat.le_refl _, HE, HR2, HG2⟩
      · have hbe : b = n := by omega
        subst hbe
        have hlt' : ¬ (b : Int) < (b : Int) := by omega
        have hac : ¬ cap = a := by omega
        have hale : (a : Int) ≤ (b : Int) := by omega
        have hale2 : (a : Int) ≤ (cap : Int) := by omega
        have hale3 : a ≤ cap := by omega
        have hale4 : a ≤ b := by omega
        have ha0 : 0 ≤ (a : Int) := by omega
        have hcl := fun ty => clear_ptrs wr ty g a (b - a) (cap - a) (by omega) (fun j hj => by
          have hjD : a + j < D.length := by rw [HDK.out.len, ← HN.out]; omega
          exact ⟨by rw [HRR.out.cell _ hjD]; rfl, HRR.out.free _⟩)
        have HFIN := Lib.hid (HQ2.out wr a D HDK.out HRR.out HGG.out)
        clear HDK HRR HGG HN HQ2
        go_wp2
        exact HFIN.out
end Go.Proofs.Yticchchcobjpdaa
