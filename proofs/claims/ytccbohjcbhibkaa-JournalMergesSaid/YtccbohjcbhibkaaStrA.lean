/- Slices of texts: what a call owns, what an append makes of them. No condition but that they fit a memory. -/
import Derived.Test.YtccbohjcbhibkaaPaW
import Derived.Laws.AppendOwnNone
import Derived.OwnWalk
namespace Go.Proofs.Ytccbohjcbhibkaa
set_option linter.unusedVariables false
set_option linter.unusedSimpArgs false
set_option maxRecDepth 100000
open Go.RowKit Go.ChangeShapes Go.WideShapes Go.Deep

abbrev encStr : List UInt8 → Value := fun s => .string ⟨s.toArray⟩
theorem StrsAt.up {w w' : World} {A : Option Addr} {L : List (List UInt8)} (h : StrsAt w w.heap.size A L) (hb : Below w.heap.size w w') : StrsAt w' w'.heap.size A L := by
  rcases h.below hb with h | ⟨b, o, e1, e2, e3⟩
  · exact Or.inl h
  · exact Or.inr ⟨b, o, e1, Nat.lt_of_lt_of_le e2 hb.size, e3⟩

theorem strs_cells (L : List (List UInt8)) (j : Nat) (hj : j < L.length) : ((L.map encStr).toArray)[j]? = some (.string ⟨(L[j]).toArray⟩) := by
  rw [List.getElem?_toArray, List.getElem?_map, List.getElem?_eq_getElem hj]; rfl
theorem strs_new (w : World) (T : TypeId) (C : Array Value) (L : List (List UInt8)) (hC : C = (L.map encStr).toArray) :
    StrsAt (w.alloc (.cells C T)) (w.alloc (.cells C T)).heap.size (some ⟨w.heap.size, 0, none⟩) L := by
  right
  refine ⟨w.heap.size, 0, rfl, by simp, fun j hj => ?_⟩
  rw [(Blk.new w T C 0 0 (Or.inl (Nat.le_refl _))).cell, Nat.zero_add, hC, strs_cells L j hj]

theorem own_strs {w : World} {B n : Nat} {v : Value} {L : List (List UInt8)} (h : w.ownsRow B 9 1 v n (L.map encStr)) :
    ∃ A c, v = .slice A L.length c ∧ n = L.length ∧ StrsAt w w.heap.size A L ∧ L.length ≤ c ∧ c ≤ maxLen ∧ (A = none → c = 0) := by
  obtain ⟨hl, h⟩ := h
  rw [List.length_map, Nat.mul_one] at hl
  rcases h with ⟨rfl, h0⟩ | ⟨g, cap, cur, rfl, hB, hg, hn, hm, hsz, htk⟩
  · subst h0
    have : L = [] := List.length_eq_zero_iff.1 hl
    subst this
    exact ⟨none, 0, rfl, rfl, Or.inl rfl, Nat.le_refl _, by simp [maxLen], fun _ => rfl⟩
  · refine ⟨some ⟨g, 0, none⟩, cap, by rw [hl], hl.symm, Or.inr ⟨g, 0, rfl, (Array.getElem?_eq_some_iff.1 hg).1, fun j hj => ?_⟩, by omega, hm, fun h => by cases h⟩
    rw [Nat.mul_one] at htk
    have e : (cur.toList.take n)[j]? = some (encStr L[j]) := by
      rw [htk, List.getElem?_map, List.getElem?_eq_getElem hj]; rfl
    rw [List.getElem?_take, if_pos (by omega)] at e
    have e2 : cur[j]? = some (encStr L[j]) := by simpa using e
    have e3 : w.cell? ⟨g, 0 + j, none⟩ = cur[j]? := by simp [World.cell?, hg]
    rw [e3, e2]
theorem str_info : (Try.prog.info? 9).map (fun i => (i.zero, i.size, i.bytes)) = some (some (.string ⟨#[]⟩), 1, 16) := by kernel_rfl

theorem enc_one (L : List (List UInt8)) : ∀ u ∈ L.map encStr, u.oneCell' = true := by
  intro u hu
  obtain ⟨x, _, rfl⟩ := List.mem_map.1 hu
  rfl

/-- 'append(own, some...)' of texts, whatever the source is -/
theorem wpList_app {w : World} {ops : Array Oper} {rest : List Oper} {o : Oper} {a : Act} {Q : Exit → Act → World → Prop} (hgd : o.guard = none) (s x : Operand)
    (ho : o.op = .call { callee := .builtin .append, args := #[s, x], argTypes := #[41, 41] })
    (base : Nat) (v : Value) (n : Nat) (xs : List (List UInt8)) (hs : a.eval s = v) (hown : w.ownsRow base 9 1 v n (xs.map encStr))
    (A : Option Addr) (m c : Nat) (L : List (List UInt8)) (hx : a.eval x = .slice A m c) (hm : m = L.length) (hst : StrsAt w w.heap.size A L) (hnil : A = none → c = 0) (h16 : (n + m) * 16 ≤ 140737488355328) (hbase : base ≤ w.heap.size)
    (h : ∀ v' w', w'.ownsRow base 9 1 v' (n + m) ((xs ++ L).map encStr) → w.grownBy w' v.ownBlock → wpList Try.prog ops Q rest (a.put o.dst v') w') : wpList Try.prog ops Q (o :: rest) a w := by
  obtain ⟨i0, hi, hz0, hz1, hz2⟩ := info_parts str_info
  subst hm
  rcases A with _ | ad
  · have hL : L = [] := by
      rcases hst with h | ⟨b, o, h1, _⟩
      · exact h
      · cases h1
    subst hL
    have hc := hnil rfl
    subst hc
    refine wpList_append_own_none hgd s x 41 ho base 9 i0 1 Try.underlying41 hi v n _ hs hown hx ?_
    exact h v w (by rw [List.append_nil]; exact hown) ⟨rfl, rfl, rfl, Nat.le_refl _, fun _ _ _ => rfl⟩
  · refine wpList_append_own w hgd s x 41 ho base 9 i0 (.string ⟨#[]⟩) 1 16 Try.underlying41 hi hz0 hz1 hz2 rfl (by decide) v n _ hs hown ad L.length c (L.map encStr) hx (by simp) ?_ (enc_one L) (by unfold maxLen; omega) h16 hbase ?_
    · intro j u hj
      rcases hst with h | ⟨b, o, h1, _, h3⟩
      · subst h; simp at hj
      · obtain rfl : ad = ⟨b, o, none⟩ := Option.some.inj h1
        rw [List.getElem?_map] at hj
        obtain ⟨y, hy1, hy2⟩ := Option.map_eq_some_iff.1 hj
        obtain ⟨hjl, rfl⟩ := List.getElem?_eq_some_iff.1 hy1
        rw [addr_add, h3 j hjl, ← hy2]
    · intro v' w' hown' hg _
      rw [← List.map_append] at hown'
      exact h v' w' hown' hg

theorem own_new (w : World) (B : Nat) (C : Array Value) (L : List (List UInt8)) (hC : C = (L.map encStr).toArray) (n : Nat) (hn : n = L.length) (hm : L.length ≤ maxLen) (hB : B ≤ w.heap.size) :
    (w.alloc (.cells C 9)).ownsRow B 9 1 (.slice (some ⟨w.heap.size, 0, none⟩) n n) n (L.map encStr) := by
  subst hn
  refine ⟨by simp, Or.inr ⟨w.heap.size, L.length, C, rfl, hB, heap_alloc_new w _, Nat.le_refl _, hm, by rw [hC]; simp, ?_⟩⟩
  rw [hC, List.toList_toArray, Nat.mul_one, List.take_of_length_le (by simp)]

end Go.Proofs.Ytccbohjcbhibkaa
