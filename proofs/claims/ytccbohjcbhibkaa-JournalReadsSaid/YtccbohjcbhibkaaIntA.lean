/- Slices of numbers: what came in, what a call owns, what an append makes of them. No condition but that they fit a memory. -/
import Derived.Test.YtccbohjcbhibkaaLaw
import Derived.Test.YtccbohjcbhibkaaBase
import Derived.ChangeSlices
import Derived.Deep.Slices
import Derived.Laws.AppendOwnNone
namespace Go.Proofs.Ytccbohjcbhibkaa
set_option linter.unusedVariables false
set_option maxRecDepth 100000
open Go.RowKit Go.ChangeShapes Go.WideShapes Go.Deep

/-- numbers lie from an address on, below block B -/
def IntsAt (w : World) (B : Nat) (A : Option Addr) (L : List Int) : Prop :=
  L = [] ∨ ∃ b o, A = some ⟨b, o, none⟩ ∧ b < B ∧ ∀ j (hj : j < L.length), w.cell? ⟨b, o + j, none⟩ = some (.int .i64 L[j])
theorem IntsAt.up {w w' : World} {A : Option Addr} {L : List Int} (h : IntsAt w w.heap.size A L) (hb : Below w.heap.size w w') : IntsAt w' w'.heap.size A L := by
  rcases h with h | ⟨b, o, e1, e2, e3⟩
  · exact Or.inl h
  · exact Or.inr ⟨b, o, e1, Nat.lt_of_lt_of_le e2 hb.size, fun j hj => (hb.cell (p := ⟨b, o + j, none⟩) e2).trans (e3 j hj)⟩

theorem ints_of {H : Type} {enc : TypeId × Value → H} {w : World} {v : Value} {d : DataW H} {p : List MemPlace} {r : Reach} {base : Nat} (hv : Value.okWide Try.prog w r base 40 v)
    (h : DataW.Trod enc Try.prog w 0 (fun _ => true) true 40 v d p) :
    ∃ (A : Option Addr) (c : Nat) (L : List Int), v = .slice A L.length c ∧ L.length ≤ maxLen ∧ IntsAt w w.heap.size A L ∧ (∀ n ∈ L, -9223372036854775808 ≤ n ∧ n ≤ 9223372036854775807) ∧ L.length ≤ c ∧ c ≤ maxLen ∧ (A = none → c = 0) := by
  obtain ⟨A0, n0, c0, rfl⟩ : ∃ A n c, v = .slice A n c := okWide_slice Try.underlying40 hv
  obtain ⟨fuel, hf⟩ := h
  have k3 : Try.prog.cellsOf 3 = 1 := by kernel_rfl
  rcases open_ints Try.underlying40 Try.underlying3 k3 hf with ⟨h0, _⟩ | ⟨a, len, cap, zs, hcs, hb, hl, hm, hsl, hx, hi, hz⟩
  · obtain ⟨rfl, rfl, rfl⟩ : A0 = none ∧ n0 = 0 ∧ c0 = 0 := by simpa [Value.cells] using h0
    exact ⟨none, 0, [], rfl, by simp [maxLen], Or.inl rfl, by simp, Nat.le_refl _, by simp [maxLen], fun _ => rfl⟩
  · have hq : A0 = some a ∧ n0 = len ∧ c0 = cap := by simpa [Value.cells] using hcs
    obtain ⟨hq1, hq2, hq3⟩ := hq
    subst hq1
    subst hq2
    subst hq3
    have hsl' : n0 ≤ zs.length := by rw [hsl]; simp; omega
    have hlen : (zs.take n0).length = n0 := by rw [List.length_take]; omega
    refine ⟨some a, c0, zs.take n0, by rw [hlen], by rw [hlen]; omega, ?_, ?_, by rw [hlen]; exact hl, hm, fun h => by cases h⟩
    · by_cases hn : n0 = 0
      · left
        rw [hn]; rfl
      · right
        have hsp : a.spot = none := by
          have h0 := hi 0 (by omega)
          have ha : a.add 0 = a := by unfold Addr.add; simp
          rw [ha] at h0
          unfold World.cell? at h0
          split at h0
          · split at h0
            · cases h0
            · rename_i hns; simpa using hns
          · cases h0
        obtain ⟨b, o, sp⟩ := a
        obtain rfl : sp = none := hsp
        have each : ∀ j (hj : j < (zs.take n0).length), w.cell? ⟨b, o + j, none⟩ = some (.int .i64 (zs.take n0)[j]) := by
          intro j hj
          rw [hlen] at hj
          have h1 := hi j (by omega)
          rw [addr_add] at h1
          rw [h1]
          have e : zs.getD j 0 = zs[j]'(by omega) := by simp [List.getD_eq_getElem?_getD, List.getElem?_eq_getElem (by omega : j < zs.length)]
          rw [e, List.getElem_take]
        refine ⟨b, o, rfl, ?_, each⟩
        have h0 := hi 0 (by omega)
        rw [addr_add] at h0
        exact World.block_lt_of_cell? w ⟨b, o + 0, none⟩ h0
    · intro n hn
      have := hz n (List.mem_of_mem_take hn)
      simpa [Lit.wf, IntKind.has, IntKind.min, IntKind.max, IntKind.signed, IntKind.bits] using this

abbrev encInt : Int → Value := fun n => .int .i64 n
theorem ints_cells (L : List Int) (j : Nat) (hj : j < L.length) : ((L.map encInt).toArray)[j]? = some (.int .i64 L[j]) := by
  rw [List.getElem?_toArray, List.getElem?_map, List.getElem?_eq_getElem hj]; rfl
theorem ints_new (w : World) (T : TypeId) (C : Array Value) (L : List Int) (hC : C = (L.map encInt).toArray) :
    IntsAt (w.alloc (.cells C T)) (w.alloc (.cells C T)).heap.size (some ⟨w.heap.size, 0, none⟩) L := by
  right
  refine ⟨w.heap.size, 0, rfl, by simp, fun j hj => ?_⟩
  rw [(Blk.new w T C 0 0 (Or.inl (Nat.le_refl _))).cell, Nat.zero_add, hC, ints_cells L j hj]

theorem own_ints {w : World} {B n : Nat} {v : Value} {L : List Int} (h : w.ownsRow B 3 1 v n (L.map encInt)) :
    ∃ A c, v = .slice A L.length c ∧ n = L.length ∧ IntsAt w w.heap.size A L ∧ L.length ≤ c ∧ c ≤ maxLen ∧ (A = none → c = 0) := by
  obtain ⟨hl, h⟩ := h
  rw [List.length_map, Nat.mul_one] at hl
  rcases h with ⟨rfl, h0⟩ | ⟨g, cap, cur, rfl, hB, hg, hn, hm, hsz, htk⟩
  · subst h0
    have : L = [] := List.length_eq_zero_iff.1 hl
    subst this
    exact ⟨none, 0, rfl, rfl, Or.inl rfl, Nat.le_refl _, by simp [maxLen], fun _ => rfl⟩
  · refine ⟨some ⟨g, 0, none⟩, cap, by rw [hl], hl.symm, Or.inr ⟨g, 0, rfl, (Array.getElem?_eq_some_iff.1 hg).1, fun j hj => ?_⟩, by omega, hm, fun h => by cases h⟩
    rw [Nat.mul_one] at htk
    have e : (cur.toList.take n)[j]? = some (encInt L[j]) := by
      rw [htk, List.getElem?_map, List.getElem?_eq_getElem hj]; rfl
    rw [List.getElem?_take, if_pos (by omega)] at e
    have e2 : cur[j]? = some (encInt L[j]) := by simpa using e
    have e3 : w.cell? ⟨g, 0 + j, none⟩ = cur[j]? := by simp [World.cell?, hg]
    rw [e3, e2]

theorem int_info : (Try.prog.info? 3).map (fun i => (i.zero, i.size, i.bytes)) = some (some (.int .i64 0), 1, 8) := by kernel_rfl
theorem encInt_one (L : List Int) : ∀ u ∈ L.map encInt, u.oneCell' = true := by
  intro u hu
  obtain ⟨x, _, rfl⟩ := List.mem_map.1 hu
  rfl
/-- 'append(own, some...)' of numbers -/
theorem wpList_appI {w : World} {ops : Array Oper} {rest : List Oper} {o : Oper} {a : Act} {Q : Exit → Act → World → Prop} (hgd : o.guard = none) (s x : Operand)
    (ho : o.op = .call { callee := .builtin .append, args := #[s, x], argTypes := #[40, 40] })
    (base : Nat) (v : Value) (n : Nat) (xs : List Int) (hs : a.eval s = v) (hown : w.ownsRow base 3 1 v n (xs.map encInt))
    (A : Option Addr) (m c : Nat) (L : List Int) (hx : a.eval x = .slice A m c) (hm : m = L.length) (hst : IntsAt w w.heap.size A L) (hnil : A = none → c = 0) (h16 : (n + m) * 8 ≤ 140737488355328) (hbase : base ≤ w.heap.size)
    (h : ∀ v' w', w'.ownsRow base 3 1 v' (n + m) ((xs ++ L).map encInt) → w.grownBy w' v.ownBlock → wpList Try.prog ops Q rest (a.put o.dst v') w') : wpList Try.prog ops Q (o :: rest) a w := by
  obtain ⟨i0, hi, hz0, hz1, hz2⟩ := info_parts int_info
  subst hm
  rcases A with _ | ad
  · have hL : L = [] := by
      rcases hst with h | ⟨b, o, h1, _⟩
      · exact h
      · cases h1
    subst hL
    have hc := hnil rfl
    subst hc
    refine wpList_append_own_none hgd s x 40 ho base 3 i0 1 Try.underlying40 hi v n _ hs hown hx ?_
    exact h v w (by rw [List.append_nil]; exact hown) ⟨rfl, rfl, rfl, Nat.le_refl _, fun _ _ _ => rfl⟩
  · refine wpList_append_own w hgd s x 40 ho base 3 i0 (.int .i64 0) 1 8 Try.underlying40 hi hz0 hz1 hz2 rfl (by decide) v n _ hs hown ad L.length c (L.map encInt) hx (by simp) ?_ (encInt_one L) (by unfold maxLen; omega) h16 hbase ?_
    · intro j u hj
      rcases hst with h | ⟨b, o, h1, _, h3⟩
      · subst h; simp at hj
      · obtain rfl : ad = ⟨b, o, none⟩ := Option.some.inj h1
        rw [List.getElem?_map] at hj
        obtain ⟨y, hy1, hy2⟩ := Option.map_eq_some_iff.1 hj
        obtain ⟨hjl, rfl⟩ := List.getElem?_eq_some_iff.1 hy1
        rw [addr_add, h3 j hjl, ← hy2]
    · intro v' w' hown' hg _
      rw [← List.map_append] at hown'
      exact h v' w' hown' hg
theorem one_int (w : World) (n : Int) : IntsAt (w.alloc (.cells #[.int .i64 n] 3)) (w.alloc (.cells #[.int .i64 n] 3)).heap.size (some ⟨w.heap.size, 0, none⟩) [n] := ints_new w _ _ [n] rfl
end Go.Proofs.Ytccbohjcbhibkaa
