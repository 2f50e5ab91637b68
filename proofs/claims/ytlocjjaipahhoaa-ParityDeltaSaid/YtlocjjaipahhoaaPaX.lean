/- Slices of texts: what came in, what a call owns, what an append makes of them. No condition but that they fit a memory. -/
import Derived.Test.YtlocjjaipahhoaaPaM
import Derived.Laws.AppendOwnNone
namespace Go.Proofs.Ytlocjjaipahhoaa
set_option linter.unusedVariables false
set_option linter.unusedSimpArgs false
set_option maxRecDepth 100000
open Go.RowKit Go.ChangeShapes Go.WideShapes Go.Deep

/-- v is a slice of the texts L, below block B -/
def Strs (w : World) (B : Nat) (v : Value) (L : List (List UInt8)) : Prop :=
  ∃ A c, v = .slice A L.length c ∧ StrsAt w B A L ∧ L.length ≤ c ∧ c ≤ maxLen ∧ (A = none → c = 0)

theorem strs_of2 {H : Type} {enc : TypeId × Value → H} {w : World} {v : Value} {d : DataW H} {p : List MemPlace} {r : Reach} {base : Nat} (hv : Value.okWide Try.prog w r base 22 v)
    (h : DataW.Trod enc Try.prog w 0 (fun _ => true) true 22 v d p) :
    ∃ L : List (List UInt8), Strs w w.heap.size v L ∧ L.length ≤ maxLen ∧ ∀ s ∈ L, s.length ≤ maxLen := by
  obtain ⟨A, c, L, rfl, hL, hst, hs⟩ := strs_of hv h
  refine ⟨L, ⟨A, c, rfl, hst, ?_⟩, hL, hs⟩
  obtain ⟨fuel, hf⟩ := h
  have k3 : Try.prog.cellsOf 9 = 1 := by kernel_rfl
  rcases open_strings Try.underlying22 Try.underlying9 k3 hf with ⟨h0, _⟩ | ⟨a, len, cap, ss, hcs, hb, hl, hm, _⟩
  · obtain ⟨h1, h2, h3⟩ : A = none ∧ L = [] ∧ c = 0 := by simpa [Value.cells] using h0
    rw [h2, h3]
    exact ⟨Nat.le_refl _, by simp [maxLen], fun _ => rfl⟩
  · obtain ⟨h1, h2, h3⟩ : A = some a ∧ L.length = len ∧ c = cap := by simpa [Value.cells] using hcs
    rw [h2, h3]
    exact ⟨hl, hm, fun h => by rw [h1] at h; cases h⟩

theorem Strs.below {w w' : World} {v : Value} {L : List (List UInt8)} (h : Strs w w.heap.size v L) (hb : Below w.heap.size w w') : Strs w' w'.heap.size v L := by
  obtain ⟨A, c, h1, h2, h3⟩ := h
  refine ⟨A, c, h1, ?_, h3⟩
  rcases h2.below hb with h | ⟨b, o, e1, e2, e3⟩
  · exact Or.inl h
  · exact Or.inr ⟨b, o, e1, Nat.lt_of_lt_of_le e2 hb.size, e3⟩
theorem StrsAt.up {w w' : World} {A : Option Addr} {L : List (List UInt8)} (h : StrsAt w w.heap.size A L) (hb : Below w.heap.size w w') : StrsAt w' w'.heap.size A L := by
  rcases h.below hb with h | ⟨b, o, e1, e2, e3⟩
  · exact Or.inl h
  · exact Or.inr ⟨b, o, e1, Nat.lt_of_lt_of_le e2 hb.size, e3⟩

theorem own_strs {w : World} {B n : Nat} {v : Value} {L : List (List UInt8)} (h : w.ownsRow B 9 1 v n (L.map encStr)) :
    ∃ A c, v = .slice A L.length c ∧ n = L.length ∧ StrsAt w w.heap.size A L ∧ L.length ≤ c ∧ c ≤ maxLen ∧ (A = none → c = 0) := by
  by_cases hL : L = []
  · subst hL
    obtain ⟨hl, h⟩ := h
    have hn : n = 0 := by simpa using hl.symm
    subst hn
    rcases h with ⟨rfl, _⟩ | ⟨g, cap, cur, rfl, hB, hg, hn, hm, hsz, htk⟩
    · exact ⟨none, 0, rfl, rfl, Or.inl rfl, Nat.le_refl _, by simp [maxLen], fun _ => rfl⟩
    · exact ⟨some ⟨g, 0, none⟩, cap, rfl, rfl, Or.inl rfl, hn, hm, fun h => by cases h⟩
  · obtain ⟨g, cap, h1, h2, h3, h4, h5, h6, h7⟩ := own_holds h hL
    refine ⟨_, _, h1, h2, Or.inr ⟨g, 0, rfl, h4, fun j hj => ?_⟩, h5, h6, fun h => by cases h⟩
    have hc := (h7 j (by simpa using hj)).1
    rw [hc]
    simp [hj]

theorem str_info : (Try.prog.info? 9).map (fun i => (i.zero, i.size, i.bytes)) = some (some (.string ⟨#[]⟩), 1, 16) := by kernel_rfl

theorem enc_one (L : List (List UInt8)) : ∀ u ∈ L.map encStr, u.oneCell' = true := by
  intro u hu
  obtain ⟨x, _, rfl⟩ := List.mem_map.1 hu
  rfl

/-- 'append(own, some...)' of texts, whatever the source is -/
theorem wpList_app {w : World} {ops : Array Oper} {rest : List Oper} {o : Oper} {a : Act} {Q : Exit → Act → World → Prop} (hgd : o.guard = none) (s x : Operand)
    (ho : o.op = .call { callee := .builtin .append, args := #[s, x], argTypes := #[22, 22] })
    (base : Nat) (v : Value) (n : Nat) (xs : List (List UInt8)) (hs : a.eval s = v) (hown : w.ownsRow base 9 1 v n (xs.map encStr))
    (A : Option Addr) (m c : Nat) (L : List (List UInt8)) (hx : a.eval x = .slice A m c) (hm : m = L.length) (hst : StrsAt w w.heap.size A L) (hnil : A = none → c = 0) (h16 : (n + m) * 16 ≤ 140737488355328) (hbase : base ≤ w.heap.size)
    (h : ∀ v' w', w'.ownsRow base 9 1 v' (n + m) ((xs ++ L).map encStr) → w.grownBy w' v.ownBlock → wpList Try.prog ops Q rest (a.put o.dst v') w') : wpList Try.prog ops Q (o :: rest) a w := by
  obtain ⟨i0, hi, hz0, hz1, hz2⟩ := info_parts str_info
  subst hm
  rcases A with _ | ad
  · have hL : L = [] := by
      rcases hst with h | ⟨b, o, h1, _⟩
      · exact h
      · cases h1
    subst hL
    have hc := hnil rfl
    subst hc
    refine wpList_append_own_none hgd s x 22 ho base 9 i0 1 Try.underlying22 hi v n _ hs hown hx ?_
    exact h v w (by rw [List.append_nil]; exact hown) ⟨rfl, rfl, rfl, Nat.le_refl _, fun _ _ _ => rfl⟩
  · refine wpList_append_own w hgd s x 22 ho base 9 i0 (.string ⟨#[]⟩) 1 16 Try.underlying22 hi hz0 hz1 hz2 rfl (by decide) v n _ hs hown ad L.length c (L.map encStr) hx (by simp) ?_ (enc_one L) (by unfold maxLen; omega) h16 hbase ?_
    · intro j u hj
      rcases hst with h | ⟨b, o, h1, _, h3⟩
      · subst h; simp at hj
      · obtain rfl : ad = ⟨b, o, none⟩ := Option.some.inj h1
        rw [List.getElem?_map] at hj
        obtain ⟨y, hy1, hy2⟩ := Option.map_eq_some_iff.1 hj
        obtain ⟨hjl, rfl⟩ := List.getElem?_eq_some_iff.1 hy1
        rw [addr_add, h3 j hjl, ← hy2]
    · intro v' w' hown' hg _
      rw [← List.map_append] at hown'
      exact h v' w' hown' hg

theorem great_new (L : List (List UInt8)) (hL : L.length ≤ maxLen) (hs : ∀ s ∈ L, s.length ≤ maxLen) (C : Array Value) (hC : C = (L.map encStr).toArray) (n : Nat) (hn : n = L.length) (w : World) :
    Calls Try.prog 9 #[.slice (some ⟨w.heap.size, 0, none⟩) n n] (w.alloc (.cells C 9)) fun e w' => e = .returned (.bool (grV L)) ∧ Below w.heap.size w w' := by
  subst hn
  refine (great_any _ _ L hL hs _ (strs_new w _ C L hC)).mono ?_
  rintro e w' ⟨rfl, rfl⟩
  exact ⟨rfl, (Below.refl _ w).alloc (Nat.le_refl _) _⟩
theorem ref_new (L : List (List UInt8)) (hL : L.length ≤ maxLen) (hs : ∀ s ∈ L, s.length ≤ maxLen) (C : Array Value) (hC : C = (L.map encStr).toArray) (n : Nat) (hn : n = L.length) (w : World) :
    Calls Try.prog 12 #[.slice (some ⟨w.heap.size, 0, none⟩) n n] (w.alloc (.cells C 9)) fun e w' => e = .returned (.tuple #[.string ⟨(paV L).1.toArray⟩, .bool (paOk L)]) ∧ Below w.heap.size w w' := by
  subst hn
  refine (refPa_any _ _ L hL hs _ (strs_new w _ C L hC)).mono ?_
  rintro e w' ⟨rfl, hb⟩
  exact ⟨rfl, Below.step ((Below.refl _ w).alloc (Nat.le_refl _) _) hb⟩
theorem paV_e (L : List (List UInt8)) : ((paV L).2 == 0) = paOk L := by cases h : paOk L <;> simp [paV, h]
end Go.Proofs.Ytlocjjaipahhoaa
