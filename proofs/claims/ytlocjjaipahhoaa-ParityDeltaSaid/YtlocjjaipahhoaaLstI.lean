/- A slice of numbers that came in; texts in a block of one's own that are set one by one. No condition. -/
import Derived.Test.YtlocjjaipahhoaaPaX
import Derived.ChangeSlices
namespace Go.Proofs.Ytlocjjaipahhoaa
set_option linter.unusedVariables false
set_option maxRecDepth 100000
open Go.RowKit Go.ChangeShapes Go.WideShapes Go.Deep

/-- numbers lie from an address on, below block B -/
def IntsAt (w : World) (B : Nat) (A : Option Addr) (L : List Int) : Prop :=
  L = [] ∨ ∃ b o, A = some ⟨b, o, none⟩ ∧ b < B ∧ ∀ j (hj : j < L.length), w.cell? ⟨b, o + j, none⟩ = some (.int .i64 L[j])
theorem IntsAt.up {w w' : World} {A : Option Addr} {L : List Int} (h : IntsAt w w.heap.size A L) (hb : Below w.heap.size w w') : IntsAt w' w'.heap.size A L := by
  rcases h with h | ⟨b, o, e1, e2, e3⟩
  · exact Or.inl h
  · exact Or.inr ⟨b, o, e1, Nat.lt_of_lt_of_le e2 hb.size, fun j hj => (hb.cell (p := ⟨b, o + j, none⟩) e2).trans (e3 j hj)⟩

theorem ints_of {H : Type} {enc : TypeId × Value → H} {w : World} {v : Value} {d : DataW H} {p : List MemPlace} {r : Reach} {base : Nat} (hv : Value.okWide Try.prog w r base 37 v)
    (h : DataW.Trod enc Try.prog w 0 (fun _ => true) true 37 v d p) :
    ∃ (A : Option Addr) (c : Nat) (L : List Int), v = .slice A L.length c ∧ L.length ≤ maxLen ∧ IntsAt w w.heap.size A L ∧ (∀ n ∈ L, -9223372036854775808 ≤ n ∧ n ≤ 9223372036854775807) ∧ L.length ≤ c ∧ c ≤ maxLen ∧ (A = none → c = 0) := by
  obtain ⟨A0, n0, c0, rfl⟩ : ∃ A n c, v = .slice A n c := okWide_slice Try.underlying37 hv
  obtain ⟨fuel, hf⟩ := h
  have k3 : Try.prog.cellsOf 3 = 1 := by kernel_rfl
  rcases open_ints Try.underlying37 Try.underlying3 k3 hf with ⟨h0, _⟩ | ⟨a, len, cap, zs, hcs, hb, hl, hm, hsl, hx, hi, hz⟩
  · obtain ⟨rfl, rfl, rfl⟩ : A0 = none ∧ n0 = 0 ∧ c0 = 0 := by simpa [Value.cells] using h0
    exact ⟨none, 0, [], rfl, by simp [maxLen], Or.inl rfl, by simp, Nat.le_refl _, by simp [maxLen], fun _ => rfl⟩
  · have hq : A0 = some a ∧ n0 = len ∧ c0 = cap := by simpa [Value.cells] using hcs
    obtain ⟨hq1, hq2, hq3⟩ := hq
    subst hq1
    subst hq2
    subst hq3
    have hsl' : n0 ≤ zs.length := by rw [hsl]; simp; omega
    have hlen : (zs.take n0).length = n0 := by rw [List.length_take]; omega
    refine ⟨some a, c0, zs.take n0, by rw [hlen], by rw [hlen]; omega, ?_, ?_, by rw [hlen]; exact hl, hm, fun h => by cases h⟩
    · by_cases hn : n0 = 0
      · left
        rw [hn]; rfl
      · right
        have hsp : a.spot = none := by
          have h0 := hi 0 (by omega)
          have ha : a.add 0 = a := by unfold Addr.add; simp
          rw [ha] at h0
          unfold World.cell? at h0
          split at h0
          · split at h0
            · cases h0
            · rename_i hns; simpa using hns
          · cases h0
        obtain ⟨b, o, sp⟩ := a
        obtain rfl : sp = none := hsp
        have each : ∀ j (hj : j < (zs.take n0).length), w.cell? ⟨b, o + j, none⟩ = some (.int .i64 (zs.take n0)[j]) := by
          intro j hj
          rw [hlen] at hj
          have h1 := hi j (by omega)
          rw [addr_add] at h1
          rw [h1]
          have e : zs.getD j 0 = zs[j]'(by omega) := by simp [List.getD_eq_getElem?_getD, List.getElem?_eq_getElem (by omega : j < zs.length)]
          rw [e, List.getElem_take]
        refine ⟨b, o, rfl, ?_, each⟩
        have h0 := hi 0 (by omega)
        rw [addr_add] at h0
        exact World.block_lt_of_cell? w ⟨b, o + 0, none⟩ h0
    · intro n hn
      have := hz n (List.mem_of_mem_take hn)
      simpa [Lit.wf, IntKind.has, IntKind.min, IntKind.max, IntKind.signed, IntKind.bits] using this

/-- block b begins with the texts L, in cells that may be written -/
def Sts (w : World) (b : Nat) (L : List (List UInt8)) : Prop := b < w.heap.size ∧ ∀ j (hj : j < L.length), w.cell? ⟨b, j, none⟩ = some (.string ⟨(L[j]).toArray⟩) ∧ w.frozen? ⟨b, j, none⟩ = false
theorem sts_of {w : World} {b : Nat} {L : List (List UInt8)} (h : Sort.Holds encStr w b 0 L.toArray) (hb : b < w.heap.size) : Sts w b L := by
  refine ⟨hb, fun j hj => ?_⟩
  have h1 := h j (by simpa using hj)
  rw [Nat.zero_add] at h1
  refine ⟨?_, h1.2⟩
  rw [h1.1]
  simp [hj]
theorem Sts.at {w : World} {b : Nat} {L : List (List UInt8)} (h : Sts w b L) : StrsAt w w.heap.size (some ⟨b, 0, none⟩) L :=
  Or.inr ⟨b, 0, rfl, h.1, fun j hj => by rw [Nat.zero_add]; exact (h.2 j hj).1⟩
theorem Sts.below {w w' : World} {B b : Nat} {L : List (List UInt8)} (h : Sts w b L) (hb : Below B w w') (hB : b < B) : Sts w' b L :=
  ⟨Nat.lt_of_lt_of_le h.1 hb.size, fun j hj => ⟨(hb.cell (p := ⟨b, j, none⟩) hB).trans (h.2 j hj).1, (hb.frozen (p := ⟨b, j, none⟩) hB).trans (h.2 j hj).2⟩⟩
theorem Sts.up {w w' : World} {b : Nat} {L : List (List UInt8)} (h : Sts w b L) (hb : Below w.heap.size w w') : Sts w' b L := h.below hb h.1
theorem Sts.other {w : World} {b : Nat} {L : List (List UInt8)} (h : Sts w b L) (g k : Nat) (v : Value) (hne : b ≠ g) : Sts (w.setCell ⟨g, k, none⟩ v) b L := by
  have hh : (w.setCell ⟨g, k, none⟩ v).heap[b]? = w.heap[b]? := Below.heap_setCell _ _ _ _ hne
  refine ⟨by simpa [World.setCell] using h.1, fun j hj => ⟨?_, ?_⟩⟩
  · rw [World.cell?_of_block (a := ⟨b, j, none⟩) hh]; exact (h.2 j hj).1
  · rw [World.frozen?_of_block (a := ⟨b, j, none⟩) hh]; exact (h.2 j hj).2
theorem Sts.set {w : World} {b : Nat} {L : List (List UInt8)} (h : Sts w b L) (k : Nat) (s : List UInt8) : Sts (w.setCell ⟨b, k, none⟩ (.string ⟨s.toArray⟩)) b (L.set k s) := by
  refine ⟨by simpa [World.setCell] using h.1, fun j hj => ?_⟩
  have hj' : j < L.length := by simpa using hj
  obtain ⟨c, e, fr, h1, h2⟩ := Sort.cells_of_cell? (h.2 j hj').1
  have hjc : j < c.size := (Array.getElem?_eq_some_iff.1 h2).1
  rw [Sort.setCell_eq]
  refine ⟨?_, by rw [Sort.frozen?_mapBlock]; exact (h.2 j hj').2⟩
  rw [Sort.cell?_mapBlock w b j _ h1, Array.getElem?_setIfInBounds, List.getElem_set]
  by_cases hk : k = j
  · subst hk; simp [hjc]
  · simp [hk, h2]
end Go.Proofs.Ytlocjjaipahhoaa
