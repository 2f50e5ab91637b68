/- A slice of texts that came in, as the statements of this layer read it. No condition. -/
import Derived.Test.YtccbohjcbhibkaaLaw
import Derived.Test.YtccbohjcbhibkaaBase
import Derived.SliceStrings
import Derived.Deep.Slices
namespace Go.Proofs.Ytccbohjcbhibkaa
set_option linter.unusedVariables false
set_option maxRecDepth 100000
open Go.RowKit Go.ChangeShapes Go.WideShapes Go.Deep

/-- texts lie from an address on, below block B -/
def StrsAt (w : World) (B : Nat) (A : Option Addr) (L : List (List UInt8)) : Prop :=
  L = [] ∨ ∃ b o, A = some ⟨b, o, none⟩ ∧ b < B ∧ ∀ j (hj : j < L.length), w.cell? ⟨b, o + j, none⟩ = some (.string ⟨(L[j]).toArray⟩)
theorem StrsAt.below {w w' : World} {B : Nat} {A : Option Addr} {L : List (List UInt8)} (h : StrsAt w B A L) (hb : Below B w w') : StrsAt w' B A L := by
  rcases h with h | ⟨b, o, hA, hlt, hi⟩
  · exact Or.inl h
  · exact Or.inr ⟨b, o, hA, hlt, fun j hj => (hb.cell (p := ⟨b, o + j, none⟩) hlt).trans (hi j hj)⟩

theorem strs_of {H : Type} {enc : TypeId × Value → H} {w : World} {v : Value} {d : DataW H} {p : List MemPlace} {r : Reach} {base : Nat} (hv : Value.okWide Try.prog w r base 41 v)
    (h : DataW.Trod enc Try.prog w 0 (fun _ => true) true 41 v d p) :
    ∃ (A : Option Addr) (c : Nat) (L : List (List UInt8)), v = .slice A L.length c ∧ L.length ≤ maxLen ∧ StrsAt w w.heap.size A L ∧ ∀ s ∈ L, s.length ≤ maxLen := by
  obtain ⟨A0, n0, c0, rfl⟩ : ∃ A n c, v = .slice A n c := okWide_slice Try.underlying41 hv
  obtain ⟨fuel, hf⟩ := h
  have k3 : Try.prog.cellsOf 9 = 1 := by kernel_rfl
  rcases open_strings Try.underlying41 Try.underlying9 k3 hf with ⟨h0, _⟩ | ⟨a, len, cap, ss, hcs, hb, hl, hm, hsl, hx, hi, hz⟩
  · obtain ⟨rfl, rfl, rfl⟩ : A0 = none ∧ n0 = 0 ∧ c0 = 0 := by simpa [Value.cells] using h0
    exact ⟨none, 0, [], rfl, by simp [maxLen], Or.inl rfl, by simp⟩
  · have hq : A0 = some a ∧ n0 = len ∧ c0 = cap := by simpa [Value.cells] using hcs
    obtain ⟨hq1, hq2, hq3⟩ := hq
    subst hq1
    subst hq2
    subst hq3
    have hsl' : n0 ≤ ss.length := by rw [hsl]; simp; omega
    have hlen : ((ss.take n0).map (fun (s : ByteArray) => s.data.toList)).length = n0 := by rw [List.length_map, List.length_take]; omega
    refine ⟨some a, c0, (ss.take n0).map (fun (s : ByteArray) => s.data.toList), by rw [hlen], by rw [hlen]; omega, ?_, ?_⟩
    · by_cases hn : n0 = 0
      · left
        rw [hn]; rfl
      · right
        have hsp : a.spot = none := by
          have h0 := hi 0 (by omega)
          have ha : a.add 0 = a := by unfold Addr.add; simp
          rw [ha] at h0
          unfold World.cell? at h0
          split at h0
          · split at h0
            · cases h0
            · rename_i hns; simpa using hns
          · cases h0
        obtain ⟨b, o, sp⟩ := a
        obtain rfl : sp = none := hsp
        have each : ∀ j (hj : j < ((ss.take n0).map (fun (s : ByteArray) => s.data.toList)).length), w.cell? ⟨b, o + j, none⟩ = some (.string ⟨(((ss.take n0).map (fun (s : ByteArray) => s.data.toList))[j]).toArray⟩) := by
          intro j hj
          rw [hlen] at hj
          have h1 := hi j (by omega)
          rw [addr_add] at h1
          rw [h1]
          have e : ss.getD j ByteArray.empty = ss[j]'(by omega) := by simp [List.getD_eq_getElem?_getD, List.getElem?_eq_getElem (by omega : j < ss.length)]
          rw [e, List.getElem_map, List.getElem_take]
        refine ⟨b, o, rfl, ?_, each⟩
        have h0 := hi 0 (by omega)
        rw [addr_add] at h0
        exact World.block_lt_of_cell? w ⟨b, o + 0, none⟩ h0
    · intro s hs
      rw [List.mem_map] at hs
      obtain ⟨x, hx, rfl⟩ := hs
      have := hz x (List.mem_of_mem_take hx)
      have e : x.data.toList.length = x.size := by simp
      omega
end Go.Proofs.Ytccbohjcbhibkaa
