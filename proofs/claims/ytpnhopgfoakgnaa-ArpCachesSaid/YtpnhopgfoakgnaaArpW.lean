/- The parameters of this layer's laws by their cells: a packet, and addresses. No condition. -/
import Derived.Test.YtpnhopgfoakgnaaLaw
import Derived.Test.YtpnhopgfoakgnaaArp
namespace Go.Proofs.Ytpnhopgfoakgnaa
set_option linter.unusedVariables false
set_option maxRecDepth 100000
open Go.ChangeShapes Go.WideShapes Go.ChangeAt Go.RowKit

theorem bytes_of : ∀ cs : List Value, (∀ x ∈ cs, ∃ b : UInt8, x = ubv b) → ∃ l : List UInt8, cs = l.map ubv
  | [], _ => ⟨[], rfl⟩
  | c :: r, h => by
    obtain ⟨b, hb⟩ := h c (by simp)
    obtain ⟨l, hl⟩ := bytes_of r (fun x hx => h x (by simp [hx]))
    exact ⟨b :: l, by rw [hb, hl]; rfl⟩

/-- an array of bytes by value -/
theorem row_arr {w : World} {r : Reach} {base : Nat} {t : TypeId} {v : Value} {n : Nat} (hu : Try.prog.underlying t = some (.array n 5))
    (hts : Try.prog.cellTypes Try.prog.depth t = some (List.replicate n 5)) (hn : Try.prog.cellsOf t = (List.replicate n 5).length) (h : Value.okWide Try.prog w r base t v) :
    ∃ l : List UInt8, v = .agg (l.map ubv).toArray ∧ l.length = n := by
  obtain ⟨cs, rfl, hsz, hc⟩ := row_of hu rfl hts hn h
  obtain ⟨l, hl⟩ := bytes_of cs.toList (fun x hx => by
    obtain ⟨i, hi⟩ := List.getElem?_of_mem hx
    have hlt : i < (List.replicate n 5).length := by
      rw [← hsz]
      have := (List.getElem?_eq_some_iff.1 hi).1
      simpa using this
    have := hc i hlt x (by simpa using hi)
    rw [List.getElem_replicate] at this
    exact cell_u8 this)
  refine ⟨l, by rw [← hl], ?_⟩
  have := congrArg List.length hl
  simp at this hsz
  omega

theorem row_mac {w : World} {r : Reach} {base : Nat} {v : Value} (h : Value.okWide Try.prog w r base 38 v) : ∃ l : List UInt8, v = .agg (l.map ubv).toArray ∧ l.length = 6 :=
  row_arr Try.underlying38 (by kernel_rfl) (by kernel_rfl) h
theorem row_ip {w : World} {r : Reach} {base : Nat} {v : Value} (h : Value.okWide Try.prog w r base 40 v) : ∃ l : List UInt8, v = .agg (l.map ubv).toArray ∧ l.length = 4 :=
  row_arr Try.underlying40 (by kernel_rfl) (by kernel_rfl) h

theorem row_arp {w : World} {r : Reach} {base : Nat} {v : Value} (h : Value.okWide Try.prog w r base 42 v) :
    ∃ (op : Int) (m i tm ti : List UInt8), v = .agg (arC op m i tm ti) ∧ ArL m i tm ti ∧ (-9223372036854775808 ≤ op ∧ op ≤ 9223372036854775807) := by
  obtain ⟨cs, rfl, hsz, hc⟩ := row_of (ts := 3 :: List.replicate 20 5) Try.underlying42 rfl (by kernel_rfl) (by kernel_rfl) h
  obtain ⟨L⟩ := cs
  match L, hsz, hc with
  | c :: rest, hsz, hc =>
    obtain ⟨op, rfl, hop⟩ := cell_int (hc 0 (by simp) c rfl)
    obtain ⟨l, rfl⟩ := bytes_of rest (fun x hx => by
      obtain ⟨i, hi⟩ := List.getElem?_of_mem hx
      have hlt : i + 1 < (3 :: List.replicate 20 5).length := by
        rw [← hsz]
        have := (List.getElem?_eq_some_iff.1 hi).1
        simpa using this
      have := hc (i + 1) hlt x (by simpa using hi)
      rw [List.getElem_cons_succ, List.getElem_replicate] at this
      exact cell_u8 this)
    have hl : l.length = 20 := by simpa using hsz
    refine ⟨op, l.take 6, (l.drop 6).take 4, (l.drop 10).take 6, l.drop 16, ?_, ⟨?_, ?_, ?_, ?_⟩, hop⟩
    · rw [arC]
      have e : l.take 6 ++ (l.drop 6).take 4 ++ (l.drop 10).take 6 ++ l.drop 16 = l := by
        have h1 : l.drop 10 = (l.drop 10).take 6 ++ l.drop 16 := by
          have := (List.take_append_drop 6 (l.drop 10)).symm
          rwa [List.drop_drop] at this
        have h2 : l.drop 6 = (l.drop 6).take 4 ++ l.drop 10 := by
          have := (List.take_append_drop 4 (l.drop 6)).symm
          rwa [List.drop_drop] at this
        rw [List.append_assoc, ← h1, List.append_assoc, ← h2, List.take_append_drop]
      rw [e]
    all_goals simp only [List.length_take, List.length_drop]; omega
end Go.Proofs.Ytpnhopgfoakgnaa
