/- Acts that came in, as the statements of this layer read them. No condition beyond what each lemma says. -/
import Derived.Test.YteinnindnijdiaaMemU
import Derived.Deep.Slices
import Derived.Deep.MidRow
namespace Go.Proofs.Yteinnindnijdiaa
set_option linter.unusedVariables false
set_option maxRecDepth 100000
open Go.RowKit Go.ChangeShapes Go.WideShapes Go.Deep
attribute [local go_sem ↓] Go.wp_at_zero Go.wp_at_succ

/-- an act's cells -/
abbrev actC (d p n x : Int) (s : List UInt8) : List Value := [.int .i64 d, .int .i64 p, .int .i64 n, .int .u64 x, .string ⟨s.toArray⟩]
/-- what may stand in an act -/
structure ActOk (d p n x : Int) (s : List UInt8) : Prop where
  d : -9223372036854775808 ≤ d ∧ d ≤ 9223372036854775807
  p : -9223372036854775808 ≤ p ∧ p ≤ 9223372036854775807
  n : -9223372036854775808 ≤ n ∧ n ≤ 9223372036854775807
  x : 0 ≤ x ∧ x ≤ 18446744073709551615
  s : s.length ≤ 9223372036854775807

/-- n acts lie from an address on, below block B -/
def ActsAt (w : World) (B : Nat) (A : Option Addr) (n : Nat) : Prop :=
  0 < n → ∃ b o, A = some ⟨b, o, none⟩ ∧ b < B ∧ ∀ i, i < n → ∃ d p m x s, ActOk d p m x s ∧ w.rangeAt b (o + i * 5) (actC d p m x s)

theorem ActsAt.below {w w' : World} {B : Nat} {A : Option Addr} {n : Nat} (h : ActsAt w B A n) (hb : Below B w w') : ActsAt w' B A n := by
  intro hn
  obtain ⟨b, o, hA, hlt, hi⟩ := h hn
  refine ⟨b, o, hA, hlt, fun i him => ?_⟩
  obtain ⟨d, p, m, x, s, hok, hr⟩ := hi i him
  exact ⟨d, p, m, x, s, hok, fun j v hv => (hb.cell (p := ⟨b, o + i * 5 + j, none⟩) hlt).trans (hr j v hv)⟩

theorem wf_i64 {n : Int} (h : (Lit.int .i64 n).wf = true) : -9223372036854775808 ≤ n ∧ n ≤ 9223372036854775807 := by
  simpa [Lit.wf, IntKind.has, IntKind.min, IntKind.max, IntKind.signed, IntKind.bits] using h
theorem wf_u64 {n : Int} (h : (Lit.int .u64 n).wf = true) : 0 ≤ n ∧ n ≤ 18446744073709551615 := by
  simpa [Lit.wf, IntKind.has, IntKind.min, IntKind.max, IntKind.signed, IntKind.bits] using h

theorem add_of_add (a : Addr) (i j : Nat) : (a.add i).add j = a.add (i + j) := by
  unfold Addr.add
  by_cases hi : i = 0 <;> by_cases hj : j = 0 <;> simp [hi, hj, Nat.add_assoc]

theorem cells_act : Try.prog.cellsOf 50 = 5 := by kernel_rfl

/-- the acts of an argument -/
theorem acts_of {H : Type} {enc : TypeId × Value → H} {w : World} {v : Value} {d : DataW H} {p : List MemPlace} {r : Reach} {base : Nat} (hv : Value.okWide Try.prog w r base 41 v)
    (h : DataW.Trod enc Try.prog w 0 (fun _ => true) true 41 v d p) :
    ∃ (A : Option Addr) (n c : Nat), v = .slice A n c ∧ n ≤ maxLen ∧ ActsAt w w.heap.size A n := by
  obtain ⟨A0, n0, c0, rfl⟩ : ∃ A n c, v = .slice A n c := okWide_slice Try.underlying41 hv
  obtain ⟨fuel, hf⟩ := h
  rcases open_slice Try.underlying41 hf with ⟨h0, _⟩ | ⟨a, len, cap, m, n, D, Pl, hcs, hb, hl, hm, hmm, hx, hi⟩
  · obtain ⟨rfl, rfl, rfl⟩ : A0 = none ∧ n0 = 0 ∧ c0 = 0 := by simpa [Value.cells] using h0
    exact ⟨none, 0, 0, rfl, by simp [maxLen], fun h => absurd h (by omega)⟩
  · have hq : A0 = some a ∧ n0 = len ∧ c0 = cap := by simpa [Value.cells] using hcs
    obtain ⟨hq1, hq2, hq3⟩ := hq
    subst hq1
    subst hq2
    subst hq3
    refine ⟨some a, n0, c0, rfl, by omega, fun hn => ?_⟩
    have hml : n0 ≤ m := by rw [hmm]; simp; omega
    have hsp : a.spot = none := by
      obtain ⟨cs', hc, _⟩ := hi 0 (by omega)
      rw [cells_act] at hc
      obtain ⟨_, hcl, hat⟩ := World.cells?_some hc
      have h0 := hat 0 (by omega)
      rw [Nat.zero_mul, add_of_add, Nat.add_zero] at h0
      have ha : a.add 0 = a := by unfold Addr.add; simp
      rw [ha, List.getElem?_eq_getElem (by omega)] at h0
      unfold World.cell? at h0
      split at h0
      · split at h0
        · cases h0
        · rename_i hns; simpa using hns
      · cases h0
    obtain ⟨b, o, sp⟩ := a
    obtain rfl : sp = none := hsp
    have each : ∀ i, i < n0 → ∃ d p m x s, ActOk d p m x s ∧ w.rangeAt b (o + i * 5) (actC d p m x s) := by
      intro i him
      obtain ⟨cs', hc, ht'⟩ := hi i (by omega)
      rw [cells_act] at hc
      obtain ⟨_, hcl, hat⟩ := World.cells?_some hc
      match cs', hcl with
      | [c0, c1, c2, c3, c4], _ =>
        obtain ⟨xs, n', _, _, _, hxl, hg⟩ := DataW.trod_struct Try.underlying50 ht'
        have hxl' : xs.length = 5 := hxl
        have k1 : Try.prog.cellsOf 3 = 1 := by kernel_rfl
        have k2 : Try.prog.cellsOf 48 = 1 := by kernel_rfl
        have k3 : Try.prog.cellsOf 9 = 1 := by kernel_rfl
        have g0 : DataW.trod enc Try.prog w 0 (fun _ => true) true n' 3 (([c0, c1, c2, c3, c4].drop 0).take (Try.prog.cellsOf 3)) = xs[0]? := hg 0 _ rfl
        rw [k1] at g0
        replace g0 : DataW.trod enc Try.prog w 0 (fun _ => true) true n' 3 [c0] = xs[0]? := g0
        have g1 : DataW.trod enc Try.prog w 0 (fun _ => true) true n' 3 (([c0, c1, c2, c3, c4].drop 1).take (Try.prog.cellsOf 3)) = xs[1]? := hg 1 _ rfl
        rw [k1] at g1
        replace g1 : DataW.trod enc Try.prog w 0 (fun _ => true) true n' 3 [c1] = xs[1]? := g1
        have g2 : DataW.trod enc Try.prog w 0 (fun _ => true) true n' 3 (([c0, c1, c2, c3, c4].drop 2).take (Try.prog.cellsOf 3)) = xs[2]? := hg 2 _ rfl
        rw [k1] at g2
        replace g2 : DataW.trod enc Try.prog w 0 (fun _ => true) true n' 3 [c2] = xs[2]? := g2
        have g3 : DataW.trod enc Try.prog w 0 (fun _ => true) true n' 48 (([c0, c1, c2, c3, c4].drop 3).take (Try.prog.cellsOf 48)) = xs[3]? := hg 3 _ rfl
        rw [k2] at g3
        replace g3 : DataW.trod enc Try.prog w 0 (fun _ => true) true n' 48 [c3] = xs[3]? := g3
        have g4 : DataW.trod enc Try.prog w 0 (fun _ => true) true n' 9 (([c0, c1, c2, c3, c4].drop 4).take (Try.prog.cellsOf 9)) = xs[4]? := hg 4 _ rfl
        rw [k3] at g4
        replace g4 : DataW.trod enc Try.prog w 0 (fun _ => true) true n' 9 [c4] = xs[4]? := g4
        rw [List.getElem?_eq_getElem (by omega)] at g0 g1 g2 g3 g4
        obtain ⟨v0, e0, _, w0⟩ := DataW.trod_int Try.underlying3 g0
        obtain ⟨v1, e1, _, w1⟩ := DataW.trod_int Try.underlying3 g1
        obtain ⟨v2, e2, _, w2⟩ := DataW.trod_int Try.underlying3 g2
        obtain ⟨v3, e3, _, w3⟩ := DataW.trod_int Try.underlying48 g3
        obtain ⟨v4, e4, _, w4⟩ := DataW.trod_string Try.underlying9 g4
        simp only [List.cons.injEq, and_true] at e0 e1 e2 e3 e4
        refine ⟨v0, v1, v2, v3, v4.data.toList, ⟨wf_i64 w0, wf_i64 w1, wf_i64 w2, wf_u64 w3, ?_⟩, ?_⟩
        · have := size_list v4
          unfold maxLen at w4
          omega
        · intro j v hv
          have hj : j < 5 := by
            have := (List.getElem?_eq_some_iff.1 hv).1
            simpa using this
          have h2 := hat j hj
          rw [add_of_add, addr_add] at h2
          rw [show o + i * 5 + j = o + (i * 5 + j) by omega, h2, ← hv, e0, e1, e2, e3, e4]
    refine ⟨b, o, rfl, ?_, each⟩
    obtain ⟨d0, p0, m0, x0, s0, _, hr⟩ := each 0 hn
    exact World.block_lt_of_cell? w ⟨b, o + 0 * 5 + 0, none⟩ (hr 0 _ rfl)
end Go.Proofs.Yteinnindnijdiaa
