/- What Put tells: plain facts; the chapter's two pieces. No program is walked. -/
import Derived.Test.YticchchcobjpdaaJiP
namespace Go.Proofs.Yticchchcobjpdaa
set_option linter.unusedVariables false
set_option linter.unusedSimpArgs false
set_option maxRecDepth 100000
open Go.RowKit Go.Proofs Go.Shelf Go.Lib Go.Sort
/-- sorted by keys that differ: there is one such list -/
theorem srt_one {S T : List Pkt} (h1 : Srt keyP S) (h2 : Srt keyP T) (hp : S.Perm T) (hk : ∀ x ∈ T, ∀ y ∈ T, x.a = y.a → x = y) : S = T :=
  List.Perm.eq_of_pairwise (le := fun x y => keyP x ≤ keyP y) (fun a b ha hb h3 h4 => hk a (hp.subset ha) b hb (Int.le_antisymm h3 h4)) h1 h2 hp
theorem Fr.toBelow {S : Nat → Prop} {B : Nat} {u v : World} (h : Fr S u v) (hs : ∀ k, S k → B ≤ k) (hB : B ≤ u.heap.size) : Below B u v :=
  ⟨h.os, h.tape, h.output, h.size, fun k hk => h.block k (Nat.lt_of_lt_of_le hk hB) (fun e => by have := hs k e; omega)⟩
theorem JS.setCell {w : World} {B jb : Nat} {lim : Int} {o : Option Addr} {c : Nat} {D : List Dg} (h : JS w B jb lim o c D) (b k : Nat) (v : Value) (hn : ¬ ownJ jb o D b) : JS (w.setCell ⟨b, k, none⟩ v) B jb lim o c D :=
  h.fr (Fr.set w b k v) (fun i hi e => hn (e ▸ hi))
def withA (p : Pkt) (a : Int) : Pkt := ⟨p.id, p.f, p.t, p.pr, p.tt, a, p.mo, p.d, p.L⟩
theorem c_set11 (p : Pkt) (a : Int) : p.c.setIfInBounds 11 (.int .i64 a) = (withA p a).c := by
  obtain ⟨id, f, t, pr, tt, a0, mo, d0, hL⟩ := p
  obtain ⟨f0, f1, f2, f3, t0, t1, t2, t3, rfl, rfl⟩ := pk_explicit hL
  rfl
/-! ### the chapter's example -/
def exP : Pkt := ⟨1, exF, exT, 6, 64, 0, false, exD, pkEx_L⟩
def dA : List UInt8 := [98, 101, 104, 105, 110, 100, 32, 56]
def dB : List UInt8 := [97, 104, 101, 97, 100, 32, 56, 46]
def dW : List UInt8 := [97, 104, 101, 97, 100, 32, 56, 46, 98, 101, 104, 105, 110, 100, 32, 56]
def aP : Pkt := withD (withA exP 8) false dA
def bP : Pkt := withD (withD exP true exD) true dB
def wP : Pkt := withD exP false dW
theorem may_a : May aP := by unfold May; decide +kernel
theorem may_b : May bP := by unfold May; decide +kernel
theorem known_put1 {D' : List Dg} {out : Pkt} {ok : Bool} (h : PutR [] aP D' out ok) : out = pkt0 ∧ ok = false ∧ ∃ d, D' = [d] ∧ d.L = [aP] ∧ d.nm = aP := by
  have hn : ∀ {pre post : List Dg} {d : Dg}, FindR [] aP pre d post → pre = [] ∧ post = [] ∧ d.L = [] ∧ d.nm = aP := by
    intro pre post d hf
    rcases hf with ⟨h, _⟩ | ⟨_, h1, h2, h3, h4, _⟩
    · simp at h
    · exact ⟨h1, h2, h4, h3⟩
  have hone : ∀ {S : List Pkt}, Stb keyP ([] ++ [aP]) S → S = [aP] := fun {S} hs => List.perm_singleton.1 hs.1
  cases h with
  | bad h => exact absurd may_a h
  | whole h ha hm => exact absurd ha (by decide)
  | @same pre post d h hn' hf hs =>
    obtain ⟨_, _, hL, _⟩ := hn hf
    rw [hL] at hs
    cases hs
  | @clash pre post d h hn' hf hs hc =>
    obtain ⟨_, _, hL, _⟩ := hn hf
    rw [hL] at hc
    exact absurd hc (by decide)
  | @part pre post d h hn' hf hs hc d' h1 h2 hd hnm hag =>
    obtain ⟨rfl, rfl, hL, hN⟩ := hn hf
    rw [hL] at h2
    exact ⟨rfl, rfl, d', rfl, hone h2, hnm.trans hN⟩
  | @done pre post d h hn' hf hs hc S h1 h2 hd =>
    obtain ⟨rfl, rfl, hL, hN⟩ := hn hf
    rw [hL] at h2
    rw [hone h2] at hd
    exact absurd hd (by decide)
theorem known_put2 {D' : List Dg} {out : Pkt} {ok : Bool} {d0 : Dg} (hL0 : d0.L = [aP]) (hN0 : d0.nm = aP) (h : PutR [d0] bP D' out ok) : out = wP ∧ ok = true ∧ D' = [] := by
  have hw : sameW d0.nm bP = true := by rw [hN0]; decide
  have hn : ∀ {pre post : List Dg} {d : Dg}, FindR [d0] bP pre d post → pre = [] ∧ post = [] ∧ d.L = [aP] := by
    intro pre post d hf
    rcases hf with ⟨h, _⟩ | ⟨h0, _⟩
    · cases pre with
      | nil =>
        rw [List.nil_append] at h
        injection h with h1 h2
        exact ⟨rfl, h2.symm, by rw [← h1]; exact hL0⟩
      | cons x l =>
        have := congrArg List.length h
        simp at this
    · have := h0 d0 (List.mem_singleton.2 rfl)
      rw [hw] at this
      cases this
  have htwo : ∀ {S : List Pkt}, Srt keyP S → Stb keyP ([aP] ++ [bP]) S → S = [bP, aP] := fun {S} h1 h2 => by
    refine srt_one h1 ?_ (h2.1.trans (List.Perm.swap _ _ _)) ?_
    · refine List.Pairwise.cons (fun x hx => ?_) (List.pairwise_singleton _ _)
      rw [List.mem_singleton.1 hx]
      decide
    · intro x hx y hy e
      rcases List.mem_cons.1 hx with rfl | hx <;> rcases List.mem_cons.1 hy with rfl | hy
      · rfl
      · rw [List.mem_singleton.1 hy] at e
        exact absurd e (by decide)
      · rw [List.mem_singleton.1 hx] at e
        exact absurd e (by decide)
      · rw [List.mem_singleton.1 hx, List.mem_singleton.1 hy]
  have hdv : doneV [bP, aP] = (wP, true) := by rfl
  cases h with
  | bad h => exact absurd may_b h
  | whole h ha hm => exact absurd hm (by decide)
  | @same pre post d h hn' hf hs =>
    obtain ⟨_, _, hL⟩ := hn hf
    rw [hL] at hs
    exact absurd hs (by decide)
  | @clash pre post d h hn' hf hs hc =>
    obtain ⟨_, _, hL⟩ := hn hf
    rw [hL] at hc
    exact absurd hc (by decide)
  | @part pre post d h hn' hf hs hc d' h1 h2 hd hnm hag =>
    obtain ⟨rfl, rfl, hL⟩ := hn hf
    rw [hL] at h2
    rw [htwo h1 h2, hdv] at hd
    cases hd
  | @done pre post d h hn' hf hs hc S h1 h2 hd =>
    obtain ⟨rfl, rfl, hL⟩ := hn hf
    rw [hL] at h2
    rw [htwo h1 h2, hdv]
    exact ⟨rfl, rfl, rfl⟩
theorem run_pkt_eql (x y : Pkt) (h : x = y) (w : World) : (binOp .eql 25 (.agg x.c) (.agg y.c)).run Try.prog w = .ok (.bool true) w := by
  subst h
  have := run_pk_eql w x.id x.f x.t x.pr x.tt x.a x.mo x.d x.id x.f x.t x.pr x.tt x.a x.mo x.d x.L x.L
  rw [pkEq_self] at this
  exact this
end Go.Proofs.Yticchchcobjpdaa
