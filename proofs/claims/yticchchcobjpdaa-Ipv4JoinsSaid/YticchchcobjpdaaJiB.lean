/- Packets in a row; whether two pieces meet. Condition: packets that may be. -/
import Derived.Test.YticchchcobjpdaaJiA
namespace Go.Proofs.Yticchchcobjpdaa
set_option linter.unusedVariables false
set_option linter.unusedSimpArgs false
set_option maxRecDepth 100000
open Go.RowKit Go.Proofs Go.Shelf Go.Lib Go.Sort
attribute [local go_sem ↓] Go.wp_at_zero Go.wp_at_succ
attribute [local go_sem ↓] ld_pk ld_ip
/-- packets lie in a row, below B -/
def PsAt (w : World) (B : Nat) (A : Option Addr) (L : List Pkt) : Prop := L = [] ∨ ∃ g o, A = some ⟨g, o, none⟩ ∧ g < B ∧ ∀ j (hj : j < L.length), w.rangeAt g (o + j * 14) (encP L[j])
theorem PsAt.below {w w' : World} {B : Nat} {A : Option Addr} {L : List Pkt} (h : PsAt w B A L) (hb : Below B w w') : PsAt w' B A L := by
  rcases h with h | ⟨b, o, e1, e2, e3⟩
  · exact Or.inl h
  · exact Or.inr ⟨b, o, e1, e2, fun j hj i v hv => (hb.cell (p := ⟨b, o + j * 14 + i, none⟩) e2).trans (e3 j hj i v hv)⟩
theorem PsAt.cells {w : World} {B : Nat} {A : Option Addr} {L : List Pkt} (h : PsAt w B A L) (k : Nat) (hk : k < L.length) : ∃ g o, A = some ⟨g, o, none⟩ ∧ g < B ∧ ∀ j (hj : j < L.length), w.rangeAt g (o + j * 14) (encP L[j]) := by
  rcases h with h | h
  · rw [h] at hk; simp at hk
  · exact h
theorem ps_ld {w : World} {g o : Nat} {L : List Pkt} (h : ∀ j (hj : j < L.length), w.rangeAt g (o + j * 14) (encP L[j])) (i : Nat) (hi : i < L.length) :
    (Ld 25 (.pointer (some ⟨g, o + i * 14, none⟩))).run Try.prog w = .ok (.agg L[i].c) w := by
  have hr := h i hi
  unfold Ld
  have hl := run_loadVar_mid (P := Try.prog) w g (o + i * 14) 25 L[i].c.toList _ hr Try.underlying25 rfl (by rw [encP_len]; exact size_pk)
  simp only [Array.toArray_toList] at hl
  simp only [Instr.loadAt, Instr.sureAddr, Sem.run_bind, Sem.run_pure, Result.andThen_ok, hl]

theorem wp_st_pkt {ops : Array Oper} {rest : List Oper} {o : Oper} {a : Act} {w : World} {Q : Exit → Act → World → Prop} (hgd : o.guard = none) (x y : Operand) (ho : o.op = .store 25 x y)
    (b : Nat) (p : Pkt) (hK : Hid (Blk w b 25 pk0)) (hx : a.eval x = .pointer (some ⟨b, 0, none⟩)) (hy : a.eval y = .agg p.c)
    (h : wpList Try.prog ops Q rest (a.put o.dst undef) (w.setCells b 0 p.c.toList)) : wpList Try.prog ops Q (o :: rest) a w :=
  wp_st_pk hgd x y ho b p.id p.f p.t p.pr p.tt p.a p.mo p.d p.L hK hx hy h
theorem below_of_grown {w w' : World} (h : ∃ q os, w' = grow (w.drewN q) os) : Below w.heap.size w w' := by
  obtain ⟨q, os, rfl⟩ := h
  exact below_grow w q os
theorem grown_fin {w w1 : World} {os1 : Array Obj} (h : w1 = grow w os1) (n : Nat) (os : Array Obj) : ∃ q os', grow (w1.drewN n) os = grow (w.drewN q) os' := by
  subst h
  exact ⟨n, os1 ++ os, by show grow (grow (w.drewN n) os1) os = _; rw [grow_grow]⟩
set_option maxHeartbeats 2000000 in
theorem meet_grown (x y : Pkt) (hx : May x) (hy : May y) (w : World) : Calls Try.prog 59 #[.agg x.c, .agg y.c] w fun e w' => e = .returned (.bool (meetB x y)) ∧ ∃ q os, w' = grow (w.drewN q) os := by
  have hkx := (Blk.new w 25 x.c 0 0 (Or.inl (Nat.le_refl _))).alloc (.cells y.c 25)
  have hky := Blk.new (w.alloc (.cells x.c 25)) 25 y.c 0 0 (Or.inl (Nat.le_refl _))
  rw [size_alloc] at hky
  have HX := Lib.hid hkx
  have HY := Lib.hid hky
  have HB : Hid ((w.alloc (.cells x.c 25)).alloc (.cells y.c 25) = grow w (#[.cells x.c 25] ++ #[.cells y.c 25])) := Lib.hid (by rw [alloc_eq_grow, alloc_eq_grow, grow_grow])
  have EX := Lib.hid (fun w => end_any x hx w)
  have EY := Lib.hid (fun w => end_any y hy w)
  have HV : Hid (meetB x y = (decide (x.a < endP y) && decide (y.a < endP x))) := Lib.hid rfl
  clear hkx hky hx hy
  go_enter Try.func59, Try.ntmps59
  go_upto_region 1 with fail
  obtain ⟨px, hpx⟩ : ∃ q, q = w.heap.size := ⟨_, rfl⟩
  rw [← hpx] at HX HY ⊢
  generalize World.alloc _ _ = w1 at HX HY HB ⊢
  have HLX : Hid (∀ n os, (Ld 25 (.pointer (some ⟨px, 0, none⟩))).run Try.prog (grow (w1.drewN n) os) = .ok (.agg x.c) (grow (w1.drewN n) os)) := Lib.hid (fun n os => (HX.out.step (below_grow w1 n os)).ld_pkt)
  have HLY : Hid (∀ n os, (Ld 25 (.pointer (some ⟨px + 1, 0, none⟩))).run Try.prog (grow (w1.drewN n) os) = .ok (.agg y.c) (grow (w1.drewN n) os)) := Lib.hid (fun n os => (HY.out.step (below_grow w1 n os)).ld_pkt)
  have c1 : ∀ n os, (grow (w1.drewN n) os).cell? ⟨px, 11, none⟩ = some (.int .i64 x.a) := fun n os => (pk_c5 (HX.out.step (below_grow w1 n os))).1
  have c2 : ∀ n os, (grow (w1.drewN n) os).cell? ⟨px + 1, 11, none⟩ = some (.int .i64 y.a) := fun n os => (pk_c5 (HY.out.step (below_grow w1 n os))).1
  have lx := HLX.out
  have ly := HLY.out
  have mixed : Try.prog.follows .mixedOrders = true := by kernel_rfl
  clear HX HY HLX HLY hpx
  by_cases h1 : x.a < endP y
  · by_cases h2 : y.a < endP x
    · go_quiet_grown (first | (with_reducible refine Calls.grown_of (EY.out _)) | (with_reducible refine Calls.grown_of (EX.out _)))
      go_wp2
      go_ret
      exact ⟨by rw [HV.out, decide_eq_true h1, decide_eq_true h2]; rfl, grown_fin HB.out _ _⟩
    · go_quiet_grown (first | (with_reducible refine Calls.grown_of (EY.out _)) | (with_reducible refine Calls.grown_of (EX.out _)))
      go_wp2
      go_ret
      exact ⟨by rw [HV.out, decide_eq_true h1, decide_eq_false (by omega)]; rfl, grown_fin HB.out _ _⟩
  · go_quiet_grown (first | (with_reducible refine Calls.grown_of (EY.out _)) | (with_reducible refine Calls.grown_of (EX.out _)))
    go_wp2
    go_ret
    exact ⟨by rw [HV.out, decide_eq_false (by omega)]; rfl, grown_fin HB.out _ _⟩

end Go.Proofs.Yticchchcobjpdaa
