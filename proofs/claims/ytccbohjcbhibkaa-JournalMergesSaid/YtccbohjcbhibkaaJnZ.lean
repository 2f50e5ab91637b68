/- What is read of one slot's six sectors; rows of texts. No condition beyond what each lemma says. -/
import Derived.Test.YtccbohjcbhibkaaJnX
import Derived.Test.YtccbohjcbhibkaaJnU
import Derived.Test.YtccbohjcbhibkaaJnO
import Derived.Deep.AppendLies
namespace Go.Proofs.Ytccbohjcbhibkaa
set_option linter.unusedVariables false
set_option linter.unusedSimpArgs false
set_option maxRecDepth 100000
open Go.RowKit Go.ChangeShapes Go.WideShapes Go.Deep

/-- a sector; another text stands for none -/
def nz (q : List UInt8) : List UInt8 := if q.length = 64 then q else z64
theorem nz_yes {q : List UInt8} (h : q.length = 64) : nz q = q := if_pos h
theorem nz_no {q : List UInt8} (h : ¬ q.length = 64) : nz q = z64 := if_neg h
def tornR (a : Rc) (q1 q2 q3 q4 : List UInt8) : Rc := ⟨a.ep, a.sq, a.rw, sel (em a.d0) (nz q1), sel (em a.d1) (nz q2), sel (em a.d2) (nz q3), sel (em a.d3) (nz q4)⟩
theorem read_six {a : Rc} (ha : RcOk a) (q1 q2 q3 q4 q5 : List UInt8) :
    readV 1 a.ep [secV mgH 1 a, q1, q2, q3, q4, q5] = if nz q5 = secV mgC 1 a then [tornR a q1 q2 q3 q4] else [] := by
  have h8 : recsK 1 a.ep [secV mgH 1 a, q1, q2, q3, q4, q5] 8 = recsK 1 a.ep [secV mgH 1 a, q1, q2, q3, q4, q5] 1 := recs_out 1 a.ep _ 1 (by simp) 7
  have h0 : slotP [secV mgH 1 a, q1, q2, q3, q4, q5] 0 0 = secV mgH 1 a := nz_yes (secV_len mgH rfl 1 a)
  have h5 : slotP [secV mgH 1 a, q1, q2, q3, q4, q5] 0 5 = nz q5 := rfl
  have hok := slOk_head ha 1 1 a.ep (slotP [secV mgH 1 a, q1, q2, q3, q4, q5] 0) (fun j _ => secAt_len _ _) h0
  rw [h5] at hok
  rw [readV_put, h8]
  by_cases hq : nz q5 = secV mgC 1 a
  · have e : slOk 1 a.ep (slotP [secV mgH 1 a, q1, q2, q3, q4, q5] 0) = true := by rw [hok, hq]; simp [okA]
    rw [if_pos hq, recs_yes e, slR_head ha 1 _ h0]
    rfl
  · have e : slOk 1 a.ep (slotP [secV mgH 1 a, q1, q2, q3, q4, q5] 0) = false := by
      rw [hok, beq_eq_false_iff_ne.2 hq]; simp
    rw [if_neg hq, recs_no e]
    rfl
theorem torn_none {a : Rc} (ha : RcOk a) (q1 q2 q3 q4 : List UInt8) : readV 1 a.ep [secV mgH 1 a, q1, q2, q3, q4, z64] = [] := by
  rw [read_six ha, if_neg]
  rw [nz_yes z64_len]
  intro e
  have h1 := (sec_first [] 1 a).2
  rw [← e] at h1
  exact absurd h1 (by decide)
theorem torn_other {a : Rc} (ha : RcOk a) (q1 q2 q3 q4 c : List UInt8) (hc : c.length = 64) (hne : ¬ secV mgC 1 a = c) : readV 1 a.ep [secV mgH 1 a, q1, q2, q3, q4, c] = [] := by
  rw [read_six ha, if_neg]
  rw [nz_yes hc]
  exact fun e => hne e.symm
theorem torn_odd {a : Rc} (ha : RcOk a) (q1 q2 q3 q4 : List UInt8) : readV 1 a.ep [secV mgH 1 a, q1, q2, q3, q4, secV mgC 1 a] = [tornR a q1 q2 q3 q4] := by
  rw [read_six ha, if_pos (nz_yes (secV_len mgC rfl 1 a))]
theorem six_ok1 {r : Rc} (h : RcOk r) : sixV 1 r = [secV mgH 1 r, r.d0, r.d1, r.d2, r.d3, secV mgC 1 r] := by
  unfold sixV
  rw [of_ok h]; rfl
theorem torn_dk (a T : Rc) (k : Nat) (hk : k < 4) : dk (tornR a T.d0 T.d1 T.d2 T.d3) k = sel (em (dk a k)) (nz (dk T k)) := by
  obtain rfl | rfl | rfl | rfl : k = 0 ∨ k = 1 ∨ k = 2 ∨ k = 3 := by omega
  all_goals rfl
theorem okS_le {d : List UInt8} (h : okS d = true) : d.length ≤ 64 := by
  unfold okS at h
  rw [Bool.or_eq_true, beq_iff_eq] at h
  rcases h with h | h
  · have : d = [] := by simpa [em] using h
    rw [this]; decide
  · omega

/-! ### rows -/
theorem rs_two (w : World) (a b : Rc) : RsAt (w.alloc (.cells (rcC a ++ rcC b) 29)) (w.alloc (.cells (rcC a ++ rcC b) 29)).heap.size (some ⟨w.heap.size, 0, none⟩) [a, b] := by
  refine Or.inr ⟨w.heap.size, 0, rfl, by simp, fun j hj i v hv => ?_⟩
  rw [(Blk.new w 29 (rcC a ++ rcC b) 0 0 (Or.inl (Nat.le_refl _))).cell]
  have hi : i < 7 := by
    have h1 := (List.getElem?_eq_some_iff.1 hv).1
    have h2 : (encR [a, b][j]).length = 7 := rfl
    omega
  have hj' : j = 0 ∨ j = 1 := by simp at hj; omega
  rcases hj' with rfl | rfl
  · rw [Array.getElem?_append_left (by rw [rcC_size]; omega)]
    have e : (0 + 0 * 7 + i) = i := by omega
    rw [e]
    simpa using hv
  · rw [Array.getElem?_append_right (by rw [rcC_size]; omega), rcC_size]
    have e : (0 + 1 * 7 + i - 7) = i := by omega
    rw [e]
    simpa using hv
theorem fill_two (X Y : Rc) : Instr.fill (fun i => some (i * 7, 7)) ((Array.range (2 * 7)).map ((Value.agg zrec).cells[· % (Value.agg zrec).cells.size]!)) [(0, .agg (rcC X)), (1, .agg (rcC Y))] = some (rcC X ++ rcC Y) := by kernel_rfl
theorem wpList_bsR2 {ops : Array Oper} {rest : List Oper} {o : Oper} {a : Act} {w : World} {Q : Exit → Act → World → Prop} (hg : o.guard = none) (x y : Operand) (ho : o.op = .buildSlice 22 2 #[(0, x), (1, y)])
    (X Y : Rc) (hx : a.eval x = .agg (rcC X)) (hy : a.eval y = .agg (rcC Y)) (h : wpList Try.prog ops Q rest (a.put o.dst (.slice (some ⟨w.heap.size, 0, none⟩) 2 2)) (w.alloc (.cells (rcC X ++ rcC Y) 29))) : wpList Try.prog ops Q (o :: rest) a w := by
  obtain ⟨i0, hi, hz0, hz1, hz2⟩ := info_parts rec_info
  refine wpList_buildSlice hg 22 29 2 #[(0, x), (1, y)] ho (rcC X ++ rcC Y) i0 (.agg zrec) Try.underlying22 hi hz0 (by rw [hz1]; decide) (by rw [hz1]; decide) ?_ h
  rw [hz1]
  have e : (#[(0, x), (1, y)].map fun (i, x) => (i, a.eval x)).toList = [(0, a.eval x), (1, a.eval y)] := by simp
  rw [e, hx, hy]
  exact fill_two X Y
theorem StrsAt.pre {w : World} {B : Nat} {A : Option Addr} {L1 L2 : List (List UInt8)} (h : StrsAt w B A (L1 ++ L2)) : StrsAt w B A L1 := by
  rcases h with h | ⟨b, o, h1, h2, h3⟩
  · exact Or.inl (List.append_eq_nil_iff.1 h).1
  · refine Or.inr ⟨b, o, h1, h2, fun j hj => ?_⟩
    rw [h3 j (by rw [List.length_append]; omega), List.getElem_append_left hj]
theorem StrsAt.cell {w : World} {B b o : Nat} {L : List (List UInt8)} (h : StrsAt w B (some ⟨b, o, none⟩) L) (j : Nat) (hj : j < L.length) : w.cell? ⟨b, o + j, none⟩ = some (sv L[j]) := by
  rcases h with h | ⟨b', o', h1, _, h3⟩
  · subst h; simp at hj
  · have h1 := Option.some.inj h1
    injection h1 with e1 e2
    subst e1
    subst e2
    exact h3 j hj
theorem own_cells {w : World} {B n cap g : Nat} {L : List (List UInt8)} (h : w.ownsRow B 9 1 (.slice (some ⟨g, 0, none⟩) n cap) n (L.map encStr)) : ∀ j u, (L.map encStr)[j]? = some u → w.cell? ((⟨g, 0, none⟩ : Addr).add j) = some u := by
  intro j u hj
  obtain ⟨hl, h⟩ := h
  rcases h with ⟨h1, _⟩ | ⟨g', cap', cur, he, _, hg, hn, hm, hsz, htk⟩
  · cases h1
  · injection he with e1 e2 e3
    injection e1 with e1
    injection e1 with e1
    subst e1
    have hjl := (List.getElem?_eq_some_iff.1 hj).1
    have e : (cur.toList.take (n * 1))[j]? = some u := by rw [htk]; exact hj
    rw [List.getElem?_take, if_pos (by omega)] at e
    rw [addr_add, Nat.zero_add]
    simpa [World.cell?, hg] using e
theorem blk_cells {w : World} {g : Nat} {L : List (List UInt8)} {C : Array Value} {ty : TypeId} (h : Blk w g ty C) (hC : C = (L.map encStr).toArray) : ∀ j u, (L.map encStr)[j]? = some u → w.cell? ((⟨g, 0, none⟩ : Addr).add j) = some u := by
  intro j u hj
  rw [addr_add, h.cell, Nat.zero_add, hC, List.getElem?_toArray, hj]
theorem Blk.grownNe {w w' : World} {b : Nat} {e : TypeId} {C : Array Value} {row : Option Nat} (h : Blk w b e C) (hg : w.grownBy w' row) (hr : ∀ k, row = some k → k ≠ b) : Blk w' b e C := by
  obtain ⟨lo, hi, h1, h2⟩ := h
  have hb : b < w.heap.size := (Array.getElem?_eq_some_iff.1 h1).1
  refine ⟨lo, hi, ?_, h2⟩
  rw [hg.block b hb (fun e => hr b e.symm rfl)]
  exact h1
end Go.Proofs.Ytccbohjcbhibkaa
