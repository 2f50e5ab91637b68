/- Merged records as plain data: they rise, each number once, each the first of its number; what is merged again is the same. Records of an argument. No walk is in sight. -/
import Derived.Test.YtccbohjcbhibkaaJpC
namespace Go.Proofs.Ytccbohjcbhibkaa
set_option linter.unusedVariables false
set_option linter.unusedSimpArgs false
set_option maxRecDepth 100000
open Go.RowKit Go.ChangeShapes Go.WideShapes Go.Deep Go.Sort

/-- the number is one that a cell can hold -/
def QOk (r : Rc) : Prop := (Lit.int .i64 r.sq).wf = true
/-- the records of an argument -/
theorem recs_of2 {H : Type} {enc : TypeId × Value → H} {w : World} {v : Value} {d : DataW H} {p : List MemPlace} {r : Reach} {base : Nat} (hv : Value.okWide Try.prog w r base 22 v)
    (h : DataW.Trod enc Try.prog w 0 (fun _ => true) true 22 v d p) :
    ∃ (A : Option Addr) (c : Nat) (L : List Rc), v = .slice A L.length c ∧ L.length ≤ maxLen ∧ RsAt w w.heap.size A L ∧ (A = none → L = [] ∧ c = 0) ∧ ∀ r ∈ L, Data r ∧ QOk r := by
  obtain ⟨A0, n0, c0, rfl⟩ : ∃ A n c, v = .slice A n c := okWide_slice Try.underlying22 hv
  obtain ⟨fuel, hf⟩ := h
  rcases open_slice Try.underlying22 hf with ⟨h0, _⟩ | ⟨a, len, cap, m, n, D, Pl, hcs, hb, hl, hm, hmm, hx, hi⟩
  · obtain ⟨rfl, rfl, rfl⟩ : A0 = none ∧ n0 = 0 ∧ c0 = 0 := by simpa [Value.cells] using h0
    exact ⟨none, 0, [], rfl, by simp [maxLen], Or.inl rfl, fun _ => ⟨rfl, rfl⟩, by simp⟩
  · have hq : A0 = some a ∧ n0 = len ∧ c0 = cap := by simpa [Value.cells] using hcs
    obtain ⟨hq1, hq2, hq3⟩ := hq
    subst hq1
    subst hq2
    subst hq3
    by_cases hn : n0 = 0
    · subst hn
      exact ⟨some a, c0, [], rfl, by simp [maxLen], Or.inl rfl, (fun h => by cases h), by simp⟩
    have hml : n0 ≤ m := by rw [hmm]; simp; omega
    have hsp : a.spot = none := by
      obtain ⟨cs', hc, _⟩ := hi 0 (by omega)
      rw [cells_rec] at hc
      obtain ⟨_, hcl, hat⟩ := World.cells?_some hc
      have h0 := hat 0 (by omega)
      rw [Nat.zero_mul, add_of_add, Nat.add_zero] at h0
      have ha : a.add 0 = a := by unfold Addr.add; simp
      rw [ha, List.getElem?_eq_getElem (by omega)] at h0
      unfold World.cell? at h0
      split at h0
      · split at h0
        · cases h0
        · rename_i hns; simpa using hns
      · cases h0
    obtain ⟨b, o, sp⟩ := a
    obtain rfl : sp = none := hsp
    have each : ∀ i, i < n0 → ∃ x : Rc, (Data x ∧ QOk x) ∧ w.rangeAt b (o + i * 7) (encR x) := by
      intro i him
      obtain ⟨cs', hc, ht'⟩ := hi i (by omega)
      rw [cells_rec] at hc
      obtain ⟨_, hcl, hat⟩ := World.cells?_some hc
      match cs', hcl with
      | [c0, c1, c2, c3, c4, c5, c6], _ =>
        obtain ⟨xs, n', _, _, _, hxl, hg⟩ := DataW.trod_struct Try.underlying29 ht'
        have hxl' : xs.length = 4 := hxl
        have k1 : Try.prog.cellsOf 3 = 1 := by kernel_rfl
        have k3 : Try.prog.cellsOf 9 = 1 := by kernel_rfl
        have k4 : Try.prog.cellsOf 27 = 4 := by kernel_rfl
        have g0 : DataW.trod enc Try.prog w 0 (fun _ => true) true n' 3 (([c0, c1, c2, c3, c4, c5, c6].drop 0).take (Try.prog.cellsOf 3)) = xs[0]? := hg 0 _ rfl
        rw [k1] at g0
        replace g0 : DataW.trod enc Try.prog w 0 (fun _ => true) true n' 3 [c0] = xs[0]? := g0
        have g1 : DataW.trod enc Try.prog w 0 (fun _ => true) true n' 3 (([c0, c1, c2, c3, c4, c5, c6].drop 1).take (Try.prog.cellsOf 3)) = xs[1]? := hg 1 _ rfl
        rw [k1] at g1
        replace g1 : DataW.trod enc Try.prog w 0 (fun _ => true) true n' 3 [c1] = xs[1]? := g1
        have g2 : DataW.trod enc Try.prog w 0 (fun _ => true) true n' 3 (([c0, c1, c2, c3, c4, c5, c6].drop 2).take (Try.prog.cellsOf 3)) = xs[2]? := hg 2 _ rfl
        rw [k1] at g2
        replace g2 : DataW.trod enc Try.prog w 0 (fun _ => true) true n' 3 [c2] = xs[2]? := g2
        have g3 : DataW.trod enc Try.prog w 0 (fun _ => true) true n' 27 (([c0, c1, c2, c3, c4, c5, c6].drop 3).take (Try.prog.cellsOf 27)) = xs[3]? := hg 3 _ rfl
        rw [k4] at g3
        replace g3 : DataW.trod enc Try.prog w 0 (fun _ => true) true n' 27 [c3, c4, c5, c6] = xs[3]? := g3
        rw [List.getElem?_eq_getElem (by omega)] at g0 g1 g2 g3
        obtain ⟨v0, e0, _, w0⟩ := DataW.trod_int Try.underlying3 g0
        obtain ⟨v1, e1, _, w1⟩ := DataW.trod_int Try.underlying3 g1
        obtain ⟨v2, e2, _, w2⟩ := DataW.trod_int Try.underlying3 g2
        obtain ⟨ys, m', _, _, _, hyl, hy⟩ := DataW.trod_array Try.underlying27 g3
        have hyl' : ys.length = 4 := hyl
        have s0 : DataW.trod enc Try.prog w 0 (fun _ => true) true m' 9 (([c3, c4, c5, c6].drop (0 * Try.prog.cellsOf 9)).take (Try.prog.cellsOf 9)) = ys[0]? := hy 0 (by decide)
        rw [k3] at s0
        replace s0 : DataW.trod enc Try.prog w 0 (fun _ => true) true m' 9 [c3] = ys[0]? := s0
        rw [List.getElem?_eq_getElem (by omega)] at s0
        obtain ⟨u0, f0, _, l0⟩ := DataW.trod_string Try.underlying9 s0
        have s1 : DataW.trod enc Try.prog w 0 (fun _ => true) true m' 9 (([c3, c4, c5, c6].drop (1 * Try.prog.cellsOf 9)).take (Try.prog.cellsOf 9)) = ys[1]? := hy 1 (by decide)
        rw [k3] at s1
        replace s1 : DataW.trod enc Try.prog w 0 (fun _ => true) true m' 9 [c4] = ys[1]? := s1
        rw [List.getElem?_eq_getElem (by omega)] at s1
        obtain ⟨u1, f1, _, l1⟩ := DataW.trod_string Try.underlying9 s1
        have s2 : DataW.trod enc Try.prog w 0 (fun _ => true) true m' 9 (([c3, c4, c5, c6].drop (2 * Try.prog.cellsOf 9)).take (Try.prog.cellsOf 9)) = ys[2]? := hy 2 (by decide)
        rw [k3] at s2
        replace s2 : DataW.trod enc Try.prog w 0 (fun _ => true) true m' 9 [c5] = ys[2]? := s2
        rw [List.getElem?_eq_getElem (by omega)] at s2
        obtain ⟨u2, f2, _, l2⟩ := DataW.trod_string Try.underlying9 s2
        have s3 : DataW.trod enc Try.prog w 0 (fun _ => true) true m' 9 (([c3, c4, c5, c6].drop (3 * Try.prog.cellsOf 9)).take (Try.prog.cellsOf 9)) = ys[3]? := hy 3 (by decide)
        rw [k3] at s3
        replace s3 : DataW.trod enc Try.prog w 0 (fun _ => true) true m' 9 [c6] = ys[3]? := s3
        rw [List.getElem?_eq_getElem (by omega)] at s3
        obtain ⟨u3, f3, _, l3⟩ := DataW.trod_string Try.underlying9 s3
        simp only [List.cons.injEq, and_true] at e0 e1 e2 f0 f1 f2 f3
        refine ⟨⟨v0, v1, v2, u0.data.toList, u1.data.toList, u2.data.toList, u3.data.toList⟩, ⟨?_, w1⟩, ?_⟩
        · have q0 : u0.data.toList.length = u0.size := by simp
          have q1 : u1.data.toList.length = u1.size := by simp
          have q2 : u2.data.toList.length = u2.size := by simp
          have q3 : u3.data.toList.length = u3.size := by simp
          intro k
          unfold dk
          split <;> simp only <;> omega
        · intro j v hv
          have hj : j < 7 := by
            have := (List.getElem?_eq_some_iff.1 hv).1
            simpa [rcC] using this
          have h2 := hat j hj
          rw [add_of_add, addr_add] at h2
          rw [show o + i * 7 + j = o + (i * 7 + j) by omega, h2, ← hv, e0, e1, e2, f0, f1, f2, f3]
          rfl
    have hbl : b < w.heap.size := by
      obtain ⟨x, _, hr⟩ := each 0 (by omega)
      exact World.block_lt_of_cell? w ⟨b, o + 0 * 7 + 0, none⟩ (hr 0 _ rfl)
    let f : Nat → Rc := fun i => if h : i < n0 then Classical.choose (each i h) else rc0
    have hf : ∀ i (h : i < n0), (Data (f i) ∧ QOk (f i)) ∧ w.rangeAt b (o + i * 7) (encR (f i)) := by
      intro i h
      have := Classical.choose_spec (each i h)
      simp only [f, dif_pos h]
      exact this
    refine ⟨some ⟨b, o, none⟩, c0, (List.range n0).map f, by simp, by simp; omega, Or.inr ⟨b, o, rfl, hbl, fun j hj => ?_⟩, (fun h => by cases h), fun x hx => ?_⟩
    · have hj' : j < n0 := by simpa using hj
      simp only [List.getElem_map, List.getElem_range]
      exact (hf j hj').2
    · obtain ⟨i, hi1, rfl⟩ := List.mem_map.1 hx
      exact (hf i (List.mem_range.1 hi1)).1


/-! ### what merged records are -/
def Rise (C : List Rc) : Prop := C.Pairwise (fun x y => x.sq < y.sq)
def fst (q : Int) (L : List Rc) : Option Rc := L.find? (fun x => decide (x.sq = q))
theorem fst_cons (q : Int) (x : Rc) (L : List Rc) : fst q (x :: L) = if x.sq = q then some x else fst q L := by
  unfold fst
  rw [List.find?_cons]
  by_cases h : x.sq = q <;> simp [h]
theorem fst_app (q : Int) (A B : List Rc) : fst q (A ++ B) = (fst q A).or (fst q B) := by
  unfold fst; rw [List.find?_append]
theorem fst_some {q : Int} {L : List Rc} {x : Rc} (h : fst q L = some x) : x ∈ L ∧ x.sq = q := by
  unfold fst at h
  exact ⟨List.mem_of_find?_eq_some h, by simpa using List.find?_some h⟩
theorem fst_mem {L : List Rc} {x : Rc} (h : x ∈ L) : ∃ y, fst x.sq L = some y := by
  unfold fst
  cases hf : L.find? (fun y => decide (y.sq = x.sq)) with
  | some y => exact ⟨y, rfl⟩
  | none =>
    have := List.find?_eq_none.1 hf x h
    simp at this
theorem fst_none {q : Int} {L : List Rc} (h : ∀ x ∈ L, x.sq ≠ q) : fst q L = none := by
  unfold fst
  rw [List.find?_eq_none]
  intro x hx
  simpa using h x hx
theorem stb_fst {L S : List Rc} (h : Stb keyR L S) (q : Int) : fst q S = fst q L := by
  unfold fst
  rw [← List.head?_filter, ← List.head?_filter, h.2 q]
theorem dd_fst (q : Int) : ∀ (l : List Rc) (p : Rc), fst q (p :: ddG eqR p l) = fst q (p :: l)
  | [], p => rfl
  | y :: l, p => by
    have ih := dd_fst q l y
    rw [fst_cons, fst_cons, ddG]
    by_cases hp : p.sq = q
    · rw [if_pos hp, if_pos hp]
    · rw [if_neg hp, if_neg hp]
      by_cases he : eqR y p = true
      · rw [if_pos he]
        have hy : y.sq = p.sq := by unfold eqR at he; exact eq_of_beq he
        rw [fst_cons, fst_cons, if_neg (by omega), if_neg (by omega)] at ih
        rw [ih, fst_cons, if_neg (by omega)]
      · rw [if_neg he, ih]
theorem comp_fst (q : Int) (S : List Rc) : fst q (compG eqR S) = fst q S := by
  cases S with
  | nil => rfl
  | cons x l => exact dd_fst q l x
theorem dd_gt : ∀ (l : List Rc) (p : Rc), Srt keyR (p :: l) → ∀ z ∈ ddG eqR p l, p.sq < z.sq
  | [], p, _, z, hz => by simp [ddG] at hz
  | y :: l, p, hs, z, hz => by
    have h1 := List.pairwise_cons.1 hs
    have hpy : p.sq ≤ y.sq := h1.1 y (List.mem_cons_self ..)
    have ih := dd_gt l y h1.2
    rw [ddG] at hz
    by_cases he : eqR y p = true
    · rw [if_pos he] at hz
      have hy : y.sq = p.sq := by unfold eqR at he; exact eq_of_beq he
      have := ih z hz
      omega
    · rw [if_neg he] at hz
      have hy : ¬ y.sq = p.sq := fun h => he (by unfold eqR; exact beq_iff_eq.2 h)
      rcases List.mem_cons.1 hz with rfl | hz
      · omega
      · have := ih z hz
        omega
theorem dd_rise : ∀ (l : List Rc) (p : Rc), Srt keyR (p :: l) → Rise (ddG eqR p l)
  | [], p, _ => List.Pairwise.nil
  | y :: l, p, hs => by
    have h1 := List.pairwise_cons.1 hs
    rw [ddG]
    by_cases he : eqR y p = true
    · rw [if_pos he]; exact dd_rise l y h1.2
    · rw [if_neg he]; exact List.pairwise_cons.2 ⟨dd_gt l y h1.2, dd_rise l y h1.2⟩
theorem comp_rise {S : List Rc} (hs : Srt keyR S) : Rise (compG eqR S) := by
  cases S with
  | nil => exact List.Pairwise.nil
  | cons x l => exact List.pairwise_cons.2 ⟨dd_gt l x hs, dd_rise l x hs⟩
theorem rise_ext : ∀ (C D : List Rc), Rise C → Rise D → (∀ q, fst q C = fst q D) → C = D
  | [], [], _, _, _ => rfl
  | [], d :: D, _, _, h => by have := h d.sq; rw [fst_cons, if_pos rfl] at this; cases this
  | c :: C, [], _, _, h => by have := h c.sq; rw [fst_cons, if_pos rfl] at this; cases this
  | c :: C, d :: D, hc, hd, h => by
    have h1 := List.pairwise_cons.1 hc
    have h2 := List.pairwise_cons.1 hd
    have hcd : c.sq = d.sq := by
      rcases Int.lt_trichotomy c.sq d.sq with hlt | heq | hgt
      · have := h c.sq
        rw [fst_cons, if_pos rfl, fst_none (fun x hx => by
          rcases List.mem_cons.1 hx with rfl | hx
          · omega
          · have := h2.1 x hx; omega)] at this
        cases this
      · exact heq
      · have := h d.sq
        rw [fst_cons d.sq d, if_pos rfl, fst_none (fun x hx => by
          rcases List.mem_cons.1 hx with rfl | hx
          · omega
          · have := h1.1 x hx; omega)] at this
        cases this
    have he : c = d := by
      have := h c.sq
      rw [fst_cons, if_pos rfl, fst_cons, if_pos hcd.symm] at this
      exact Option.some.inj this
    subst he
    congr 1
    refine rise_ext C D h1.2 h2.2 (fun q => ?_)
    by_cases hq : c.sq = q
    · rw [fst_none (fun x hx => by have := h1.1 x hx; omega), fst_none (fun x hx => by have := h2.1 x hx; omega)]
    · have := h q
      rw [fst_cons, if_neg hq, fst_cons, if_neg hq] at this
      exact this
theorem MergeOf.rise {L M : List Rc} (h : MergeOf L M) : Rise M := by
  obtain ⟨S, h1, h2, rfl⟩ := h
  exact comp_rise h1
theorem MergeOf.fst {L M : List Rc} (h : MergeOf L M) (q : Int) : fst q M = fst q L := by
  obtain ⟨S, h1, h2, rfl⟩ := h
  rw [comp_fst, stb_fst h2]
/-- merged again, the same -/
theorem merge_again {L M N : List Rc} (h : MergeOf L M) (k : MergeOf (M ++ L) N) : N = M := by
  refine rise_ext N M k.rise h.rise (fun q => ?_)
  rw [k.fst, fst_app, h.fst]
  cases Go.Proofs.Ytccbohjcbhibkaa.fst q L <;> rfl
theorem MergeOf.all {L M : List Rc} (h : MergeOf L M) {x : Rc} (hx : x ∈ L) : ∃ y ∈ M, y.sq = x.sq := by
  obtain ⟨y, hy⟩ := fst_mem hx
  rw [← h.fst] at hy
  exact ⟨y, fst_some hy⟩
theorem MergeOf.sub {L M : List Rc} (h : MergeOf L M) {x : Rc} (hx : x ∈ M) : x ∈ L := by
  obtain ⟨y, hy⟩ := fst_mem hx
  have h1 := fst_some hy
  have hxy : x = y := by
    have hr := h.rise
    obtain ⟨i, hi, rfl⟩ := List.mem_iff_getElem.1 hx
    obtain ⟨j, hj, rfl⟩ := List.mem_iff_getElem.1 h1.1
    rcases Nat.lt_trichotomy i j with h | h | h
    · have := List.pairwise_iff_getElem.1 hr i j hi hj h; omega
    · subst h; rfl
    · have := List.pairwise_iff_getElem.1 hr j i hj hi h; omega
  rw [h.fst] at hy
  rw [hxy]
  exact (fst_some hy).1
theorem MergeOf.len {L M : List Rc} (h : MergeOf L M) : M.length ≤ L.length := by
  obtain ⟨S, h1, h2, rfl⟩ := h
  have hd : ∀ (l : List Rc) (p : Rc), (ddG eqR p l).length ≤ l.length := by
    intro l
    induction l with
    | nil => intro p; simp [ddG]
    | cons y l ih =>
      intro p
      rw [ddG]
      split
      · have := ih y; simp; omega
      · have := ih y; simp; omega
  rw [← h2.len]
  cases S with
  | nil => simp [compG]
  | cons x l => have := hd l x; simp [compG]; omega
theorem great_len {L : List Rc} (h : greatB L = false) : L.length ≤ 40 := by
  unfold greatB at h
  rw [Bool.or_eq_false_iff] at h
  have := of_decide_eq_false h.1
  omega
end Go.Proofs.Ytccbohjcbhibkaa
