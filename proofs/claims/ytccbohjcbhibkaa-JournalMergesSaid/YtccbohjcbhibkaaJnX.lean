/- Slices of records that came in; rows of records of a call's own. No condition beyond what each lemma says. -/
import Derived.Test.YtccbohjcbhibkaaJnQ
import Derived.Test.YtccbohjcbhibkaaJnV
import Derived.Test.YtccbohjcbhibkaaJnW
import Derived.Deep.Slices
import Derived.Deep.MidRow
namespace Go.Proofs.Ytccbohjcbhibkaa
set_option linter.unusedVariables false
set_option linter.unusedSimpArgs false
set_option maxRecDepth 100000
open Go.RowKit Go.ChangeShapes Go.WideShapes Go.Deep

theorem add_of_add (a : Addr) (i j : Nat) : (a.add i).add j = a.add (i + j) := by
  unfold Addr.add
  by_cases hi : i = 0 <;> by_cases hj : j = 0 <;> simp [hi, hj, Nat.add_assoc]
theorem cells_rec : Try.prog.cellsOf 29 = 7 := by kernel_rfl
/-- the records of an argument -/
theorem recs_of {H : Type} {enc : TypeId × Value → H} {w : World} {v : Value} {d : DataW H} {p : List MemPlace} {r : Reach} {base : Nat} (hv : Value.okWide Try.prog w r base 22 v)
    (h : DataW.Trod enc Try.prog w 0 (fun _ => true) true 22 v d p) :
    ∃ (A : Option Addr) (c : Nat) (L : List Rc), v = .slice A L.length c ∧ L.length ≤ maxLen ∧ RsAt w w.heap.size A L ∧ ∀ r ∈ L, Data r := by
  obtain ⟨A0, n0, c0, rfl⟩ : ∃ A n c, v = .slice A n c := okWide_slice Try.underlying22 hv
  obtain ⟨fuel, hf⟩ := h
  rcases open_slice Try.underlying22 hf with ⟨h0, _⟩ | ⟨a, len, cap, m, n, D, Pl, hcs, hb, hl, hm, hmm, hx, hi⟩
  · obtain ⟨rfl, rfl, rfl⟩ : A0 = none ∧ n0 = 0 ∧ c0 = 0 := by simpa [Value.cells] using h0
    exact ⟨none, 0, [], rfl, by simp [maxLen], Or.inl rfl, by simp⟩
  · have hq : A0 = some a ∧ n0 = len ∧ c0 = cap := by simpa [Value.cells] using hcs
    obtain ⟨hq1, hq2, hq3⟩ := hq
    subst hq1
    subst hq2
    subst hq3
    by_cases hn : n0 = 0
    · subst hn
      exact ⟨some a, c0, [], rfl, by simp [maxLen], Or.inl rfl, by simp⟩
    have hml : n0 ≤ m := by rw [hmm]; simp; omega
    have hsp : a.spot = none := by
      obtain ⟨cs', hc, _⟩ := hi 0 (by omega)
      rw [cells_rec] at hc
      obtain ⟨_, hcl, hat⟩ := World.cells?_some hc
      have h0 := hat 0 (by omega)
      rw [Nat.zero_mul, add_of_add, Nat.add_zero] at h0
      have ha : a.add 0 = a := by unfold Addr.add; simp
      rw [ha, List.getElem?_eq_getElem (by omega)] at h0
      unfold World.cell? at h0
      split at h0
      · split at h0
        · cases h0
        · rename_i hns; simpa using hns
      · cases h0
    obtain ⟨b, o, sp⟩ := a
    obtain rfl : sp = none := hsp
    have each : ∀ i, i < n0 → ∃ x : Rc, Data x ∧ w.rangeAt b (o + i * 7) (encR x) := by
      intro i him
      obtain ⟨cs', hc, ht'⟩ := hi i (by omega)
      rw [cells_rec] at hc
      obtain ⟨_, hcl, hat⟩ := World.cells?_some hc
      match cs', hcl with
      | [c0, c1, c2, c3, c4, c5, c6], _ =>
        obtain ⟨xs, n', _, _, _, hxl, hg⟩ := DataW.trod_struct Try.underlying29 ht'
        have hxl' : xs.length = 4 := hxl
        have k1 : Try.prog.cellsOf 3 = 1 := by kernel_rfl
        have k3 : Try.prog.cellsOf 9 = 1 := by kernel_rfl
        have k4 : Try.prog.cellsOf 27 = 4 := by kernel_rfl
        have g0 : DataW.trod enc Try.prog w 0 (fun _ => true) true n' 3 (([c0, c1, c2, c3, c4, c5, c6].drop 0).take (Try.prog.cellsOf 3)) = xs[0]? := hg 0 _ rfl
        rw [k1] at g0
        replace g0 : DataW.trod enc Try.prog w 0 (fun _ => true) true n' 3 [c0] = xs[0]? := g0
        have g1 : DataW.trod enc Try.prog w 0 (fun _ => true) true n' 3 (([c0, c1, c2, c3, c4, c5, c6].drop 1).take (Try.prog.cellsOf 3)) = xs[1]? := hg 1 _ rfl
        rw [k1] at g1
        replace g1 : DataW.trod enc Try.prog w 0 (fun _ => true) true n' 3 [c1] = xs[1]? := g1
        have g2 : DataW.trod enc Try.prog w 0 (fun _ => true) true n' 3 (([c0, c1, c2, c3, c4, c5, c6].drop 2).take (Try.prog.cellsOf 3)) = xs[2]? := hg 2 _ rfl
        rw [k1] at g2
        replace g2 : DataW.trod enc Try.prog w 0 (fun _ => true) true n' 3 [c2] = xs[2]? := g2
        have g3 : DataW.trod enc Try.prog w 0 (fun _ => true) true n' 27 (([c0, c1, c2, c3, c4, c5, c6].drop 3).take (Try.prog.cellsOf 27)) = xs[3]? := hg 3 _ rfl
        rw [k4] at g3
        replace g3 : DataW.trod enc Try.prog w 0 (fun _ => true) true n' 27 [c3, c4, c5, c6] = xs[3]? := g3
        rw [List.getElem?_eq_getElem (by omega)] at g0 g1 g2 g3
        obtain ⟨v0, e0, _, w0⟩ := DataW.trod_int Try.underlying3 g0
        obtain ⟨v1, e1, _, w1⟩ := DataW.trod_int Try.underlying3 g1
        obtain ⟨v2, e2, _, w2⟩ := DataW.trod_int Try.underlying3 g2
        obtain ⟨ys, m', _, _, _, hyl, hy⟩ := DataW.trod_array Try.underlying27 g3
        have hyl' : ys.length = 4 := hyl
        have s0 : DataW.trod enc Try.prog w 0 (fun _ => true) true m' 9 (([c3, c4, c5, c6].drop (0 * Try.prog.cellsOf 9)).take (Try.prog.cellsOf 9)) = ys[0]? := hy 0 (by decide)
        rw [k3] at s0
        replace s0 : DataW.trod enc Try.prog w 0 (fun _ => true) true m' 9 [c3] = ys[0]? := s0
        rw [List.getElem?_eq_getElem (by omega)] at s0
        obtain ⟨u0, f0, _, l0⟩ := DataW.trod_string Try.underlying9 s0
        have s1 : DataW.trod enc Try.prog w 0 (fun _ => true) true m' 9 (([c3, c4, c5, c6].drop (1 * Try.prog.cellsOf 9)).take (Try.prog.cellsOf 9)) = ys[1]? := hy 1 (by decide)
        rw [k3] at s1
        replace s1 : DataW.trod enc Try.prog w 0 (fun _ => true) true m' 9 [c4] = ys[1]? := s1
        rw [List.getElem?_eq_getElem (by omega)] at s1
        obtain ⟨u1, f1, _, l1⟩ := DataW.trod_string Try.underlying9 s1
        have s2 : DataW.trod enc Try.prog w 0 (fun _ => true) true m' 9 (([c3, c4, c5, c6].drop (2 * Try.prog.cellsOf 9)).take (Try.prog.cellsOf 9)) = ys[2]? := hy 2 (by decide)
        rw [k3] at s2
        replace s2 : DataW.trod enc Try.prog w 0 (fun _ => true) true m' 9 [c5] = ys[2]? := s2
        rw [List.getElem?_eq_getElem (by omega)] at s2
        obtain ⟨u2, f2, _, l2⟩ := DataW.trod_string Try.underlying9 s2
        have s3 : DataW.trod enc Try.prog w 0 (fun _ => true) true m' 9 (([c3, c4, c5, c6].drop (3 * Try.prog.cellsOf 9)).take (Try.prog.cellsOf 9)) = ys[3]? := hy 3 (by decide)
        rw [k3] at s3
        replace s3 : DataW.trod enc Try.prog w 0 (fun _ => true) true m' 9 [c6] = ys[3]? := s3
        rw [List.getElem?_eq_getElem (by omega)] at s3
        obtain ⟨u3, f3, _, l3⟩ := DataW.trod_string Try.underlying9 s3
        simp only [List.cons.injEq, and_true] at e0 e1 e2 f0 f1 f2 f3
        refine ⟨⟨v0, v1, v2, u0.data.toList, u1.data.toList, u2.data.toList, u3.data.toList⟩, ?_, ?_⟩
        · have q0 : u0.data.toList.length = u0.size := by simp
          have q1 : u1.data.toList.length = u1.size := by simp
          have q2 : u2.data.toList.length = u2.size := by simp
          have q3 : u3.data.toList.length = u3.size := by simp
          intro k
          unfold dk
          split <;> simp only <;> omega
        · intro j v hv
          have hj : j < 7 := by
            have := (List.getElem?_eq_some_iff.1 hv).1
            simpa [rcC] using this
          have h2 := hat j hj
          rw [add_of_add, addr_add] at h2
          rw [show o + i * 7 + j = o + (i * 7 + j) by omega, h2, ← hv, e0, e1, e2, f0, f1, f2, f3]
          rfl
    have hbl : b < w.heap.size := by
      obtain ⟨x, _, hr⟩ := each 0 (by omega)
      exact World.block_lt_of_cell? w ⟨b, o + 0 * 7 + 0, none⟩ (hr 0 _ rfl)
    let f : Nat → Rc := fun i => if h : i < n0 then Classical.choose (each i h) else rc0
    have hf : ∀ i (h : i < n0), Data (f i) ∧ w.rangeAt b (o + i * 7) (encR (f i)) := by
      intro i h
      have := Classical.choose_spec (each i h)
      simp only [f, dif_pos h]
      exact this
    refine ⟨some ⟨b, o, none⟩, c0, (List.range n0).map f, by simp, by simp; omega, Or.inr ⟨b, o, rfl, hbl, fun j hj => ?_⟩, fun x hx => ?_⟩
    · have hj' : j < n0 := by simpa using hj
      simp only [List.getElem_map, List.getElem_range]
      exact (hf j hj').2
    · obtain ⟨i, hi1, rfl⟩ := List.mem_map.1 hx
      exact (hf i (List.mem_range.1 hi1)).1

/-! ### loads from rows of records -/
theorem RsAt.ld {w : World} {B b o : Nat} {L : List Rc} (h : ∀ j (hj : j < L.length), w.rangeAt b (o + j * 7) (encR L[j])) (i : Nat) (hi : i < L.length) :
    (Ld 29 (.pointer (some ⟨b, o + i * 7, none⟩))).run Try.prog w = .ok (.agg (rcC L[i])) w := by
  have hr := h i hi
  unfold Ld
  have hl := run_loadVar_mid (P := Try.prog) w b (o + i * 7) 29 (rcC L[i]).toList _ hr Try.underlying29 rfl (by rw [Array.length_toList, rcC_size]; exact size_rec)
  simp only [Array.toArray_toList] at hl
  simp only [Instr.loadAt, Instr.sureAddr, Sem.run_bind, Sem.run_pure, Result.andThen_ok, hl]
theorem RecAt.rs {w : World} {B : Nat} {v : Value} {L : List Rc} (h : RecAt w B v L) : ∃ A c, v = .slice A L.length c ∧ (A = none → L = [] ∧ c = 0) ∧ RsAt w w.heap.size A L ∧ L.length ≤ maxLen := by
  rcases h with ⟨rfl, rfl⟩ | ⟨g, cap, rfl, e2, e3, e4, e5, e6⟩
  · exact ⟨none, 0, rfl, fun _ => ⟨rfl, rfl⟩, Or.inl rfl, by simp [maxLen]⟩
  · refine ⟨some ⟨g, 0, none⟩, cap, rfl, (fun h => by cases h), Or.inr ⟨g, 0, rfl, e3, fun j hj i v hv => ?_⟩, by omega⟩
    have hi : i < 7 := by
      have h1 := (List.getElem?_eq_some_iff.1 hv).1
      have h2 : (encR L[j]).length = 7 := rfl
      omega
    have hs : j * 7 + i < (Sort.flatK encR 7 L.toArray).size := by
      rw [Sort.size_flatK, List.size_toArray]
      omega
    have hh := (e6 (j * 7 + i) hs).1
    rw [Sort.get_flatK encR 7 L.toArray (j * 7 + i) (by rw [List.size_toArray]; omega)] at hh
    have e1 : (j * 7 + i) / 7 = j := by omega
    have e2 : (j * 7 + i) % 7 = i := by omega
    rw [e1, e2] at hh
    have e3 : L.toArray[j]! = L[j] := by simp [hj]
    rw [e3] at hh
    have e4 : (encR L[j])[i]! = v := by rw [List.getElem!_eq_getElem?_getD, hv]; rfl
    rw [e4] at hh
    rw [show 0 + j * 7 + i = 0 + (j * 7 + i) by omega]
    exact hh
theorem ownR_new (w : World) (B : Nat) (X : Rc) (hB : B ≤ w.heap.size) :
    (w.alloc (.cells (rcC X) 29)).ownsRow B 29 7 (.slice (some ⟨w.heap.size, 0, none⟩) 1 1) 1 (flat [X]) :=
  ⟨by rw [flat_len]; rfl, Or.inr ⟨w.heap.size, 1, rcC X, rfl, hB, heap_alloc_new w _, Nat.le_refl _, by simp [maxLen], by rw [rcC_size], rfl⟩⟩
theorem flat_cons (X : Rc) (L : List Rc) : flat (X :: L) = encR X ++ flat L := rfl
theorem flat_app (X L : List Rc) : flat (X ++ L) = flat X ++ flat L := by simp [flat]
theorem flat_ones (L : List Rc) : ∀ u ∈ flat L, u.oneCell' = true := by
  intro u hu
  obtain ⟨r, _, h⟩ := List.mem_flatMap.1 hu
  exact rec_ones r u h
theorem flat_at (L : List Rc) (t : Nat) (u : Value) (h : (flat L)[t]? = some u) : ∃ (hj : t / 7 < L.length), (encR (L[t / 7]))[t % 7]? = some u := by
  have ht : t < L.length * 7 := by
    have h1 := (List.getElem?_eq_some_iff.1 h).1
    rwa [flat_len] at h1
  have hj : t / 7 < L.length := by omega
  refine ⟨hj, ?_⟩
  rw [flat_get L t ht] at h
  have e3 : L.toArray[t / 7]! = L[t / 7] := by simp [hj]
  rw [e3] at h
  have hl : (encR L[t / 7]).length = 7 := rfl
  rw [List.getElem!_eq_getElem?_getD, List.getElem?_eq_getElem (by omega : t % 7 < (encR L[t / 7]).length)] at h
  rw [List.getElem?_eq_getElem (by omega : t % 7 < (encR L[t / 7]).length)]
  exact h
/-- 'append(own, some...)' of records, whatever the source is -/
theorem wpList_appRs {w : World} {ops : Array Oper} {rest : List Oper} {o : Oper} {a : Act} {Q : Exit → Act → World → Prop} (hgd : o.guard = none) (s x : Operand)
    (ho : o.op = .call { callee := .builtin .append, args := #[s, x], argTypes := #[22, 22] })
    (base : Nat) (v : Value) (n : Nat) (xs : List Rc) (hs : a.eval s = v) (hown : w.ownsRow base 29 7 v n (flat xs))
    (A : Option Addr) (m c : Nat) (L : List Rc) (hx : a.eval x = .slice A m c) (hm : m = L.length) (hst : RsAt w w.heap.size A L) (hnil : A = none → L = [] ∧ c = 0) (h16 : (n + m) * 88 ≤ 140737488355328) (hbase : base ≤ w.heap.size)
    (h : ∀ v' w', w'.ownsRow base 29 7 v' (n + m) (flat (xs ++ L)) → w.grownBy w' v.ownBlock → wpList Try.prog ops Q rest (a.put o.dst v') w') : wpList Try.prog ops Q (o :: rest) a w := by
  obtain ⟨i0, hi, hz0, hz1, hz2⟩ := info_parts rec_info
  subst hm
  rcases A with _ | ad
  · obtain ⟨hL, hc⟩ := hnil rfl
    subst hL
    subst hc
    refine wpList_append_own_none hgd s x 22 ho base 29 i0 7 Try.underlying22 hi v n _ hs hown hx ?_
    exact h v w (by rw [List.append_nil]; exact hown) ⟨rfl, rfl, rfl, Nat.le_refl _, fun _ _ _ => rfl⟩
  · refine wpList_append_own w hgd s x 22 ho base 29 i0 (.agg zrec) 7 88 Try.underlying22 hi hz0 hz1 hz2 rfl (by decide) v n _ hs hown ad L.length c (flat L) hx (flat_len L) ?_ (flat_ones L) (by unfold maxLen; omega) h16 hbase ?_
    · intro j u hj
      obtain ⟨hjl, hju⟩ := flat_at L j u hj
      rcases hst with h | ⟨b, o, h1, _, h3⟩
      · subst h; simp at hjl
      · obtain rfl : ad = ⟨b, o, none⟩ := Option.some.inj h1
        rw [addr_add, ← h3 (j / 7) hjl (j % 7) u hju]
        congr 2
        omega
    · intro v' w' hown' hg _
      rw [← flat_app] at hown'
      exact h v' w' hown' hg

/-! ### what the law JournalBack lays down -/
/-- a record brought to an epoch and a Seq of its own -/
def bkR (ep : Int) (k : Nat) (r : Rc) : Rc := { r with ep := ep, sq := 100 - 7 * (k : Int) }
/-- the right ones of the first k records -/
def bkL (ep : Int) (L : List Rc) : Nat → List Rc
  | 0 => []
  | k + 1 => bkL ep L k ++ (if h : k < L.length then (if rightB (bkR ep k L[k]) then [bkR ep k L[k]] else []) else [])
def secs (G : List Rc) : List (List UInt8) := G.flatMap (fun r => sixV 5 r)
theorem bk_yes {ep : Int} {L : List Rc} {k : Nat} (h : k < L.length) (hr : rightB (bkR ep k L[k]) = true) : bkL ep L (k + 1) = bkL ep L k ++ [bkR ep k L[k]] := by rw [bkL, dif_pos h, if_pos hr]
theorem bk_no {ep : Int} {L : List Rc} {k : Nat} (h : k < L.length) (hr : rightB (bkR ep k L[k]) = false) : bkL ep L (k + 1) = bkL ep L k := by rw [bkL, dif_pos h, hr]; simp
theorem bk_len (ep : Int) (L : List Rc) : ∀ k, (bkL ep L k).length ≤ k
  | 0 => Nat.le_refl _
  | k + 1 => by
    have ih := bk_len ep L k
    rw [bkL, List.length_append]
    split
    · split
      · simp; omega
      · simp; omega
    · simp; omega
theorem bk_mem (ep : Int) (L : List Rc) : ∀ k x, x ∈ bkL ep L k → RcOk x ∧ x.ep = ep ∧ ∃ j, j < k ∧ x.sq = 100 - 7 * (j : Int)
  | 0, x, h => by cases h
  | k + 1, x, h => by
    rw [bkL, List.mem_append] at h
    rcases h with h | h
    · obtain ⟨h1, h2, j, h3, h4⟩ := bk_mem ep L k x h
      exact ⟨h1, h2, j, by omega, h4⟩
    · split at h
      · split at h
        · rename_i hr
          rw [List.mem_singleton] at h
          subst h
          exact ⟨ok_of hr, rfl, k, by omega, rfl⟩
        · cases h
      · cases h
theorem bk_fall (ep : Int) (L : List Rc) : ∀ k, List.Pairwise (fun a b => b.sq < a.sq) (bkL ep L k)
  | 0 => List.Pairwise.nil
  | k + 1 => by
    rw [bkL, List.pairwise_append]
    refine ⟨bk_fall ep L k, ?_, fun x hx y hy => ?_⟩
    · split
      · split
        · exact List.pairwise_singleton _ _
        · exact List.Pairwise.nil
      · exact List.Pairwise.nil
    · split at hy
      · split at hy
        · rw [List.mem_singleton] at hy
          subst hy
          obtain ⟨_, _, j, h3, h4⟩ := bk_mem ep L k x hx
          show (100 - 7 * (k : Int)) < x.sq
          rw [h4]; omega
        · cases hy
      · cases hy
theorem secs_len : ∀ G : List Rc, (secs G).length = G.length * 6
  | [] => rfl
  | r :: G => by
    have h := secs_len G
    unfold secs at h ⊢
    rw [List.flatMap_cons, List.length_append, sixV_len, h, List.length_cons]; omega
theorem secs_get : ∀ (G : List Rc) (s j : Nat) (hs : s < G.length), j < 6 → (secs G).getD (s * 6 + j) [] = (sixV 5 G[s]).getD j []
  | r :: G, 0, j, _, hj => by
    unfold secs
    rw [List.flatMap_cons, List.getD_eq_getElem?_getD, List.getD_eq_getElem?_getD, List.getElem?_append_left (by rw [sixV_len]; omega)]
    simp
  | r :: G, s + 1, j, hs, hj => by
    have h := secs_get G s j (by simpa using hs) hj
    unfold secs at h ⊢
    rw [List.flatMap_cons, List.getD_eq_getElem?_getD, List.getElem?_append_right (by rw [sixV_len]; omega), sixV_len]
    rw [List.getD_eq_getElem?_getD] at h
    rw [show (s + 1) * 6 + j - 6 = s * 6 + j by omega, h]
    rfl
theorem secs_app (G : List Rc) (r : Rc) : secs (G ++ [r]) = secs G ++ sixV 5 r := by simp [secs]
theorem six_ok {r : Rc} (h : RcOk r) : sixV 5 r = [secV mgH 5 r, r.d0, r.d1, r.d2, r.d3, secV mgC 5 r] := by
  unfold sixV
  rw [of_ok h]; rfl
theorem sel_sec {d p : List UInt8} (h : okS d = true) (hp : p = if d.length = 64 then d else z64) : sel (em d) p = d := by
  unfold okS at h
  cases he : em d
  · rw [he, Bool.false_or, beq_iff_eq] at h
    rw [if_pos h] at hp
    rw [hp]; rfl
  · have : d = [] := by simpa [em] using he
    rw [this]; rfl
theorem slot_laid (G : List Rc) (s : Nat) (hs : s < G.length) (h : RcOk G[s]) : slotP (secs G) s 0 = secV mgH 5 G[s] ∧ slotP (secs G) s 5 = secV mgC 5 G[s] ∧ slR (slotP (secs G) s) = G[s] := by
  have hg := fun j hj => secs_get G s j hs hj
  rw [six_ok h] at hg
  have hsec : ∀ j, j < 6 → slotP (secs G) s j = if (([secV mgH 5 G[s], G[s].d0, G[s].d1, G[s].d2, G[s].d3, secV mgC 5 G[s]] : List (List UInt8)).getD j []).length = 64 then ([secV mgH 5 G[s], G[s].d0, G[s].d1, G[s].d2, G[s].d3, secV mgC 5 G[s]] : List (List UInt8)).getD j [] else z64 := by
    intro j hj
    unfold slotP secAt
    rw [hg j hj]
  have p0 : slotP (secs G) s 0 = secV mgH 5 G[s] := (hsec 0 (by decide)).trans (if_pos (secV_len mgH rfl 5 _))
  have p5 : slotP (secs G) s 5 = secV mgC 5 G[s] := (hsec 5 (by decide)).trans (if_pos (secV_len mgC rfl 5 _))
  refine ⟨p0, p5, ?_⟩
  rw [slR_head h 5 _ p0]
  have h0 := h.s 0 (by decide)
  have h1 := h.s 1 (by decide)
  have h2 := h.s 2 (by decide)
  have h3 := h.s 3 (by decide)
  simp only [dk] at h0 h1 h2 h3
  have e1 := sel_sec h0 (hsec 1 (by decide))
  have e2 := sel_sec h1 (hsec 2 (by decide))
  have e3 := sel_sec h2 (hsec 3 (by decide))
  have e4 := sel_sec h3 (hsec 4 (by decide))
  unfold rdR
  rw [e1, e2, e3, e4]
theorem slot_okB (G : List Rc) (s : Nat) (hs : s < G.length) (h : RcOk G[s]) (ar2 ep : Int) :
    slOk ar2 ep (slotP (secs G) s) = (okA ar2 && ((secV mgH ar2 G[s] == secV mgH 5 G[s]) && ((secV mgC 5 G[s] == secV mgC ar2 G[s]) && (G[s].ep == ep)))) := by
  obtain ⟨p0, p5, _⟩ := slot_laid G s hs h
  rw [slOk_head h 5 ar2 ep (slotP (secs G) s) (fun j hj => secAt_len _ _) p0, p5]
theorem recs_own (ep : Int) (G : List Rc) (h : ∀ x ∈ G, RcOk x ∧ x.ep = ep) : ∀ k, k ≤ G.length → recsK 5 ep (secs G) k = G.take k
  | 0, _ => by simp [recsK]
  | k + 1, hk => by
    obtain ⟨h1, h2⟩ := h G[k] (List.getElem_mem _)
    have hok : slOk 5 ep (slotP (secs G) k) = true := by
      rw [slot_okB G k (by omega) h1, h2]
      simp [okA]
    rw [recs_yes hok, recs_own ep G h k (by omega), (slot_laid G k (by omega) h1).2.2, List.take_add_one, List.getElem?_eq_getElem (by omega)]
    rfl
theorem recs_none (ar2 ep : Int) (G : List Rc) (h : ∀ s (hs : s < G.length), slOk ar2 ep (slotP (secs G) s) = false) : ∀ k, k ≤ G.length → recsK ar2 ep (secs G) k = []
  | 0, _ => rfl
  | k + 1, hk => by rw [recs_no (h k (by omega)), recs_none ar2 ep G h k (by omega)]
theorem recs_8 (ar ep : Int) (G : List Rc) (h8 : G.length ≤ 8) : recsK ar ep (secs G) 8 = recsK ar ep (secs G) G.length := by
  have h := recs_out ar ep (secs G) G.length (by rw [secs_len]; exact Nat.le_refl _) (8 - G.length)
  rwa [show G.length + (8 - G.length) = 8 by omega] at h
theorem back_own (ep : Int) (L : List Rc) (hL : L.length ≤ 8) : readV 5 ep (secs (bkL ep L L.length)) = (bkL ep L L.length).reverse := by
  have hl := bk_len ep L L.length
  rw [readV_put, recs_8 _ _ _ (by omega), recs_own ep _ (fun x hx => ⟨(bk_mem ep L _ x hx).1, (bk_mem ep L _ x hx).2.1⟩) _ (Nat.le_refl _), List.take_length, fold_fall _ _ (bk_fall ep L _) (by simp), List.append_nil]
theorem back_epoch (ep : Int) (L : List Rc) (hL : L.length ≤ 8) : readV 5 (ep + 1) (secs (bkL ep L L.length)) = [] := by
  have hl := bk_len ep L L.length
  rw [readV_put, recs_8 _ _ _ (by omega), recs_none 5 (ep + 1) _ (fun s hs => by
    obtain ⟨h1, h2, _⟩ := bk_mem ep L _ _ (List.getElem_mem hs)
    rw [slot_okB _ s hs h1, h2]
    have e : (ep == ep + 1) = false := by rw [beq_eq_false_iff_ne]; omega
    rw [e]; simp) _ (Nat.le_refl _)]
  rfl
theorem back_array (ep : Int) (L : List Rc) (hL : L.length ≤ 8) : readV 6 ep (secs (bkL ep L L.length)) = [] := by
  have hl := bk_len ep L L.length
  rw [readV_put, recs_8 _ _ _ (by omega), recs_none 6 ep _ (fun s hs => by
    obtain ⟨h1, h2, _⟩ := bk_mem ep L _ _ (List.getElem_mem hs)
    rw [slot_okB _ s hs h1, sec_arr]; simp) _ (Nat.le_refl _)]
  rfl
end Go.Proofs.Ytccbohjcbhibkaa
