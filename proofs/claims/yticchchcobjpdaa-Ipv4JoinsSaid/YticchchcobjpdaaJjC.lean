/- The document's datagrams in rows: whether two pieces are of one; a row without one; time goes on. No condition beyond what each lemma says. -/
import Derived.Test.YticchchcobjpdaaJjB
import Derived.Test.YticchchcobjpdaaJiT
import Derived.Laws.AppendOwnNone
import Derived.Deep.AppendLies
namespace Go.Proofs.Yticchchcobjpdaa
set_option linter.unusedVariables false
set_option linter.unusedSimpArgs false
set_option maxRecDepth 100000
open Go.RowKit Go.Proofs Go.Shelf Go.Lib Go.Sort
attribute [local go_sem ↓] Go.wp_at_zero Go.wp_at_succ
attribute [local go_sem ↓] ld_pk ld_ip ld_wh
/-- a datagram of the document: where its pieces lie, its pieces, its age -/
structure Rd where
  A : Option Addr
  c : Nat
  L : List Pkt
  age : Int
def Rd.enc (r : Rd) : List Value := [.slice r.A r.L.length r.c, .int .i64 r.age]
def flatR (E : List Rd) : List Value := E.flatMap Rd.enc
theorem flatR_len : ∀ E : List Rd, (flatR E).length = E.length * 2
  | [] => rfl
  | r :: E => by
    rw [show flatR (r :: E) = r.enc ++ flatR E from rfl, List.length_append, flatR_len E, List.length_cons]
    show 2 + E.length * 2 = _
    omega
theorem flatR_app (E F : List Rd) : flatR (E ++ F) = flatR E ++ flatR F := by unfold flatR; rw [List.flatMap_append]
theorem flatR_take : ∀ (E : List Rd) (n : Nat), (flatR E).take (n * 2) = flatR (E.take n)
  | [], n => by simp [flatR]
  | r :: E, 0 => by simp [flatR]
  | r :: E, n + 1 => by
    rw [show flatR (r :: E) = r.enc ++ flatR E from rfl, List.take_succ_cons, show flatR (r :: E.take n) = r.enc ++ flatR (E.take n) from rfl, ← flatR_take E n]
    rw [show (n + 1) * 2 = r.enc.length + n * 2 by show _ = 2 + n * 2; omega, List.take_length_add_append]
theorem flatR_drop : ∀ (E : List Rd) (n : Nat), (flatR E).drop (n * 2) = flatR (E.drop n)
  | [], n => by simp [flatR]
  | r :: E, 0 => by simp [flatR]
  | r :: E, n + 1 => by
    rw [show flatR (r :: E) = r.enc ++ flatR E from rfl, List.drop_succ_cons, ← flatR_drop E n]
    rw [show (n + 1) * 2 = r.enc.length + n * 2 by show _ = 2 + n * 2; omega, List.drop_length_add_append]
theorem flatR_get (E : List Rd) (j : Nat) (hj : j < E.length) : (flatR E)[j * 2]? = some (.slice E[j].A E[j].L.length E[j].c) ∧ (flatR E)[j * 2 + 1]? = some (.int .i64 E[j].age) := by
  have h := flatR_drop E j
  rw [List.drop_eq_getElem_cons hj] at h
  have h0 : ((flatR E).drop (j * 2))[0]? = some (.slice E[j].A E[j].L.length E[j].c) := by rw [h]; rfl
  have h1 : ((flatR E).drop (j * 2))[1]? = some (.int .i64 E[j].age) := by rw [h]; rfl
  rw [List.getElem?_drop] at h0 h1
  exact ⟨h0, h1⟩
theorem flatR_one (E : List Rd) : ∀ u ∈ flatR E, u.oneCell' = true := by
  intro u hu
  obtain ⟨r, _, hr⟩ := List.mem_flatMap.1 hu
  simp only [Rd.enc, List.mem_cons, List.not_mem_nil, or_false] at hr
  rcases hr with rfl | rfl <;> rfl
/-- packets lie in a row, in a block of a kind -/
def PsK (w : World) (K : Nat → Prop) (A : Option Addr) (L : List Pkt) : Prop := L = [] ∨ ∃ g o, A = some ⟨g, o, none⟩ ∧ K g ∧ ∀ j (hj : j < L.length), w.rangeAt g (o + j * 14) (encP L[j])
theorem PsK.mono {w w' : World} {K K' : Nat → Prop} {A : Option Addr} {L : List Pkt} (h : PsK w K A L) (hs : ∀ k, K k → w'.heap[k]? = w.heap[k]?) (hk : ∀ k, K k → K' k) : PsK w' K' A L := by
  rcases h with h | ⟨g, o, e1, e2, e3⟩
  · exact Or.inl h
  · exact Or.inr ⟨g, o, e1, hk g e2, fun j hj i v hv => (World.cell?_of_block (a := ⟨g, o + j * 14 + i, none⟩) (hs g e2)).trans (e3 j hj i v hv)⟩
theorem PsK.at {w : World} {K : Nat → Prop} {A : Option Addr} {L : List Pkt} (h : PsK w K A L) (B : Nat) (hk : ∀ k, K k → k < B) : PsAt w B A L := by
  rcases h with h | ⟨g, o, e1, e2, e3⟩
  · exact Or.inl h
  · exact Or.inr ⟨g, o, e1, hk g e2, e3⟩
/-! ### appending datagrams to a row of one's own -/
abbrev zdg : Array Value := #[.slice none 0 0, .int .i64 0]
theorem info_dg : (Try.prog.info? 100).map (fun i => (i.zero, i.size, i.bytes)) = some (some (.agg zdg), 2, 32) := by kernel_rfl
theorem own_dg {w : World} {B n : Nat} {v : Value} {E : List Rd} (h : w.ownsRow B 100 2 v n (flatR E)) : n = E.length ∧ ((v = .slice none 0 0 ∧ E = []) ∨ ∃ g c, v = .slice (some ⟨g, 0, none⟩) n c ∧ B ≤ g ∧ g < w.heap.size ∧ n ≤ c ∧ c ≤ maxLen) := by
  obtain ⟨hl, h⟩ := h
  rw [flatR_len] at hl
  refine ⟨by omega, ?_⟩
  rcases h with ⟨rfl, h0⟩ | ⟨g, cap, cur, rfl, hB, hg, h1, h2, _, _⟩
  · left
    exact ⟨rfl, List.length_eq_zero_iff.1 (by omega)⟩
  · right
    exact ⟨g, cap, rfl, hB, (Array.getElem?_eq_some_iff.1 hg).1, h1, h2⟩
/-- 'append(own, some...)' -/
theorem wpList_appD {w : World} {ops : Array Oper} {rest : List Oper} {o : Oper} {a : Act} {Q : Exit → Act → World → Prop} (hgd : o.guard = none) (s x : Operand)
    (ho : o.op = .call { callee := .builtin .append, args := #[s, x], argTypes := #[60, 60] })
    (base : Nat) (v : Value) (n : Nat) (E : List Rd) (hs : a.eval s = v) (hown : w.ownsRow base 100 2 v n (flatR E))
    (A : Option Addr) (m c : Nat) (F : List Rd) (hx : a.eval x = .slice A m c) (hm : m = F.length) (hsrc : (A = none ∧ c = 0 ∧ F = []) ∨ ∃ g o', A = some ⟨g, o', none⟩ ∧ ∀ j u, (flatR F)[j]? = some u → w.cell? ⟨g, o' + j, none⟩ = some u) (h16 : n + m ≤ 1000) (hbase : base ≤ w.heap.size)
    (h : ∀ v' w', w'.ownsRow base 100 2 v' (n + m) (flatR (E ++ F)) → w.grownBy w' v.ownBlock → wpList Try.prog ops Q rest (a.put o.dst v') w') : wpList Try.prog ops Q (o :: rest) a w := by
  obtain ⟨i0, hi, hz0, hz1, hz2⟩ := info_parts info_dg
  subst hm
  rcases hsrc with ⟨rfl, rfl, rfl⟩ | ⟨g, o', rfl, hc⟩
  · refine wpList_append_own_none hgd s x 60 ho base 100 i0 2 Try.underlying60 hi v n _ hs hown hx ?_
    exact h v w (by rw [List.append_nil]; exact hown) ⟨rfl, rfl, rfl, Nat.le_refl _, fun _ _ _ => rfl⟩
  · refine wpList_append_own w hgd s x 60 ho base 100 i0 (.agg zdg) 2 32 Try.underlying60 hi hz0 hz1 hz2 rfl (by decide) v n _ hs hown ⟨g, o', none⟩ F.length c (flatR F) hx (flatR_len F) ?_ (flatR_one F) (by unfold maxLen; omega) (by omega) hbase ?_
    · intro j u hj
      rw [addr_add]
      exact hc j u hj
    · intro v' w' hown' hg _
      rw [← flatR_app] at hown'
      exact h v' w' hown' hg
theorem grown_below {w w' : World} {v : Value} {base : Nat} (hg : w.grownBy w' v.ownBlock) (hb : ∀ g, v.ownBlock = some g → base ≤ g) (hB : base ≤ w.heap.size) : Below base w w' :=
  ⟨hg.os, hg.tape, hg.output, hg.size, fun k hk => hg.block k (Nat.lt_of_lt_of_le hk hB) (fun e => by have := hb k e.symm; omega)⟩
theorem slice_of (v : Value) (w : World) {B n : Nat} {E : List Rd} (h : w.ownsRow B 100 2 v n (flatR E)) : ∃ A c, v = .slice A n c ∧ n ≤ c ∧ c ≤ maxLen ∧ ((A = none ∧ c = 0 ∧ n = 0 ∧ E = []) ∨ ∃ g, A = some ⟨g, 0, none⟩ ∧ B ≤ g ∧ g < w.heap.size ∧ ∀ j u, (flatR E)[j]? = some u → w.cell? ⟨g, j, none⟩ = some u) := by
  obtain ⟨hn, h1 | ⟨g, c, rfl, hB, hg, hc1, hc2⟩⟩ := own_dg h
  · obtain ⟨rfl, rfl⟩ := h1
    have hn0 : n = 0 := hn
    subst hn0
    exact ⟨none, 0, rfl, Nat.le_refl _, by unfold maxLen; omega, Or.inl ⟨rfl, rfl, rfl, rfl⟩⟩
  · refine ⟨_, c, rfl, hc1, hc2, Or.inr ⟨g, rfl, hB, hg, fun j u hj => ?_⟩⟩
    have hjl : j < n * 2 := by
      have := (List.getElem?_eq_some_iff.1 hj).1
      rw [flatR_len] at this
      omega
    rw [h.cellAt j hjl]
    exact hj
/-! ### same -/
set_option maxHeartbeats 2000000 in
theorem same_any (x p : Pkt) (w : World) : Calls Try.prog 49 #[.agg x.c, .agg p.c] w fun e w' => e = .returned (.bool (sameW x p)) ∧ Below w.heap.size w w' := by
  have HX := Lib.hid ((Blk.new w 25 x.c 0 0 (Or.inl (Nat.le_refl _))).alloc (.cells p.c 25))
  have hP : Blk ((w.alloc (.cells x.c 25)).alloc (.cells p.c 25)) (w.heap.size + 1) 25 p.c := by
    have := Blk.new (w.alloc (.cells x.c 25)) 25 p.c 0 0 (Or.inl (Nat.le_refl _))
    rw [size_alloc] at this
    exact this
  have HP := Lib.hid hP
  have HB := Lib.hid (((Below.refl w.heap.size w).alloc (Nat.le_refl _) (.cells x.c 25)).alloc (by rw [size_alloc]; omega) (.cells p.c 25))
  have HV : Hid (sameW x p = (((x.f == p.f) && (x.t == p.t)) && ((decide (x.pr = p.pr)) && (decide (x.id = p.id))))) := Lib.hid rfl
  clear hP
  go_enter Try.func49, Try.ntmps49
  go_upto_region 1 with fail
  generalize World.alloc _ _ = w1 at HX HP HB ⊢
  have lf := HX.out.ld_pf
  have lt := HX.out.ld_pt
  have lf2 := HP.out.ld_pf
  have lt2 := HP.out.ld_pt
  obtain ⟨c0, c9⟩ := pk_c3 HX.out
  obtain ⟨d0, d9⟩ := pk_c3 HP.out
  have e1 : (Op.equalIn 10000 23 (arrV x.f) (arrV p.f)).run Try.prog w1 = .ok (x.f == p.f) w1 := run_eq_arr w1 9998 23 4 Try.underlying23 x.f p.f x.L.f p.L.f
  have e2 : (Op.equalIn 10000 23 (arrV x.t) (arrV p.t)).run Try.prog w1 = .ok (x.t == p.t) w1 := run_eq_arr w1 9998 23 4 Try.underlying23 x.t p.t x.L.t p.L.t
  clear HX HP
  generalize (x.f == p.f) = b1 at e1 HV
  generalize (x.t == p.t) = b2 at e2 HV
  obtain ⟨v1, hv1⟩ : ∃ a, arrV x.f = .agg a := ⟨_, rfl⟩
  obtain ⟨v2, hv2⟩ : ∃ a, arrV x.t = .agg a := ⟨_, rfl⟩
  obtain ⟨v3, hv3⟩ : ∃ a, arrV p.f = .agg a := ⟨_, rfl⟩
  obtain ⟨v4, hv4⟩ : ∃ a, arrV p.t = .agg a := ⟨_, rfl⟩
  rw [hv1] at lf e1
  rw [hv2] at lt e2
  rw [hv3] at lf2 e1
  rw [hv4] at lt2 e2
  clear hv1 hv2 hv3 hv4
  cases b1 with
  | false =>
    go_wp2
    go_ret
    exact ⟨by rw [HV.out]; rfl, HB.out⟩
  | true =>
    cases b2 with
    | false =>
      go_wp2
      go_ret
      exact ⟨by rw [HV.out]; rfl, HB.out⟩
    | true =>
      by_cases h3 : x.pr = p.pr
      · have h3b : (x.pr == p.pr) = true := beq_iff_eq.2 h3
        have H3 := Lib.hid h3
        by_cases h4 : x.id = p.id
        · have h4b : (x.id == p.id) = true := beq_iff_eq.2 h4
          have H4 := Lib.hid h4
          clear h3 h4
          go_wp2
          go_ret
          exact ⟨by rw [HV.out, decide_eq_true H3.out, decide_eq_true H4.out]; rfl, HB.out⟩
        · have h4b : (x.id == p.id) = false := beq_eq_false_iff_ne.2 h4
          have H4 := Lib.hid h4
          clear h3
          go_wp2
          go_ret
          exact ⟨by rw [HV.out, decide_eq_true H3.out, decide_eq_false H4.out]; rfl, HB.out⟩
      · have h3b : (x.pr == p.pr) = false := beq_eq_false_iff_ne.2 h3
        have H3 := Lib.hid h3
        go_wp2
        go_ret
        exact ⟨by rw [HV.out, decide_eq_false H3.out]; rfl, HB.out⟩
/-! ### without -/
set_option maxHeartbeats 2000000 in
theorem without_any (B : Nat) (v : Value) (n : Nat) (E : List Rd) (i : Nat) (hi : i < n) (hn : n ≤ 100) (w : World) (hB : B ≤ w.heap.size) (hown : w.ownsRow B 100 2 v n (flatR E)) :
    Calls Try.prog 50 #[v, .int .i64 (i : Int)] w fun e w' => ∃ v', e = .returned v' ∧ w'.ownsRow w.heap.size 100 2 v' (n - 1) (flatR (E.take i ++ E.drop (i + 1))) ∧ Below w.heap.size w w' := by
  obtain ⟨A, c, rfl, hc1, hc2, hsrc⟩ := slice_of v w hown
  have hEn := (own_dg hown).1
  obtain ⟨g, rfl, hBg, hg, hcells⟩ : ∃ g, A = some ⟨g, 0, none⟩ ∧ B ≤ g ∧ g < w.heap.size ∧ ∀ j u, (flatR E)[j]? = some u → w.cell? ⟨g, j, none⟩ = some u := by
    rcases hsrc with ⟨_, _, h0, _⟩ | h
    · omega
    · exact h
  have HC := Lib.hid hcells
  have HG := Lib.hid hg
  have HEN := Lib.hid hEn
  have hc63 : c ≤ 9223372036854775807 := hc2
  have h0 : w.ownsRow w.heap.size 100 2 (.slice none 0 0) 0 (flatR []) := ⟨rfl, Or.inl ⟨rfl, rfl⟩⟩
  have HO0 := Lib.hid h0
  have hiz : (i : Int) < (n : Int) := by omega
  have hi0 : 0 ≤ (i : Int) := by omega
  have hile : (i : Int) ≤ (n : Int) := by omega
  have hicz : (i : Int) ≤ (c : Int) := by omega
  have hw : IntKind.i64.wrap ((i : Int) + 1) = (i : Int) + 1 := IntWalk.i64_in _ ⟨by omega, by omega⟩
  have hi1 : (i : Int) + 1 ≤ (n : Int) := by omega
  have htn : ((i : Int) + 1).toNat = i + 1 := by omega
  have hncz : (n : Int) ≤ (c : Int) := by omega
  clear hsrc hown hcells hg hEn h0 hc2
  have tokA : True := trivial
  go_enter Try.func50, Try.ntmps50
  go_upto_region 3 with (have _t := tokA; clear tokA; at_builtin; go_loud (refine wpList_appD rfl (.tmp 6) (.tmp 9) rfl w.heap.size (.slice none 0 0) 0 [] rfl HO0.out (some ⟨g, 0, none⟩) i c (E.take i) rfl (by rw [List.length_take]; have := HEN.out; omega) (Or.inr ⟨g, 0, rfl, fun j u hj => by rw [Nat.zero_add]; refine HC.out j u ?_; rw [← flatR_take, List.getElem?_take] at hj; split at hj; exact hj; cases hj⟩) (by omega) (Nat.le_refl _) ?_; intro v1 w1 hown1 hg1; have HO1 := Lib.hid hown1; have HB1 := Lib.hid (grown_below hg1 (fun q hq => by simp [Value.ownBlock] at hq) (Nat.le_refl _)); clear hown1 hg1))
  have HC1 : Hid (∀ j u, (flatR E)[j]? = some u → w1.cell? ⟨g, j, none⟩ = some u) := Lib.hid (fun j u hj => (HB1.out.cell (p := ⟨g, j, none⟩) HG.out).trans (HC.out j u hj))
  have hz0 : 0 + i = i := Nat.zero_add i
  have HO1' : Hid (w1.ownsRow w.heap.size 100 2 v1 i (flatR (E.take i))) := Lib.hid (by have := HO1.out; rw [hz0, List.nil_append] at this; exact this)
  have tokB : True := trivial
  clear HO1 hz0
  have HSR : Hid (((if c = i + 1 then some ⟨g, 0, none⟩ else some ⟨g, (i + 1) * 2, none⟩ : Option Addr) = none ∧ c - (i + 1) = 0 ∧ E.drop (i + 1) = []) ∨ ∃ g' o', (if c = i + 1 then some ⟨g, 0, none⟩ else some ⟨g, (i + 1) * 2, none⟩ : Option Addr) = some ⟨g', o', none⟩ ∧ ∀ j u, (flatR (E.drop (i + 1)))[j]? = some u → w1.cell? ⟨g', o' + j, none⟩ = some u) := Lib.hid (by
    by_cases hci : c = i + 1
    · refine Or.inr ⟨g, 0, by rw [if_pos hci], fun j u hj => ?_⟩
      rw [List.drop_eq_nil_of_le (by have := HEN.out; omega)] at hj
      simp [flatR] at hj
    · refine Or.inr ⟨g, (i + 1) * 2, by rw [if_neg hci], fun j u hj => HC1.out _ u ?_⟩
      rw [← flatR_drop, List.getElem?_drop] at hj
      exact hj)
  obtain ⟨A1, c1, hv1, _⟩ := slice_of v1 w1 HO1'.out
  subst hv1
  go_wp2_with (have _t := tokB; clear tokB; at_builtin; go_loud (refine wpList_appD rfl (.tmp 11) (.tmp 15) rfl w.heap.size (.slice A1 i c1) i (E.take i) rfl HO1'.out (if c = i + 1 then some ⟨g, 0, none⟩ else some ⟨g, (i + 1) * 2, none⟩) (n - (i + 1)) (c - (i + 1)) (E.drop (i + 1)) rfl (by rw [List.length_drop]; have := HEN.out; omega) HSR.out (by omega) HB1.out.size ?_; intro v2 w2 hown2 hg2; have HO2 := Lib.hid hown2; have HB2 := Lib.hid (HB1.out.trans (grown_below hg2 (fun q hq => (HO1'.out.lt q hq).1) HB1.out.size)); clear hown2 hg2))
  all_goals (go_ret; exact ⟨v2, rfl, by have := HO2.out; rw [show i + (n - (i + 1)) = n - 1 by omega] at this; exact this, HB2.out⟩)
end Go.Proofs.Yticchchcobjpdaa
