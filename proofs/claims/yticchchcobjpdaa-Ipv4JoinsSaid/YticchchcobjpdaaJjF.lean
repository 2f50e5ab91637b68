/- Parts of the document's Put: its blocks; what stands in a piece's way, byte by byte; pieces appended. No condition beyond what each lemma says. -/
import Derived.Test.YticchchcobjpdaaJjD
import Derived.Test.YticchchcobjpdaaPkMayR
namespace Go.Proofs.Yticchchcobjpdaa
set_option linter.unusedVariables false
set_option linter.unusedSimpArgs false
set_option maxRecDepth 100000
open Go.RowKit Go.Proofs Go.Shelf Go.Lib Go.Sort
attribute [local go_sem ↓] Go.wp_at_zero Go.wp_at_succ
attribute [local go_sem ↓] ld_pk ld_ip ld_wh
/-! ### what stands in a piece's way -/
def ovN (x p : Pkt) (n : Nat) : Bool := (List.range n).any (fun t => decide (x.a ≤ p.a + (t : Int)) && decide (p.a + (t : Int) < endP x))
theorem ovN_succ (x p : Pkt) (n : Nat) : ovN x p (n + 1) = (ovN x p n || (decide (x.a ≤ p.a + (n : Int)) && decide (p.a + (n : Int) < endP x))) := by unfold ovN; rw [List.range_succ, List.any_append]; simp
def cl2 (x p : Pkt) : Bool := (!x.mo && decide (endP x < endP p)) || (!p.mo && (decide (endP p < endP x) || !x.mo))
theorem ov_true {x p : Pkt} (h : meetB x p = true) (hp : 0 < p.d.length) (hx : 0 < x.d.length) : ovN x p p.d.length = true := by
  unfold meetB at h
  rw [Bool.and_eq_true, decide_eq_true_eq, decide_eq_true_eq] at h
  have e1 : endP x = x.a + x.d.length := rfl
  have e2 : endP p = p.a + p.d.length := rfl
  unfold ovN
  rw [List.any_eq_true]
  refine ⟨(x.a - p.a).toNat, List.mem_range.2 (by omega), ?_⟩
  rw [Bool.and_eq_true, decide_eq_true_eq, decide_eq_true_eq]
  omega
theorem ov_false {x p : Pkt} (h : meetB x p = false) : ovN x p p.d.length = false := by
  unfold meetB at h
  have e2 : endP p = p.a + p.d.length := rfl
  unfold ovN
  rw [List.any_eq_false]
  intro t ht
  have ht' := List.mem_range.1 ht
  rw [Bool.and_eq_true, decide_eq_true_eq, decide_eq_true_eq]
  rintro ⟨h1, h2⟩
  rw [decide_eq_true (by omega), decide_eq_true (by omega)] at h
  cases h
theorem clash_ref {x p : Pkt} (hx : May x) (hp : May p) : (ovN x p p.d.length || cl2 x p) = clash x p := by
  have e1 : endP x = x.a + x.d.length := rfl
  have e2 : endP p = p.a + p.d.length := rfl
  have bx := hx.b
  have bp := hp.b
  have key : cl2 x p = false → ovN x p p.d.length = meetB x p := by
    intro hc
    cases hm : meetB x p with
    | false => exact ov_false hm
    | true =>
      by_cases h1 : 0 < p.d.length
      · by_cases h2 : 0 < x.d.length
        · exact ov_true hm h1 h2
        · exfalso
          have hxm : x.mo = false := by
            cases hh : x.mo with
            | false => rfl
            | true => exact absurd (bx.2.2.2.2 hh).1 h2
          unfold cl2 at hc
          unfold meetB at hm
          rw [Bool.and_eq_true, decide_eq_true_eq, decide_eq_true_eq] at hm
          rw [hxm, decide_eq_true (p := endP x < endP p) (by omega)] at hc
          simp at hc
      · exfalso
        have hpm : p.mo = false := by
          cases hh : p.mo with
          | false => rfl
          | true => exact absurd (bp.2.2.2.2 hh).1 h1
        unfold cl2 at hc
        unfold meetB at hm
        rw [Bool.and_eq_true, decide_eq_true_eq, decide_eq_true_eq] at hm
        rw [hpm, decide_eq_true (p := endP p < endP x) (by omega)] at hc
        simp at hc
  have e3 : clash x p = (meetB x p || cl2 x p) := by
    unfold clash cl2
    cases x.mo <;> cases p.mo <;> simp [Bool.or_assoc]
  rw [e3]
  cases hc : cl2 x p with
  | true => simp
  | false => rw [key hc]
/-! ### packets that came, appended to none -/
theorem ps_flat {w : World} {B : Nat} {g o : Nat} {L : List Pkt} (h : ∀ j (hj : j < L.length), w.rangeAt g (o + j * 14) (encP L[j])) : ∀ t u, (flatP L)[t]? = some u → w.cell? ⟨g, o + t, none⟩ = some u := by
  intro t u hu
  rw [flatP_eq, List.getElem?_map] at hu
  obtain ⟨t', ht', hu'⟩ := Option.map_eq_some_iff.1 hu
  obtain ⟨hlt, rfl⟩ := List.getElem?_eq_some_iff.1 ht'
  rw [List.length_range] at hlt
  rw [List.getElem_range] at hu'
  have hj : t / 14 < L.length := by omega
  have hr := h (t / 14) hj (t % 14) u (by
    have hm : t % 14 < 14 := Nat.mod_lt _ (by decide)
    have e1 : L.toArray[t / 14]! = L[t / 14] := by simp [hj]
    rw [e1] at hu'
    rw [← hu', getElem!_pos _ _ (by rw [encP_len]; exact hm), List.getElem?_eq_getElem (by rw [encP_len]; exact hm)])
  have e : o + t / 14 * 14 + t % 14 = o + t := by omega
  rw [e] at hr
  exact hr
theorem wpList_appPs {w : World} {ops : Array Oper} {rest : List Oper} {o : Oper} {a : Act} {Q : Exit → Act → World → Prop} (hgd : o.guard = none) (s x : Operand)
    (ho : o.op = .call { callee := .builtin .append, args := #[s, x], argTypes := #[51, 51] })
    (B : Nat) (L : List Pkt) (hs : a.eval s = .slice none 0 0) (A : Option Addr) (c : Nat) (hx : a.eval x = .slice A L.length c) (BB : Nat) (hA : PsAt w BB A L) (hne : L ≠ []) (hn : L.length ≤ 100000) (hBw : B ≤ w.heap.size)
    (h : ∀ g cap w', PkRow w' g cap L → Below w.heap.size w w' → B ≤ g → wpList Try.prog ops Q rest (a.put o.dst (.slice (some ⟨g, 0, none⟩) L.length cap)) w') : wpList Try.prog ops Q (o :: rest) a w := by
  obtain ⟨i0, hi0, hz0, hz1, hz2⟩ := info_parts info_pkt
  have hpos : 0 < L.length := List.length_pos_iff.2 hne
  obtain ⟨g0, o0, rfl, _, hcs⟩ := hA.cells 0 hpos
  have h0 : w.ownsRow B 25 14 (.slice none 0 0) 0 ([] : List Value) := ⟨rfl, Or.inl ⟨rfl, rfl⟩⟩
  refine wpList_append_lies w hgd s x 51 ho B 25 i0 (.agg pk0) 14 64 Try.underlying51 hi0 hz0 hz1 hz2 rfl (by decide) (.slice none 0 0) 0 [] hs h0 ⟨g0, o0, none⟩ L.length c (flatP L) hx (flatP_len L) ?_ ?_ hpos (by unfold maxLen; omega) (by omega) hBw _ rfl ?_
  · intro j u hj
    rw [addr_add]
    exact ps_flat (B := 0) hcs j u hj
  · intro u hu
    rw [flatP_eq] at hu
    obtain ⟨t', ht', rfl⟩ := List.mem_map.1 hu
    have hm : t' % 14 < 14 := Nat.mod_lt _ (by decide)
    refine encP_one L.toArray[t' / 14]! _ ?_
    rw [getElem!_pos (encP L.toArray[t' / 14]!) _ (by rw [encP_len]; exact hm)]
    exact List.getElem_mem _
  · intro g cap w' hown hg hgo hgl
    rw [List.nil_append, Nat.zero_add] at hown
    have := h g cap w' (own_pk hown rfl) ⟨hg.os, hg.tape, hg.output, hg.size, fun k hk => hg.block k hk (by simp [Value.ownBlock])⟩ (hown.lt g rfl).1
    rw [Nat.zero_add]
    exact this
theorem wpList_appPn {w : World} {ops : Array Oper} {rest : List Oper} {o : Oper} {a : Act} {Q : Exit → Act → World → Prop} (hgd : o.guard = none) (s x : Operand)
    (ho : o.op = .call { callee := .builtin .append, args := #[s, x], argTypes := #[51, 51] })
    (B : Nat) (A : Option Addr) (n c : Nat) (L : List Pkt) (hnL : n = L.length) (hs : a.eval s = .slice A n c) (hr : PkO w A c L) (hB : ∀ g, A = some ⟨g, 0, none⟩ → B ≤ g) (b : Nat) (e : TypeId) (X : Pkt) (hx : a.eval x = .slice (some ⟨b, 0, none⟩) 1 1) (hb : Blk w b e X.c) (hn : L.length ≤ 100000) (hBw : B ≤ w.heap.size)
    (h : ∀ g cap w', PkRow w' g cap (L ++ [X]) → Fr (fun k => A = some ⟨k, 0, none⟩) w w' → (A = some ⟨g, 0, none⟩ ∨ w.heap.size ≤ g) → B ≤ g → wpList Try.prog ops Q rest (a.put o.dst (.slice (some ⟨g, 0, none⟩) (n + 1) cap)) w') : wpList Try.prog ops Q (o :: rest) a w := by
  subst hnL
  exact wpList_appP hgd s x ho B A c L hs hr hB b e X hx hb hn hBw h
/-! ### the blocks of a call -/
abbrev zrj : Array Value := #[.int .i64 0, .slice none 0 0]
structure Bx (w : World) (b0 : Nat) (lim : Int) (v : Value) (p : Pkt) : Prop where
  j : Blk w b0 62 #[.int .i64 lim, v]
  p : Blk w (b0 + 1) 25 p.c
  rj : Blk w (b0 + 1 + 1) 62 zrj
  rp : Blk w (b0 + 1 + 1 + 1) 25 pk0
  nb : Blk w (b0 + 1 + 1 + 1 + 1) 25 pkt0.c
theorem Bx.at {w w' : World} {b0 : Nat} {lim : Int} {v : Value} {p : Pkt} (h : Bx w b0 lim v p) (hb : Below (b0 + 5) w w') : Bx w' b0 lim v p :=
  ⟨h.j.of_heap (hb.block _ (by omega)), h.p.of_heap (hb.block _ (by omega)), h.rj.of_heap (hb.block _ (by omega)), h.rp.of_heap (hb.block _ (by omega)), h.nb.of_heap (hb.block _ (by omega))⟩
theorem Bx.set {w : World} {b0 : Nat} {lim : Int} {v : Value} {p : Pkt} (h : Bx w b0 lim v p) (u : Value) : Bx (w.setCell ⟨b0, 1, none⟩ u) b0 lim u p :=
  ⟨h.j.set 1 u, h.p.set_other ⟨b0, 1, none⟩ u (show b0 + 1 ≠ b0 by omega), h.rj.set_other ⟨b0, 1, none⟩ u (show b0 + 1 + 1 ≠ b0 by omega), h.rp.set_other ⟨b0, 1, none⟩ u (show b0 + 1 + 1 + 1 ≠ b0 by omega), h.nb.set_other ⟨b0, 1, none⟩ u (show b0 + 1 + 1 + 1 + 1 ≠ b0 by omega)⟩
theorem st_rjJ (p v : Value) : Instr.storeAt 62 p v = St 62 p v := rfl
theorem st_pk_run {w : World} {b : Nat} {e : TypeId} {C : Array Value} (h : Blk w b e C) (hC : C.size = 14) (q : Pkt) : (St 25 (.pointer (some ⟨b, 0, none⟩)) (.agg q.c)).run Try.prog w = .ok () (w.setCells b 0 q.c.toList) :=
  run_storeAt_mid (P := Try.prog) w b 0 25 q.c (by have := h.there; rw [hC] at this; rw [q.c_size]; exact this) (by rw [q.c_size]; exact size_pk) (by have := q.c_one; simpa using this)
theorem st_rj_run {w : World} {b : Nat} {e : TypeId} {C : Array Value} (h : Blk w b e C) (hC : C.size = 2) (lim : Int) (v : Value) (hv : v.oneCell' = true) : (St 62 (.pointer (some ⟨b, 0, none⟩)) (.agg #[.int .i64 lim, v])).run Try.prog w = .ok () (w.setCells b 0 [.int .i64 lim, v]) :=
  run_storeAt_mid (P := Try.prog) w b 0 62 #[.int .i64 lim, v] (by have := h.there; rw [hC] at this; exact this) (by exact size_rj) (by simp [hv]; rfl)
theorem results_cct {P : Program} {fn : Func} {p q u : Tmp} {ty tz : TypeId} (h : fn.results = #[.cell p ty, .cell q tz, .tmp u]) (tmps : Array Value) (w : World) (b c : Nat) (e f : TypeId) (C D : Array Value) (d d' : TypeDesc)
    (hp : tmps.getD p undef = .pointer (some ⟨b, 0, none⟩)) (hc : Blk w b e C) (hu : P.underlying ty = some d) (hd : d.isRow = true) (hi : (P.info? ty).map (·.size) = some C.size)
    (hq : tmps.getD q undef = .pointer (some ⟨c, 0, none⟩)) (hc2 : Blk w c f D) (hu2 : P.underlying tz = some d') (hd2 : d'.isRow = true) (hi2 : (P.info? tz).map (·.size) = some D.size) :
    (results fn tmps).run P w = .ok (.tuple #[.agg C, .agg D, tmps.getD u undef]) w := by
  have h1 := run_loadVar_mid (P := P) w b 0 ty C.toList d hc.range hu hd (by simpa using hi)
  have h2 := run_loadVar_mid (P := P) w c 0 tz D.toList d' hc2.range hu2 hd2 (by simpa using hi2)
  simp only [Array.toArray_toList] at h1 h2
  rw [Array.getD_eq_getD_getElem?] at hp hq
  simp only [results, h]
  simp [Sem.run_bind, Result.andThen, hp, hq, asAddr, h1, h2]
theorem own_weakR {w : World} {B B' n : Nat} {v : Value} {xs : List Value} (h : w.ownsRow B 100 2 v n xs) (hB : B' ≤ B) : w.ownsRow B' 100 2 v n xs := by
  obtain ⟨h1, h2⟩ := h
  refine ⟨h1, h2.imp (fun h => h) ?_⟩
  rintro ⟨g, cap, cur, e, hg, h3⟩
  exact ⟨g, cap, cur, e, Nat.le_trans hB hg, h3⟩
theorem one_slice {v : Value} {w : World} {B n : Nat} {E : List Rd} (h : w.ownsRow B 100 2 v n (flatR E)) : v.oneCell' = true := by
  obtain ⟨A, c, rfl, _⟩ := slice_of v w h
  rfl
theorem refMayP_any (p : Pkt) (h : Pin p) (hd : p.d.length ≤ 100000) (w : World) : Calls Try.prog 31 #[.agg p.c] w fun e w' => e = .returned (.bool (mayP p)) ∧ Below w.heap.size w w' :=
  refMay_any p.id p.f p.t p.pr p.tt p.a p.mo p.d p.L h.id h.pr h.tt h.a (by omega) w
theorem own_keptB {w w' : World} {B n : Nat} {v : Value} {E : List Rd} (h : w.ownsRow B 100 2 v n (flatR E)) (hb : Below w.heap.size w w') : w'.ownsRow B 100 2 v n (flatR E) :=
  h.kept (show w.grownBy w' none from ⟨hb.os, hb.tape, hb.output, hb.size, fun q hq _ => hb.block q hq⟩) (by cases Value.ownBlock _ <;> simp)
theorem own_same {w w' : World} {B n : Nat} {v : Value} {xs : List Value} (h : w.ownsRow B 100 2 v n xs) (hs : ∀ g, v.ownBlock = some g → w'.heap[g]? = w.heap[g]?) : w'.ownsRow B 100 2 v n xs := by
  obtain ⟨h1, h2⟩ := h
  refine ⟨h1, h2.imp (fun h => h) ?_⟩
  rintro ⟨g, cap, cur, e, hg, h3, h4⟩
  exact ⟨g, cap, cur, e, hg, (hs g (by rw [e]; rfl)).trans h3, h4⟩
theorem own_ge {w : World} {B n : Nat} {v : Value} {xs : List Value} (h : w.ownsRow B 100 2 v n xs) : ∀ g, v.ownBlock = some g → B ≤ g ∧ g < w.heap.size ∧ ∃ C, At w g 100 C := by
  intro g hg
  refine ⟨(h.lt g hg).1, (h.lt g hg).2, ?_⟩
  obtain ⟨_, ⟨rfl, _⟩ | ⟨g', cap, cur, e, _, h3, _⟩⟩ := h
  · simp [Value.ownBlock] at hg
  · rw [e] at hg
    simp only [Value.ownBlock] at hg
    obtain rfl := Option.some.inj hg
    exact ⟨cur, h3⟩
theorem headD_get (l : List Pkt) (h : 0 < l.length) : l.headD pkt0 = l[0] := by
  cases l with
  | nil => simp at h
  | cons x l => rfl
theorem keepR_sub (E : List Rd) : ∀ x ∈ keepR E, x ∈ E := by
  unfold keepR
  split
  · exact fun x hx => List.mem_of_mem_tail hx
  · exact fun x hx => hx
theorem FindV.sub {E : List Rd} {p : Pkt} {pre post : List Rd} {d : Rd} (h : FindV E p pre d post) : ∀ x ∈ pre ++ post, x ∈ E := by
  intro x hx
  rcases h with ⟨rfl, _⟩ | ⟨_, rfl, rfl, _⟩
  · rcases List.mem_append.1 hx with h | h
    · exact List.mem_append_left _ h
    · exact List.mem_append_right _ (List.mem_cons_of_mem _ h)
  · rw [List.append_nil] at hx
    exact keepR_sub E x hx
theorem flatR_set (E : List Rd) (pre post : List Rd) (d d' : Rd) (hE : E = pre ++ d :: post) : ((flatR E).set (pre.length * 2) (.slice d'.A d'.L.length d'.c)).set (pre.length * 2 + 1) (.int .i64 d'.age) = flatR (pre ++ d' :: post) := by
  subst hE
  rw [flatR_app, flatR_app]
  have hl := flatR_len pre
  rw [List.set_append_right _ _ (by omega), List.set_append_right _ _ (by omega)]
  congr 1
  rw [show pre.length * 2 - (flatR pre).length = 0 by omega, show pre.length * 2 + 1 - (flatR pre).length = 1 by omega]
  rfl
end Go.Proofs.Yticchchcobjpdaa
