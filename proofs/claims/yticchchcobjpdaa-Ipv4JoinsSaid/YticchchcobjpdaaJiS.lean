/- The pieces of a cut datagram: what Put tells of them, in whatever order they come. Plain facts; no program is walked. -/
import Derived.Test.YticchchcobjpdaaJiQ
namespace Go.Proofs.Yticchchcobjpdaa
set_option linter.unusedVariables false
set_option linter.unusedSimpArgs false
set_option maxRecDepth 100000
open Go.RowKit Go.Proofs Go.Shelf Go.Lib Go.Sort
def cF : List UInt8 := [1, 0, 0, 0]
def cT : List UInt8 := [2, 0, 0, 0]
theorem c_L : PkL cF cT := ⟨rfl, rfl⟩
/-- a piece of the law's datagram -/
def pkB (id a : Int) (mo : Bool) (d : List UInt8) : Pkt := ⟨id, cF, cT, 6, 9, a, mo, d, c_L⟩
/-- one piece stands ahead of another -/
def Bef (x y : Pkt) : Prop := endP x ≤ y.a ∧ x.a < y.a ∧ x.mo = true
theorem chain_ge : ∀ (S : List Pkt) (d e : List UInt8), chainD S d = some e → ∀ x ∈ S, (d.length : Int) ≤ x.a
  | [], d, e, _, x, hx => by cases hx
  | y :: S, d, e, h, x, hx => by
    rw [chainD] at h
    split at h
    · rename_i hy
      rcases List.mem_cons.1 hx with rfl | hx
      · omega
      · have := chain_ge S _ e h x hx
        rw [List.length_append] at this
        omega
    · cases h
theorem chain_pw : ∀ (l : List Pkt) (z : Pkt) (d e : List UInt8), chainD (l ++ [z]) d = some e → (∀ x ∈ l, 0 < x.d.length ∧ x.mo = true) → (l ++ [z]).Pairwise Bef
  | [], z, d, e, _, _ => List.pairwise_singleton _ _
  | y :: l, z, d, e, h, hl => by
    rw [List.cons_append] at h ⊢
    rw [chainD] at h
    split at h
    · rename_i hy
      refine List.Pairwise.cons (fun x hx => ?_) (chain_pw l z _ e h (fun x hx => hl x (List.mem_cons_of_mem _ hx)))
      have h1 := chain_ge _ _ e h x hx
      have h2 := hl y (List.mem_cons_self ..)
      rw [List.length_append] at h1
      refine ⟨?_, by omega, h2.2⟩
      unfold endP
      omega
    · cases h
theorem bef_clash {x p : Pkt} (h : Bef x p ∨ Bef p x) : clash x p = false ∧ sameB x p = false := by
  have hx : endP x = x.a + x.d.length := rfl
  have hp : endP p = p.a + p.d.length := rfl
  rcases h with ⟨h1, h2, h3⟩ | ⟨h1, h2, h3⟩
  · refine ⟨?_, ?_⟩
    · unfold clash meetB
      rw [h3, decide_eq_false (p := p.a < endP x) (by omega), decide_eq_false (p := endP p < endP x) (by omega)]
      simp
    · unfold sameB
      rw [decide_eq_false (by omega)]
      rfl
  · refine ⟨?_, ?_⟩
    · unfold clash meetB
      rw [h3, decide_eq_false (p := x.a < endP p) (by omega), decide_eq_false (p := endP x < endP p) (by omega)]
      simp
    · unfold sameB
      rw [decide_eq_false (by omega)]
      rfl
theorem chain_prefix : ∀ (S l : List Pkt) (d e g : List UInt8), chainD S d = some e → l.Pairwise Bef → chainD l d = some g → S.Nodup → (∀ x ∈ S, x ∈ l) → ∃ r, l = S ++ r
  | [], l, d, e, g, _, _, _, _, _ => ⟨l, rfl⟩
  | x :: S, l, d, e, g, h, hl, hg, hn, hs => by
    rw [chainD] at h
    split at h
    · rename_i hx
      cases l with
      | nil => exact absurd (hs x (List.mem_cons_self ..)) (by simp)
      | cons y l =>
        rw [chainD] at hg
        split at hg
        · rename_i hy
          rw [List.pairwise_cons] at hl
          have hxy : x = y := by
            rcases List.mem_cons.1 (hs x (List.mem_cons_self ..)) with h1 | h1
            · exact h1
            · have := (hl.1 x h1).2.1
              omega
          subst hxy
          rw [List.nodup_cons] at hn
          obtain ⟨r, hr⟩ := chain_prefix S l _ e g h hl.2 hg hn.2 (fun z hz => by
            rcases List.mem_cons.1 (hs z (List.mem_cons_of_mem _ hz)) with h1 | h1
            · subst h1; exact absurd hz hn.1
            · exact h1)
          exact ⟨r, by rw [hr]; rfl⟩
        · cases hg
    · cases h
/-- a datagram, cut into pieces -/
structure Full (id : Int) (data : List UInt8) (l : List Pkt) : Prop where
  form : ∀ x ∈ l, x = pkB id x.a x.mo x.d ∧ May x ∧ endP x ≤ 1200
  chain : chainD l [] = some data
  split : ∃ i z, l = i ++ [z] ∧ (∀ x ∈ i, 0 < x.d.length ∧ x.mo = true) ∧ z.mo = false
theorem Full.pw {id : Int} {data : List UInt8} {l : List Pkt} (h : Full id data l) : l.Pairwise Bef := by
  obtain ⟨i, z, rfl, h1, _⟩ := h.split
  exact chain_pw i z [] data h.chain h1
theorem Full.bef {id : Int} {data : List UInt8} {l : List Pkt} (h : Full id data l) {i j : Nat} (hi : i < l.length) (hj : j < l.length) (hij : i < j) : Bef l[i] l[j] := (List.pairwise_iff_getElem.1 h.pw) i j hi hj hij
theorem Full.or {id : Int} {data : List UInt8} {l : List Pkt} (h : Full id data l) {i j : Nat} (hi : i < l.length) (hj : j < l.length) (hij : i ≠ j) : Bef l[i] l[j] ∨ Bef l[j] l[i] := by
  rcases Nat.lt_or_gt_of_ne hij with h1 | h1
  · exact Or.inl (h.bef hi hj h1)
  · exact Or.inr (h.bef hj hi h1)
theorem Full.inj {id : Int} {data : List UInt8} {l : List Pkt} (h : Full id data l) {i j : Nat} (hi : i < l.length) (hj : j < l.length) (e : l[i].a = l[j].a) : i = j := by
  by_cases hij : i = j
  · exact hij
  · rcases h.or hi hj hij with h1 | h1
    · have := h1.2.1; omega
    · have := h1.2.1; omega
theorem Full.srt {id : Int} {data : List UInt8} {l : List Pkt} (h : Full id data l) : Srt keyP l := h.pw.imp (fun h => Int.le_of_lt h.2.1)
theorem Full.hk {id : Int} {data : List UInt8} {l : List Pkt} (h : Full id data l) : ∀ x ∈ l, ∀ y ∈ l, x.a = y.a → x = y := by
  intro x hx y hy e
  obtain ⟨i, hi, rfl⟩ := List.getElem_of_mem hx
  obtain ⟨j, hj, rfl⟩ := List.getElem_of_mem hy
  have := h.inj hi hj e
  subst this
  rfl
theorem Full.told {id : Int} {data : List UInt8} {l : List Pkt} (h : Full id data l) : doneV l = (pkB id 0 false data, true) := by
  obtain ⟨i, z, hl, h1, h2⟩ := h.split
  unfold doneV
  rw [h.chain]
  have hany : l.any (fun x => !x.mo) = true := by
    rw [hl, List.any_append]
    simp [h2]
  show (withD (l.headD pkt0) false data, l.any (fun x => !x.mo)) = _
  rw [hany]
  have hc := h.chain
  have hf := h.form
  cases l with
  | nil => simp at hl
  | cons y l =>
    rw [chainD] at hc
    split at hc
    · rename_i hy
      have := (hf y (List.mem_cons_self ..)).1
      show (withD y false data, true) = _
      rw [this]
      have hy0 : y.a = 0 := hy
      rw [hy0]
      rfl
    · cases hc
theorem Full.only {id : Int} {data : List UInt8} {l : List Pkt} (h : Full id data l) {S : List Pkt} (hn : S.Nodup) (hs : ∀ x ∈ S, x ∈ l) (hd : (doneV S).2 = true) : S = l := by
  unfold doneV at hd
  split at hd
  · cases hd
  · rename_i e he
    obtain ⟨r, hr⟩ := chain_prefix S l [] e data he h.pw h.chain hn hs
    rcases List.eq_nil_or_concat r with rfl | ⟨r, w, rfl⟩
    · rw [hr, List.append_nil]
    · rw [List.concat_eq_append] at hr
      obtain ⟨i, z, hl, h1, h2⟩ := h.split
      rw [hl, ← List.append_assoc] at hr
      have := (List.append_inj' hr rfl).1
      have hd' : S.any (fun x => !x.mo) = true := hd
      rw [List.any_eq_true] at hd'
      obtain ⟨x, hx, hxm⟩ := hd'
      have := (h1 x (by rw [this]; exact List.mem_append_left _ hx)).2
      rw [this] at hxm
      cases hxm
/-! ### what has come -/
/-- the pieces that have come, by their places in the list -/
def DC (id : Int) (l : List Pkt) (D : List Dg) (C : List Nat) : Prop := (C = [] ∧ D = []) ∨ ∃ d, D = [d] ∧ sameW d.nm (pkB id 0 false []) = true ∧ d.L.Perm (C.map (fun i => l[i]!)) ∧ C ≠ []
theorem pig {C : List Nat} {m : Nat} (hn : C.Nodup) (hm : ∀ i ∈ C, i < m) : C.length ≤ m := by
  have := List.Nodup.length_le_of_subset hn (l₂ := List.range m) (fun x hx => List.mem_range.2 (hm x hx))
  rwa [List.length_range] at this
theorem pig_all {C : List Nat} {m : Nat} (hn : C.Nodup) (hm : ∀ i ∈ C, i < m) (hl : C.length = m) : C.Perm (List.range m) := by
  rw [List.perm_ext_iff_of_nodup hn List.nodup_range]
  intro i
  refine ⟨fun h => List.mem_range.2 (hm i h), fun h => ?_⟩
  by_cases hi : i ∈ C
  · exact hi
  · have := pig (C := i :: C) (m := m) (List.nodup_cons.2 ⟨hi, hn⟩) (fun j hj => by
      rcases List.mem_cons.1 hj with rfl | hj
      · exact List.mem_range.1 h
      · exact hm j hj)
    rw [List.length_cons] at this
    omega
theorem map_range (l : List Pkt) : (List.range l.length).map (fun i => l[i]!) = l := by
  refine List.ext_getElem (by simp) fun i h1 h2 => ?_
  rw [List.getElem_map, List.getElem_range, getElem!_pos l i h2]
theorem sameW_B {id : Int} {x y : Pkt} {a b : Int} {m n : Bool} {c d : List UInt8} (hx : x = pkB id a m c) (hy : y = pkB id b n d) : sameW x y = true := by
  rw [hx, hy, sameW_iff]
  exact ⟨rfl, rfl, rfl, rfl⟩
theorem get_mem (l : List Pkt) {i : Nat} (hi : i < l.length) : l[i]! = l[i] := getElem!_pos l i hi
theorem cuts_put {id : Int} {data : List UInt8} {l : List Pkt} (h : Full id data l) (h2 : 2 ≤ l.length) {C : List Nat} (hC : C.Nodup) (hm : ∀ i ∈ C, i < l.length) {D : List Dg} (hD : DC id l D C) {k : Nat} (hk : k < l.length)
    {D' : List Dg} {out : Pkt} {ok : Bool} (hp : PutR D l[k] D' out ok) :
    (k ∈ C ∧ ok = false ∧ D' = D) ∨ (k ∉ C ∧ ((ok = true ∧ C.length + 1 = l.length ∧ D' = [] ∧ out = pkB id 0 false data) ∨ (ok = false ∧ C.length + 1 < l.length ∧ DC id l D' (C ++ [k])))) := by
  have hmem : l[k] ∈ l := List.getElem_mem hk
  have hform := h.form l[k] hmem
  have hnot : ¬ (l[k].a = 0 ∧ l[k].mo = false) := by
    rintro ⟨e1, e2⟩
    by_cases h0 : k = 0
    · subst h0
      have := (h.bef (i := 0) (j := 1) (by omega) (by omega) (by omega)).2.2
      rw [e2] at this
      cases this
    · have hb := h.bef (i := 0) (j := k) (by omega) hk (by omega)
      have := (h.form l[0] (List.getElem_mem _)).2.1.b
      have := hb.2.1
      omega
  have hfind : ∀ {pre post : List Dg} {d : Dg}, FindR D l[k] pre d post → pre = [] ∧ post = [] ∧ sameW d.nm (pkB id 0 false []) = true ∧ d.L.Perm (C.map (fun i => l[i]!)) ∧ (C ≠ [] → D = [d]) := by
    intro pre post d hf
    rcases hD with ⟨rfl, rfl⟩ | ⟨d0, rfl, hnm, hL, hne⟩
    · rcases hf with ⟨h1, _⟩ | ⟨_, h1, h2', h3, h4, _⟩
      · simp at h1
      · exact ⟨h1, h2', by rw [h3]; exact sameW_B hform.1 rfl, by rw [h4]; exact List.Perm.refl _, fun h => absurd rfl h⟩
    · rcases hf with ⟨h1, _, _⟩ | ⟨h1, _⟩
      · cases pre with
        | nil =>
          rw [List.nil_append] at h1
          injection h1 with e1 e2
          subst e1
          exact ⟨rfl, e2.symm, hnm, hL, fun _ => rfl⟩
        | cons x pre =>
          have := congrArg List.length h1
          simp at this
      · have := h1 d0 (List.mem_singleton.2 rfl)
        rw [sameW_trans hnm (sameW_B (id := id) rfl hform.1)] at this
        cases this
  have hany : ∀ {d : Dg}, d.L.Perm (C.map (fun i => l[i]!)) → d.L.any (fun x => sameB x l[k]) = decide (k ∈ C) := by
    intro d hL
    by_cases hkC : k ∈ C
    · rw [decide_eq_true hkC, List.any_eq_true]
      refine ⟨l[k], hL.mem_iff.2 (List.mem_map.2 ⟨k, hkC, get_mem l hk⟩), ?_⟩
      unfold sameB
      simp
    · rw [decide_eq_false hkC, List.any_eq_false]
      intro x hx
      obtain ⟨i, hi, rfl⟩ := List.mem_map.1 (hL.mem_iff.1 hx)
      rw [get_mem l (hm i hi)]
      have := (bef_clash (h.or (hm i hi) hk (fun e => hkC (e ▸ hi)))).2
      simp [this]
  have hfits : ∀ {d : Dg}, d.L.Perm (C.map (fun i => l[i]!)) → k ∉ C → fitsV d.L l[k] = true := by
    intro d hL hkC
    unfold fitsV
    rw [decide_eq_true hform.2.2, Bool.true_and, List.all_eq_true]
    intro x hx
    obtain ⟨i, hi, rfl⟩ := List.mem_map.1 (hL.mem_iff.1 hx)
    rw [get_mem l (hm i hi), (bef_clash (h.or (hm i hi) hk (fun e => hkC (e ▸ hi)))).1]
    rfl
  have hC' : k ∉ C → (C ++ [k]).Nodup ∧ (∀ i ∈ C ++ [k], i < l.length) := by
    intro hkC
    refine ⟨?_, fun i hi => ?_⟩
    · rw [List.nodup_append]
      refine ⟨hC, List.pairwise_singleton _ _, fun a ha b hb => ?_⟩
      rw [List.mem_singleton.1 hb]
      exact fun e => hkC (e ▸ ha)
    · rcases List.mem_append.1 hi with hi | hi
      · exact hm i hi
      · rw [List.mem_singleton.1 hi]; exact hk
  have hS : ∀ {d : Dg} {S : List Pkt}, d.L.Perm (C.map (fun i => l[i]!)) → k ∉ C → Stb keyP (d.L ++ [l[k]]) S → S.Perm ((C ++ [k]).map (fun i => l[i]!)) ∧ S.Nodup ∧ (∀ x ∈ S, x ∈ l) := by
    intro d S hL hkC hs
    have hp1 : S.Perm ((C ++ [k]).map (fun i => l[i]!)) := by
      refine hs.1.trans ?_
      rw [List.map_append]
      refine hL.append ?_
      rw [List.map_cons, List.map_nil, get_mem l hk]
    have hsub : ∀ x ∈ S, x ∈ l := fun x hx => by
      obtain ⟨i, hi, rfl⟩ := List.mem_map.1 (hp1.mem_iff.1 hx)
      rw [get_mem l ((hC' hkC).2 i hi)]
      exact List.getElem_mem _
    refine ⟨hp1, ?_, hsub⟩
    rw [hp1.nodup_iff]
    unfold List.Nodup
    rw [List.pairwise_map]
    have hnn := (hC' hkC).1
    unfold List.Nodup at hnn
    refine hnn.imp_of_mem ?_
    intro a b ha hb hab e
    rw [get_mem l ((hC' hkC).2 a ha), get_mem l ((hC' hkC).2 b hb)] at e
    exact hab (h.inj _ _ (congrArg Pkt.a e))
  have hfull : ∀ {d : Dg} {S : List Pkt}, d.L.Perm (C.map (fun i => l[i]!)) → k ∉ C → Stb keyP (d.L ++ [l[k]]) S → Srt keyP S → ((doneV S).2 = true → S = l ∧ C.length + 1 = l.length) ∧ ((doneV S).2 = false → C.length + 1 < l.length) := by
    intro d S hL hkC hs hsrt
    obtain ⟨p1, p2, p3⟩ := hS hL hkC hs
    have hlen : S.length = C.length + 1 := by
      have := p1.length_eq
      rw [List.length_map, List.length_append] at this
      exact this
    have hle := pig (hC' hkC).1 (hC' hkC).2
    rw [List.length_append, List.length_singleton] at hle
    refine ⟨fun hd => ?_, fun hd => ?_⟩
    · have := h.only p2 p3 hd
      refine ⟨this, ?_⟩
      rw [← hlen, this]
    · rcases Nat.lt_or_ge (C.length + 1) l.length with h1 | h1
      · exact h1
      · have hall := pig_all (hC' hkC).1 (hC' hkC).2 (by rw [List.length_append, List.length_singleton]; omega)
        have hpl : S.Perm l := by
          refine p1.trans ?_
          have := hall.map (fun i => l[i]!)
          rw [map_range] at this
          exact this
        have := srt_one hsrt h.srt hpl h.hk
        rw [this, h.told] at hd
        cases hd
  cases hp with
  | bad hb => exact absurd hform.2.1 hb
  | whole hb ha hm' => exact absurd ⟨ha, hm'⟩ hnot
  | @same pre post d hb hn hf hs =>
    obtain ⟨rfl, rfl, h3, h4, h5⟩ := hfind hf
    rw [hany h4, decide_eq_true_eq] at hs
    refine Or.inl ⟨hs, rfl, ?_⟩
    exact (h5 (fun e => by rw [e] at hs; cases hs)).symm
  | @clash pre post d hb hn hf hs hc =>
    obtain ⟨rfl, rfl, h3, h4, h5⟩ := hfind hf
    rw [hany h4, decide_eq_false_iff_not] at hs
    rw [hfits h4 hs] at hc
    cases hc
  | @part pre post d hb hn hf hs hc d' s1 s2 hd hnm hag =>
    obtain ⟨rfl, rfl, h3, h4, h5⟩ := hfind hf
    rw [hany h4, decide_eq_false_iff_not] at hs
    refine Or.inr ⟨hs, Or.inr ⟨rfl, (hfull h4 hs s2 s1).2 hd, Or.inr ⟨d', rfl, by rw [hnm]; exact h3, (hS h4 hs s2).1, by simp⟩⟩⟩
  | @done pre post d hb hn hf hs hc S s1 s2 hd =>
    obtain ⟨rfl, rfl, h3, h4, h5⟩ := hfind hf
    rw [hany h4, decide_eq_false_iff_not] at hs
    obtain ⟨e1, e2⟩ := (hfull h4 hs s2 s1).1 hd
    refine Or.inr ⟨hs, Or.inl ⟨rfl, e2, rfl, ?_⟩⟩
    rw [e1, h.told]
theorem one_put {id : Int} {data : List UInt8} {l : List Pkt} (h : Full id data l) (h1 : l.length = 1) {D' : List Dg} {out : Pkt} {ok : Bool} (hp : PutR [] (l[0]'(by omega)) D' out ok) : ok = true ∧ D' = [] ∧ out = pkB id 0 false data := by
  have hl : l = [l[0]'(by omega)] := by
    match l, h1 with
    | [x], _ => rfl
  obtain ⟨i, z, hl2, _, hz⟩ := h.split
  have hd := h.told
  have hform := h.form (l[0]'(by omega)) (List.getElem_mem _)
  have hmo : (l[0]'(by omega)).mo = false := by
    match l, h1, hl2 with
    | [x], _, e =>
      match i, e with
      | [], e => rw [List.nil_append] at e; injection e with e; rw [show ([x] : List Pkt)[0] = x from rfl, e]; exact hz
      | y :: i, e => have := congrArg List.length e; simp at this
  have ha : (l[0]'(by omega)).a = 0 := by
    have hc := h.chain
    rw [hl] at hc
    rw [chainD] at hc
    split at hc
    · rename_i hh; exact hh
    · cases hc
  have hdd : (l[0]'(by omega)).d = data := by
    have hc := h.chain
    rw [hl] at hc
    rw [chainD, if_pos (show _ = (([] : List UInt8).length : Int) from ha), chainD] at hc
    exact Option.some.inj hc
  have hx : l[0]'(by omega) = pkB id 0 false data := by rw [hform.1, ha, hmo, hdd]
  cases hp with
  | bad hb => exact absurd hform.2.1 hb
  | whole hb ha' hm' => exact ⟨rfl, rfl, hx⟩
  | same hb hn hf hs => exact absurd ⟨ha, hmo⟩ hn
  | clash hb hn hf hs hc => exact absurd ⟨ha, hmo⟩ hn
  | part hb hn hf hs hc d' s1 s2 hd hnm hag => exact absurd ⟨ha, hmo⟩ hn
  | done hb hn hf hs hc S s1 s2 hd => exact absurd ⟨ha, hmo⟩ hn
end Go.Proofs.Yticchchcobjpdaa
