/- The document's whole of pieces, and that it is what done tells of them, sorted. Plain facts; no program is walked. -/
import Derived.Test.YticchchcobjpdaaJiS
namespace Go.Proofs.Yticchchcobjpdaa
set_option linter.unusedVariables false
set_option linter.unusedSimpArgs false
set_option maxRecDepth 100000
open Go.RowKit Go.Proofs Go.Shelf Go.Lib Go.Sort
/-! ### the document's answer -/
def covP (x : Pkt) (k : Nat) : Bool := decide (x.a ≤ (k : Int) ∧ (k : Int) < endP x)
def covB (l : List Pkt) (k : Nat) : Bool := l.any (fun x => covP x k)
def bytB (l : List Pkt) (k : Nat) : UInt8 := l.foldl (fun b x => if covP x k then x.d.getD ((k : Int) - x.a).toNat 0 else b) 0
def endV (l : List Pkt) : Int := l.foldl (fun e x => if x.mo then e else endP x) (-1)
def fstV (l : List Pkt) : Pkt := l.foldl (fun o x => if x.a = 0 then x else o) pkt0
def has0 (l : List Pkt) : Bool := l.any (fun x => decide (x.a = 0))
def joinedV (l : List Pkt) : Pkt × Bool :=
  if endV l < 0 then (pkt0, false)
  else if has0 l && (List.range (endV l).toNat).all (covB l) then (withD (fstV l) false ((List.range (endV l).toNat).map (bytB l)), true) else (pkt0, false)
/-! ### pieces that may stand beside one another -/
structure Cmp (x y : Pkt) : Prop where
  meet : meetB x y = false
  l : x.mo = false → y.mo = true ∧ endP y ≤ endP x
  r : y.mo = false → x.mo = true ∧ endP x ≤ endP y
theorem meet_comm (x y : Pkt) : meetB x y = meetB y x := by unfold meetB; rw [Bool.and_comm]
theorem Cmp.symm {x y : Pkt} (h : Cmp x y) : Cmp y x := ⟨by rw [meet_comm]; exact h.meet, h.r, h.l⟩
theorem cmp_of {x p : Pkt} (h : clash x p = false) : Cmp x p := by
  unfold clash at h
  simp only [Bool.or_eq_false_iff, Bool.and_eq_false_iff, Bool.not_eq_false', decide_eq_false_iff_not] at h
  obtain ⟨⟨h1, h2⟩, h3⟩ := h
  refine ⟨h1, fun hx => ?_, fun hp => ?_⟩
  · rcases h2 with h2 | ⟨h2, h4⟩
    · rw [hx] at h2; cases h2
    · exact ⟨h2, by omega⟩
  · refine ⟨?_, ?_⟩
    · rcases h2 with h2 | ⟨h2, h4⟩
      · exact h2
      · rw [hp] at h2; cases h2
    · rcases h3 with h3 | h3
      · rw [hp] at h3; cases h3
      · omega
/-- pieces of one datagram that is not whole -/
structure LOk (l : List Pkt) : Prop where
  pw : l.Pairwise Cmp
  each : ∀ x ∈ l, May x ∧ endP x ≤ 1200 ∧ ¬ (x.a = 0 ∧ x.mo = false)
theorem LOk.nil : LOk [] := ⟨List.Pairwise.nil, fun x h => (by cases h)⟩
theorem LOk.perm {l m : List Pkt} (h : LOk l) (p : l.Perm m) : LOk m := ⟨(p.pairwise_iff (fun {x y} h => Cmp.symm h)).1 h.pw, fun x hx => h.each x (p.mem_iff.2 hx)⟩
theorem LOk.snoc {l : List Pkt} {p : Pkt} (h : LOk l) (hp : May p) (hn : ¬ (p.a = 0 ∧ p.mo = false)) (hf : fitsV l p = true) : LOk (l ++ [p]) := by
  unfold fitsV at hf
  rw [Bool.and_eq_true, decide_eq_true_eq, List.all_eq_true] at hf
  refine ⟨?_, fun x hx => ?_⟩
  · rw [List.pairwise_append]
    refine ⟨h.pw, List.pairwise_singleton _ _, fun a ha b hb => ?_⟩
    rw [List.mem_singleton.1 hb]
    have := hf.2 a ha
    exact cmp_of (by simpa using this)
  · rcases List.mem_append.1 hx with hx | hx
    · exact h.each x hx
    · rw [List.mem_singleton.1 hx]
      exact ⟨hp, hf.1, hn⟩
theorem LOk.two {l : List Pkt} (h : LOk l) {x y : Pkt} (hx : x ∈ l) (hy : y ∈ l) (hne : x ≠ y) : Cmp x y := by
  obtain ⟨i, hi, rfl⟩ := List.getElem_of_mem hx
  obtain ⟨j, hj, rfl⟩ := List.getElem_of_mem hy
  have hp := List.pairwise_iff_getElem.1 h.pw
  rcases Nat.lt_trichotomy i j with h1 | h1 | h1
  · exact hp i j hi hj h1
  · subst h1; exact absurd rfl hne
  · exact (hp j i hj hi h1).symm
theorem endP_ge (x : Pkt) : x.a ≤ endP x := by unfold endP; omega
theorem LOk.cov_one {l : List Pkt} (h : LOk l) {x y : Pkt} (hx : x ∈ l) (hy : y ∈ l) {k : Nat} (cx : covP x k = true) (cy : covP y k = true) : x = y := by
  by_cases e : x = y
  · exact e
  · have hm := (h.two hx hy e).meet
    unfold covP at cx cy
    rw [decide_eq_true_eq] at cx cy
    unfold meetB at hm
    rw [decide_eq_true (by omega), decide_eq_true (by omega)] at hm
    cases hm
/-! ### the folds -/
theorem end_fold : ∀ (l : List Pkt) (e : Int), (∃ z ∈ l, z.mo = false ∧ l.foldl (fun e x => if x.mo then e else endP x) e = endP z) ∨ ((∀ z ∈ l, z.mo = true) ∧ l.foldl (fun e x => if x.mo then e else endP x) e = e)
  | [], e => Or.inr ⟨fun z h => (by cases h), rfl⟩
  | x :: l, e => by
    rw [List.foldl_cons]
    rcases end_fold l (if x.mo then e else endP x) with ⟨z, hz, h1, h2⟩ | ⟨h1, h2⟩
    · exact Or.inl ⟨z, List.mem_cons_of_mem _ hz, h1, h2⟩
    · cases hm : x.mo with
      | true =>
        refine Or.inr ⟨fun z hz => ?_, by rw [hm] at h2; exact h2⟩
        rcases List.mem_cons.1 hz with rfl | hz
        · exact hm
        · exact h1 z hz
      | false => exact Or.inl ⟨x, List.mem_cons_self .., hm, by rw [hm] at h2; exact h2⟩
theorem end_spec (l : List Pkt) : (∃ z ∈ l, z.mo = false ∧ endV l = endP z) ∨ ((∀ z ∈ l, z.mo = true) ∧ endV l = -1) := end_fold l (-1)
theorem LOk.end_le {l : List Pkt} (h : LOk l) (he : 0 ≤ endV l) : ∀ x ∈ l, endP x ≤ endV l := by
  intro x hx
  rcases end_spec l with ⟨z, hz, h1, h2⟩ | ⟨_, h2⟩
  · rw [h2]
    by_cases e : x = z
    · rw [e]; exact Int.le_refl _
    · exact ((h.two hx hz e).r h1).2
  · omega
theorem fst_fold : ∀ (l : List Pkt) (o : Pkt), (∃ x ∈ l, x.a = 0 ∧ l.foldl (fun o x => if x.a = 0 then x else o) o = x) ∨ ((∀ x ∈ l, x.a ≠ 0) ∧ l.foldl (fun o x => if x.a = 0 then x else o) o = o)
  | [], o => Or.inr ⟨fun z h => (by cases h), rfl⟩
  | x :: l, o => by
    rw [List.foldl_cons]
    rcases fst_fold l (if x.a = 0 then x else o) with ⟨z, hz, h1, h2⟩ | ⟨h1, h2⟩
    · exact Or.inl ⟨z, List.mem_cons_of_mem _ hz, h1, h2⟩
    · by_cases hm : x.a = 0
      · exact Or.inl ⟨x, List.mem_cons_self .., hm, by rw [if_pos hm] at h2; rw [if_pos hm]; exact h2⟩
      · refine Or.inr ⟨fun z hz => ?_, by rw [if_neg hm] at h2; rw [if_neg hm]; exact h2⟩
        rcases List.mem_cons.1 hz with rfl | hz
        · exact hm
        · exact h1 z hz
theorem byt_fold (k : Nat) : ∀ (l : List Pkt) (b : UInt8), (∃ x ∈ l, covP x k = true ∧ l.foldl (fun b x => if covP x k then x.d.getD ((k : Int) - x.a).toNat 0 else b) b = x.d.getD ((k : Int) - x.a).toNat 0) ∨ ((∀ x ∈ l, covP x k = false) ∧ l.foldl (fun b x => if covP x k then x.d.getD ((k : Int) - x.a).toNat 0 else b) b = b)
  | [], b => Or.inr ⟨fun z h => (by cases h), rfl⟩
  | x :: l, b => by
    rw [List.foldl_cons]
    rcases byt_fold k l (if covP x k then x.d.getD ((k : Int) - x.a).toNat 0 else b) with ⟨z, hz, h1, h2⟩ | ⟨h1, h2⟩
    · exact Or.inl ⟨z, List.mem_cons_of_mem _ hz, h1, h2⟩
    · cases hm : covP x k with
      | true => exact Or.inl ⟨x, List.mem_cons_self .., hm, by rw [hm] at h2; exact h2⟩
      | false =>
        refine Or.inr ⟨fun z hz => ?_, by rw [hm] at h2; exact h2⟩
        rcases List.mem_cons.1 hz with rfl | hz
        · exact hm
        · exact h1 z hz
/-! ### sorted pieces -/
theorem LOk.after {S : List Pkt} (h : LOk S) (hs : Srt keyP S) : S.Pairwise (fun x y => endP x ≤ y.a) := by
  have h1 := h.pw.and hs
  have h2 : S.Pairwise (fun x y => y ∈ S ∧ (Cmp x y ∧ keyP x ≤ keyP y)) := h1.imp_of_mem (fun _ hb hr => ⟨hb, hr⟩)
  refine h2.imp ?_
  rintro x y ⟨hy, hc, hk⟩
  have hk' : x.a ≤ y.a := hk
  have hb := (h.each y hy).1.b
  cases hm : y.mo with
  | false =>
    have := (hc.r hm).2
    by_cases hd : y.d.length = 0
    · have e : endP y = y.a := by unfold endP; omega
      omega
    · have hmt := hc.meet
      unfold meetB at hmt
      have e : endP y = y.a + y.d.length := rfl
      rw [decide_eq_true (p := x.a < endP y) (by omega), Bool.true_and, decide_eq_false_iff_not] at hmt
      omega
  | true =>
    have hd := (hb.2.2.2.2 hm).1
    have hmt := hc.meet
    unfold meetB at hmt
    have e : endP y = y.a + y.d.length := rfl
    rw [decide_eq_true (p := x.a < endP y) (by omega), Bool.true_and, decide_eq_false_iff_not] at hmt
    omega
theorem chain_len2 : ∀ (S : List Pkt) (d e : List UInt8), chainD S d = some e → ((e.length : Int) = d.length ∨ ∃ x ∈ S, (e.length : Int) = endP x) ∧ (∀ x ∈ S, endP x ≤ e.length) ∧ d.length ≤ e.length
  | [], d, e, h => by
    rw [chainD] at h
    cases h
    exact ⟨Or.inl rfl, fun x hx => (by cases hx), Nat.le_refl _⟩
  | x :: S, d, e, h => by
    rw [chainD] at h
    split at h
    · rename_i hx
      obtain ⟨h1, h2, h3⟩ := chain_len2 S _ e h
      rw [List.length_append] at h1 h3
      have hxe : endP x = x.a + x.d.length := rfl
      refine ⟨Or.inr ?_, fun y hy => ?_, by omega⟩
      · rcases h1 with h1 | ⟨y, hy, h1⟩
        · exact ⟨x, List.mem_cons_self .., by omega⟩
        · exact ⟨y, List.mem_cons_of_mem _ hy, h1⟩
      · rcases List.mem_cons.1 hy with rfl | hy
        · omega
        · exact h2 y hy
    · cases h
theorem chain_cov : ∀ (S : List Pkt) (d e : List UInt8), chainD S d = some e → (∃ r, e = d ++ r) ∧ ∀ k : Nat, d.length ≤ k → k < e.length → ∃ x ∈ S, covP x k = true ∧ e[k]? = x.d[((k : Int) - x.a).toNat]?
  | [], d, e, h => by
    rw [chainD] at h
    cases h
    exact ⟨⟨[], by simp⟩, fun k h1 h2 => by omega⟩
  | x :: S, d, e, h => by
    rw [chainD] at h
    split at h
    · rename_i hx
      obtain ⟨⟨r, hr⟩, h2⟩ := chain_cov S _ e h
      refine ⟨⟨x.d ++ r, by rw [hr, List.append_assoc]⟩, fun k hk1 hk2 => ?_⟩
      by_cases hk : k < d.length + x.d.length
      · refine ⟨x, List.mem_cons_self .., ?_, ?_⟩
        · unfold covP endP
          rw [decide_eq_true_eq]
          omega
        · have e1 : ((k : Int) - x.a).toNat = k - d.length := by omega
          rw [hr, e1, List.append_assoc, List.getElem?_append_right hk1, List.getElem?_append_left (by omega)]
      · obtain ⟨y, hy, h3⟩ := h2 k (by rw [List.length_append]; omega) hk2
        exact ⟨y, List.mem_cons_of_mem _ hy, h3⟩
    · cases h
theorem chain_gap : ∀ (S : List Pkt) (d : List UInt8), chainD S d = none → S.Pairwise (fun x y => endP x ≤ y.a) → (∀ x ∈ S, (d.length : Int) ≤ x.a) → ∃ y ∈ S, ∃ k : Nat, d.length ≤ k ∧ (k : Int) < y.a ∧ ∀ x ∈ S, covP x k = false
  | [], d, h, _, _ => by rw [chainD] at h; cases h
  | x :: S, d, h, hp, hd => by
    rw [chainD] at h
    rw [List.pairwise_cons] at hp
    have hx := hd x (List.mem_cons_self ..)
    split at h
    · rename_i hxe
      have he : endP x = x.a + x.d.length := rfl
      obtain ⟨y, hy, k, h1, h2, h3⟩ := chain_gap S _ h hp.2 (fun z hz => by
        have := hp.1 z hz
        rw [List.length_append]
        omega)
      rw [List.length_append] at h1
      refine ⟨y, List.mem_cons_of_mem _ hy, k, by omega, h2, fun z hz => ?_⟩
      rcases List.mem_cons.1 hz with rfl | hz
      · unfold covP
        rw [decide_eq_false_iff_not]
        omega
      · exact h3 z hz
    · rename_i hxe
      refine ⟨x, List.mem_cons_self .., d.length, Nat.le_refl _, by omega, fun z hz => ?_⟩
      unfold covP
      rw [decide_eq_false_iff_not]
      rcases List.mem_cons.1 hz with rfl | hz
      · omega
      · have h1 := hp.1 z hz
        have h2 := endP_ge x
        omega
theorem covB_iff {l : List Pkt} {k : Nat} : covB l k = true ↔ ∃ x ∈ l, covP x k = true := by
  unfold covB
  rw [List.any_eq_true]
theorem joined_done {l S : List Pkt} (h : LOk l) (hs : Srt keyP S) (hp : S.Perm l) : joinedV l = if (doneV S).2 = true then doneV S else (pkt0, false) := by
  have hS : LOk S := h.perm hp.symm
  have haft := hS.after hs
  have ha0 : ∀ x ∈ S, 0 ≤ x.a := fun x hx => (hS.each x hx).1.b.1
  cases hch : chainD S [] with
  | none =>
    have hd : doneV S = (pkt0, false) := by unfold doneV; rw [hch]
    rw [hd, if_neg (by simp)]
    unfold joinedV
    split
    · rfl
    · rename_i he
      obtain ⟨y, hy, k, h1, h2, h3⟩ := chain_gap S [] hch haft (fun x hx => ha0 x hx)
      have hyl := h.end_le (by omega) y (hp.mem_iff.1 hy)
      have hye := endP_ge y
      rw [if_neg]
      intro hc
      rw [Bool.and_eq_true, List.all_eq_true] at hc
      have := hc.2 k (List.mem_range.2 (by omega))
      obtain ⟨x, hx, hxc⟩ := covB_iff.1 this
      rw [h3 x (hp.mem_iff.2 hx)] at hxc
      cases hxc
  | some e =>
    have hd : doneV S = (withD (S.headD pkt0) false e, S.any (fun x => !x.mo)) := by unfold doneV; rw [hch]
    cases hany : S.any (fun x => !x.mo) with
    | false =>
      rw [hd, hany, if_neg (by simp)]
      unfold joinedV
      rcases end_spec l with ⟨z, hz, h1, h2⟩ | ⟨_, h2⟩
      · have := List.any_eq_false.1 hany z (hp.mem_iff.2 hz)
        rw [h1] at this
        exact absurd rfl this
      · rw [if_pos (by omega)]
    | true =>
      rw [hd, hany, if_pos rfl]
      obtain ⟨z, hz, hzm⟩ := List.any_eq_true.1 hany
      have hzm' : z.mo = false := by simpa using hzm
      have hzl := hp.mem_iff.1 hz
      have hend : endV l = endP z := by
        rcases end_spec l with ⟨z', hz', h1, h2⟩ | ⟨h1, _⟩
        · by_cases hzz : z' = z
          · rw [h2, hzz]
          · have := ((h.two hz' hzl hzz).l h1).1
            rw [hzm'] at this
            cases this
        · have := h1 z hzl
          rw [hzm'] at this
          cases this
      obtain ⟨c1, c2, c3⟩ := chain_len2 S [] e hch
      have hz0 := ha0 z hz
      have hze := endP_ge z
      have hel : (e.length : Int) = endV l := by
        have h1 := c2 z hz
        rw [hend]
        rcases c1 with c1 | ⟨x, hx, c1⟩
        · have : (([] : List UInt8).length : Int) = 0 := rfl
          omega
        · have := h.end_le (by rw [hend]; omega) x (hp.mem_iff.1 hx)
          rw [hend] at this
          omega
      have hetn : (endV l).toNat = e.length := by omega
      obtain ⟨_, hcov⟩ := chain_cov S [] e hch
      unfold joinedV
      rw [if_neg (by omega), hetn]
      cases S with
      | nil => cases hz
      | cons s S =>
        have hs0 : s.a = 0 := by
          rw [chainD] at hch
          split at hch
          · rename_i hh; exact hh
          · cases hch
        have hsl : s ∈ l := hp.mem_iff.1 (List.mem_cons_self ..)
        have hz1 : has0 l = true := by
          unfold has0
          rw [List.any_eq_true]
          exact ⟨s, hsl, decide_eq_true hs0⟩
        have hall : (List.range e.length).all (covB l) = true := by
          rw [List.all_eq_true]
          intro k hk
          obtain ⟨x, hx, hxc, _⟩ := hcov k (Nat.zero_le _) (List.mem_range.1 hk)
          exact covB_iff.2 ⟨x, hp.mem_iff.1 hx, hxc⟩
        rw [hz1, hall, Bool.and_self, if_pos rfl]
        have cov0 : ∀ x ∈ l, x.a = 0 → covP x 0 = true := by
          intro x hx hx0
          obtain ⟨m1, _, m3⟩ := h.each x hx
          have hmo : x.mo = true := by
            cases hh : x.mo with
            | true => rfl
            | false => exact absurd ⟨hx0, hh⟩ m3
          have := (m1.b.2.2.2.2 hmo).1
          unfold covP endP
          rw [decide_eq_true_eq]
          omega
        have hf : fstV l = s := by
          rcases fst_fold l pkt0 with ⟨x, hx, h1, h2⟩ | ⟨h1, _⟩
          · unfold fstV
            rw [h2]
            exact h.cov_one hx hsl (cov0 x hx h1) (cov0 s hsl hs0)
          · exact absurd hs0 (h1 s hsl)
        have hb : (List.range e.length).map (bytB l) = e := by
          refine List.ext_getElem (by simp) fun k h1 h2 => ?_
          rw [List.getElem_map, List.getElem_range]
          obtain ⟨x, hx, hxc, hxe⟩ := hcov k (Nat.zero_le _) h2
          rcases byt_fold k l 0 with ⟨y, hy, g1, g2⟩ | ⟨g1, _⟩
          · have hxy := h.cov_one (hp.mem_iff.1 hx) hy hxc g1
            unfold bytB
            rw [g2, ← hxy, List.getD_eq_getElem?_getD, ← hxe, List.getElem?_eq_getElem h2]
            rfl
          · rw [g1 x (hp.mem_iff.1 hx)] at hxc
            cases hxc
        rw [hf, hb]
        rfl
end Go.Proofs.Yticchchcobjpdaa
