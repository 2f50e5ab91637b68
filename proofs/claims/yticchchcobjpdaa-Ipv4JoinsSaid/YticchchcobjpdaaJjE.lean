/- What the document tells of a piece, as a relation; that the joiner tells the same. Plain facts; no program is walked. -/
import Derived.Test.YticchchcobjpdaaJjC
namespace Go.Proofs.Yticchchcobjpdaa
set_option linter.unusedVariables false
set_option linter.unusedSimpArgs false
set_option maxRecDepth 100000
open Go.RowKit Go.Proofs Go.Shelf Go.Lib Go.Sort
/-- the datagrams that stay when a new one comes -/
def keepR (E : List Rd) : List Rd := if E.length = 4 then E.tail else E
def hdP (r : Rd) : Pkt := r.L.headD pkt0
/-- the datagram of a piece, and those beside it -/
def FindV (E : List Rd) (p : Pkt) (pre : List Rd) (d : Rd) (post : List Rd) : Prop :=
  (E = pre ++ d :: post ∧ sameW (hdP d) p = true ∧ ∀ x ∈ pre, sameW (hdP x) p = false) ∨
  ((∀ x ∈ E, sameW (hdP x) p = false) ∧ pre = keepR E ∧ post = [] ∧ d.L = [] ∧ d.age = 0)
inductive RefR (E : List Rd) (p : Pkt) : List Rd → Pkt → Bool → Prop
  | bad (h : ¬ May p) : RefR E p E pkt0 false
  | whole (h : May p) (ha : p.a = 0) (hm : p.mo = false) : RefR E p E p true
  | same {pre post : List Rd} {d : Rd} (h : May p) (hn : ¬ (p.a = 0 ∧ p.mo = false)) (hf : FindV E p pre d post) (hs : d.L.any (fun x => sameB x p) = true) : RefR E p E pkt0 false
  | clash {pre post : List Rd} {d : Rd} (h : May p) (hn : ¬ (p.a = 0 ∧ p.mo = false)) (hf : FindV E p pre d post) (hs : d.L.any (fun x => sameB x p) = false) (hc : fitsV d.L p = false) : RefR E p (pre ++ post) pkt0 false
  | part {pre post : List Rd} {d : Rd} (h : May p) (hn : ¬ (p.a = 0 ∧ p.mo = false)) (hf : FindV E p pre d post) (hs : d.L.any (fun x => sameB x p) = false) (hc : fitsV d.L p = true) (hj : (joinedV (d.L ++ [p])).2 = false) (d' : Rd) (hL : d'.L = d.L ++ [p]) (hag : d'.age = d.age) : RefR E p (pre ++ d' :: post) pkt0 false
  | done {pre post : List Rd} {d : Rd} (h : May p) (hn : ¬ (p.a = 0 ∧ p.mo = false)) (hf : FindV E p pre d post) (hs : d.L.any (fun x => sameB x p) = false) (hc : fitsV d.L p = true) (hj : (joinedV (d.L ++ [p])).2 = true) : RefR E p (pre ++ post) (joinedV (d.L ++ [p])).1 true
def tickR (lim : Int) (E : List Rd) : List Rd := (E.filter (fun r => decide (r.age + 1 < lim))).map (fun r => ⟨r.A, r.c, r.L, r.age + 1⟩)
/-! ### the two states -/
/-- one datagram, as the program and as the document have it -/
structure One (d : Dg) (r : Rd) : Prop where
  perm : d.L.Perm r.L
  age : d.age = r.age
  ok : LOk r.L
  ne : r.L ≠ []
  nm : ∀ x ∈ r.L, sameW x d.nm = true
inductive Sim : List Dg → List Rd → Prop
  | nil : Sim [] []
  | cons {d : Dg} {r : Rd} {D : List Dg} {E : List Rd} (h : One d r) (k : Sim D E) : Sim (d :: D) (r :: E)
theorem Sim.len {D : List Dg} {E : List Rd} (h : Sim D E) : D.length = E.length := by
  induction h with
  | nil => rfl
  | cons _ _ ih => rw [List.length_cons, List.length_cons, ih]
theorem Sim.app {D D' : List Dg} {E E' : List Rd} (h : Sim D E) (k : Sim D' E') : Sim (D ++ D') (E ++ E') := by
  induction h with
  | nil => exact k
  | cons h1 _ ih => exact Sim.cons h1 ih
theorem Sim.each {D : List Dg} {E : List Rd} (h : Sim D E) : ∀ r ∈ E, ∃ d ∈ D, One d r := by
  induction h with
  | nil => intro r hr; cases hr
  | cons h1 _ ih =>
    intro r hr
    rcases List.mem_cons.1 hr with rfl | hr
    · exact ⟨_, List.mem_cons_self .., h1⟩
    · obtain ⟨d, hd, h2⟩ := ih r hr
      exact ⟨d, List.mem_cons_of_mem _ hd, h2⟩
theorem One.hd {d : Dg} {r : Rd} (h : One d r) : sameW (hdP r) d.nm = true := by
  refine h.nm _ ?_
  have := h.ne
  unfold hdP
  cases hL : r.L with
  | nil => exact absurd hL this
  | cons x l => simp
theorem One.find {d : Dg} {r : Rd} (h : One d r) (p : Pkt) : sameW d.nm p = sameW (hdP r) p := by
  cases h1 : sameW d.nm p with
  | true => exact (sameW_trans h.hd h1).symm
  | false =>
    cases h2 : sameW (hdP r) p with
    | false => rfl
    | true =>
      rw [sameW_trans (sameW_symm h.hd) h2] at h1
      cases h1
theorem Sim.keep {D : List Dg} {E : List Rd} (h : Sim D E) (h4 : D.length ≤ 4) : Sim (keepD D) (keepR E) := by
  unfold keepD keepR
  have hl := h.len
  by_cases hc : 4 ≤ D.length
  · rw [if_pos hc, if_pos (by omega)]
    cases h with
    | nil => exact Sim.nil
    | cons _ k => exact k
  · rw [if_neg hc, if_neg (by omega)]
    exact h
/-- the datagram of a piece, in both -/
structure Mat (d : Dg) (r : Rd) (p : Pkt) : Prop where
  perm : d.L.Perm r.L
  age : d.age = r.age
  ok : LOk r.L
  nm : ∀ x ∈ r.L, sameW x d.nm = true
  p : sameW d.nm p = true
theorem sim_split : ∀ {D : List Dg} {E : List Rd}, Sim D E → ∀ {p : Pkt} {pre post : List Dg} {d : Dg} {pre' post' : List Rd} {r : Rd}, D = pre ++ d :: post → E = pre' ++ r :: post' → sameW d.nm p = true → (∀ x ∈ pre, sameW x.nm p = false) → sameW (hdP r) p = true → (∀ x ∈ pre', sameW (hdP x) p = false) → Sim pre pre' ∧ One d r ∧ Sim post post' := by
  intro D E h
  induction h with
  | nil =>
    intro p pre post d pre' post' r h1
    simp at h1
  | @cons d0 r0 D E h1 k ih =>
    intro p pre post d pre' post' r e1 e2 a1 a2 b1 b2
    cases pre with
    | nil =>
      rw [List.nil_append] at e1
      injection e1 with e1 e1'
      subst e1
      subst e1'
      cases pre' with
      | nil =>
        rw [List.nil_append] at e2
        injection e2 with e2 e2'
        subst e2
        subst e2'
        exact ⟨Sim.nil, h1, k⟩
      | cons y l =>
        rw [List.cons_append] at e2
        injection e2 with e2 e2'
        subst e2
        have := b2 r0 (List.mem_cons_self ..)
        rw [← h1.find p, a1] at this
        cases this
    | cons x l =>
      rw [List.cons_append] at e1
      injection e1 with e1 e1'
      subst e1
      subst e1'
      cases pre' with
      | nil =>
        rw [List.nil_append] at e2
        injection e2 with e2 e2'
        subst e2
        have := a2 d0 (List.mem_cons_self ..)
        rw [h1.find p, b1] at this
        cases this
      | cons y l' =>
        rw [List.cons_append] at e2
        injection e2 with e2 e2'
        subst e2
        subst e2'
        obtain ⟨s1, s2, s3⟩ := ih rfl rfl a1 (fun z hz => a2 z (List.mem_cons_of_mem _ hz)) b1 (fun z hz => b2 z (List.mem_cons_of_mem _ hz))
        exact ⟨Sim.cons h1 s1, s2, s3⟩
theorem find_mat {D : List Dg} {E : List Rd} (h : Sim D E) (h4 : D.length ≤ 4) {p : Pkt} {pre post : List Dg} {d : Dg} {pre' post' : List Rd} {r : Rd} (hf : FindR D p pre d post) (hv : FindV E p pre' r post') :
    Sim pre pre' ∧ Sim post post' ∧ Mat d r p ∧ (d.L ≠ [] → D = pre ++ d :: post) := by
  rcases hf with ⟨e1, a1, a2⟩ | ⟨n1, rfl, rfl, a1, a2, a3⟩
  · rcases hv with ⟨e2, b1, b2⟩ | ⟨n2, _⟩
    · obtain ⟨s1, s2, s3⟩ := sim_split h e1 e2 a1 a2 b1 b2
      exact ⟨s1, s3, ⟨s2.perm, s2.age, s2.ok, s2.nm, a1⟩, fun _ => e1⟩
    · exfalso
      have key : ∀ {D : List Dg} {E : List Rd}, Sim D E → (∀ x ∈ E, sameW (hdP x) p = false) → ∀ x ∈ D, sameW x.nm p = false := by
        intro D E h
        induction h with
        | nil => intro _ x hx; cases hx
        | @cons d0 r0 D E h1 k ih =>
          intro hn x hx
          rcases List.mem_cons.1 hx with rfl | hx
          · rw [h1.find p]; exact hn r0 (List.mem_cons_self ..)
          · exact ih (fun y hy => hn y (List.mem_cons_of_mem _ hy)) x hx
      have := key h n2 d (by rw [e1]; exact mem_self)
      rw [a1] at this
      cases this
  · rcases hv with ⟨e2, b1, b2⟩ | ⟨n2, rfl, rfl, b1, b2⟩
    · exfalso
      obtain ⟨d0, hd0, h1⟩ := h.each r (by rw [e2]; exact List.mem_append_right _ (List.mem_cons_self ..))
      have := n1 d0 hd0
      rw [h1.find p, b1] at this
      cases this
    · refine ⟨h.keep h4, Sim.nil, ⟨(by simp [a2, b1]), (by rw [a3, b2]), (by rw [b1]; exact LOk.nil), (by rw [b1]; intro x hx; cases hx), (by rw [a1]; exact sameW_self p)⟩, fun h => absurd a2 h⟩
theorem any_perm {l m : List Pkt} (h : l.Perm m) (f : Pkt → Bool) : l.any f = m.any f := by
  cases h1 : m.any f with
  | true =>
    obtain ⟨x, hx, hf⟩ := List.any_eq_true.1 h1
    exact List.any_eq_true.2 ⟨x, h.mem_iff.2 hx, hf⟩
  | false =>
    rw [List.any_eq_false] at h1 ⊢
    exact fun x hx => h1 x (h.mem_iff.1 hx)
theorem all_perm {l m : List Pkt} (h : l.Perm m) (f : Pkt → Bool) : l.all f = m.all f := by
  cases h1 : m.all f with
  | true =>
    rw [List.all_eq_true] at h1 ⊢
    exact fun x hx => h1 x (h.mem_iff.1 hx)
  | false =>
    obtain ⟨x, hx, hf⟩ := List.all_eq_false.1 h1
    exact List.all_eq_false.2 ⟨x, h.mem_iff.2 hx, hf⟩
theorem fits_perm {l m : List Pkt} (h : l.Perm m) (p : Pkt) : fitsV l p = fitsV m p := by unfold fitsV; rw [all_perm h]
theorem sim_put {D D' : List Dg} {E E' : List Rd} (h : Sim D E) (h4 : D.length ≤ 4) {p out out' : Pkt} {ok ok' : Bool} (hp : PutR D p D' out ok) (hr : RefR E p E' out' ok') : out = out' ∧ ok = ok' ∧ Sim D' E' := by
  have joined : ∀ {d : Dg} {r : Rd} {S : List Pkt}, Mat d r p → May p → ¬ (p.a = 0 ∧ p.mo = false) → fitsV d.L p = true → Srt keyP S → Stb keyP (d.L ++ [p]) S → (joinedV (r.L ++ [p]) = if (doneV S).2 = true then doneV S else (pkt0, false)) ∧ S.Perm (r.L ++ [p]) ∧ LOk (r.L ++ [p]) := by
    intro d r S hm hmay hn hf s1 s2
    have hok := hm.ok.snoc hmay hn (by rw [← fits_perm hm.perm]; exact hf)
    have hpm : S.Perm (r.L ++ [p]) := s2.1.trans (hm.perm.append_right _)
    exact ⟨joined_done hok s1 hpm, hpm, hok⟩
  cases hp with
  | bad hb =>
    cases hr with
    | bad _ => exact ⟨rfl, rfl, h⟩
    | whole h1 => exact absurd h1 hb
    | same h1 => exact absurd h1 hb
    | clash h1 => exact absurd h1 hb
    | part h1 => exact absurd h1 hb
    | done h1 => exact absurd h1 hb
  | whole hb ha hm =>
    cases hr with
    | bad h1 => exact absurd hb h1
    | whole => exact ⟨rfl, rfl, h⟩
    | same _ hn => exact absurd ⟨ha, hm⟩ hn
    | clash _ hn => exact absurd ⟨ha, hm⟩ hn
    | part _ hn => exact absurd ⟨ha, hm⟩ hn
    | done _ hn => exact absurd ⟨ha, hm⟩ hn
  | @same pre post d hb hn hf hs =>
    cases hr with
    | bad h1 => exact absurd hb h1
    | whole _ ha hm => exact absurd ⟨ha, hm⟩ hn
    | same _ _ hv hs' =>
      obtain ⟨_, _, _, m4⟩ := find_mat h h4 hf hv
      rw [← m4 (fun e => by rw [e] at hs; simp at hs)]
      exact ⟨rfl, rfl, h⟩
    | clash _ _ hv hs' =>
      rw [any_perm (find_mat h h4 hf hv).2.2.1.perm, hs'] at hs
      cases hs
    | part _ _ hv hs' =>
      rw [any_perm (find_mat h h4 hf hv).2.2.1.perm, hs'] at hs
      cases hs
    | done _ _ hv hs' =>
      rw [any_perm (find_mat h h4 hf hv).2.2.1.perm, hs'] at hs
      cases hs
  | @clash pre post d hb hn hf hs hc =>
    cases hr with
    | bad h1 => exact absurd hb h1
    | whole _ ha hm => exact absurd ⟨ha, hm⟩ hn
    | same _ _ hv hs' =>
      rw [any_perm (find_mat h h4 hf hv).2.2.1.perm, hs'] at hs
      cases hs
    | clash _ _ hv hs' hc' =>
      obtain ⟨m1, m2, _, _⟩ := find_mat h h4 hf hv
      exact ⟨rfl, rfl, m1.app m2⟩
    | part _ _ hv hs' hc' =>
      rw [fits_perm (find_mat h h4 hf hv).2.2.1.perm, hc'] at hc
      cases hc
    | done _ _ hv hs' hc' =>
      rw [fits_perm (find_mat h h4 hf hv).2.2.1.perm, hc'] at hc
      cases hc
  | @part pre post d hb hn hf hs hc d' s1 s2 hd hnm hag =>
    cases hr with
    | bad h1 => exact absurd hb h1
    | whole _ ha hm => exact absurd ⟨ha, hm⟩ hn
    | same _ _ hv hs' =>
      rw [any_perm (find_mat h h4 hf hv).2.2.1.perm, hs'] at hs
      cases hs
    | clash _ _ hv hs' hc' =>
      rw [fits_perm (find_mat h h4 hf hv).2.2.1.perm, hc'] at hc
      cases hc
    | @part pre' post' r _ _ hv hs' hc' hj r' hL hag' =>
      obtain ⟨m1, m2, m3, _⟩ := find_mat h h4 hf hv
      obtain ⟨_, j2, j3⟩ := joined m3 hb hn hc s1 s2
      refine ⟨rfl, rfl, m1.app (Sim.cons ⟨by rw [hL]; exact j2, by rw [hag, hag', m3.age], by rw [hL]; exact j3, by rw [hL]; simp, ?_⟩ m2)⟩
      intro x hx
      rw [hL] at hx
      rw [hnm]
      rcases List.mem_append.1 hx with hx | hx
      · exact m3.nm x hx
      · rw [List.mem_singleton.1 hx]
        exact sameW_symm m3.p
    | done _ _ hv hs' hc' hj =>
      obtain ⟨_, _, m3, _⟩ := find_mat h h4 hf hv
      obtain ⟨j1, _, _⟩ := joined m3 hb hn hc s1 s2
      rw [j1, if_neg (by rw [hd]; simp)] at hj
      cases hj
  | @done pre post d hb hn hf hs hc S s1 s2 hd =>
    cases hr with
    | bad h1 => exact absurd hb h1
    | whole _ ha hm => exact absurd ⟨ha, hm⟩ hn
    | same _ _ hv hs' =>
      rw [any_perm (find_mat h h4 hf hv).2.2.1.perm, hs'] at hs
      cases hs
    | clash _ _ hv hs' hc' =>
      rw [fits_perm (find_mat h h4 hf hv).2.2.1.perm, hc'] at hc
      cases hc
    | part _ _ hv hs' hc' hj =>
      obtain ⟨_, _, m3, _⟩ := find_mat h h4 hf hv
      obtain ⟨j1, _, _⟩ := joined m3 hb hn hc s1 s2
      rw [j1, if_pos hd, hd] at hj
      cases hj
    | done _ _ hv hs' hc' hj =>
      obtain ⟨m1, m2, m3, _⟩ := find_mat h h4 hf hv
      obtain ⟨j1, _, _⟩ := joined m3 hb hn hc s1 s2
      rw [j1, if_pos hd]
      exact ⟨rfl, rfl, m1.app m2⟩
theorem sim_tick {D : List Dg} {E : List Rd} (h : Sim D E) (lim : Int) : Sim (tickD lim D) (tickR lim E) := by
  induction h with
  | nil => exact Sim.nil
  | @cons d r D E h1 k ih =>
    unfold tickD tickR at ih ⊢
    rw [List.map_cons, List.filter_cons, List.filter_cons]
    have e : (!oldB lim (upD d)) = decide (r.age + 1 < lim) := by
      unfold oldB
      have : (upD d).age = r.age + 1 := by show d.age + 1 = _; rw [h1.age]
      rw [this]
      by_cases hc : r.age + 1 < lim
      · rw [decide_eq_true hc, decide_eq_false (by omega)]; rfl
      · rw [decide_eq_false hc, decide_eq_true (by omega)]; rfl
    rw [e]
    cases decide (r.age + 1 < lim) with
    | false => exact ih
    | true =>
      refine Sim.cons ⟨h1.perm, ?_, h1.ok, h1.ne, h1.nm⟩ ih
      show d.age + 1 = r.age + 1
      rw [h1.age]
end Go.Proofs.Yticchchcobjpdaa
