/- The joiner's of at its state; what Put tells and keeps, as a relation. Condition: at most 4 datagrams. -/
import Derived.Test.YticchchcobjpdaaJiL
namespace Go.Proofs.Yticchchcobjpdaa
set_option linter.unusedVariables false
set_option linter.unusedSimpArgs false
set_option maxRecDepth 100000
open Go.RowKit Go.Proofs Go.Shelf Go.Lib Go.Sort
/-- the name of the datagram with a block -/
def nameOf (D : List Dg) (b : Nat) : Pkt := ((D.find? (fun d => d.b == b)).map Dg.nm).getD pkt0
theorem nameOf_mem : ∀ {D : List Dg}, D.Pairwise Apart → ∀ {d : Dg}, d ∈ D → nameOf D d.b = d.nm
  | [], _, d, h => by cases h
  | x :: l, hp, d, h => by
    unfold nameOf
    rw [List.find?_cons]
    rw [List.pairwise_cons] at hp
    by_cases e : x.b = d.b
    · have : (x.b == d.b) = true := by simp [e]
      rw [this]
      rcases List.mem_cons.1 h with h | h
      · subst h; rfl
      · exact absurd e (hp.1 d h).1
    · have : (x.b == d.b) = false := by simp [e]
      rw [this]
      rcases List.mem_cons.1 h with h | h
      · subst h; exact absurd rfl e
      · exact nameOf_mem hp.2 h
/-- the datagrams that stay when a new one comes -/
def keepD (D : List Dg) : List Dg := if 4 ≤ D.length then D.tail else D
theorem keepD_sub (D : List Dg) : (keepD D).Sublist D := by
  unfold keepD
  split
  · exact List.tail_sublist D
  · exact List.Sublist.refl D
theorem keepD_len {D : List Dg} (h : D.length ≤ 4) : (keepD D).length ≤ 3 := by
  unfold keepD
  split
  · rw [List.length_tail]; omega
  · omega
theorem ofL_keep {D : List Dg} (h : D.Pairwise Apart) : ofL (D.map Dg.b) = (keepD D).map Dg.b := by
  unfold ofL keepD
  rw [List.length_map]
  split
  · cases D with
    | nil => rfl
    | cons d l =>
      have := filter_mid (pre := []) (post := l) (d := d) h
      exact this
  · rfl
/-- the datagram of a piece, and those beside it -/
def FindR (D : List Dg) (p : Pkt) (pre : List Dg) (d : Dg) (post : List Dg) : Prop :=
  (D = pre ++ d :: post ∧ sameW d.nm p = true ∧ ∀ x ∈ pre, sameW x.nm p = false) ∨
  ((∀ x ∈ D, sameW x.nm p = false) ∧ pre = keepD D ∧ post = [] ∧ d.nm = p ∧ d.L = [] ∧ d.age = 0)
theorem ofJ_any {w : World} {B jb : Nat} {lim : Int} {o : Option Addr} {c : Nat} {D : List Dg} (h : JS w B jb lim o c D) (h4 : D.length ≤ 4) (p : Pkt) :
    Calls Try.prog 33 #[ptr jb, .agg p.c] w fun e w' => ∃ g c' pre d post, e = .returned (ptr d.b) ∧ JS w' B jb lim (some ⟨g, 0, none⟩) c' (pre ++ d :: post) ∧ FindR D p pre d post ∧ Fr (ownJ jb o D) w w' ∧ ∀ k, ownJ jb (some ⟨g, 0, none⟩) (pre ++ d :: post) k → ownJ jb o D k ∨ w.heap.size ≤ k := by
  have hlen : (D.map Dg.b).length = D.length := List.length_map _
  have hnm : ∀ j (hj : j < (D.map Dg.b).length), nameOf D (D.map Dg.b)[j] = (D[j]'(by omega)).nm := fun j hj => by
    rw [List.getElem_map]
    exact nameOf_mem h.ap (List.getElem_mem _)
  refine (of_any jb B lim o c (D.map Dg.b) (nameOf D) p (by omega) w h.size (by rw [hlen]; exact h.j) h.row (fun b hb => ?_)).mono ?_
  · obtain ⟨d, hd, rfl⟩ := List.mem_map.1 hb
    exact ⟨_, _, by rw [nameOf_mem h.ap hd]; exact (h.dg d hd).blk⟩
  · rintro e w' (⟨k, hk, h1, h2, rfl, hf⟩ | ⟨hno, nb, g', c', rfl, hnb, hN, hJ, hR, hg, hf⟩)
    · have hkD : k < D.length := by omega
      have hsplit : D.take k ++ D[k] :: D.drop (k + 1) = D := by
        rw [List.getElem_cons_drop, List.take_append_drop]
      have hJ' : JS w' B jb lim o c D := h.fr hf (fun _ _ h => h)
      obtain ⟨g, rfl⟩ : ∃ g, o = some ⟨g, 0, none⟩ := by
        rcases h.row with ⟨_, _, h0⟩ | ⟨g, h0, _⟩
        · rw [h0] at hk; simp at hk
        · exact ⟨g, h0⟩
      refine ⟨g, c, D.take k, D[k], D.drop (k + 1), by rw [List.getElem_map], by rw [hsplit]; exact hJ', Or.inl ⟨hsplit.symm, by rw [← hnm k hk]; exact h1, ?_⟩, hf.mono (fun _ _ h => h.elim), fun q hq => Or.inl (by rw [hsplit] at hq; exact hq)⟩
      intro x hx
      obtain ⟨j, hj, rfl⟩ := List.getElem_of_mem hx
      rw [List.length_take] at hj
      have := h2 j (by omega) (by omega)
      rw [hnm j (by omega)] at this
      rw [List.getElem_take]
      exact this
    · rw [ofL_keep h.ap] at hJ hR
      rw [List.length_map] at hJ
      have hsub := keepD_sub D
      have hblk : ∀ x ∈ keepD D, DgAt w' B x ∧ x.b < w.heap.size ∧ ∀ q, x.o = some ⟨q, 0, none⟩ → q < w.heap.size := by
        intro x hx
        have hxD := hsub.subset hx
        have k := h.dg x hxD
        have n := h.ne_jb hxD
        exact ⟨k.same (hf.block _ k.blk.lt (fun e => e.elim n.1 n.2.2.2.1)) (fun q e => hf.block q (k.row.lt e) (fun e' => e'.elim (fun e' => n.2.1 (by rw [e, e'])) (n.2.2.2.2.2 q e))), k.blk.lt, fun q e => k.row.lt e⟩
      refine ⟨g', c', keepD D, ⟨nb, none, 0, p, [], 0⟩, [], rfl, ⟨?_, h.lo, Or.inr ⟨g', rfl, ?_⟩, ?_, ?_⟩, Or.inr ⟨?_, rfl, rfl, rfl, rfl, rfl⟩, ?_, ?_⟩
      · rw [List.length_append]; exact hJ
      · rw [List.map_append]; exact hR
      · intro x hx
        rcases List.mem_append.1 hx with hx | hx
        · exact (hblk x hx).1
        · rw [List.mem_singleton.1 hx]
          exact ⟨hN, Or.inl ⟨rfl, rfl, rfl⟩, Nat.le_trans h.size hnb, fun g e => by cases e⟩
      · rw [List.pairwise_append]
        refine ⟨h.ap.sublist hsub, List.pairwise_singleton _ _, fun a ha b hb => ?_⟩
        rw [List.mem_singleton.1 hb]
        have := hblk a ha
        exact ⟨by show a.b ≠ nb; omega, fun g _ e => by cases e⟩
      · intro x hx
        obtain ⟨j, hj, rfl⟩ := List.getElem_of_mem hx
        have := hno j (by omega)
        rw [hnm j (by omega)] at this
        exact this
      · exact hf.mono (fun k _ h => h.elim Or.inl (fun h => Or.inr (Or.inl h)))
      · intro q hq
        rcases hq with hq | hq | ⟨x, hx, hq⟩
        · exact Or.inl (Or.inl hq)
        · injection hq with hq
          injection hq with hq
          subst hq
          rcases hg with hg | hg
          · exact Or.inl (Or.inr (Or.inl hg))
          · exact Or.inr hg
        · rcases List.mem_append.1 hx with hx | hx
          · exact Or.inl (Or.inr (Or.inr ⟨x, hsub.subset hx, hq⟩))
          · rw [List.mem_singleton.1 hx] at hq
            rcases hq with hq | hq
            · rw [hq]; exact Or.inr hnb
            · cases hq
/-- what is told of a packet, and what is there then -/
inductive PutR (D : List Dg) (p : Pkt) : List Dg → Pkt → Bool → Prop
  | bad (h : ¬ May p) : PutR D p D pkt0 false
  | whole (h : May p) (ha : p.a = 0) (hm : p.mo = false) : PutR D p D p true
  | same {pre post : List Dg} {d : Dg} (h : May p) (hn : ¬ (p.a = 0 ∧ p.mo = false)) (hf : FindR D p pre d post) (hs : d.L.any (fun x => sameB x p) = true) : PutR D p (pre ++ d :: post) pkt0 false
  | clash {pre post : List Dg} {d : Dg} (h : May p) (hn : ¬ (p.a = 0 ∧ p.mo = false)) (hf : FindR D p pre d post) (hs : d.L.any (fun x => sameB x p) = false) (hc : fitsV d.L p = false) : PutR D p (pre ++ post) pkt0 false
  | part {pre post : List Dg} {d : Dg} (h : May p) (hn : ¬ (p.a = 0 ∧ p.mo = false)) (hf : FindR D p pre d post) (hs : d.L.any (fun x => sameB x p) = false) (hc : fitsV d.L p = true) (d' : Dg) (h1 : Srt keyP d'.L) (h2 : Stb keyP (d.L ++ [p]) d'.L) (hd : (doneV d'.L).2 = false) (hnm : d'.nm = d.nm) (hag : d'.age = d.age) : PutR D p (pre ++ d' :: post) pkt0 false
  | done {pre post : List Dg} {d : Dg} (h : May p) (hn : ¬ (p.a = 0 ∧ p.mo = false)) (hf : FindR D p pre d post) (hs : d.L.any (fun x => sameB x p) = false) (hc : fitsV d.L p = true) (S : List Pkt) (h1 : Srt keyP S) (h2 : Stb keyP (d.L ++ [p]) S) (hd : (doneV S).2 = true) : PutR D p (pre ++ post) (doneV S).1 true
theorem sameW_self (p : Pkt) : sameW p p = true := by simp [sameW]
theorem sameW_iff {x p : Pkt} : sameW x p = true ↔ x.f = p.f ∧ x.t = p.t ∧ x.pr = p.pr ∧ x.id = p.id := by
  simp [sameW, and_assoc]
theorem sameW_symm {x p : Pkt} (h : sameW x p = true) : sameW p x = true := by
  rw [sameW_iff] at h ⊢
  exact ⟨h.1.symm, h.2.1.symm, h.2.2.1.symm, h.2.2.2.symm⟩
theorem sameW_trans {x y z : Pkt} (h : sameW x y = true) (k : sameW y z = true) : sameW x z = true := by
  rw [sameW_iff] at h k ⊢
  exact ⟨h.1.trans k.1, h.2.1.trans k.2.1, h.2.2.1.trans k.2.2.1, h.2.2.2.trans k.2.2.2⟩
/-- the datagrams are as they should be: pieces that may be, of one name -/
structure DOk (N : Nat) (d : Dg) : Prop where
  len : d.L.length ≤ N
  may : ∀ x ∈ d.L, May x ∧ sameW x d.nm = true
structure JOk (N : Nat) (D : List Dg) : Prop where
  four : D.length ≤ 4
  ok : ∀ d ∈ D, DOk N d ∧ d.L ≠ []
theorem DOk.mono {N M : Nat} {d : Dg} (h : DOk N d) (k : N ≤ M) : DOk M d := ⟨Nat.le_trans h.len k, h.may⟩
theorem FindR.ok {N : Nat} {D : List Dg} {p : Pkt} {pre post : List Dg} {d : Dg} (h : FindR D p pre d post) (k : JOk N D) : DOk N d ∧ (∀ x ∈ pre ++ post, DOk N x ∧ x.L ≠ []) ∧ (pre ++ post).length ≤ 3 ∧ sameW d.nm p = true := by
  rcases h with ⟨rfl, h1, h2⟩ | ⟨h1, rfl, rfl, h2, h3, h4⟩
  · refine ⟨(k.ok d mem_self).1, fun x hx => k.ok x (mem_mid hx), ?_, h1⟩
    have := k.four
    simp at this ⊢
    omega
  · refine ⟨⟨by rw [h3]; exact Nat.zero_le _, by rw [h3]; intro x hx; cases hx⟩, fun x hx => ?_, ?_, by rw [h2]; exact sameW_self p⟩
    · rw [List.append_nil] at hx
      exact k.ok x ((keepD_sub D).subset hx)
    · rw [List.append_nil]; exact keepD_len k.four
theorem PutR.ok {N : Nat} {D D' : List Dg} {p out : Pkt} {b : Bool} (h : PutR D p D' out b) (k : JOk N D) : JOk (N + 1) D' := by
  have up : ∀ {x : Dg}, DOk N x ∧ x.L ≠ [] → DOk (N + 1) x ∧ x.L ≠ [] := fun h => ⟨h.1.mono (by omega), h.2⟩
  cases h with
  | bad h => exact ⟨k.four, fun d hd => up (k.ok d hd)⟩
  | whole h ha hm => exact ⟨k.four, fun d hd => up (k.ok d hd)⟩
  | @same pre post d h hn hf hs =>
    obtain ⟨h1, h2, h3, h4⟩ := hf.ok k
    refine ⟨by simp at h3 ⊢; omega, fun x hx => ?_⟩
    rcases mem_or hx with rfl | hx
    · exact ⟨h1.mono (by omega), fun e => by rw [e] at hs; simp at hs⟩
    · exact up (h2 x hx)
  | @clash pre post d h hn hf hs hc =>
    obtain ⟨h1, h2, h3, h4⟩ := hf.ok k
    exact ⟨by omega, fun x hx => up (h2 x hx)⟩
  | @part pre post d h hn hf hs hc d' s1 s2 hd hnm hag =>
    obtain ⟨h1, h2, h3, h4⟩ := hf.ok k
    have hl : d'.L.length = d.L.length + 1 := by rw [s2.len, List.length_append]; rfl
    refine ⟨by simp at h3 ⊢; omega, fun x hx => ?_⟩
    rcases mem_or hx with rfl | hx
    · refine ⟨⟨by rw [hl]; exact Nat.succ_le_succ h1.len, fun y hy => ?_⟩, fun e => by rw [e] at hl; simp at hl⟩
      rw [hnm]
      rcases List.mem_append.1 ((s2.mem y).1 hy) with hy | hy
      · exact h1.may y hy
      · rw [List.mem_singleton.1 hy]
        exact ⟨h, sameW_symm h4⟩
    · exact up (h2 x hx)
  | @done pre post d h hn hf hs hc S s1 s2 hd =>
    obtain ⟨h1, h2, h3, h4⟩ := hf.ok k
    exact ⟨by omega, fun x hx => up (h2 x hx)⟩
end Go.Proofs.Yticchchcobjpdaa
