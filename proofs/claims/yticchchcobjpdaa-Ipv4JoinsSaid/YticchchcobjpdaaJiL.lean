/- The joiner's state: its block, its row of pointers, its datagrams and their rows of pieces; what turns it. No condition beyond what each lemma says. -/
import Derived.Test.YticchchcobjpdaaJiK
namespace Go.Proofs.Yticchchcobjpdaa
set_option linter.unusedVariables false
set_option linter.unusedSimpArgs false
set_option maxRecDepth 100000
open Go.RowKit Go.Proofs Go.Shelf Go.Lib Go.Sort
/-- a datagram: its block, its row's address and room, its name, its pieces, its age -/
structure Dg where
  b : Nat
  o : Option Addr
  cap : Nat
  nm : Pkt
  L : List Pkt
  age : Int
/-- pieces in a row of their own, or none -/
def PkO (w : World) (o : Option Addr) (cap : Nat) (L : List Pkt) : Prop := (o = none ∧ cap = 0 ∧ L = []) ∨ ∃ g, o = some ⟨g, 0, none⟩ ∧ PkRow w g cap L
theorem PkO.same {w w' : World} {o : Option Addr} {cap : Nat} {L : List Pkt} (h : PkO w o cap L) (hs : ∀ g, o = some ⟨g, 0, none⟩ → w'.heap[g]? = w.heap[g]?) : PkO w' o cap L := by
  rcases h with h | ⟨g, rfl, h⟩
  · exact Or.inl h
  · exact Or.inr ⟨g, rfl, h.same (hs g rfl)⟩
theorem PkO.at {w : World} {o : Option Addr} {cap g : Nat} {L : List Pkt} (h : PkO w o cap L) (e : o = some ⟨g, 0, none⟩) : PkRow w g cap L := by
  rcases h with ⟨rfl, _⟩ | ⟨g', rfl, h⟩
  · cases e
  · injection e with e
    injection e with e
    subst e
    exact h
theorem PkO.lt {w : World} {o : Option Addr} {cap g : Nat} {L : List Pkt} (h : PkO w o cap L) (e : o = some ⟨g, 0, none⟩) : g < w.heap.size := (h.at e).1
theorem PkO.tag {w : World} {o : Option Addr} {cap g : Nat} {L : List Pkt} (h : PkO w o cap L) (e : o = some ⟨g, 0, none⟩) : ∃ C, At w g 25 C := (h.at e).tag
theorem PtrO.tag {w : World} {B c g : Nat} {o : Option Addr} {L : List Nat} (h : PtrO w B o c L) (e : o = some ⟨g, 0, none⟩) : ∃ C, At w g 72 C := by
  rcases h with ⟨rfl, _⟩ | ⟨g', rfl, h⟩
  · cases e
  · injection e with e
    injection e with e
    subst e
    exact h.tag
/-- a datagram stands as it should -/
structure DgAt (w : World) (B : Nat) (d : Dg) : Prop where
  blk : At w d.b 78 (dtC d.nm (.slice d.o d.L.length d.cap) d.age)
  row : PkO w d.o d.cap d.L
  lo : B ≤ d.b
  ro : ∀ g, d.o = some ⟨g, 0, none⟩ → B ≤ g
theorem DgAt.same {w w' : World} {B : Nat} {d : Dg} (h : DgAt w B d) (hb : w'.heap[d.b]? = w.heap[d.b]?) (hs : ∀ g, d.o = some ⟨g, 0, none⟩ → w'.heap[g]? = w.heap[g]?) : DgAt w' B d :=
  ⟨h.blk.same hb, h.row.same hs, h.lo, h.ro⟩
/-- two datagrams share nothing -/
def Apart (d d' : Dg) : Prop := d.b ≠ d'.b ∧ ∀ g, d.o = some ⟨g, 0, none⟩ → d'.o ≠ some ⟨g, 0, none⟩
theorem Apart.symm {d d' : Dg} (h : Apart d d') : Apart d' d := ⟨h.1.symm, fun g e e' => h.2 g e' e⟩
/-- the joiner -/
structure JS (w : World) (B jb : Nat) (lim : Int) (o : Option Addr) (c : Nat) (D : List Dg) : Prop where
  j : At w jb 56 (joC lim (.slice o D.length c))
  lo : B ≤ jb
  row : PtrO w B o c (D.map Dg.b)
  dg : ∀ d ∈ D, DgAt w B d
  ap : D.Pairwise Apart
/-- the joiner's blocks -/
def ownJ (jb : Nat) (o : Option Addr) (D : List Dg) (k : Nat) : Prop := k = jb ∨ o = some ⟨k, 0, none⟩ ∨ ∃ d ∈ D, k = d.b ∨ d.o = some ⟨k, 0, none⟩
theorem JS.own_lt {w : World} {B jb : Nat} {lim : Int} {o : Option Addr} {c : Nat} {D : List Dg} (h : JS w B jb lim o c D) {k : Nat} (hk : ownJ jb o D k) : B ≤ k ∧ k < w.heap.size := by
  rcases hk with rfl | e | ⟨d, hd, rfl | e⟩
  · exact ⟨h.lo, h.j.lt⟩
  · exact h.row.lt e
  · exact ⟨(h.dg d hd).lo, (h.dg d hd).blk.lt⟩
  · exact ⟨(h.dg d hd).ro k e, (h.dg d hd).row.lt e⟩
theorem JS.size {w : World} {B jb : Nat} {lim : Int} {o : Option Addr} {c : Nat} {D : List Dg} (h : JS w B jb lim o c D) : B ≤ w.heap.size := Nat.le_of_lt (Nat.lt_of_le_of_lt h.lo h.j.lt)
theorem JS.same {w w' : World} {B jb : Nat} {lim : Int} {o : Option Addr} {c : Nat} {D : List Dg} (h : JS w B jb lim o c D) (hs : ∀ k, ownJ jb o D k → w'.heap[k]? = w.heap[k]?) : JS w' B jb lim o c D :=
  ⟨h.j.same (hs jb (Or.inl rfl)), h.lo, h.row.same (fun g e => hs g (Or.inr (Or.inl e))), fun d hd => (h.dg d hd).same (hs _ (Or.inr (Or.inr ⟨d, hd, Or.inl rfl⟩))) (fun g e => hs g (Or.inr (Or.inr ⟨d, hd, Or.inr e⟩))), h.ap⟩
theorem JS.fr {w w' : World} {B jb : Nat} {lim : Int} {o : Option Addr} {c : Nat} {D : List Dg} {S : Nat → Prop} (h : JS w B jb lim o c D) (hf : Fr S w w') (hn : ∀ k, ownJ jb o D k → ¬ S k) : JS w' B jb lim o c D :=
  h.same (fun k hk => hf.block k (h.own_lt hk).2 (hn k hk))
theorem JS.below {w w' : World} {B jb : Nat} {lim : Int} {o : Option Addr} {c : Nat} {D : List Dg} (h : JS w B jb lim o c D) (hb : Below w.heap.size w w') : JS w' B jb lim o c D :=
  h.same (fun k hk => hb.block k (h.own_lt hk).2)
theorem Fr.tail {S T : Nat → Prop} {u v w : World} (h : Fr S u v) (k : Fr T v w) (hs : ∀ i, T i → S i ∨ u.heap.size ≤ i) : Fr S u w :=
  ⟨k.os.trans h.os, k.tape.trans h.tape, k.output.trans h.output, Nat.le_trans h.size k.size, fun i hi hn => (k.block i (Nat.lt_of_lt_of_le hi h.size) (fun ht => (hs i ht).elim hn (fun hle => absurd hi (Nat.not_lt.2 hle)))).trans (h.block i hi hn)⟩
/-- what a datagram's blocks are -/
theorem JS.ne_jb {w : World} {B jb : Nat} {lim : Int} {o : Option Addr} {c : Nat} {D : List Dg} (h : JS w B jb lim o c D) {d : Dg} (hd : d ∈ D) : d.b ≠ jb ∧ d.o ≠ some ⟨jb, 0, none⟩ ∧ o ≠ some ⟨jb, 0, none⟩ ∧ o ≠ some ⟨d.b, 0, none⟩ ∧ d.o ≠ some ⟨d.b, 0, none⟩ ∧ ∀ g, d.o = some ⟨g, 0, none⟩ → o ≠ some ⟨g, 0, none⟩ := by
  have k := h.dg d hd
  refine ⟨k.blk.ne h.j (by decide), fun e => ?_, fun e => ?_, fun e => ?_, fun e => ?_, fun g e e' => ?_⟩
  · obtain ⟨C, hC⟩ := k.row.tag e
    exact hC.ne h.j (by decide) rfl
  · obtain ⟨C, hC⟩ := h.row.tag e
    exact hC.ne h.j (by decide) rfl
  · obtain ⟨C, hC⟩ := h.row.tag e
    exact hC.ne k.blk (by decide) rfl
  · obtain ⟨C, hC⟩ := k.row.tag e
    exact hC.ne k.blk (by decide) rfl
  · obtain ⟨C, hC⟩ := k.row.tag e
    obtain ⟨C', hC'⟩ := h.row.tag e'
    exact hC.ne hC' (by decide) rfl
/-- two datagrams of a joiner: their blocks -/
theorem JS.ne_two {w : World} {B jb : Nat} {lim : Int} {o : Option Addr} {c : Nat} {D : List Dg} (h : JS w B jb lim o c D) {d d' : Dg} (hd : d ∈ D) (hd' : d' ∈ D) (ha : Apart d d') : d'.b ≠ d.b ∧ d'.o ≠ some ⟨d.b, 0, none⟩ ∧ d.o ≠ some ⟨d'.b, 0, none⟩ ∧ ∀ g, d.o = some ⟨g, 0, none⟩ → d'.o ≠ some ⟨g, 0, none⟩ := by
  have k := h.dg d hd
  have k' := h.dg d' hd'
  refine ⟨ha.1.symm, fun e => ?_, fun e => ?_, ha.2⟩
  · obtain ⟨C, hC⟩ := k'.row.tag e
    exact hC.ne k.blk (by decide) rfl
  · obtain ⟨C, hC⟩ := k.row.tag e
    exact hC.ne k'.blk (by decide) rfl
theorem apart_mid {pre post : List Dg} {d : Dg} (h : (pre ++ d :: post).Pairwise Apart) : (∀ x ∈ pre ++ post, Apart x d ∨ Apart d x) ∧ (pre ++ post).Pairwise Apart := by
  rw [List.pairwise_append, List.pairwise_cons] at h
  obtain ⟨h1, ⟨h2, h3⟩, h4⟩ := h
  refine ⟨fun x hx => ?_, ?_⟩
  · rcases List.mem_append.1 hx with hx | hx
    · exact Or.inl (h4 x hx d (List.mem_cons_self ..))
    · exact Or.inr (h2 x hx)
  · rw [List.pairwise_append]
    exact ⟨h1, h3, fun a ha b hb => h4 a ha b (List.mem_cons_of_mem _ hb)⟩
theorem apart_all {pre post : List Dg} {d : Dg} (h : (pre ++ d :: post).Pairwise Apart) {x : Dg} (hx : x ∈ pre ++ post) : Apart d x := by
  rcases (apart_mid h).1 x hx with h | h
  · exact h.symm
  · exact h
theorem mem_mid {pre post : List Dg} {d x : Dg} (hx : x ∈ pre ++ post) : x ∈ pre ++ d :: post := by
  rcases List.mem_append.1 hx with h | h
  · exact List.mem_append_left _ h
  · exact List.mem_append_right _ (List.mem_cons_of_mem _ h)
theorem mem_self {pre post : List Dg} {d : Dg} : d ∈ pre ++ d :: post := List.mem_append_right _ (List.mem_cons_self ..)
theorem mem_or {pre post : List Dg} {d x : Dg} (hx : x ∈ pre ++ d :: post) : x = d ∨ x ∈ pre ++ post := by
  rcases List.mem_append.1 hx with h | h
  · exact Or.inr (List.mem_append_left _ h)
  · rcases List.mem_cons.1 h with h | h
    · exact Or.inl h
    · exact Or.inr (List.mem_append_right _ h)
/-- one datagram is turned -/
theorem JS.repl {w w' : World} {B jb : Nat} {lim : Int} {o : Option Addr} {c : Nat} {pre post : List Dg} {d : Dg} (h : JS w B jb lim o c (pre ++ d :: post)) (d' : Dg) (hb : d'.b = d.b) (hd : DgAt w' B d')
    (hf : Fr (fun k => k = d.b ∨ d.o = some ⟨k, 0, none⟩) w w') (ho : d'.o = d.o ∨ ∃ g, d'.o = some ⟨g, 0, none⟩ ∧ (d.o = some ⟨g, 0, none⟩ ∨ w.heap.size ≤ g)) : JS w' B jb lim o c (pre ++ d' :: post) := by
  have hne := h.ne_jb mem_self
  have ho' : ∀ g, d'.o = some ⟨g, 0, none⟩ → d.o = some ⟨g, 0, none⟩ ∨ w.heap.size ≤ g := by
    intro g e
    rcases ho with h1 | ⟨g', h1, h2⟩
    · exact Or.inl (h1 ▸ e)
    · rw [h1] at e
      injection e with e
      injection e with e
      subst e
      exact h2
  have hkeep : ∀ x ∈ pre ++ post, DgAt w' B x := by
    intro x hx
    have k := h.dg x (mem_mid hx)
    have n2 := h.ne_two mem_self (mem_mid hx) (apart_all h.ap hx)
    exact k.same (hf.block _ k.blk.lt (fun e => e.elim n2.1 n2.2.2.1)) (fun g e => hf.block g (k.row.lt e) (fun e' => e'.elim (fun e' => n2.2.1 (by rw [e, e'])) (fun e' => n2.2.2.2 g e' e)))
  refine ⟨?_, h.lo, ?_, ?_, ?_⟩
  · have e : (pre ++ d' :: post).length = (pre ++ d :: post).length := by simp
    rw [e]
    exact h.j.same (hf.block jb h.j.lt (fun e => e.elim (fun e => hne.1 e.symm) hne.2.1))
  · have e : (pre ++ d' :: post).map Dg.b = (pre ++ d :: post).map Dg.b := by simp [hb]
    rw [e]
    exact h.row.same (fun g e => hf.block g (h.row.lt e).2 (fun e' => e'.elim (fun e' => hne.2.2.2.1 (by rw [e, e'])) (fun e' => hne.2.2.2.2.2 g e' e)))
  · intro x hx
    rcases mem_or hx with rfl | hx
    · exact hd
    · exact hkeep x hx
  · have hA := h.ap
    rw [List.pairwise_append, List.pairwise_cons] at hA ⊢
    obtain ⟨h1, ⟨h2, h3⟩, h4⟩ := hA
    have key : ∀ x ∈ pre ++ post, Apart d' x := by
      intro x hx
      have n2 := h.ne_two mem_self (mem_mid hx) (apart_all h.ap hx)
      refine ⟨by rw [hb]; exact n2.1.symm, fun g e e' => ?_⟩
      rcases ho' g e with h5 | h5
      · exact n2.2.2.2 g h5 e'
      · exact absurd ((h.dg x (mem_mid hx)).row.lt e') (Nat.not_lt.2 h5)
    refine ⟨h1, ⟨fun x hx => key x (List.mem_append_right _ hx), h3⟩, fun a ha b hb' => ?_⟩
    rcases List.mem_cons.1 hb' with rfl | hb'
    · exact (key a (List.mem_append_left _ ha)).symm
    · exact h4 a ha b (List.mem_cons_of_mem _ hb')
theorem own_repl {jb : Nat} {o : Option Addr} {pre post : List Dg} {d d' : Dg} {n : Nat} (hb : d'.b = d.b) (ho : d'.o = d.o ∨ ∃ g, d'.o = some ⟨g, 0, none⟩ ∧ (d.o = some ⟨g, 0, none⟩ ∨ n ≤ g)) {k : Nat} (h : ownJ jb o (pre ++ d' :: post) k) : ownJ jb o (pre ++ d :: post) k ∨ n ≤ k := by
  rcases h with h | h | ⟨x, hx, h⟩
  · exact Or.inl (Or.inl h)
  · exact Or.inl (Or.inr (Or.inl h))
  · rcases mem_or hx with rfl | hx
    · rcases h with h | h
      · exact Or.inl (Or.inr (Or.inr ⟨d, mem_self, Or.inl (h.trans hb)⟩))
      · rcases ho with h1 | ⟨g, h1, h2⟩
        · exact Or.inl (Or.inr (Or.inr ⟨d, mem_self, Or.inr (h1 ▸ h)⟩))
        · rw [h1] at h
          injection h with h
          injection h with h
          subst h
          rcases h2 with h2 | h2
          · exact Or.inl (Or.inr (Or.inr ⟨d, mem_self, Or.inr h2⟩))
          · exact Or.inr h2
    · exact Or.inl (Or.inr (Or.inr ⟨x, mem_mid hx, h⟩))
theorem own_less {jb : Nat} {o : Option Addr} {pre post : List Dg} {d : Dg} {k : Nat} (h : ownJ jb o (pre ++ post) k) : ownJ jb o (pre ++ d :: post) k := by
  rcases h with h | h | ⟨x, hx, h⟩
  · exact Or.inl h
  · exact Or.inr (Or.inl h)
  · exact Or.inr (Or.inr ⟨x, mem_mid hx, h⟩)
theorem own_d {jb : Nat} {o : Option Addr} {pre post : List Dg} {d : Dg} {k : Nat} (h : k = d.b ∨ d.o = some ⟨k, 0, none⟩) : ownJ jb o (pre ++ d :: post) k := Or.inr (Or.inr ⟨d, mem_self, h⟩)
theorem filter_mid {pre post : List Dg} {d : Dg} (h : (pre ++ d :: post).Pairwise Apart) : ((pre ++ d :: post).map Dg.b).filter (fun b => !decide (b = d.b)) = (pre ++ post).map Dg.b := by
  have key : ∀ x ∈ pre ++ post, x.b ≠ d.b := fun x hx => (apart_all h hx).1.symm
  rw [List.map_append, List.map_cons, List.filter_append, List.filter_cons_of_neg (by simp), List.map_append]
  have fl : ∀ l : List Dg, (∀ x ∈ l, x.b ≠ d.b) → (l.map Dg.b).filter (fun b => !decide (b = d.b)) = l.map Dg.b := by
    intro l hl
    rw [List.filter_eq_self]
    intro a ha
    obtain ⟨x, hx, rfl⟩ := List.mem_map.1 ha
    simp [hl x hx]
  rw [fl pre (fun x hx => key x (List.mem_append_left _ hx)), fl post (fun x hx => key x (List.mem_append_right _ hx))]
/-- one datagram is dropped -/
theorem JS.dropped {w w' : World} {B jb : Nat} {lim : Int} {g c : Nat} {pre post : List Dg} {d : Dg} (h : JS w B jb lim (some ⟨g, 0, none⟩) c (pre ++ d :: post))
    (hj : At w' jb 56 (joC lim (.slice (some ⟨g, 0, none⟩) (((pre ++ d :: post).map Dg.b).filter (fun b => !decide (b = d.b))).length c))) (hr : PtrRow w' B g c (((pre ++ d :: post).map Dg.b).filter (fun b => !decide (b = d.b)))) (hf : Fr (fun k => k = jb ∨ k = g) w w') :
    JS w' B jb lim (some ⟨g, 0, none⟩) c (pre ++ post) := by
  rw [filter_mid h.ap] at hj hr
  rw [List.length_map] at hj
  refine ⟨hj, h.lo, Or.inr ⟨g, rfl, hr⟩, fun x hx => ?_, (apart_mid h.ap).2⟩
  have k := h.dg x (mem_mid hx)
  have n := h.ne_jb (mem_mid hx)
  exact k.same (hf.block _ k.blk.lt (fun e => e.elim n.1 (fun e => n.2.2.2.1 (by rw [e])))) (fun q e => hf.block q (k.row.lt e) (fun e' => e'.elim (fun e' => n.2.1 (by rw [e, e'])) (fun e' => n.2.2.2.2.2 q e (by rw [e']))))
theorem fr_drop {w w' : World} {jb g : Nat} {D : List Dg} (hf : Fr (fun k => k = jb ∨ k = g) w w') : Fr (ownJ jb (some ⟨g, 0, none⟩) D) w w' := hf.mono (fun k _ h => h.elim Or.inl (fun h => Or.inr (Or.inl (by rw [h]))))
end Go.Proofs.Yticchchcobjpdaa
