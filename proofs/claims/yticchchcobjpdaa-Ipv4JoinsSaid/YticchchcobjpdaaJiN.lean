/- Parts of Put: a row of packets, and one more; the calls at the joiner's state. No condition beyond what each lemma says. -/
import Derived.Test.YticchchcobjpdaaJiM
import Derived.Great.BuildSlice
import Derived.Deep.AppendLies
namespace Go.Proofs.Yticchchcobjpdaa
set_option linter.unusedVariables false
set_option linter.unusedSimpArgs false
set_option maxRecDepth 100000
open Go.RowKit Go.Proofs Go.Shelf Go.Lib Go.Sort
attribute [local go_sem ↓] Go.wp_at_zero Go.wp_at_succ
attribute [local go_sem ↓] ld_pk ld_ip ld_wh
/-- a row of packets, cell by cell -/
def flatP (L : List Pkt) : List Value := (flatK encP 14 L.toArray).toList
theorem flatP_eq (L : List Pkt) : flatP L = (List.range (L.length * 14)).map fun t => (encP L.toArray[t / 14]!)[t % 14]! := by
  simp [flatP, flatK, Array.toList_map, Array.toList_range]
theorem flatP_snoc (L : List Pkt) (p : Pkt) : flatP (L ++ [p]) = flatP L ++ encP p := by
  rw [flatP_eq, flatP_eq, List.length_append, List.length_singleton, Nat.add_mul, Nat.one_mul, List.range_add, List.map_append]
  congr 1
  · refine List.map_congr_left fun t ht => ?_
    have h1 : t / 14 < L.length := by have := List.mem_range.1 ht; omega
    have e : (L ++ [p]).toArray[t / 14]! = L.toArray[t / 14]! := by
      rw [getElem!_pos _ _ (by simp; omega), getElem!_pos _ _ (by simp; omega)]
      simp [List.getElem_append_left h1]
    rw [e]
  · rw [List.map_map]
    refine List.ext_getElem (by rw [List.length_map, List.length_range, encP_len]) fun i h1 h2 => ?_
    have hi : i < 14 := by simpa using h1
    simp only [List.getElem_map, List.getElem_range, Function.comp]
    have e1 : (L.length * 14 + i) / 14 = L.length := by omega
    have e2 : (L.length * 14 + i) % 14 = i := by omega
    rw [e1, e2]
    have e : (L ++ [p]).toArray[L.length]! = p := by
      rw [getElem!_pos _ _ (by simp)]
      simp
    rw [e, getElem!_pos (encP p) i h2]
theorem flatP_len (L : List Pkt) : (flatP L).length = L.length * 14 := by simp [flatP_eq]
theorem PkO.own {w : World} {o : Option Addr} {cap B : Nat} {L : List Pkt} (h : PkO w o cap L) (hB : ∀ g, o = some ⟨g, 0, none⟩ → B ≤ g) : w.ownsRow B 25 14 (.slice o L.length cap) L.length (flatP L) := by
  refine ⟨flatP_len L, ?_⟩
  rcases h with ⟨rfl, rfl, rfl⟩ | ⟨g, rfl, h1, h2, h3, h4, cur, h5, h6⟩
  · exact Or.inl ⟨rfl, rfl⟩
  · refine Or.inr ⟨g, cap, cur, rfl, hB g rfl, h5, h2, h3, h6, ?_⟩
    refine List.ext_getElem? fun t => ?_
    by_cases ht : t < L.length * 14
    · have hc := (h4 t (by rw [size_flatK, List.size_toArray]; exact ht)).1
      rw [Nat.zero_add] at hc
      have hcc := (At.blk h5).cell t
      rw [hc] at hcc
      rw [List.getElem?_take_of_lt ht, Array.getElem?_toList, ← hcc]
      unfold flatP
      rw [Array.getElem?_toList, getElem!_pos _ _ (by rw [size_flatK, List.size_toArray]; exact ht), Array.getElem?_eq_getElem]
      rfl
    · rw [List.getElem?_eq_none (by rw [List.length_take]; omega), List.getElem?_eq_none (by rw [flatP_len]; omega)]
theorem own_pk {w : World} {B g cap n : Nat} {L : List Pkt} (h : w.ownsRow B 25 14 (.slice (some ⟨g, 0, none⟩) n cap) n (flatP L)) (hn : n = L.length) : PkRow w g cap L := by
  have hcell := fun (j : Nat) (hj : j < n * 14) => h.cellAt j hj
  have hfree := fun (j : Nat) => h.frozenAt j
  obtain ⟨_, ⟨e, _⟩ | ⟨g', c', cur, e, hB, hh, h1, h2, h3, h4⟩⟩ := h
  · exact absurd e (by simp)
  · injection e with e1 _ e3
    injection e1 with e1
    injection e1 with e1
    subst e1
    subst e3
    subst hn
    refine ⟨(Array.getElem?_eq_some_iff.1 hh).1, h1, h2, fun j hj => ?_, cur, hh, h3⟩
    rw [size_flatK, List.size_toArray] at hj
    rw [Nat.zero_add]
    refine ⟨?_, hfree j⟩
    rw [hcell j hj]
    unfold flatP
    rw [Array.getElem?_toList, getElem!_pos _ _ (by rw [size_flatK, List.size_toArray]; exact hj), Array.getElem?_eq_getElem]
    rfl
theorem info_pkt : (Try.prog.info? 25).map (fun i => (i.zero, i.size, i.bytes)) = some (some (.agg pk0), 14, 64) := by kernel_rfl
theorem fill_pk (x : Pkt) : Instr.fill (fun i => some (i * 14, 14)) ((Array.range (1 * 14)).map ((Value.agg pk0).cells[· % (Value.agg pk0).cells.size]!)) [(0, .agg x.c)] = some x.c := by
  obtain ⟨id, f, t, pr, tt, a, mo, d0, hL⟩ := x
  obtain ⟨f0, f1, f2, f3, t0, t1, t2, t3, rfl, rfl⟩ := pk_explicit hL
  kernel_rfl
theorem step_bsp {ops : Array Oper} {o : Oper} {a : Act} {w : World} {K : Act → World → Prop} {Q : Exit → Act → World → Prop} {E : Prop} (hg : o.guard = none) (x : Operand) (ho : o.op = .buildSlice 51 1 #[(0, x)]) (X : Pkt) (hx : a.eval x = .agg X.c)
    (hK : K (a.put o.dst (.slice (some ⟨w.heap.size, 0, none⟩) 1 1)) (w.alloc (.cells X.c 25))) : if Region.wanted o (yielded ops a.tmps) = true then Oper.wp Try.prog o a w K Q else E := by
  have hw : Region.wanted o (yielded ops a.tmps) = true := by simp [Region.wanted, hg]
  rw [if_pos hw]
  obtain ⟨i0, hi0, hz0, hz1, hz2⟩ := info_parts info_pkt
  refine wp_buildSlice 51 25 1 _ ho X.c i0 (.agg pk0) Try.underlying51 hi0 hz0 (by rw [hz1]; decide) (by rw [hz1]; decide) ?_ hK
  rw [hz1]
  have e : (#[(0, x)].map fun (i, x) => (i, a.eval x)).toList = [(0, a.eval x)] := by simp
  rw [e, hx]
  exact fill_pk X
theorem pblk_cells {w : World} {b : Nat} {e : TypeId} {x : Pkt} (h : Blk w b e x.c) : ∀ j u, (encP x)[j]? = some u → w.cell? ((⟨b, 0, none⟩ : Addr).add j) = some u := fun j u hu => by
  rw [Addr.add_lit, Nat.zero_add, h.cell]
  simpa [encP] using hu
/-! ### the calls at the joiner's state -/
/-- a packet's numbers are numbers -/
structure Pin (p : Pkt) : Prop where
  id : -9223372036854775808 ≤ p.id ∧ p.id ≤ 9223372036854775807
  pr : -9223372036854775808 ≤ p.pr ∧ p.pr ≤ 9223372036854775807
  tt : -9223372036854775808 ≤ p.tt ∧ p.tt ≤ 9223372036854775807
  a : -9223372036854775808 ≤ p.a ∧ p.a ≤ 9223372036854775807
  d : p.d.length ≤ 9223372036854775807
def mayP (p : Pkt) : Bool := mayB p.id p.pr p.tt p.a p.mo p.d.length
theorem mayP_any (p : Pkt) (h : Pin p) (w : World) : Calls Try.prog 28 #[.agg p.c] w fun e w' => e = .returned (.bool (mayP p)) ∧ Below w.heap.size w w' :=
  may_any p.id p.f p.t p.pr p.tt p.a p.mo p.d p.L h.id h.pr h.tt h.a h.d w
theorem contJ_any (o : Option Addr) (cap pb : Nat) (L : List Pkt) (p : Pkt) (hn : L.length ≤ 1000) (w : World) (hr : PkO w o cap L) (hp : Blk w pb 25 p.c) :
    Calls Try.prog 34 #[.slice o L.length cap, .func (.func 35) #[] #[.pointer (some ⟨pb, 0, none⟩)]] w fun e w' => e = .returned (.bool (L.any (fun x => sameB x p))) ∧ Below w.heap.size w w' := by
  rcases hr with ⟨rfl, rfl, rfl⟩ | ⟨g, rfl, hr⟩
  · refine (contNil _ _ w).mono ?_
    rintro e w' ⟨rfl, rfl⟩
    exact ⟨rfl, Below.refl _ _⟩
  · exact cont_any g cap pb L p hn w hr hp
theorem PkO.ps {w : World} {o : Option Addr} {cap : Nat} {L : List Pkt} (h : PkO w o cap L) : PsAt w w.heap.size o L := by
  rcases h with ⟨rfl, rfl, rfl⟩ | ⟨g, rfl, hr⟩
  · exact Or.inl rfl
  · exact hr.ps
theorem droJ_any {w : World} {B jb g c : Nat} {lim : Int} {pre post : List Dg} {d : Dg} (h : JS w B jb lim (some ⟨g, 0, none⟩) c (pre ++ d :: post)) (hn : (pre ++ d :: post).length ≤ 1000) :
    Calls Try.prog 37 #[ptr jb, ptr d.b] w fun e w' => e = .returned (.tuple #[]) ∧ JS w' B jb lim (some ⟨g, 0, none⟩) c (pre ++ post) ∧ Fr (ownJ jb (some ⟨g, 0, none⟩) (pre ++ d :: post)) w w' := by
  have hz : ∀ b ∈ (pre ++ d :: post).map Dg.b, Dz w b := fun b hb => by
    obtain ⟨x, hx, rfl⟩ := List.mem_map.1 hb
    exact ⟨_, (h.dg x hx).blk⟩
  have hlen : ((pre ++ d :: post).map Dg.b).length = (pre ++ d :: post).length := List.length_map _
  have hr : PtrRow w B g c ((pre ++ d :: post).map Dg.b) := by
    rcases h.row with ⟨e, _⟩ | ⟨g', e, h⟩
    · cases e
    · injection e with e
      injection e with e
      subst e
      exact h
  refine (drop_any jb g c B d.b lim ((pre ++ d :: post).map Dg.b) (by omega) w (by rw [hlen]; exact h.j) hr hz (hz _ (List.mem_map.2 ⟨d, mem_self, rfl⟩))).mono ?_
  rintro e w' ⟨rfl, h1, h2, h3⟩
  exact ⟨rfl, h.dropped h1 h2 h3, fr_drop h3⟩
theorem JS.setCells {w : World} {B jb : Nat} {lim : Int} {o : Option Addr} {c : Nat} {D : List Dg} (h : JS w B jb lim o c D) (b k : Nat) (vs : List Value) (hn : ¬ ownJ jb o D b) : JS (w.setCells b k vs) B jb lim o c D :=
  h.same (fun i hi => heap_setCells b vs k w i (fun e => hn (e ▸ hi)))
theorem Fr.cells {S : Nat → Prop} {u w : World} (h : Fr S u w) (b k : Nat) (vs : List Value) (hb : u.heap.size ≤ b) : Fr S u (w.setCells b k vs) :=
  h.tail (T := fun i => i = b) (Fr.grown (grown_cells w b k vs)) (fun i hi => Or.inr (hi ▸ hb))
theorem Fr.step {S : Nat → Prop} {u v w : World} (h : Fr S u v) (k : Below v.heap.size v w) : Fr S u w := h.tail (T := fun _ => False) (Fr.below k) (fun _ h => h.elim)
theorem jo_cell {w : World} {B jb : Nat} {lim : Int} {o : Option Addr} {c : Nat} {D : List Dg} (h : JS w B jb lim o c D) : w.cell? ⟨jb, 0, none⟩ = some (.int .i64 lim) := by rw [h.j.blk.cell]; rfl
end Go.Proofs.Yticchchcobjpdaa
