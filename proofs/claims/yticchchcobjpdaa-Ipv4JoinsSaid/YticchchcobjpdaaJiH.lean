/- The joiner's state: its block, its row, its datagrams; what a call leaves as it was; drop. No condition beyond what each lemma says. -/
import Derived.Test.YticchchcobjpdaaJiG
namespace Go.Proofs.Yticchchcobjpdaa
set_option linter.unusedVariables false
set_option linter.unusedSimpArgs false
set_option maxRecDepth 100000
open Go.RowKit Go.Proofs Go.Shelf Go.Lib Go.Sort
attribute [local go_sem ↓] Go.wp_at_zero Go.wp_at_succ
attribute [local go_sem ↓] ld_pk ld_ip ld_wh
/-! ### what a call leaves as it was -/
structure Fr (S : Nat → Prop) (w w' : World) : Prop where
  os : w'.os = w.os
  tape : w'.tape = w.tape
  output : w'.output = w.output
  size : w.heap.size ≤ w'.heap.size
  block : ∀ k, k < w.heap.size → ¬ S k → w'.heap[k]? = w.heap[k]?
theorem Fr.refl (S : Nat → Prop) (w : World) : Fr S w w := ⟨rfl, rfl, rfl, Nat.le_refl _, fun _ _ _ => rfl⟩
theorem Fr.mono {S T : Nat → Prop} {w w' : World} (h : Fr S w w') (hs : ∀ k, k < w.heap.size → S k → T k) : Fr T w w' := ⟨h.os, h.tape, h.output, h.size, fun k hk hn => h.block k hk (fun hs' => hn (hs k hk hs'))⟩
theorem Fr.trans {S : Nat → Prop} {u v w : World} (h : Fr S u v) (k : Fr S v w) : Fr S u w :=
  ⟨k.os.trans h.os, k.tape.trans h.tape, k.output.trans h.output, Nat.le_trans h.size k.size, fun i hi hn => (k.block i (Nat.lt_of_lt_of_le hi h.size) hn).trans (h.block i hi hn)⟩
theorem Fr.below {S : Nat → Prop} {w w' : World} (h : Below w.heap.size w w') : Fr S w w' := ⟨h.os, h.tape, h.output, h.size, fun k hk _ => h.block k hk⟩
theorem Fr.grown {w w' : World} {g : Nat} (h : w.grownBy w' (some g)) : Fr (· = g) w w' := ⟨h.os, h.tape, h.output, h.size, fun k hk hn => h.block k hk (fun e => hn (Option.some.inj e))⟩
theorem Fr.set (w : World) (b o : Nat) (v : Value) : Fr (· = b) w (w.setCell ⟨b, o, none⟩ v) := Fr.grown (grown_set (World.grownBy.refl w _) v)
theorem Fr.drewN (S : Nat → Prop) (w : World) (q : Nat) : Fr S w (w.drewN q) := ⟨rfl, rfl, rfl, Nat.le_refl _, fun _ _ _ => rfl⟩
/-- a block, from its first cell, none of it frozen -/
abbrev At (w : World) (b : Nat) (e : TypeId) (C : Array Value) : Prop := w.heap[b]? = some (.cells C e (0, 0))
theorem At.blk {w : World} {b : Nat} {e : TypeId} {C : Array Value} (h : At w b e C) : Blk w b e C := ⟨0, 0, h, Or.inl (Nat.le_refl _)⟩
theorem At.lt {w : World} {b : Nat} {e : TypeId} {C : Array Value} (h : At w b e C) : b < w.heap.size := (Array.getElem?_eq_some_iff.1 h).1
theorem At.set {w : World} {b : Nat} {e : TypeId} {C : Array Value} (h : At w b e C) (o : Nat) (v : Value) : At (w.setCell ⟨b, o, none⟩ v) b e (C.setIfInBounds o v) := by
  rw [Sort.setCell_eq]
  unfold At Sort.mapBlock
  show (w.heap.modify b _)[b]? = _
  rw [Array.getElem?_modify, if_pos rfl, h]
  rfl
theorem At.same {w w' : World} {b : Nat} {e : TypeId} {C : Array Value} (h : At w b e C) (hs : w'.heap[b]? = w.heap[b]?) : At w' b e C := hs.trans h
theorem At.ne {w : World} {b d : Nat} {e f : TypeId} {C D : Array Value} (h : At w b e C) (k : At w d f D) (hne : e ≠ f) : b ≠ d := by
  rintro rfl
  have := h.symm.trans k
  injection this with this
  injection this with _ h2 _
  exact hne h2
theorem PtrRow.tag {w : World} {B g cap : Nat} {L : List Nat} (h : PtrRow w B g cap L) : ∃ C, At w g 72 C := by
  rcases h.1.2 with ⟨e, _⟩ | ⟨g', c', cur, e, _, hc, _⟩
  · exact absurd e (by simp)
  · injection e with e1 _ _
    injection e1 with e1
    injection e1 with e1
    subst e1
    exact ⟨cur, hc⟩
theorem PtrRow.same {w w' : World} {B g cap : Nat} {L : List Nat} (h : PtrRow w B g cap L) (hs : w'.heap[g]? = w.heap[g]?) : PtrRow w' B g cap L := by
  obtain ⟨⟨h1, h2⟩, h3⟩ := h
  refine ⟨⟨h1, ?_⟩, h3⟩
  rcases h2 with h2 | ⟨g', c', cur, e, hB, hc, h4⟩
  · exact Or.inl h2
  · have e' := e
    injection e' with e1 _ _
    injection e1 with e1
    injection e1 with e1
    subst e1
    exact Or.inr ⟨g, c', cur, e, hB, hs.trans hc, h4⟩
theorem PkRow.tag {w : World} {g cap : Nat} {L : List Pkt} (h : PkRow w g cap L) : ∃ C, At w g 25 C := ⟨_, h.2.2.2.2.choose_spec.1⟩
theorem PkRow.same {w w' : World} {g cap : Nat} {L : List Pkt} (h : PkRow w g cap L) (hs : w'.heap[g]? = w.heap[g]?) : PkRow w' g cap L := by
  obtain ⟨h1, h2, h3, h4, cur, h6, h7⟩ := h
  have hc := hs.trans h6
  refine ⟨(Array.getElem?_eq_some_iff.1 hc).1, h2, h3, fun j hj => ?_, cur, hc, h7⟩
  have h5 := h4 j hj
  exact ⟨(World.cell?_of_block (a := ⟨g, 0 + j, none⟩) hs).trans h5.1, (World.frozen?_of_block (a := ⟨g, 0 + j, none⟩) hs).trans h5.2⟩

/-! ### drop -/
abbrev joC (lim : Int) (v : Value) : Array Value := #[.int .i64 lim, v]
set_option maxHeartbeats 1000000 in
theorem drop_any (jb g c B d : Nat) (lim : Int) (L : List Nat) (hn : L.length ≤ 1000) (w : World) (hj : At w jb 56 (joC lim (.slice (some ⟨g, 0, none⟩) L.length c))) (hr : PtrRow w B g c L) (hz : ∀ b ∈ L, Dz w b) (hd : Dz w d) :
    Calls Try.prog 37 #[ptr jb, ptr d] w fun e w' => e = .returned (.tuple #[]) ∧ At w' jb 56 (joC lim (.slice (some ⟨g, 0, none⟩) (L.filter (fun b => !decide (b = d))).length c)) ∧ PtrRow w' B g c (L.filter (fun b => !decide (b = d))) ∧ Fr (fun k => k = jb ∨ k = g) w w' := by
  obtain ⟨CG, hgt⟩ := hr.tag
  have hjg : jb ≠ g := hj.ne hgt (by decide)
  have hb0 := (Below.refl w.heap.size w).alloc (Nat.le_refl _) (.cells #[ptr d] 72)
  have hgl := hgt.lt
  have hjl := hj.lt
  have HK := Lib.hid (Blk.new w 72 #[ptr d] 0 0 (Or.inl (Nat.le_refl _)))
  obtain ⟨n, hnn⟩ : ∃ n, n = L.length := ⟨_, rfl⟩
  obtain ⟨w1, hw1⟩ : ∃ w1, w1 = w.alloc (.cells #[ptr d] 72) := ⟨_, rfl⟩
  rw [← hw1] at HK hb0
  have HW1 := Lib.hid hw1
  have HR1 : Hid (PtrRow w1 B g c L) := Lib.hid (hr.same (hb0.block g hgl))
  have HJ1 : Hid (At w1 jb 56 (joC lim (.slice (some ⟨g, 0, none⟩) n c))) := Lib.hid (by rw [hnn]; exact hj.same (hb0.block jb hjl))
  have hzl : ∀ {b}, Dz w b → b ≠ g ∧ b < w.heap.size := fun {b} ⟨C, h⟩ => ⟨At.ne h hgt (by decide), At.lt h⟩
  have hz1 : ∀ {W b}, Dz w b → w1.grownBy W (some g) → Dz W b := fun {W b} hx hg => by
    obtain ⟨hne, hlt⟩ := hzl hx
    obtain ⟨C, h⟩ := hx
    exact ⟨C, ((hg.block b (Nat.lt_of_lt_of_le hlt hb0.size) (fun e => hne (Option.some.inj e))).trans (hb0.block b hlt)).trans h⟩
  have hpg : w.heap.size ≠ g := by omega
  have hps : w.heap.size < w1.heap.size := HK.out.lt
  have HPD : Hid (PredD 60 #[.pointer (some ⟨w.heap.size, 0, none⟩)] (fun b => decide (b = d)) L g w1) := Lib.hid (fun W b hbL hg => drop1_any b d w.heap.size W (by
    exact (World.cell?_of_block (a := ⟨w.heap.size, 0, none⟩) (hg.block w.heap.size hps (fun e => hpg (Option.some.inj e)))).trans (HK.out.cell 0)) (hz1 (hz b hbL) hg) (hz1 hd hg))
  have eg : ∀ args w, (callFunc 60 args).run Try.prog w = .ok (.enter 60 args) w := enters_of Try.func60 (by kernel_rfl) rfl
  have HC := Lib.hid (delD_any 60 #[.pointer (some ⟨w.heap.size, 0, none⟩)] eg (fun b => decide (b = d)) L B g c hn w1 HR1.out HPD.out)
  rw [← hnn] at HC
  have c1 : w1.cell? ⟨jb, 1, none⟩ = some (.slice (some ⟨g, 0, none⟩) n c) := by rw [HJ1.out.blk.cell]; rfl
  have HF0 := Lib.hid hb0
  have HJG := Lib.hid hjg
  have HJL := Lib.hid hjl
  clear hw1 hnn hz hd hz1 hzl hb0 hps hpg hgl hjl hgt hj hr hjg HR1 HPD HK eg hn
  go_enter Try.func37, Try.ntmps37
  go_upto_region 1 with fail
  rw [← HW1.out]
  clear HW1
  go_wp2_with fail
  refine HC.out.mono ?_
  rintro e w2 ⟨rfl, hr2, hg2⟩
  have HJ2 : Hid (At w2 jb 56 (joC lim (.slice (some ⟨g, 0, none⟩) n c))) := Lib.hid (HJ1.out.same (hg2.block jb (Nat.lt_of_lt_of_le HJL.out HF0.out.size) (fun e => HJG.out (Option.some.inj e))))
  have HR2 := Lib.hid hr2
  have HG2 := Lib.hid hg2
  have c2 : w2.cell? ⟨jb, 1, none⟩ = some (.slice (some ⟨g, 0, none⟩) n c) := by rw [HJ2.out.blk.cell]; rfl
  have f2 : w2.frozen? ⟨jb, 1, none⟩ = false := HJ2.out.blk.free 1 (by simp)
  obtain ⟨L', hL'⟩ : ∃ L', L' = L.filter (fun b => !decide (b = d)) := ⟨_, rfl⟩
  rw [← hL'] at HR2 ⊢
  have HL := Lib.hid hL'
  clear hL' hr2 hg2 HC c1
  go_wp2
  rw [← HL.out]
  refine bodyPost_end (results_none Try.results37 _ _ _) rfl ⟨rfl, HJ2.out.set 1 _, HR2.out.same ((Fr.set w2 jb 1 _).block g HR2.out.lt.2 (fun e => HJG.out e.symm)), ?_⟩
  exact ((Fr.below HF0.out).trans ((Fr.grown HG2.out).mono (fun k _ h => Or.inr h))).trans ((Fr.set w2 jb 1 _).mono (fun k _ h => Or.inl h))
end Go.Proofs.Yticchchcobjpdaa
