/- The walk of of: the datagram of a piece, a new one, if it is not there. Condition: at most 4 datagrams. -/
import Derived.Test.YticchchcobjpdaaJiI
import Derived.Deep.AppendLies
namespace Go.Proofs.Yticchchcobjpdaa
set_option linter.unusedVariables false
set_option linter.unusedSimpArgs false
set_option maxRecDepth 100000
open Go.RowKit Go.Proofs Go.Shelf Go.Lib Go.Sort
attribute [local go_sem ↓] Go.wp_at_zero Go.wp_at_succ
attribute [local go_sem ↓] ld_pk ld_ip ld_wh
theorem info_dptr : (Try.prog.info? 72).map (fun i => (i.zero, i.size, i.bytes)) = some (some (.pointer none), 1, 8) := by kernel_rfl
theorem alloc_at (w : World) (C : Array Value) (e : TypeId) : At (w.alloc (.cells C e)) w.heap.size e C := by
  show (w.heap.push _)[w.heap.size]? = _
  rw [Array.getElem?_push_size]
theorem own_ne {w : World} {B c n : Nat} {o : Option Addr} {L : List Nat} {b : Nat} {e : TypeId} {C : Array Value} (h : PtrO w B o c L) (k : At w b e C) (hne : e ≠ 72) : (Value.slice o n c).ownBlock ≠ some b := by
  rcases h with ⟨rfl, _⟩ | ⟨g, rfl, h⟩
  · simp [Value.ownBlock]
  · obtain ⟨D, hd⟩ := h.tag
    have := k.ne hd hne
    simp only [Value.ownBlock]
    intro e
    exact this (Option.some.inj e).symm
theorem own_is {n c g : Nat} {o : Option Addr} {w : World} {B : Nat} {L : List Nat} (h : PtrO w B o c L) (e : (Value.slice o n c).ownBlock = some g) : o = some ⟨g, 0, none⟩ := by
  rcases h with ⟨rfl, _⟩ | ⟨g', rfl, h⟩
  · simp [Value.ownBlock] at e
  · simp only [Value.ownBlock] at e
    rw [Option.some.inj e]
abbrev zwh : Array Value := #[.int .u8 0, .int .u8 0, .int .u8 0, .int .u8 0, .int .u8 0, .int .u8 0, .int .u8 0, .int .u8 0, .int .i64 0, .int .i64 0]
theorem ofIdx (jb B wb : Nat) (o : Option Addr) (c : Nat) (L : List Nat) (nm : Nat → Pkt) (p : Pkt) (hn : L.length ≤ 4) (w : World) (hr : PtrO w B o c L) (hw : Blk w wb 76 (whC p)) (hD : ∀ b ∈ L, ∃ s age, At w b 78 (dtC (nm b) s age)) :
    Calls Try.prog 55 #[.slice o L.length c, .func (.func 56) #[] #[.pointer (some ⟨wb, 0, none⟩)]] w fun e w' => (∃ q, w' = w.drewN q) ∧ ((e = .returned (.int .i64 (-1)) ∧ ∀ j (hj : j < L.length), sameW (nm L[j]) p = false) ∨ ∃ k, ∃ (hk : k < L.length), e = .returned (.int .i64 (k : Int)) ∧ sameW (nm L[k]) p = true ∧ ∀ j (hj : j < L.length), j < k → sameW (nm L[j]) p = false) := by
  rcases hr with ⟨rfl, rfl, rfl⟩ | ⟨g, rfl, hr⟩
  · refine (idxD_nil _ _ w).mono ?_
    rintro e w' ⟨rfl, rfl⟩
    exact ⟨⟨0, rfl⟩, Or.inl ⟨rfl, fun j hj => absurd hj (by simp)⟩⟩
  · have eg : ∀ args w, (callFunc 56 args).run Try.prog w = .ok (.enter 56 args) w := enters_of Try.func56 (by kernel_rfl) rfl
    obtain ⟨CG, hgt⟩ := hr.tag
    obtain ⟨lo, hi, hwt, hfr⟩ := hw
    have hwg : wb ≠ g := by
      rintro rfl
      have := hgt.symm.trans hwt
      injection this with this
      injection this with _ h2 _
      exact absurd h2 (by decide)
    have hwl : wb < w.heap.size := (Array.getElem?_eq_some_iff.1 hwt).1
    exact idxD_any 56 _ eg (fun b => sameW (nm b) p) L B g c (by omega) w hr (fun W b hb hg => by
      obtain ⟨s, age, hat⟩ := hD b hb
      have hbg : b ≠ g := hat.ne hgt (by decide)
      exact of1_any b wb (nm b) p s age W (hat.same (hg.block b hat.lt (fun e => hbg (Option.some.inj e)))).blk ⟨lo, hi, (hg.block wb hwl (fun e => hwg (Option.some.inj e))).trans hwt, hfr⟩)

set_option maxHeartbeats 8000000 in
theorem of_any (jb B : Nat) (lim : Int) (o : Option Addr) (c : Nat) (L : List Nat) (nm : Nat → Pkt) (p : Pkt) (hn : L.length ≤ 4) (w : World) (hB : B ≤ w.heap.size) (hj : At w jb 56 (joC lim (.slice o L.length c))) (hr : PtrO w B o c L) (hD : ∀ b ∈ L, ∃ s age, At w b 78 (dtC (nm b) s age)) :
    Calls Try.prog 33 #[ptr jb, .agg p.c] w fun e w' =>
      (∃ k, ∃ (hk : k < L.length), sameW (nm L[k]) p = true ∧ (∀ j (hj : j < L.length), j < k → sameW (nm L[j]) p = false) ∧ e = .returned (ptr L[k]) ∧ Fr (fun _ => False) w w') ∨
      ((∀ j (hj : j < L.length), sameW (nm L[j]) p = false) ∧ ∃ nb g' c', e = .returned (ptr nb) ∧ w.heap.size ≤ nb ∧ At w' nb 78 (dtC p (.slice none 0 0) 0) ∧ At w' jb 56 (joC lim (.slice (some ⟨g', 0, none⟩) ((ofL L).length + 1) c')) ∧ PtrRow w' B g' c' (ofL L ++ [nb]) ∧ (o = some ⟨g', 0, none⟩ ∨ w.heap.size ≤ g') ∧ Fr (fun k => k = jb ∨ o = some ⟨k, 0, none⟩) w w') := by
  have HP1 := Lib.hid (Blk.new w 25 p.c 0 0 (Or.inl (Nat.le_refl _)))
  have HB1 := Lib.hid ((Below.refl w.heap.size w).alloc (Nat.le_refl _) (.cells p.c 25))
  have HJ := Lib.hid hj
  have HR := Lib.hid hr
  have HD := Lib.hid hD
  obtain ⟨Q, hQ⟩ : ∃ Q : Ending → World → Prop, Q = fun e w' =>
      (∃ k, ∃ (hk : k < L.length), sameW (nm L[k]) p = true ∧ (∀ j (hj : j < L.length), j < k → sameW (nm L[j]) p = false) ∧ e = .returned (ptr L[k]) ∧ Fr (fun _ => False) w w') ∨
      ((∀ j (hj : j < L.length), sameW (nm L[j]) p = false) ∧ ∃ nb g' c', e = .returned (ptr nb) ∧ w.heap.size ≤ nb ∧ At w' nb 78 (dtC p (.slice none 0 0) 0) ∧ At w' jb 56 (joC lim (.slice (some ⟨g', 0, none⟩) ((ofL L).length + 1) c')) ∧ PtrRow w' B g' c' (ofL L ++ [nb]) ∧ (o = some ⟨g', 0, none⟩ ∨ w.heap.size ≤ g') ∧ Fr (fun k => k = jb ∨ o = some ⟨k, 0, none⟩) w w') := ⟨_, rfl⟩
  rw [← hQ]
  have HQ1 : Hid (∀ w' k (hk : k < L.length), sameW (nm L[k]) p = true → (∀ j (hj : j < L.length), j < k → sameW (nm L[j]) p = false) → Fr (fun _ => False) w w' → Q (.returned (ptr L[k])) w') := Lib.hid (fun w' k hk h1 h2 h3 => by rw [hQ]; exact Or.inl ⟨k, hk, h1, h2, rfl, h3⟩)
  have HQ2 : Hid (∀ w' nb g' c', (∀ j (hj : j < L.length), sameW (nm L[j]) p = false) → w.heap.size ≤ nb → At w' nb 78 (dtC p (.slice none 0 0) 0) → At w' jb 56 (joC lim (.slice (some ⟨g', 0, none⟩) ((ofL L).length + 1) c')) → PtrRow w' B g' c' (ofL L ++ [nb]) → (o = some ⟨g', 0, none⟩ ∨ w.heap.size ≤ g') → Fr (fun k => k = jb ∨ o = some ⟨k, 0, none⟩) w w' → Q (.returned (ptr nb)) w') := Lib.hid (fun w' nb g' c' h1 h2 h3 h4 h5 h6 h7 => by rw [hQ]; exact Or.inr ⟨h1, nb, g', c', rfl, h2, h3, h4, h5, h6, h7⟩)
  obtain ⟨id, f, t, pr, tt, a, mo, d, hL⟩ := p
  obtain ⟨f0, f1, f2, f3, t0, t1, t2, t3, rfl, rfl⟩ := pk_explicit hL
  obtain ⟨p, hp⟩ : ∃ p : Pkt, p = ⟨id, [f0, f1, f2, f3], [t0, t1, t2, t3], pr, tt, a, mo, d, hL⟩ := ⟨_, rfl⟩
  have EW : Hid (#[ubv f0, ubv f1, ubv f2, ubv f3, ubv t0, ubv t1, ubv t2, ubv t3, .int .i64 pr, .int .i64 id] = whC p) := Lib.hid (by rw [hp]; rfl)
  have ED : Hid (#[ubv f0, ubv f1, ubv f2, ubv f3, ubv t0, ubv t1, ubv t2, ubv t3, .int .i64 pr, .int .i64 id, .slice none 0 0, .int .i64 0] = dtC p (.slice none 0 0) 0) := Lib.hid (by rw [hp]; rfl)
  have lf : (Ld 23 (.pointer (some ⟨w.heap.size, 1, none⟩))).run Try.prog _ = .ok (.agg #[ubv f0, ubv f1, ubv f2, ubv f3]) _ := HP1.out.ld_pf
  have lt : (Ld 23 (.pointer (some ⟨w.heap.size, 5, none⟩))).run Try.prog _ = .ok (.agg #[ubv t0, ubv t1, ubv t2, ubv t3]) _ := HP1.out.ld_pt
  have c30 : World.cell? _ ⟨w.heap.size, 0, none⟩ = some (.int .i64 id) := (pk_c3 HP1.out).1
  have c39 : World.cell? _ ⟨w.heap.size, 9, none⟩ = some (.int .i64 pr) := (pk_c3 HP1.out).2
  rw [← hp] at HP1 HB1 HQ1 HQ2 lf lt c30 c39 ⊢
  clear hp
  clear hj hr hD hQ HP1
  go_enter Try.func33, Try.ntmps33
  go_upto_region 1 with fail
  generalize World.alloc _ _ = w1 at HB1 lf lt c30 c39 ⊢
  have tokA : True := trivial
  go_upto_region 2 with (have _t := tokA; refine wpList_store_blk rfl 76 _ _ rfl w1.heap.size (whC p) rfl (congrArg Value.agg EW.out) zwh 76 (Blk.new w1 76 zwh 0 0 (Or.inl (Nat.le_refl _))) (by rw [whC_size]; rfl) (by rw [whC_size]; exact size_wh) (whC_one p) ?_; clear tokA)
  generalize hw2 : World.setCells _ _ _ _ = w2
  have HW2 : Hid (Blk w2 w1.heap.size 76 (whC p)) := Lib.hid (by rw [← hw2]; exact (Blk.new w1 76 zwh 0 0 (Or.inl (Nat.le_refl _))).setAll (cs := whC p) (by rw [whC_size]; rfl))
  have HB2 : Hid (Below w.heap.size w w2) := Lib.hid (by rw [← hw2]; exact Below.setCells (HB1.out.alloc HB1.out.size _) HB1.out.size 0 _)
  clear hw2 lf lt c30 c39 HB1
  generalize w1.heap.size = wb at HW2 ⊢
  have HJ2 := Lib.hid (HJ.out.same (HB2.out.block jb HJ.out.lt))
  have HR2 := Lib.hid (HR.out.below HB2.out)
  have HX := Lib.hid (ofIdx jb B wb o c L nm p hn w2 HR2.out HW2.out (fun b hb => by
    obtain ⟨s, age, h⟩ := HD.out b hb
    exact ⟨s, age, h.same (HB2.out.block b h.lt)⟩))
  have c1 : w2.cell? ⟨jb, 1, none⟩ = some (.slice o L.length c) := by rw [HJ2.out.blk.cell]; rfl
  go_wp2_with fail
  refine HX.out.mono ?_
  rintro e w3 ⟨⟨q, hw3⟩, hcs⟩
  have HW3 : Hid (Blk w3 wb 76 (whC p)) := Lib.hid (by rw [hw3]; exact HW2.out.drewN q)
  have HB3 : Hid (Below w.heap.size w w3) := Lib.hid (by rw [hw3]; exact Below.drewN HB2.out q)
  have HJ3 : Hid (At w3 jb 56 (joC lim (.slice o L.length c))) := Lib.hid (by rw [hw3]; exact HJ2.out)
  have HR3 : Hid (PtrO w3 B o c L) := Lib.hid (HR.out.below HB3.out)
  clear hw3 HJ2 HR2 HX c1 HW2 HB2
  have c1 : w3.cell? ⟨jb, 1, none⟩ = some (.slice o L.length c) := by rw [HJ3.out.blk.cell]; rfl
  rcases hcs with ⟨rfl, ha⟩ | ⟨k, hk, rfl, h1, h2⟩
  rotate_left
  · have HQ3 := Lib.hid (HQ1.out w3 k hk h1 h2 (Fr.below HB3.out))
    obtain ⟨g, rfl, hrow⟩ : ∃ g, o = some ⟨g, 0, none⟩ ∧ PtrRow w3 B g c L := by
      rcases HR3.out with ⟨_, _, h⟩ | h
      · rw [h] at hk; simp at hk
      · exact h
    have hc : w3.cell? ⟨g, k, none⟩ = some (ptr L[k]) := hrow.cell k hk
    have hki : (k : Int) < (L.length : Int) := by omega
    have hk0 : 0 ≤ (k : Int) := by omega
    have hge : (k : Int) ≥ 0 := hk0
    clear h1 h2 hrow HR3 HJ3 HQ1 HQ2
    generalize L[k] = bk at hc HQ3
    go_wp2
    exact HQ3.out
  · have HA := Lib.hid ha
    clear ha HQ1
    have hneg : ¬ (-1 : Int) ≥ 0 := by decide
    have lw := HW3.out.ld_whole
    rw [← EW.out] at lw
    by_cases h4 : 4 ≤ L.length
    · obtain ⟨g, rfl, hrow⟩ : ∃ g, o = some ⟨g, 0, none⟩ ∧ PtrRow w3 B g c L := by
        rcases HR3.out with ⟨_, _, h⟩ | h
        · rw [h] at h4; simp at h4
        · exact h
      have h4i : (L.length : Int) ≥ 4 := by omega
      have h4j : (4 : Int) ≤ (L.length : Int) := by omega
      have h0 : 0 < L.length := by omega
      have h0i : (0 : Int) < (L.length : Int) := by omega
      have hc : w3.cell? ⟨g, 0, none⟩ = some (ptr L[0]) := hrow.cell 0 h0
      have hz : ∀ b ∈ L, Dz w3 b := fun b hb => by
        obtain ⟨s, age, h⟩ := HD.out b hb
        exact ⟨_, h.same (HB3.out.block b h.lt)⟩
      have hwg : wb ≠ g ∧ wb ≠ jb := by
        obtain ⟨D, hD⟩ := hrow.tag
        obtain ⟨lo, hi, hwt, _⟩ := HW3.out
        constructor
        · rintro rfl
          have := hwt.symm.trans hD
          injection this with this
          injection this with _ h2 _
          exact absurd h2 (by decide)
        · rintro rfl
          have := hwt.symm.trans HJ3.out
          injection this with this
          injection this with _ h2 _
          exact absurd h2 (by decide)
      have HDR := Lib.hid (drop_any jb g c B L[0] lim L (by omega) w3 HJ3.out hrow hz (hz _ (List.getElem_mem _)))
      obtain ⟨M, hM⟩ : ∃ M, M = L.filter (fun b => !decide (b = L[0])) := ⟨_, rfl⟩
      rw [← hM] at HDR
      have HM : Hid (ofL L = M) := Lib.hid (by rw [hM]; unfold ofL; rw [if_pos h4]; congr 1; funext b; congr 2; cases L with | nil => simp at h0 | cons x l => rfl)
      have HML : Hid (M.length ≤ 4) := Lib.hid (by rw [hM]; exact Nat.le_trans (List.length_filter_le _ _) hn)
      have HWG := Lib.hid hwg
      clear hz hM hrow hwg
      generalize L[0] = b0 at hc HDR
      go_wp2_with fail
      refine HDR.out.mono ?_
      rintro e wd ⟨rfl, hj4, hr4, hf4⟩
      have HJD := Lib.hid hj4
      have HRD := Lib.hid hr4
      have HWD : Hid (Blk wd wb 76 (whC p)) := Lib.hid (HW3.out.of_heap (hf4.block wb HW3.out.lt (fun h => h.elim HWG.out.2 HWG.out.1)))
      have HFD : Hid (Fr (fun k => k = jb ∨ k = g) w wd) := Lib.hid ((Fr.below HB3.out).trans hf4)
      have lw := HWD.out.ld_whole
      rw [← EW.out] at lw
      have hml := HML.out
      clear hj4 hr4 hf4 HDR hc c1 HJ3 HR3 HW3 HB3
      go_upto_region 8 with fail
      generalize hw4 : World.alloc _ _ = w4
      have HN4 : Hid (At w4 wd.heap.size 78 (dtC p (.slice none 0 0) 0)) := Lib.hid (by rw [← ED.out, ← hw4]; exact alloc_at _ _ _)
      have HB4 : Hid (Fr (fun k => k = jb ∨ k = g) w w4) := Lib.hid (by rw [← hw4]; exact HFD.out.trans (Fr.below ((Below.refl _ wd).alloc (Nat.le_refl _) _)))
      have HBD : Hid (Below wd.heap.size wd w4) := Lib.hid (by rw [← hw4]; exact (Below.refl _ wd).alloc (Nat.le_refl _) _)
      have HB34 : Hid (w.heap.size ≤ wd.heap.size) := Lib.hid HFD.out.size
      have HJ4 : Hid (At w4 jb 56 (joC lim (.slice (some ⟨g, 0, none⟩) M.length c))) := Lib.hid (HJD.out.same (HBD.out.block jb HJD.out.lt))
      have HR4 : Hid (PtrO w4 B (some ⟨g, 0, none⟩) c M) := Lib.hid (Or.inr ⟨g, rfl, HRD.out.same (HBD.out.block g HRD.out.lt.2)⟩)
      have c4 : w4.cell? ⟨jb, 1, none⟩ = some (.slice (some ⟨g, 0, none⟩) M.length c) := by rw [HJ4.out.blk.cell]; rfl
      obtain ⟨i0, hi0, hz0, hz1, hz2⟩ := info_parts info_dptr
      generalize wd.heap.size = nb at HN4 HB34 ⊢
      clear hw4 HJD HRD HWD HFD HBD lw h4i h4j
      have HR5 := Lib.hid (HR4.out.below ((Below.refl w4.heap.size w4).alloc (Nat.le_refl _) (.cells #[ptr nb] 72)))
      have HJ5 := Lib.hid (HJ4.out.same (((Below.refl w4.heap.size w4).alloc (Nat.le_refl _) (.cells #[ptr nb] 72)).block jb HJ4.out.lt))
      have HN5 := Lib.hid (HN4.out.same (((Below.refl w4.heap.size w4).alloc (Nat.le_refl _) (.cells #[ptr nb] 72)).block nb HN4.out.lt))
      have HB5 := Lib.hid (HB4.out.trans (Fr.below ((Below.refl _ w4).alloc (Nat.le_refl _) (.cells #[ptr nb] 72))))
      have hnews := World.news_of_block (alloc_at w4 #[ptr nb] 72)
      go_upto_region 9 with (refine wpList_append_lies _ rfl (.tmp 53) (.tmp 55) 54 rfl B 72 i0 (.pointer none) 1 8 Try.underlying54 hi0 hz0 hz1 hz2 rfl (by decide) (.slice (some ⟨g, 0, none⟩) M.length c) M.length (M.map ptr) rfl HR5.out.own ⟨w4.heap.size, 0, none⟩ 1 1 [ptr nb] rfl rfl hnews (fun u hu => by rw [List.mem_singleton.1 hu]; rfl) (by decide) (by unfold maxLen; omega) (by omega) (Nat.le_trans hB HB5.out.size) _ rfl ?_; intro gl cl w6 hown hg hgo hgl; have HJ6 := Lib.hid (HJ5.out.same (hg.block jb HJ5.out.lt (own_ne HR5.out HJ5.out (by decide)).symm)); have HN6 := Lib.hid (HN5.out.same (hg.block nb HN5.out.lt (own_ne HR5.out HN5.out (by decide)).symm)); have HO6 := Lib.hid hown; have HG6 := Lib.hid hg; have HGO := Lib.hid hgo; have c6 : w6.cell? ⟨jb, 1, none⟩ = some (.slice (some ⟨g, 0, none⟩) M.length c) := (by rw [HJ6.out.blk.cell]; rfl); have f6 : w6.frozen? ⟨jb, 1, none⟩ = false := HJ6.out.blk.free 1 (by simp); clear hown hg hgo hgl hnews)
      go_wp2
      have eL : ofL L = M := HM.out
      have hG7 := Fr.set w6 jb 1 (.slice (some ⟨gl, 0, none⟩) (M.length + 1) cl)
      have hrow : PtrRow w6 B gl cl (M ++ [nb]) := own_ptr (by rw [List.length_append, List.map_append]; exact HO6.out)
      obtain ⟨D, hD⟩ := hrow.tag
      have hjg : jb ≠ gl := HJ6.out.ne hD (by decide)
      refine HQ2.out _ nb gl cl HA.out HB34.out (HN6.out.same (hG7.block nb HN6.out.lt (HN6.out.ne HJ6.out (by decide)))) (by rw [eL]; exact HJ6.out.set 1 _) (by rw [eL]; exact hrow.same (hG7.block gl hrow.lt.2 (fun e => hjg e.symm))) ?_ ?_
      · rcases HGO.out with h | h
        · exact Or.inl (own_is HR5.out h)
        · exact Or.inr (by rw [h]; exact HB5.out.size)
      · refine ((HB5.out.mono (fun k _ h => h.elim Or.inl (fun h => Or.inr (by rw [h])))).trans (?_ : Fr _ _ w6)).trans (hG7.mono (fun k _ h => Or.inl h))
        exact ⟨HG6.out.os, HG6.out.tape, HG6.out.output, HG6.out.size, fun k hk hn => HG6.out.block k hk (fun e => hn (Or.inr (own_is HR5.out e.symm)))⟩
    · have h4i : ¬ (L.length : Int) ≥ 4 := by omega
      have h4j : ¬ (4 : Int) ≤ (L.length : Int) := by omega
      go_upto_region 8 with fail
      generalize hw4 : World.alloc _ _ = w4
      have HN4 : Hid (At w4 w3.heap.size 78 (dtC p (.slice none 0 0) 0)) := Lib.hid (by rw [← ED.out, ← hw4]; exact alloc_at _ _ _)
      have HB4 : Hid (Below w.heap.size w w4) := Lib.hid (by rw [← hw4]; exact HB3.out.alloc HB3.out.size _)
      have HB34 : Hid (w.heap.size ≤ w3.heap.size) := Lib.hid HB3.out.size
      have HJ4 := Lib.hid (HJ.out.same (HB4.out.block jb HJ.out.lt))
      have HR4 := Lib.hid (HR.out.below HB4.out)
      have c4 : w4.cell? ⟨jb, 1, none⟩ = some (.slice o L.length c) := by rw [HJ4.out.blk.cell]; rfl
      obtain ⟨i0, hi0, hz0, hz1, hz2⟩ := info_parts info_dptr
      generalize w3.heap.size = nb at HN4 HB34 ⊢
      clear hw4 HJ3 HR3 HW3 HB3 c1 lw h4i h4j hneg
      have HR5 := Lib.hid (HR4.out.below ((Below.refl w4.heap.size w4).alloc (Nat.le_refl _) (.cells #[ptr nb] 72)))
      have HJ5 := Lib.hid (HJ4.out.same (((Below.refl w4.heap.size w4).alloc (Nat.le_refl _) (.cells #[ptr nb] 72)).block jb HJ4.out.lt))
      have HN5 := Lib.hid (HN4.out.same (((Below.refl w4.heap.size w4).alloc (Nat.le_refl _) (.cells #[ptr nb] 72)).block nb HN4.out.lt))
      have HB5 := Lib.hid (HB4.out.alloc HB4.out.size (.cells #[ptr nb] 72))
      have hnews := World.news_of_block (alloc_at w4 #[ptr nb] 72)
      go_upto_region 9 with (refine wpList_append_lies _ rfl (.tmp 53) (.tmp 55) 54 rfl B 72 i0 (.pointer none) 1 8 Try.underlying54 hi0 hz0 hz1 hz2 rfl (by decide) (.slice o L.length c) L.length (L.map ptr) rfl HR5.out.own ⟨w4.heap.size, 0, none⟩ 1 1 [ptr nb] rfl rfl hnews (fun u hu => by rw [List.mem_singleton.1 hu]; rfl) (by decide) (by unfold maxLen; omega) (by omega) (Nat.le_trans hB HB5.out.size) _ rfl ?_; intro gl cl w6 hown hg hgo hgl; have HJ6 := Lib.hid (HJ5.out.same (hg.block jb HJ5.out.lt (own_ne HR5.out HJ5.out (by decide)).symm)); have HN6 := Lib.hid (HN5.out.same (hg.block nb HN5.out.lt (own_ne HR5.out HN5.out (by decide)).symm)); have HO6 := Lib.hid hown; have HG6 := Lib.hid hg; have HGO := Lib.hid hgo; have c6 : w6.cell? ⟨jb, 1, none⟩ = some (.slice o L.length c) := (by rw [HJ6.out.blk.cell]; rfl); have f6 : w6.frozen? ⟨jb, 1, none⟩ = false := HJ6.out.blk.free 1 (by simp); clear hown hg hgo hgl hnews)
      go_wp2
      have eL : ofL L = L := if_neg h4
      have hG7 := Fr.set w6 jb 1 (.slice (some ⟨gl, 0, none⟩) (L.length + 1) cl)
      have hrow : PtrRow w6 B gl cl (L ++ [nb]) := own_ptr (by rw [List.length_append, List.map_append]; exact HO6.out)
      obtain ⟨D, hD⟩ := hrow.tag
      have hjg : jb ≠ gl := HJ6.out.ne hD (by decide)
      refine HQ2.out _ nb gl cl HA.out HB34.out (HN6.out.same (hG7.block nb HN6.out.lt (HN6.out.ne HJ6.out (by decide)))) (by rw [eL]; exact HJ6.out.set 1 _) (by rw [eL]; exact hrow.same (hG7.block gl hrow.lt.2 (fun e => hjg e.symm))) ?_ ?_
      · rcases HGO.out with h | h
        · exact Or.inl (own_is HR5.out h)
        · exact Or.inr (by rw [h]; exact HB5.out.size)
      · refine ((Fr.below HB5.out).trans (?_ : Fr _ _ w6)).trans (hG7.mono (fun k _ h => Or.inl h))
        exact ⟨HG6.out.os, HG6.out.tape, HG6.out.output, HG6.out.size, fun k hk hn => HG6.out.block k hk (fun e => hn (Or.inr (own_is HR5.out e.symm)))⟩
end Go.Proofs.Yticchchcobjpdaa
