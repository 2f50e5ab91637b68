/- Tick of the document's joiner. Condition: at most 100 datagrams, of ages up to 2^20. -/
import Derived.Test.YticchchcobjpdaaJjE
import Derived.BigQuiet
namespace Go.Proofs.Yticchchcobjpdaa
set_option linter.unusedVariables false
set_option linter.unusedSimpArgs false
set_option maxRecDepth 100000
open Go.RowKit Go.Proofs Go.Shelf Go.Lib Go.Sort
attribute [local go_sem ↓] Go.wp_at_zero Go.wp_at_succ
attribute [local go_sem ↓] ld_pk ld_ip ld_wh
theorem size_rj : (Try.prog.info? 62).map (·.size) = some 2 := by kernel_rfl
def rdC (r : Rd) : Array Value := #[.slice r.A r.L.length r.c, .int .i64 r.age]
theorem fill_rd (r : Rd) : Instr.fill (fun i => some (i * 2, 2)) ((Array.range (1 * 2)).map ((Value.agg zdg).cells[· % (Value.agg zdg).cells.size]!)) [(0, .agg (rdC r))] = some (rdC r) := by kernel_rfl
theorem step_bsd {ops : Array Oper} {o : Oper} {a : Act} {w : World} {K : Act → World → Prop} {Q : Exit → Act → World → Prop} {E : Prop} (hg : o.guard = none) (x : Operand) (ho : o.op = .buildSlice 60 1 #[(0, x)]) (X : Rd) (hx : a.eval x = .agg (rdC X))
    (hK : K (a.put o.dst (.slice (some ⟨w.heap.size, 0, none⟩) 1 1)) (w.alloc (.cells (rdC X) 100))) : if Region.wanted o (yielded ops a.tmps) = true then Oper.wp Try.prog o a w K Q else E := by
  have hw : Region.wanted o (yielded ops a.tmps) = true := by simp [Region.wanted, hg]
  rw [if_pos hw]
  obtain ⟨i0, hi0, hz0, hz1, hz2⟩ := info_parts info_dg
  refine wp_buildSlice 60 100 1 _ ho (rdC X) i0 (.agg zdg) Try.underlying60 hi0 hz0 (by rw [hz1]; decide) (by rw [hz1]; decide) ?_ hK
  rw [hz1]
  have e : (#[(0, x)].map fun (i, x) => (i, a.eval x)).toList = [(0, a.eval x)] := by simp
  rw [e, hx]
  exact fill_rd X
theorem wpList_bsD {ops : Array Oper} {rest : List Oper} {o : Oper} {a : Act} {w : World} {Q : Exit → Act → World → Prop} (hg : o.guard = none) (x : Operand) (ho : o.op = .buildSlice 60 1 #[(0, x)])
    (X : Rd) (hx : a.eval x = .agg (rdC X)) (h : wpList Try.prog ops Q rest (a.put o.dst (.slice (some ⟨w.heap.size, 0, none⟩) 1 1)) (w.alloc (.cells (rdC X) 100))) : wpList Try.prog ops Q (o :: rest) a w := by
  obtain ⟨i0, hi, hz0, hz1, hz2⟩ := info_parts info_dg
  refine wpList_buildSlice hg 60 100 1 #[(0, x)] ho (rdC X) i0 (.agg zdg) Try.underlying60 hi hz0 (by rw [hz1]; decide) (by rw [hz1]; decide) ?_ h
  rw [hz1]
  have e : (#[(0, x)].map fun (i, x) => (i, a.eval x)).toList = [(0, a.eval x)] := by simp
  rw [e, hx]
  exact fill_rd X
theorem rblk_cells {w : World} {b : Nat} {e : TypeId} {r : Rd} (h : Blk w b e (rdC r)) : ∀ j u, (flatR [r])[j]? = some u → w.cell? ((⟨b, 0, none⟩ : Addr).add j) = some u := fun j u hu => by
  rw [Addr.add_lit, Nat.zero_add, h.cell]
  have e1 : flatR [r] = (rdC r).toList := rfl
  rw [e1] at hu
  simpa using hu
def upR (r : Rd) : Rd := ⟨r.A, r.c, r.L, r.age + 1⟩
theorem tickR_snoc (lim : Int) (E : List Rd) (r : Rd) : tickR lim (E ++ [r]) = tickR lim E ++ if r.age + 1 < lim then [upR r] else [] := by
  unfold tickR
  rw [List.filter_append, List.map_append]
  congr 1
  by_cases h : r.age + 1 < lim
  · rw [if_pos h]
    simp [List.filter_cons, h, upR]
  · rw [if_neg h]
    simp [List.filter_cons, h]
theorem tickR_len (lim : Int) (E : List Rd) : (tickR lim E).length ≤ E.length := by
  unfold tickR
  rw [List.length_map]
  exact List.length_filter_le _ _
theorem snocR (E : List Rd) (k : Nat) (h : k < E.length) : E.take (k + 1) = E.take k ++ [E[k]] := by rw [List.take_add_one, List.getElem?_eq_getElem h]; rfl
set_option maxHeartbeats 8000000 in
theorem refTick_any (B : Nat) (lim : Int) (hl1 : 1 ≤ lim) (hl2 : lim ≤ 1048576) (v : Value) (n : Nat) (E : List Rd) (hn : n ≤ 100) (hag : ∀ r ∈ E, 0 ≤ r.age ∧ r.age ≤ 1048576) (w : World) (hown : w.ownsRow B 100 2 v n (flatR E)) :
    Calls Try.prog 27 #[.agg #[.int .i64 lim, v]] w fun e w' => ∃ v', e = .returned (.agg #[.int .i64 lim, v']) ∧ w'.ownsRow w.heap.size 100 2 v' (tickR lim E).length (flatR (tickR lim E)) ∧ Below w.heap.size w w' := by
  obtain ⟨A, c, rfl, hc1, hc2, hsrc⟩ := slice_of v w hown
  have HSRC := Lib.hid hsrc
  have HEN := Lib.hid (own_dg hown).1
  have HAG := Lib.hid hag
  have hal := ((Below.refl w.heap.size w).alloc (Nat.le_refl _) (.cells #[.int .i64 lim, .slice A n c] 62)).alloc (by rw [size_alloc]; omega) (.cells #[.int .i64 0, .slice none 0 0] 62)
  have HJ := Lib.hid ((Blk.new w 62 #[.int .i64 lim, .slice A n c] 0 0 (Or.inl (Nat.le_refl _))).alloc (.cells #[.int .i64 0, .slice none 0 0] 62))
  have hZ : Blk ((w.alloc (.cells #[.int .i64 lim, .slice A n c] 62)).alloc (.cells #[.int .i64 0, .slice none 0 0] 62)) (w.heap.size + 1) 62 #[.int .i64 0, .slice none 0 0] := by
    have := Blk.new (w.alloc (.cells #[.int .i64 lim, .slice A n c] 62)) 62 #[.int .i64 0, .slice none 0 0] 0 0 (Or.inl (Nat.le_refl _))
    rw [size_alloc] at this
    exact this
  have HZ := Lib.hid hZ
  have HB := Lib.hid hal
  clear hown hsrc hag hal hZ
  go_enter Try.func27, Try.ntmps27
  go_upto_region 1 with fail
  generalize World.alloc _ _ = w1 at HJ HZ HB ⊢
  obtain ⟨b0, hb0⟩ : ∃ q, q = w.heap.size := ⟨_, rfl⟩
  rw [← hb0] at HJ HZ ⊢
  have HB0 := Lib.hid hb0
  clear hb0
  have HO0 : Hid (w1.ownsRow w.heap.size 100 2 (.slice none 0 0) (tickR lim (E.take 0)).length (flatR (tickR lim (E.take 0)))) := Lib.hid ⟨rfl, Or.inl ⟨rfl, rfl⟩⟩
  go_wp2_with fail
  go_loopg [3, 4] n (fun kx s3 s4 wr => ∃ (i : Nat) (u : Value), s3 = u ∧ s4 = .int .i64 (i : Int) ∧ i ≤ n ∧ n - i ≤ kx ∧ Hid (wr.ownsRow w.heap.size 100 2 u (tickR lim (E.take i)).length (flatR (tickR lim (E.take i)))) ∧ Hid (Blk wr b0 62 #[.int .i64 lim, .slice A n c]) ∧ Hid (Blk wr (b0 + 1) 62 #[.int .i64 0, .slice none 0 0]) ∧ Hid (u.ownBlock ≠ some b0 ∧ u.ownBlock ≠ some (b0 + 1)) ∧ Hid (Below w.heap.size w wr))
  case atStart => exact ⟨0, _, rfl, rfl, Nat.zero_le _, by omega, HO0, HJ, HZ, Lib.hid ⟨by simp [Value.ownBlock], by simp [Value.ownBlock]⟩, HB⟩
  case round =>
    obtain ⟨i, u, e3, rfl, hi, hkx, HO, HJ, HZ, HNE, HB⟩ := hrel
    replace e3 := e3.symm
    subst e3
    have c1 : wr.cell? ⟨b0, 1, none⟩ = some (.slice A n c) := by rw [HJ.out.cell]; rfl
    have c0 : wr.cell? ⟨b0, 0, none⟩ = some (.int .i64 lim) := by rw [HJ.out.cell]; rfl
    by_cases hlt : i < n
    · have hltz : (i : Int) < (n : Int) := by omega
      have hi0 : 0 ≤ (i : Int) := by omega
      have hiE : i < E.length := by have := HEN.out; omega
      obtain ⟨g, rfl, hgl, hcells⟩ : ∃ g, A = some ⟨g, 0, none⟩ ∧ g < w.heap.size ∧ ∀ j u, (flatR E)[j]? = some u → w.cell? ⟨g, j, none⟩ = some u := by
        rcases HSRC.out with ⟨_, _, h0, _⟩ | ⟨g, h1, _, h2, h3⟩
        · omega
        · exact ⟨g, h1, h2, h3⟩
      have HCL : Hid (∀ w', Below w.heap.size w w' → w'.cell? ⟨g, i * 2, none⟩ = some (.slice E[i].A E[i].L.length E[i].c) ∧ w'.cell? ⟨g, i * 2 + 1, none⟩ = some (.int .i64 E[i].age)) := Lib.hid (fun w' hb => ⟨(hb.cell (p := ⟨g, i * 2, none⟩) hgl).trans (hcells _ _ (flatR_get E i hiE).1), (hb.cell (p := ⟨g, i * 2 + 1, none⟩) hgl).trans (hcells _ _ (flatR_get E i hiE).2)⟩)
      have hag := HAG.out E[i] (List.getElem_mem _)
      have HTS : Hid (tickR lim (E.take (i + 1)) = tickR lim (E.take i) ++ if E[i].age + 1 < lim then [upR E[i]] else []) := Lib.hid (by rw [snocR E i hiE, tickR_snoc])
      have HTL : Hid ((tickR lim (E.take i)).length ≤ 100) := Lib.hid (by have := tickR_len lim (E.take i); rw [List.length_take] at this; omega)
      obtain ⟨r, hr⟩ : ∃ r, r = E[i] := ⟨_, rfl⟩
      rw [← hr] at HCL hag HTS
      obtain ⟨ch, ca⟩ := HCL.out wr HB.out
      have hwa : IntKind.i64.wrap (r.age + 1) = r.age + 1 := IntWalk.i64_in _ ⟨by omega, by omega⟩
      clear hcells hr
      have ca' : ∀ q, (wr.drewN q).cell? ⟨g, i * 2 + 1, none⟩ = some (.int .i64 r.age) := fun q => ca
      have c0' : ∀ q, (wr.drewN q).cell? ⟨b0, 0, none⟩ = some (.int .i64 lim) := fun q => c0
      have c1' : ∀ q, (wr.drewN q).cell? ⟨b0, 1, none⟩ = some (.slice (some ⟨g, 0, none⟩) n c) := fun q => c1
      have mixed : Try.prog.follows .mixedOrders = true := by kernel_rfl
      by_cases hcmp : r.age + 1 < lim
      · rw [if_pos hcmp] at HTS
        go_upto_region 5 with fail
        go_quiet (fail)
        go_upto_region 6 with fail
        generalize hw5 : World.drewN _ _ = w5
        have HO5 : Hid (w5.ownsRow w.heap.size 100 2 u (tickR lim (E.take i)).length (flatR (tickR lim (E.take i)))) := Lib.hid (by rw [← hw5]; exact HO.out)
        have HJ5 : Hid (Blk w5 b0 62 #[.int .i64 lim, .slice (some ⟨g, 0, none⟩) n c]) := Lib.hid (by rw [← hw5]; exact HJ.out)
        have HZ5 : Hid (Blk w5 (b0 + 1) 62 #[.int .i64 0, .slice none 0 0]) := Lib.hid (by rw [← hw5]; exact HZ.out)
        have HB5 : Hid (Below w.heap.size w w5) := Lib.hid (by rw [← hw5]; exact Below.drewN HB.out _)
        clear hw5 HO HJ HZ HB ca ca' c0 c0' c1 c1' ch hcmp
        obtain ⟨i0, hi1, hz0, hz1, hz2⟩ := info_parts info_dg
        obtain ⟨T, hT⟩ : ∃ T, T = tickR lim (E.take i) := ⟨_, rfl⟩
        rw [← hT] at HO5 HTS HTL
        clear hT
        have HOa0 : Hid ((World.drew w5).ownsRow w.heap.size 100 2 u T.length (flatR T)) := Lib.hid HO5.out
        have HJa0 : Hid (Blk (World.drew w5) b0 62 #[.int .i64 lim, .slice (some ⟨g, 0, none⟩) n c]) := Lib.hid HJ5.out
        have HZa0 : Hid (Blk (World.drew w5) (b0 + 1) 62 #[.int .i64 0, .slice none 0 0]) := Lib.hid HZ5.out
        have HBa0 : Hid (Below w.heap.size w (World.drew w5)) := Lib.hid (Below.drewN HB5.out 1)
        refine wp_region_noPanic ?_
        refine wp_region_held_drew (S := (fun w' => w'.cell? ⟨b0, 1, none⟩ = some (.slice (some ⟨g, 0, none⟩) n c) ∧ w'.cell? ⟨g, i * 2, none⟩ = some (.slice r.A r.L.length r.c) ∧ w'.cell? ⟨g, i * 2 + 1, none⟩ = some (.int .i64 r.age))) (by kernel_rfl) (by first | exact ⟨(by rw [HJa0.out.cell]; rfl), HCL.out _ HBa0.out⟩) (fun hHeld => ?_)
        refine wpAnyH_take (i := 0) (oi := _) (v := ?vr1n0_1) rfl (by kernel_rfl) (by kernel_rfl) (by kernel_rfl) (fun _ _ _ h => h) (Or.inl ⟨by kernel_rfl, ?hr1n0_1⟩) hHeld ?_
        case hr1n0_1 => (intro w hSw; (try dsimp only at hSw); go_simp; try (with_reducible rfl))
        try simp only [List.getElem_toArray, List.getElem_cons_zero, List.getElem_cons_succ, Act.put, List.setIfInBounds_toArray, List.set_cons_zero, List.set_cons_succ]
        refine wpAnyH_take (i := 1) (oi := _) (v := ?vr1n1_2) rfl (by kernel_rfl) (by kernel_rfl) (by kernel_rfl) (fun _ _ _ h => h) (Or.inl ⟨by kernel_rfl, ?hr1n1_2⟩) hHeld ?_
        case hr1n1_2 => (intro w hSw; (try dsimp only at hSw); go_simp; try (with_reducible rfl))
        try simp only [List.getElem_toArray, List.getElem_cons_zero, List.getElem_cons_succ, Act.put, List.setIfInBounds_toArray, List.set_cons_zero, List.set_cons_succ]
        refine wpAnyH_take (i := 2) (oi := _) (v := ?vr1n2_3) rfl (by kernel_rfl) (by kernel_rfl) (by kernel_rfl) (fun _ _ _ h => h) (Or.inl ⟨by kernel_rfl, ?hr1n2_3⟩) hHeld ?_
        case hr1n2_3 => (intro w hSw; (try dsimp only at hSw); go_simp; try (with_reducible rfl))
        try simp only [List.getElem_toArray, List.getElem_cons_zero, List.getElem_cons_succ, Act.put, List.setIfInBounds_toArray, List.set_cons_zero, List.set_cons_succ]
        refine wpAnyH_take (i := 3) (oi := _) (v := ?vr1n3_4) rfl (by kernel_rfl) (by kernel_rfl) (by kernel_rfl) (fun _ _ _ h => h) (Or.inl ⟨by kernel_rfl, ?hr1n3_4⟩) hHeld ?_
        case hr1n3_4 => (intro w hSw; (try dsimp only at hSw); go_simp; try (with_reducible rfl))
        try simp only [List.getElem_toArray, List.getElem_cons_zero, List.getElem_cons_succ, Act.put, List.setIfInBounds_toArray, List.set_cons_zero, List.set_cons_succ]
        refine wpAnyH_take (i := 4) (oi := _) (v := ?vr1n4_5) rfl (by kernel_rfl) (by kernel_rfl) (by kernel_rfl) (fun _ _ _ h => h) (Or.inl ⟨by kernel_rfl, ?hr1n4_5⟩) hHeld ?_
        case hr1n4_5 => (intro w hSw; (try dsimp only at hSw); go_simp; try (with_reducible rfl))
        try simp only [List.getElem_toArray, List.getElem_cons_zero, List.getElem_cons_succ, Act.put, List.setIfInBounds_toArray, List.set_cons_zero, List.set_cons_succ]
        refine wpAnyH_take (i := 5) (oi := _) (v := ?vr1n5_6) rfl (by kernel_rfl) (by kernel_rfl) (by kernel_rfl) (fun _ _ _ h => h) (Or.inl ⟨by kernel_rfl, ?hr1n5_6⟩) hHeld ?_
        case hr1n5_6 => (intro w hSw; (try dsimp only at hSw); go_simp; try (with_reducible rfl))
        try simp only [List.getElem_toArray, List.getElem_cons_zero, List.getElem_cons_succ, Act.put, List.setIfInBounds_toArray, List.set_cons_zero, List.set_cons_succ]
        refine wpAnyH_take (i := 6) (oi := _) (v := ?vr1n6_7) rfl (by kernel_rfl) (by kernel_rfl) (by kernel_rfl) (fun _ _ _ h => h) (Or.inl ⟨by kernel_rfl, ?hr1n6_7⟩) hHeld ?_
        case hr1n6_7 => (intro w hSw; (try dsimp only at hSw); go_simp; try (with_reducible rfl))
        try simp only [List.getElem_toArray, List.getElem_cons_zero, List.getElem_cons_succ, Act.put, List.setIfInBounds_toArray, List.set_cons_zero, List.set_cons_succ]
        refine wpAnyH_take (i := 7) (oi := _) (v := ?vr1n7_8) rfl (by kernel_rfl) (by kernel_rfl) (by kernel_rfl) (fun _ _ _ h => h) (Or.inl ⟨by kernel_rfl, ?hr1n7_8⟩) hHeld ?_
        case hr1n7_8 => (intro w hSw; (try dsimp only at hSw); go_simp; try (with_reducible rfl))
        try simp only [List.getElem_toArray, List.getElem_cons_zero, List.getElem_cons_succ, Act.put, List.setIfInBounds_toArray, List.set_cons_zero, List.set_cons_succ]
        refine wpAnyH_take (i := 8) (oi := _) (v := ?vr1n8_9) rfl (by kernel_rfl) (by kernel_rfl) (by kernel_rfl) (fun _ _ _ h => h) (Or.inl ⟨by kernel_rfl, ?hr1n8_9⟩) hHeld ?_
        case hr1n8_9 => (intro w hSw; (try dsimp only at hSw); go_simp; try (with_reducible rfl))
        try simp only [List.getElem_toArray, List.getElem_cons_zero, List.getElem_cons_succ, Act.put, List.setIfInBounds_toArray, List.set_cons_zero, List.set_cons_succ]
        refine wpAnyH_take (i := 9) (oi := _) (v := ?vr1n9_10) rfl (by kernel_rfl) (by kernel_rfl) (by kernel_rfl) (fun _ _ _ h => h) (Or.inl ⟨by kernel_rfl, ?hr1n9_10⟩) hHeld ?_
        case hr1n9_10 => (intro w hSw; (try dsimp only at hSw); go_simp; try (with_reducible rfl))
        try simp only [List.getElem_toArray, List.getElem_cons_zero, List.getElem_cons_succ, Act.put, List.setIfInBounds_toArray, List.set_cons_zero, List.set_cons_succ]
        refine wpAnyH_take (i := 10) (oi := _) (v := ?vr1n10_11) rfl (by kernel_rfl) (by kernel_rfl) (by kernel_rfl) (fun _ _ _ h => h) (Or.inl ⟨by kernel_rfl, ?hr1n10_11⟩) hHeld ?_
        case hr1n10_11 => (intro w hSw; (try dsimp only at hSw); go_simp; try (with_reducible rfl))
        try simp only [List.getElem_toArray, List.getElem_cons_zero, List.getElem_cons_succ, Act.put, List.setIfInBounds_toArray, List.set_cons_zero, List.set_cons_succ]
        refine wpAnyH_take (i := 11) (oi := _) (v := ?vr1n11_12) rfl (by kernel_rfl) (by kernel_rfl) (by kernel_rfl) (fun _ _ _ h => h) (Or.inl ⟨by kernel_rfl, ?hr1n11_12⟩) hHeld ?_
        case hr1n11_12 => (intro w hSw; (try dsimp only at hSw); go_simp; try (with_reducible rfl))
        try simp only [List.getElem_toArray, List.getElem_cons_zero, List.getElem_cons_succ, Act.put, List.setIfInBounds_toArray, List.set_cons_zero, List.set_cons_succ]
        refine wpAnyH_take (i := 12) (oi := _) (v := ?vr1n12_13) rfl (by kernel_rfl) (by kernel_rfl) (by kernel_rfl) (fun _ _ _ h => h) (Or.inl ⟨by kernel_rfl, ?hr1n12_13⟩) hHeld ?_
        case hr1n12_13 => (intro w hSw; (try dsimp only at hSw); go_simp; try (with_reducible rfl))
        try simp only [List.getElem_toArray, List.getElem_cons_zero, List.getElem_cons_succ, Act.put, List.setIfInBounds_toArray, List.set_cons_zero, List.set_cons_succ]
        refine wpAnyH_take (i := 13) (oi := _) (v := ?vr1n13_14) rfl (by kernel_rfl) (by kernel_rfl) (by kernel_rfl) (fun _ _ _ h => h) (Or.inl ⟨by kernel_rfl, ?hr1n13_14⟩) hHeld ?_
        case hr1n13_14 => (intro w hSw; (try dsimp only at hSw); go_simp; try (with_reducible rfl))
        try simp only [List.getElem_toArray, List.getElem_cons_zero, List.getElem_cons_succ, Act.put, List.setIfInBounds_toArray, List.set_cons_zero, List.set_cons_succ]
        refine wpAnyH_take (i := 14) (oi := _) (v := ?vr1n14_15) rfl (by kernel_rfl) (by kernel_rfl) (by kernel_rfl) (fun _ _ _ h => h) (Or.inl ⟨by kernel_rfl, ?hr1n14_15⟩) hHeld ?_
        case hr1n14_15 => (intro w hSw; (try dsimp only at hSw); go_simp; try (with_reducible rfl))
        try simp only [List.getElem_toArray, List.getElem_cons_zero, List.getElem_cons_succ, Act.put, List.setIfInBounds_toArray, List.set_cons_zero, List.set_cons_succ]
        refine wpAnyH_ready (rs := [15]) (by kernel_rfl) (by simp) ?_
        refine AllReadyH.cons (o := _) rfl (fun K hK => ?_) AllReadyH.nil
        (refine step_bsd rfl (.tmp 36) rfl (upR r) rfl ?_; have HOa1 := Lib.hid (HOa0.out.alloc (.cells (rdC (upR r)) 100)); have HJa1 := Lib.hid (HJa0.out.step ((Below.refl _ (World.drew w5)).alloc (Nat.le_refl _) (.cells (rdC (upR r)) 100))); have HZa1 := Lib.hid (HZa0.out.step ((Below.refl _ (World.drew w5)).alloc (Nat.le_refl _) (.cells (rdC (upR r)) 100))); have HBa1 := Lib.hid (HBa0.out.trans (Below.mono ((Below.refl _ (World.drew w5)).alloc (Nat.le_refl _) (.cells (rdC (upR r)) 100)) HBa0.out.size)); have HEa1 := Lib.hid (Blk.new (World.drew w5) 100 (rdC (upR r)) 0 0 (Or.inl (Nat.le_refl _))); have HLa1 : Hid (b0 + 1 < (World.drew w5).heap.size) := Lib.hid HZa0.out.lt; generalize World.alloc _ _ = y1 at HOa1 HJa1 HZa1 HBa1 HEa1 ⊢; (try go_simp))
        refine hK.out _ _ ?_ (fun hHeld1 => ?_)
        · (first | exact ⟨(by rw [HJa1.out.cell]; rfl), HCL.out _ HBa1.out⟩)
        clear hHeld hK K
        try simp only [List.getElem_toArray, List.getElem_cons_zero, List.getElem_cons_succ, Act.put, List.setIfInBounds_toArray, List.set_cons_zero, List.set_cons_succ]
        refine wpAnyH_ready (rs := [16]) (by kernel_rfl) (by simp) ?_
        refine AllReadyH.cons (o := _) rfl (fun K hK => ?_) AllReadyH.nil
        (refine step_append_lies _ rfl (.tmp 22) (.tmp 37) 60 rfl w.heap.size 100 i0 (.agg zdg) 2 32 Try.underlying60 hi1 hz0 hz1 hz2 rfl (by decide) u T.length (flatR T) rfl HOa1.out ⟨(World.drew w5).heap.size, 0, none⟩ 1 1 (flatR [upR r]) rfl rfl (rblk_cells HEa1.out) (flatR_one _) (by decide) (by have := HTL.out; unfold maxLen; omega) (by have := HTL.out; omega) HBa1.out.size _ rfl ?_; intro gl cl y2 hown hg hgo hgl; have HOa2 := Lib.hid hown; have HJa2 : Hid (Blk y2 b0 62 #[.int .i64 lim, .slice (some ⟨g, 0, none⟩) n c]) := Lib.hid (HJa1.out.of_heap (hg.block b0 HJa1.out.lt (fun e => HNE.out.1 e.symm))); have HZa2 : Hid (Blk y2 (b0 + 1) 62 #[.int .i64 0, .slice none 0 0]) := Lib.hid (HZa1.out.of_heap (hg.block (b0 + 1) HZa1.out.lt (fun e => HNE.out.2 e.symm))); have HBa2 := Lib.hid (HBa1.out.trans (grown_below hg (fun q hq => (HOa1.out.lt q hq).1) HBa1.out.size)); have HNE2 : Hid (gl ≠ b0 ∧ gl ≠ b0 + 1) := Lib.hid (by rcases hgo with h | h; exact ⟨fun e => HNE.out.1 (by rw [h, e]), fun e => HNE.out.2 (by rw [h, e])⟩; have h1 := HLa1.out; have h2 := HZa1.out.lt; exact ⟨by omega, by omega⟩); clear hown hg hgo hgl; (try go_simp))
        refine hK.out _ _ ?_ (fun hHeld2 => ?_)
        · (first | exact ⟨(by rw [HJa2.out.cell]; rfl), HCL.out _ HBa2.out⟩)
        clear hHeld1 hK K
        try simp only [List.getElem_toArray, List.getElem_cons_zero, List.getElem_cons_succ, Act.put, List.setIfInBounds_toArray, List.set_cons_zero, List.set_cons_succ]
        refine wpAnyH_take (i := 17) (oi := _) (v := ?vr1n17_16) rfl (by kernel_rfl) (by kernel_rfl) (by kernel_rfl) (fun _ _ _ h => h) (Or.inl ⟨by kernel_rfl, ?hr1n17_16⟩) hHeld2 ?_
        case hr1n17_16 => (intro w hSw; (try dsimp only at hSw); go_simp; try (with_reducible rfl))
        try simp only [List.getElem_toArray, List.getElem_cons_zero, List.getElem_cons_succ, Act.put, List.setIfInBounds_toArray, List.set_cons_zero, List.set_cons_succ]
        refine wpAnyH_done (by kernel_rfl) ?_ _
        refine NoPanic.normal ?_
        have HOn : Hid (y2.ownsRow w.heap.size 100 2 (.slice (some ⟨gl, 0, none⟩) (T.length + 1) cl) (tickR lim (E.take (i + 1))).length (flatR (tickR lim (E.take (i + 1))))) := Lib.hid (by rw [HTS.out, flatR_app, List.length_append]; exact HOa2.out)
        clear HOa2
        go_wp2
        go_roundg (n - (i + 1))
        case measure => omega
        case rel => exact ⟨i + 1, .slice (some ⟨gl, 0, none⟩) (T.length + 1) cl, rfl, by go_num, by omega, Nat.le_refl _, HOn, HJa2, HZa2, Lib.hid ⟨fun e => HNE2.out.1 (Option.some.inj e), fun e => HNE2.out.2 (Option.some.inj e)⟩, HBa2⟩
      · rw [if_neg hcmp, List.append_nil] at HTS
        rw [← HTS.out] at HO
        go_upto_region 5 with fail
        go_quiet (fail)
        go_wp2
        go_roundg (n - (i + 1))
        case measure => omega
        case rel => exact ⟨i + 1, u, rfl, by go_num, by omega, Nat.le_refl _, Lib.hid HO.out, Lib.hid HJ.out, Lib.hid HZ.out, HNE, Lib.hid (Below.drewN HB.out _)⟩
    · have hltz : ¬ (i : Int) < (n : Int) := by omega
      have hin : E.take i = E := List.take_of_length_le (by have := HEN.out; omega)
      rw [hin] at HO
      have f1 := HJ.out.free 1 (show 1 < 2 from by decide)
      clear hin
      obtain ⟨Au, cu, hu, _⟩ := slice_of u wr HO.out
      subst hu
      obtain ⟨wo, rfl⟩ : ∃ wo : World, wo = wr := ⟨_, rfl⟩
      go_upto_region 8 with fail
      have HJ8 : Hid (Blk (World.setCell wo ⟨b0, 1, none⟩ (.slice Au (tickR lim E).length cu)) b0 62 #[.int .i64 lim, .slice Au (tickR lim E).length cu]) := Lib.hid (HJ.out.set 1 (.slice Au (tickR lim E).length cu))
      have HZ8 := Lib.hid (HZ.out.set_other ⟨b0, 1, none⟩ (.slice Au (tickR lim E).length cu) (show b0 + 1 ≠ b0 by omega))
      have HO8 : Hid ((World.setCell wo ⟨b0, 1, none⟩ (.slice Au (tickR lim E).length cu)).ownsRow w.heap.size 100 2 (.slice Au (tickR lim E).length cu) (tickR lim E).length (flatR (tickR lim E))) := Lib.hid (HO.out.kept (Go.World.grownBy.trans (World.grownBy.refl wo (some b0)) (grown_set (World.grownBy.refl wo (some b0)) (.slice Au (tickR lim E).length cu))) (by cases hb : Value.ownBlock (.slice Au (tickR lim E).length cu) with
        | none => exact Or.inl rfl
        | some k => exact Or.inr (fun e => HNE.out.1 (by rw [hb]; exact e))))
      have HB8 := Lib.hid (Below.setCell (p := ⟨b0, 1, none⟩) HB.out (show w.heap.size ≤ b0 by have := HB0.out; omega) (.slice Au (tickR lim E).length cu))
      clear c0 c1 f1 HJ HZ HO HB
      generalize World.setCell _ _ _ = w8 at HJ8 HZ8 HO8 HB8 ⊢
      have c1 : w8.cell? ⟨b0, 1, none⟩ = some (.slice Au (tickR lim E).length cu) := by rw [HJ8.out.cell]; rfl
      have c0 : w8.cell? ⟨b0, 0, none⟩ = some (.int .i64 lim) := by rw [HJ8.out.cell]; rfl
      have tokZ : True := trivial
      go_wp2_with (have _t := tokZ; refine wpList_store_blk rfl 62 _ _ rfl (b0 + 1) #[.int .i64 lim, .slice Au (tickR lim E).length cu] rfl rfl #[.int .i64 0, .slice none 0 0] 62 HZ8.out rfl size_rj rfl ?_; clear tokZ)
      exact bodyPost_ret (results_cell1 Try.results27 _ _ (b0 + 1) _ _ _ rfl (HZ8.out.setAll (cs := #[.int .i64 lim, .slice Au (tickR lim E).length cu]) rfl) Try.underlying62 rfl size_rj) rfl ⟨_, rfl, HO8.out.kept (grown_cells w8 (b0 + 1) 0 _) (Or.inr (fun e => HNE.out.2 e)), Below.setCells HB8.out (show w.heap.size ≤ b0 + 1 by have := HB0.out; omega) 0 _⟩
end Go.Proofs.Yticchchcobjpdaa
