/- The reference's cache: rows of entries, Find, Tick. Condition: at most eight entries. -/
import Derived.Test.YtpnhopgfoakgnaaAcH
namespace Go.Proofs.Ytpnhopgfoakgnaa
set_option linter.unusedVariables false
set_option linter.unusedSimpArgs false
set_option maxRecDepth 100000
open Go.RowKit Go.Proofs Go.Shelf
attribute [local go_sem ↓] ld_arp ld_mac ld_ip

theorem info_enQ : (Try.prog.info? 79).map (fun i => (i.zero, i.size, i.bytes)) = some (some (.agg (enC en0)), 11, 24) := by kernel_rfl
theorem size_enQ : (Try.prog.info? 79).map (·.size) = some 11 := by kernel_rfl
theorem ld_entQ (v : Value) : Instr.loadAt 79 v = Ld 79 v := rfl
theorem ld_caQ (v : Value) : Instr.loadAt 73 v = Ld 73 v := rfl
theorem size_caQ : (Try.prog.info? 73).map (·.size) = some 2 := by kernel_rfl
theorem run_ldc {w : World} {b : Nat} {e : TypeId} {x y : Value} (h : Blk w b e #[x, y]) : (Ld 73 (.pointer (some ⟨b, 0, none⟩))).run Try.prog w = .ok (.agg #[x, y]) w := h.ld 73 _ Try.underlying73 rfl 0 [x, y] rfl size_caQ
attribute [local go_sem ↓] ld_entQ
theorem run_ldq {w : World} {g o : Nat} {x : En} (hc : ∀ i v, (enE x)[i]? = some v → w.cell? ⟨g, o + i, none⟩ = some v) : (Ld 79 (.pointer (some ⟨g, o, none⟩))).run Try.prog w = .ok (.agg (enC x)) w := by
  have hr : w.rangeAt g o (enE x) := fun j v hv => hc j v hv
  unfold Ld
  have hl := run_loadVar_mid (P := Try.prog) w g o 79 (enE x) _ hr Try.underlying79 rfl (by rw [enE_len]; exact size_enQ)
  simp only [Instr.loadAt, Instr.sureAddr, Sem.run_bind, Sem.run_pure, Result.andThen_ok, hl]
  rfl
theorem ld_ipE {w : World} {g o : Nat} {x : En} (hc : ∀ i v, (enE x)[i]? = some v → w.cell? ⟨g, o + i, none⟩ = some v) : (Ld 40 (.pointer (some ⟨g, o, none⟩))).run Try.prog w = .ok (arrV x.ip) w :=
  ld_part (k := 0) hc 40 4 Try.underlying40 size_ip x.ip rfl (enC_ip x)
theorem wpList_bsE {ops : Array Oper} {rest : List Oper} {o : Oper} {a : Act} {w : World} {Q : Exit → Act → World → Prop} (hg : o.guard = none) (x : Operand) (ho : o.op = .buildSlice 71 1 #[(0, x)])
    (X : En) (hx : a.eval x = .agg (enC X)) (h : wpList Try.prog ops Q rest (a.put o.dst (.slice (some ⟨w.heap.size, 0, none⟩) 1 1)) (w.alloc (.cells (enC X) 79))) : wpList Try.prog ops Q (o :: rest) a w := by
  obtain ⟨i0, hi, hz0, hz1, hz2⟩ := info_parts info_enQ
  refine wpList_buildSlice hg 71 79 1 #[(0, x)] ho (enC X) i0 (.agg (enC en0)) Try.underlying71 hi hz0 (by rw [hz1]; decide) (by rw [hz1]; decide) ?_ h
  rw [hz1]
  have e : (#[(0, x)].map fun (i, x) => (i, a.eval x)).toList = [(0, a.eval x)] := by simp
  rw [e, hx]
  exact fill_en X
/-- 'append(own, one)' of entries of the reference -/
theorem wpList_appE {w : World} {ops : Array Oper} {rest : List Oper} {o : Oper} {a : Act} {Q : Exit → Act → World → Prop} (hgd : o.guard = none) (s x : Operand)
    (ho : o.op = .call { callee := .builtin .append, args := #[s, x], argTypes := #[71, 71] })
    (base : Nat) (v : Value) (n : Nat) (xs : List En) (hs : a.eval s = v) (hown : w.ownsRow base 79 11 v n (flatE xs))
    (b : Nat) (X : En) (hx : a.eval x = .slice (some ⟨b, 0, none⟩) 1 1) (hb : Blk w b 79 (enC X)) (h16 : (n + 1) * 24 ≤ 140737488355328) (hbase : base ≤ w.heap.size)
    (h : ∀ v' w', w'.ownsRow base 79 11 v' (n + 1) (flatE (xs ++ [X])) → w.grownBy w' v.ownBlock → wpList Try.prog ops Q rest (a.put o.dst v') w') : wpList Try.prog ops Q (o :: rest) a w := by
  obtain ⟨i0, hi, hz0, hz1, hz2⟩ := info_parts info_enQ
  refine wpList_append_own w hgd s x 71 ho base 79 i0 (.agg (enC en0)) 11 24 Try.underlying71 hi hz0 hz1 hz2 rfl (by decide) v n _ hs hown ⟨b, 0, none⟩ 1 1 (enE X) hx rfl (blk_cells hb) (enE_one X) (by unfold maxLen; omega) h16 hbase ?_
  intro v' w' hown' hg _
  rw [← flatE_snoc] at hown'
  exact h v' w' hown' hg

theorem ubv_oneA (l : List UInt8) : ((l.map ubv).toArray).toList.all (·.oneCell') = true := by
  rw [List.all_eq_true]
  intro v hv
  obtain ⟨b, _, rfl⟩ := List.mem_map.1 (by simpa using hv)
  rfl
set_option maxHeartbeats 4000000 in
theorem refFind_any {w : World} {B : Nat} {lim : Int} {v : Value} {L : List En} (h : w.ownsRow B 79 11 v L.length (flatE L)) (hL : L.length ≤ 8) (i : List UInt8) (hi : i.length = 4) :
    Calls Try.prog 37 #[.agg #[v, .int .i64 lim], arrV i] w fun e w' => e = .returned (.tuple #[arrV (findV L i).1, .bool (findV L i).2]) ∧ Below w.heap.size w w' := by
  have hb0 := (((Below.refl _ w).alloc (Nat.le_refl _) (.cells #[v, .int .i64 lim] 73)).alloc (by simp) (.cells (i.map ubv).toArray 40)).alloc (by simp; omega) (.cells mac0 38)
  have HB := Lib.hid hb0
  have HO : Hid (∀ w', Below w.heap.size w w' → w'.ownsRow B 79 11 v L.length (flatE L)) := Lib.hid (fun w' hb => h.kept (show w.grownBy w' none from ⟨hb.os, hb.tape, hb.output, hb.size, fun q hq _ => hb.block q hq⟩) (by cases Value.ownBlock _ <;> simp))
  have hK1 := ((Blk.new w 73 #[v, .int .i64 lim] 0 0 (Or.inl (Nat.le_refl _))).alloc (.cells (i.map ubv).toArray 40)).alloc (.cells mac0 38)
  have hK2 := (Blk.new (w.alloc (.cells #[v, .int .i64 lim] 73)) 40 (i.map ubv).toArray 0 0 (Or.inl (Nat.le_refl _))).alloc (.cells mac0 38)
  have hK3 := Blk.new ((w.alloc (.cells #[v, .int .i64 lim] 73)).alloc (.cells (i.map ubv).toArray 40)) 38 mac0 0 0 (Or.inl (Nat.le_refl _))
  simp only [size_alloc] at hK2 hK3
  have HC := Lib.hid hK1
  have HI := Lib.hid hK2
  have HM := Lib.hid hK3
  have hvs : ∃ A c, v = .slice A L.length c := by
    rcases (own_es h).2 with ⟨h1, h2⟩ | ⟨g, c, h2, _⟩
    · exact ⟨none, 0, by rw [h2, h1]; rfl⟩
    · exact ⟨_, _, h2⟩
  obtain ⟨A, c, hv⟩ := hvs
  subst hv
  have HLTG : Hid (∀ g, Value.ownBlock (.slice A L.length c) = some g → g < w.heap.size) := Lib.hid (fun g hg => (h.lt g hg).2)
  clear h hb0 hK1 hK2 hK3
  go_enter Try.func37, Try.ntmps37
  go_upto_region 1 with fail
  generalize World.alloc _ _ = w1 at HC HI HM HB ⊢
  obtain ⟨pm, hpm⟩ : ∃ pm, pm = w.heap.size + 1 + 1 := ⟨_, rfl⟩
  obtain ⟨p, hp⟩ : ∃ p, p = w.heap.size + 1 := ⟨_, rfl⟩
  rw [← hp] at hpm
  rw [← hp, ← hpm] at HM ⊢
  rw [← hp] at HI
  have HPM : Hid (w.heap.size ≤ pm) := Lib.hid (by omega)
  obtain ⟨pc, hpc⟩ : ∃ pc, pc = w.heap.size := ⟨_, rfl⟩
  rw [← hpc] at HC ⊢
  clear hpm hp hpc
  go_wp2
  go_loopw [6] (fun j wr => ∃ k : Nat, k ≤ L.length ∧ j = .int .i64 k ∧ (∀ q (h : q < L.length), q < k → ipIs i L[q] = false) ∧ Below w1.heap.size w1 wr) (fun j _ => 8 - (intOf j).toNat)
  case atStart => exact ⟨0, by omega, rfl, fun q _ hq => absurd hq (Nat.not_lt_zero _), Below.refl _ _⟩
  case round =>
    obtain ⟨k, hk, rfl, hno, hb⟩ := hrel
    have HNO := Lib.hid hno
    have HB2 := Lib.hid hb
    have HW := Lib.hid (Below.step HB.out hb)
    have HC2 := Lib.hid (HC.out.step hb)
    have HI2 := Lib.hid (HI.out.step hb)
    have HM2 := Lib.hid (HM.out.step hb)
    clear hno hb
    by_cases hlt : k < L.length
    · have hlt' : (k : Int) < (L.length : Int) := by omega
      have hk0 : 0 ≤ (k : Int) := by omega
      have HOD := HO.out _ HW.out.drew
      obtain ⟨g, rfl, hcell⟩ : ∃ g, A = some ⟨g, 0, none⟩ ∧ ∀ i v, (enE L[k])[i]? = some v → wr.drew.cell? ⟨g, k * 11 + i, none⟩ = some v := by
        rcases (own_es HOD).2 with ⟨e1, e2⟩ | ⟨g, c', e, _, _, _, _, hcell⟩
        · rw [e1] at hlt; simp at hlt
        · injection e with e1 e2 e3
          subst e1
          exact ⟨g, rfl, fun i v hv => by have := hcell k hlt i v hv; rw [Nat.zero_add] at this; exact this⟩
      have HL1 := Lib.hid (ld_ipE hcell)
      have HL2 := Lib.hid (ld_macE hcell)
      have HL3 := Lib.hid (HI2.out.drew.ld_arr4 hi)
      have HL0 : Hid (wr.drew.cell? ⟨pc, 0, none⟩ = some (.slice (some ⟨g, 0, none⟩) L.length c)) := Lib.hid (HC2.out.drew.cell 0)
      have HHIT : Hid (ipIs i L[k] = true → findV L i = (L[k].mac, true)) := Lib.hid (fun h => by
        unfold findV
        rw [(find_hit hlt h (fun j hj => HNO.out j (by omega) hj)).1])
      have HSTEP : Hid (ipIs i L[k] = false → ∀ q (h : q < L.length), q < k + 1 → ipIs i L[q] = false) := Lib.hid (fun h q h1 h2 => by
        rcases Nat.lt_or_ge q k with h3 | h3
        · exact HNO.out q h1 h3
        · obtain rfl : q = k := by omega
          exact h)
      have HE : Hid (ipIs i L[k] = (L[k].ip == i)) := Lib.hid rfl
      have q := fun w => run_ip_eql w L[k].ip i rfl hi
      have hml : ((L[k].mac.map ubv).toArray).size = 6 := rfl
      have HML := Lib.hid hml
      have HMD := Lib.hid HM2.out.drew
      have HBD := Lib.hid HW.out.drew
      have HB2D := Lib.hid HB2.out.drew
      clear hcell HOD hml
      generalize ipIs i L[k] = bb at HHIT HSTEP HE
      rw [← HE.out] at q
      clear HE
      generalize L[k].ip = xi at HL1 q
      generalize L[k].mac = xm at HL2 HHIT HML
      cases bb
      · have HS := Lib.hid (HSTEP.out rfl)
        clear HHIT HSTEP
        have lw := HC2.out.cell 0
        go_upto_region 4 with fail
        clear lw
        refine wp_region_noPanic ?_
        refine wp_region_held_drew (S := (fun w' => w'.cell? ⟨pc, 0, none⟩ = some (.slice (some ⟨g, 0, none⟩) L.length c) ∧ (Ld 40 (.pointer (some ⟨g, k * 11, none⟩))).run Try.prog w' = .ok (arrV xi) w' ∧ (Ld 40 (.pointer (some ⟨p, 0, none⟩))).run Try.prog w' = .ok (arrV i) w')) (by kernel_rfl) (by first | exact ⟨HL0.out, HL1.out, HL3.out⟩) (fun hHeld => ?_)
        refine wpAnyH_take (i := 0) (oi := _) (v := ?vr1n0_1) rfl (by kernel_rfl) (by kernel_rfl) (by kernel_rfl) (fun _ _ _ h => h) (Or.inl ⟨by kernel_rfl, ?hr1n0_1⟩) hHeld ?_
        case hr1n0_1 => (intro w hSw; (try dsimp only at hSw); go_simp; try (with_reducible rfl))
        try simp only [List.getElem_toArray, List.getElem_cons_zero, List.getElem_cons_succ, Act.put, List.setIfInBounds_toArray, List.set_cons_zero, List.set_cons_succ]
        refine wpAnyH_take (i := 1) (oi := _) (v := ?vr1n1_2) rfl (by kernel_rfl) (by kernel_rfl) (by kernel_rfl) (fun _ _ _ h => h) (Or.inl ⟨by kernel_rfl, ?hr1n1_2⟩) hHeld ?_
        case hr1n1_2 => (intro w hSw; (try dsimp only at hSw); go_simp; try (with_reducible rfl))
        try simp only [List.getElem_toArray, List.getElem_cons_zero, List.getElem_cons_succ, Act.put, List.setIfInBounds_toArray, List.set_cons_zero, List.set_cons_succ]
        refine wpAnyH_take (i := 2) (oi := _) (v := ?vr1n2_3) rfl (by kernel_rfl) (by kernel_rfl) (by kernel_rfl) (fun _ _ _ h => h) (Or.inl ⟨by kernel_rfl, ?hr1n2_3⟩) hHeld ?_
        case hr1n2_3 => (intro w hSw; (try dsimp only at hSw); go_simp; try (with_reducible rfl))
        try simp only [List.getElem_toArray, List.getElem_cons_zero, List.getElem_cons_succ, Act.put, List.setIfInBounds_toArray, List.set_cons_zero, List.set_cons_succ]
        refine wpAnyH_take (i := 3) (oi := _) (v := ?vr1n3_4) rfl (by kernel_rfl) (by kernel_rfl) (by kernel_rfl) (fun _ _ _ h => h) (Or.inl ⟨by kernel_rfl, ?hr1n3_4⟩) hHeld ?_
        case hr1n3_4 => (intro w hSw; (try dsimp only at hSw); go_simp; try (with_reducible rfl))
        try simp only [List.getElem_toArray, List.getElem_cons_zero, List.getElem_cons_succ, Act.put, List.setIfInBounds_toArray, List.set_cons_zero, List.set_cons_succ]
        refine wpAnyH_take (i := 4) (oi := _) (v := ?vr1n4_5) rfl (by kernel_rfl) (by kernel_rfl) (by kernel_rfl) (fun _ _ _ h => h) (Or.inl ⟨by kernel_rfl, ?hr1n4_5⟩) hHeld ?_
        case hr1n4_5 => (intro w hSw; (try dsimp only at hSw); go_simp; try (with_reducible rfl))
        try simp only [List.getElem_toArray, List.getElem_cons_zero, List.getElem_cons_succ, Act.put, List.setIfInBounds_toArray, List.set_cons_zero, List.set_cons_succ]
        refine wpAnyH_take (i := 5) (oi := _) (v := ?vr1n5_6) rfl (by kernel_rfl) (by kernel_rfl) (by kernel_rfl) (fun _ _ _ h => h) (Or.inl ⟨by kernel_rfl, ?hr1n5_6⟩) hHeld ?_
        case hr1n5_6 => (intro w hSw; (try dsimp only at hSw); go_simp; try (with_reducible rfl))
        try simp only [List.getElem_toArray, List.getElem_cons_zero, List.getElem_cons_succ, Act.put, List.setIfInBounds_toArray, List.set_cons_zero, List.set_cons_succ]
        refine wpAnyH_take (i := 6) (oi := _) (v := ?vr1n6_7) rfl (by kernel_rfl) (by kernel_rfl) (by kernel_rfl) (fun _ _ _ h => h) (Or.inl ⟨by kernel_rfl, ?hr1n6_7⟩) hHeld ?_
        case hr1n6_7 => (intro w hSw; (try dsimp only at hSw); go_simp; try (with_reducible rfl))
        try simp only [List.getElem_toArray, List.getElem_cons_zero, List.getElem_cons_succ, Act.put, List.setIfInBounds_toArray, List.set_cons_zero, List.set_cons_succ]
        refine wpAnyH_take (i := 7) (oi := _) (v := ?vr1n7_8) rfl (by kernel_rfl) (by kernel_rfl) (by kernel_rfl) (fun _ _ _ h => h) (Or.inl ⟨by kernel_rfl, ?hr1n7_8⟩) hHeld ?_
        case hr1n7_8 => (intro w hSw; (try dsimp only at hSw); go_simp; try (with_reducible rfl))
        try simp only [List.getElem_toArray, List.getElem_cons_zero, List.getElem_cons_succ, Act.put, List.setIfInBounds_toArray, List.set_cons_zero, List.set_cons_succ]
        refine wpAnyH_done (by kernel_rfl) ?_ _
        refine NoPanic.normal ?_
        go_wp2
        go_roundw
        case rel => exact ⟨k + 1, by omega, by go_num, HS.out, HB2D.out⟩
        case measure => simp [intOf] <;> omega
      · have HF := Lib.hid (HHIT.out rfl)
        clear HHIT HSTEP
        have lw := HC2.out.cell 0
        go_upto_region 4 with fail
        clear lw
        refine wp_region_noPanic ?_
        refine wp_region_held_drew (S := (fun w' => w'.cell? ⟨pc, 0, none⟩ = some (.slice (some ⟨g, 0, none⟩) L.length c) ∧ (Ld 40 (.pointer (some ⟨g, k * 11, none⟩))).run Try.prog w' = .ok (arrV xi) w' ∧ (Ld 40 (.pointer (some ⟨p, 0, none⟩))).run Try.prog w' = .ok (arrV i) w')) (by kernel_rfl) (by first | exact ⟨HL0.out, HL1.out, HL3.out⟩) (fun hHeld => ?_)
        refine wpAnyH_take (i := 0) (oi := _) (v := ?vr2n0_9) rfl (by kernel_rfl) (by kernel_rfl) (by kernel_rfl) (fun _ _ _ h => h) (Or.inl ⟨by kernel_rfl, ?hr2n0_9⟩) hHeld ?_
        case hr2n0_9 => (intro w hSw; (try dsimp only at hSw); go_simp; try (with_reducible rfl))
        try simp only [List.getElem_toArray, List.getElem_cons_zero, List.getElem_cons_succ, Act.put, List.setIfInBounds_toArray, List.set_cons_zero, List.set_cons_succ]
        refine wpAnyH_take (i := 1) (oi := _) (v := ?vr2n1_10) rfl (by kernel_rfl) (by kernel_rfl) (by kernel_rfl) (fun _ _ _ h => h) (Or.inl ⟨by kernel_rfl, ?hr2n1_10⟩) hHeld ?_
        case hr2n1_10 => (intro w hSw; (try dsimp only at hSw); go_simp; try (with_reducible rfl))
        try simp only [List.getElem_toArray, List.getElem_cons_zero, List.getElem_cons_succ, Act.put, List.setIfInBounds_toArray, List.set_cons_zero, List.set_cons_succ]
        refine wpAnyH_take (i := 2) (oi := _) (v := ?vr2n2_11) rfl (by kernel_rfl) (by kernel_rfl) (by kernel_rfl) (fun _ _ _ h => h) (Or.inl ⟨by kernel_rfl, ?hr2n2_11⟩) hHeld ?_
        case hr2n2_11 => (intro w hSw; (try dsimp only at hSw); go_simp; try (with_reducible rfl))
        try simp only [List.getElem_toArray, List.getElem_cons_zero, List.getElem_cons_succ, Act.put, List.setIfInBounds_toArray, List.set_cons_zero, List.set_cons_succ]
        refine wpAnyH_take (i := 3) (oi := _) (v := ?vr2n3_12) rfl (by kernel_rfl) (by kernel_rfl) (by kernel_rfl) (fun _ _ _ h => h) (Or.inl ⟨by kernel_rfl, ?hr2n3_12⟩) hHeld ?_
        case hr2n3_12 => (intro w hSw; (try dsimp only at hSw); go_simp; try (with_reducible rfl))
        try simp only [List.getElem_toArray, List.getElem_cons_zero, List.getElem_cons_succ, Act.put, List.setIfInBounds_toArray, List.set_cons_zero, List.set_cons_succ]
        refine wpAnyH_take (i := 4) (oi := _) (v := ?vr2n4_13) rfl (by kernel_rfl) (by kernel_rfl) (by kernel_rfl) (fun _ _ _ h => h) (Or.inl ⟨by kernel_rfl, ?hr2n4_13⟩) hHeld ?_
        case hr2n4_13 => (intro w hSw; (try dsimp only at hSw); go_simp; try (with_reducible rfl))
        try simp only [List.getElem_toArray, List.getElem_cons_zero, List.getElem_cons_succ, Act.put, List.setIfInBounds_toArray, List.set_cons_zero, List.set_cons_succ]
        refine wpAnyH_take (i := 5) (oi := _) (v := ?vr2n5_14) rfl (by kernel_rfl) (by kernel_rfl) (by kernel_rfl) (fun _ _ _ h => h) (Or.inl ⟨by kernel_rfl, ?hr2n5_14⟩) hHeld ?_
        case hr2n5_14 => (intro w hSw; (try dsimp only at hSw); go_simp; try (with_reducible rfl))
        try simp only [List.getElem_toArray, List.getElem_cons_zero, List.getElem_cons_succ, Act.put, List.setIfInBounds_toArray, List.set_cons_zero, List.set_cons_succ]
        refine wpAnyH_take (i := 6) (oi := _) (v := ?vr2n6_15) rfl (by kernel_rfl) (by kernel_rfl) (by kernel_rfl) (fun _ _ _ h => h) (Or.inl ⟨by kernel_rfl, ?hr2n6_15⟩) hHeld ?_
        case hr2n6_15 => (intro w hSw; (try dsimp only at hSw); go_simp; try (with_reducible rfl))
        try simp only [List.getElem_toArray, List.getElem_cons_zero, List.getElem_cons_succ, Act.put, List.setIfInBounds_toArray, List.set_cons_zero, List.set_cons_succ]
        refine wpAnyH_take (i := 7) (oi := _) (v := ?vr2n7_16) rfl (by kernel_rfl) (by kernel_rfl) (by kernel_rfl) (fun _ _ _ h => h) (Or.inl ⟨by kernel_rfl, ?hr2n7_16⟩) hHeld ?_
        case hr2n7_16 => (intro w hSw; (try dsimp only at hSw); go_simp; try (with_reducible rfl))
        try simp only [List.getElem_toArray, List.getElem_cons_zero, List.getElem_cons_succ, Act.put, List.setIfInBounds_toArray, List.set_cons_zero, List.set_cons_succ]
        refine wpAnyH_done (by kernel_rfl) ?_ _
        refine NoPanic.normal ?_
        have l0 := HL0.out
        have l2 := HL2.out
        go_wp2_with (refine wpList_store_blk rfl 38 _ _ rfl pm (xm.map ubv).toArray rfl rfl mac0 38 HMD.out (by rw [HML.out]; rfl) (by rw [HML.out]; exact size_mac) (ubv_oneA _) ?_)
        exact bodyPost_ret (results_blk Try.results37 _ _ pm _ _ _ rfl (HMD.out.setAll (by rw [HML.out]; rfl)) Try.underlying38 rfl (by rw [HML.out]; exact size_mac)) rfl ⟨by rw [HF.out]; rfl, Below.setCells HBD.out HPM.out _ _⟩
    · have hlt' : ¬ (k : Int) < (L.length : Int) := by omega
      have HF : Hid (findV L i = ([0, 0, 0, 0, 0, 0], false)) := Lib.hid (by unfold findV; rw [(find_miss (fun j h => HNO.out j h (by omega))).1])
      have l0 := HC2.out.cell 0
      go_wp2_with (refine wpList_store_blk rfl 38 _ _ rfl pm mac0 rfl rfl mac0 38 HM2.out rfl size_mac rfl ?_)
      exact bodyPost_ret (results_blk Try.results37 _ _ pm _ _ _ rfl (HM2.out.setAll rfl) Try.underlying38 rfl size_mac) rfl ⟨by rw [HF.out]; rfl, Below.setCells HW.out HPM.out _ _⟩
end Go.Proofs.Ytpnhopgfoakgnaa
