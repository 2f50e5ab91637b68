/- Learn of package arp's cache. Condition: good entries. -/
import Derived.Test.YtpnhopgfoakgnaaAcE
import Derived.Great.BuildSlice
import Derived.Deep.AppendLies
import Derived.OneCell
namespace Go.Proofs.Ytpnhopgfoakgnaa
set_option linter.unusedVariables false
set_option linter.unusedSimpArgs false
set_option maxRecDepth 100000
open Go.RowKit Go.Proofs Go.Shelf
attribute [local go_sem ↓] ld_arp ld_mac ld_ip ld_ent bld_en st_en

noncomputable def Bse (x : Value) : Sem Value := Instr.buildSlice 60 1 #[(0, x)]
theorem bs_en (x : Value) : Instr.buildSlice 60 1 #[(0, x)] = Bse x := rfl
attribute [local go_sem ↓] bs_en
theorem fill_en (x : En) : Instr.fill (fun i => some (i * 11, 11)) ((Array.range (1 * 11)).map ((Value.agg (enC en0)).cells[· % (Value.agg (enC en0)).cells.size]!)) [(0, .agg (enC x))] = some (enC x) := by kernel_rfl
theorem run_bse (x : En) (w : World) : (Bse (.agg (enC x))).run Try.prog w = .ok (.slice (some ⟨w.heap.size, 0, none⟩) 1 1) (w.alloc (.cells (enC x) 96)) := by
  obtain ⟨i0, hi0, hz0, hz1, hz2⟩ := info_parts info_en
  unfold Bse
  refine run_buildSlice (P := Try.prog) w 60 96 1 #[(0, .agg (enC x))] (enC x) i0 (.agg (enC en0)) Try.underlying60 hi0 hz0 (by rw [hz1]; decide) (by rw [hz1]; decide) ?_
  rw [hz1]
  exact fill_en x
theorem run_build2 (ev : Operand → Value) (o : Oper) (x y : Operand) (ho : o.op = .build 96 #[(0, x), (1, y)]) (a b : Value) (hx : ev x = a) (hy : ev y = b) (w : World) (r : Value) (h : (Bde a b).run Try.prog w = .ok r w) :
    (execOp ev o).run Try.prog w = .ok (.value r) w := by
  rw [← bld_en] at h
  unfold execOp
  simp only [ho, Sem.run_bind, Sem.run_pure, Result.andThen_ok, List.map_toArray, List.map_cons, List.map_nil, hx, hy, h]
theorem step_bse {ops : Array Oper} {o : Oper} {a : Act} {w : World} {K : Act → World → Prop} {Q : Exit → Act → World → Prop} {E : Prop} (hg : o.guard = none) (x : Operand) (ho : o.op = .buildSlice 60 1 #[(0, x)]) (X : En) (hx : a.eval x = .agg (enC X))
    (hK : K (a.put o.dst (.slice (some ⟨w.heap.size, 0, none⟩) 1 1)) (w.alloc (.cells (enC X) 96))) : if Region.wanted o (yielded ops a.tmps) = true then Oper.wp Try.prog o a w K Q else E := by
  have hw : Region.wanted o (yielded ops a.tmps) = true := by simp [Region.wanted, hg]
  rw [if_pos hw]
  obtain ⟨i0, hi0, hz0, hz1, hz2⟩ := info_parts info_en
  refine wp_buildSlice 60 96 1 _ ho (enC X) i0 (.agg (enC en0)) Try.underlying60 hi0 hz0 (by rw [hz1]; decide) (by rw [hz1]; decide) ?_ hK
  rw [hz1]
  have e : (#[(0, x)].map fun (i, x) => (i, a.eval x)).toList = [(0, a.eval x)] := by simp
  rw [e, hx]
  exact fill_en X
theorem flatE_snoc (R : List En) (x : En) : flatE (R ++ [x]) = flatE R ++ enE x := by simp [flatE]
theorem Ap.weak {cb g : Nat} {w w' : World} (h : Ap g (some g) w w') : Ap cb (some g) w w' := ⟨h.os, h.tape, h.output, h.size, fun k hk _ h2 => h.block k hk (fun e => h2 (by rw [e])) h2⟩
abbrev zen : Array Value := #[.int .u8 0, .int .u8 0, .int .u8 0, .int .u8 0, .int .u8 0, .int .u8 0, .int .u8 0, .int .u8 0, .int .u8 0, .int .u8 0, .int .i64 0]
theorem blk_cells {w : World} {b : Nat} {e : TypeId} {x : En} (h : Blk w b e (enC x)) : ∀ j u, (enE x)[j]? = some u → w.cell? ((⟨b, 0, none⟩ : Addr).add j) = some u := fun j u hu => by
  rw [Addr.add_lit, Nat.zero_add, h.cell]
  simpa [enE] using hu
theorem CaAt.lt {w : World} {B cb : Nat} {lim : Int} {v : Value} {L : List En} (h : CaAt w B cb lim v L) : ∀ g, v.ownBlock = some g → B ≤ g ∧ g < w.heap.size ∧ g ≠ cb := fun g hg => ⟨(h.own.lt g hg).1, (h.own.lt g hg).2, fun e => h.ne (by rw [hg, e])⟩
theorem CaAt.put {w : World} {B cb : Nat} {lim : Int} {v v' : Value} {L' : List En} {n : Nat} (hb : Blk w cb 62 #[.int .i64 lim, v]) (hB : B ≤ cb) (hn : n = L'.length) (ho : w.ownsRow B 96 11 v' n (flatE L')) (hne : v'.ownBlock ≠ some cb) : CaAt (w.setCell ⟨cb, 1, none⟩ v') B cb lim v' L' := by
  subst hn
  exact ⟨hb.set 1 v', hB, ownsRow_setCell_other ho (a := ⟨cb, 1, none⟩) hne v', hne⟩
theorem Blk.grownN {w w' : World} {row : Option Nat} {b : Nat} {e : TypeId} {C : Array Value} (h : Blk w b e C) (hg : w.grownBy w' row) (hne : row ≠ some b) : Blk w' b e C :=
  h.of_heap (hg.block b h.lt (fun e => hne e.symm))
theorem Ap.grown {cb : Nat} {o : Option Nat} {w w' : World} (hg : w.grownBy w' o) : Ap cb o w w' := ⟨hg.os, hg.tape, hg.output, hg.size, fun k hk _ h => hg.block k hk h⟩

set_option maxHeartbeats 8000000 in
theorem learn_any {w : World} {B cb : Nat} {lim : Int} {v : Value} {L : List En} (h : CaAt w B cb lim v L) (hl : 1 ≤ lim) (hG : Good lim L) (i m : List UInt8) (hi : i.length = 4) (hm : m.length = 6) :
    Calls Try.prog 30 #[.pointer (some ⟨cb, 0, none⟩), arrV i, arrV m] w fun e w' => e = .returned (.tuple #[]) ∧ ∃ v', CaAt w' B cb lim v' (learnV L i m) ∧ Ap cb v.ownBlock w w' ∧ (v'.ownBlock = v.ownBlock ∨ ∃ g', v'.ownBlock = some g' ∧ w.heap.size ≤ g') := by
  have hL := hG.len
  have HG := Lib.hid hG
  have HLT := Lib.hid h.lt
  have hcb := h.blk.lt
  have hBcb := h.ge
  have HA1 := Lib.hid ((h.alloc (.cells (i.map ubv).toArray 40)).alloc (.cells (m.map ubv).toArray 38))
  have HI1 := Lib.hid ((Blk.new w 40 (i.map ubv).toArray 0 0 (Or.inl (Nat.le_refl _))).alloc (.cells (m.map ubv).toArray 38))
  have HM1 : Hid (Blk ((w.alloc (.cells (i.map ubv).toArray 40)).alloc (.cells (m.map ubv).toArray 38)) (w.heap.size + 1) 38 (m.map ubv).toArray) := by
    have := Blk.new (w.alloc (.cells (i.map ubv).toArray 40)) 38 (m.map ubv).toArray 0 0 (Or.inl (Nat.le_refl _))
    rw [size_alloc] at this
    exact this
  have HB1 := Lib.hid (((Below.refl _ w).alloc (Nat.le_refl _) (.cells (i.map ubv).toArray 40)).alloc (by simp) (.cells (m.map ubv).toArray 38))
  clear h hG
  go_enter Try.func30, Try.ntmps30
  go_upto_region 1 with fail
  generalize World.alloc _ _ = w1 at HA1 HB1 HI1 HM1 ⊢
  obtain ⟨pm, hpm⟩ : ∃ pm, pm = w.heap.size + 1 := ⟨_, rfl⟩
  rw [← hpm] at HM1 ⊢
  have HPM : Hid (w.heap.size ≤ pm) := Lib.hid (by omega)
  obtain ⟨p, hp⟩ : ∃ p, p = w.heap.size := ⟨_, rfl⟩
  rw [← hp] at HI1 ⊢
  have HPI : Hid (w.heap.size ≤ p) := Lib.hid (by omega)
  clear hpm hp
  go_wp2_with fail
  refine (none_no HA1.out hl).mono ?_
  rintro e w' ⟨rfl, hw⟩
  rw [hw]
  clear hw
  have hip := HI1.out.ld_arr4 hi
  go_wp2_with fail
  refine (at_any HA1.out hL i hi).mono ?_
  rintro e w2 ⟨rfl, hb⟩
  have HA2 := Lib.hid (HA1.out.step hb)
  have HB2 := Lib.hid (Below.step HB1.out hb)
  have HI2 := Lib.hid (HI1.out.step hb)
  have HM2 := Lib.hid (HM1.out.step hb)
  clear hip hb HI1 HA1 HB1 HM1
  obtain ⟨x, hx⟩ : ∃ x, mkE i m 0 = x := ⟨_, rfl⟩
  have hbd : ∀ w, (Bde (arrV i) (arrV m)).run Try.prog w = .ok (.agg (enC x)) w := by rw [← hx]; exact run_bde i m hi hm
  rcases idx_spec (ipIs i) L with ⟨e1, ha⟩ | ⟨k, hk, e1, ht, ha⟩
  rotate_left
  · have HV : Hid (learnV L i m = L.set k x) := Lib.hid (by rw [← hx]; exact learn_hit HG.out hk ht)
    rw [e1]
    clear ha e1 ht hx
    obtain ⟨g, c, rfl, hBg, hg, hc1, hc2, _⟩ : ∃ g c, v = .slice (some ⟨g, 0, none⟩) L.length c ∧ B ≤ g ∧ g < w2.heap.size ∧ L.length ≤ c ∧ c ≤ maxLen ∧ ∀ j (hj : j < L.length) i v, (enE L[j])[i]? = some v → w2.cell? ⟨g, 0 + j * 11 + i, none⟩ = some v := by
      rcases (own_es HA2.out.own).2 with ⟨e1, e2⟩ | h
      · rw [e1] at hk; simp at hk
      · exact h
    have hgl := (HLT.out g rfl).2
    have hki : (k : Int) < (L.length : Int) := by omega
    have hk0 : 0 ≤ (k : Int) := by omega
    have hge : (k : Int) ≥ 0 := hk0
    have HST := Lib.hid (run_ste x (own_there HA2.out.own.drew k hk))
    have hpg : p ≠ g := by have := HPI.out; omega
    have hpmg : pm ≠ g := by have := HPM.out; omega
    have hcg : cb ≠ g := fun e => hgl.2 e.symm
    have HKC := Lib.hid (HA2.out.blk.drew)
    have HKI := Lib.hid HI2.out.drew
    have HKM := Lib.hid HM2.out.drew
    have HKC2 := Lib.hid (HA2.out.blk.drew.setCells_other g (k * 11) (enE x) hcg)
    have HKI2 := Lib.hid (HI2.out.drew.setCells_other g (k * 11) (enE x) hpg)
    have HKM2 := Lib.hid (HM2.out.drew.setCells_other g (k * 11) (enE x) hpmg)
    have HO2 := Lib.hid (own_setE HA2.out.own.drew k hk x)
    have HAP : Hid (Ap cb (some g) w (w2.drew.setCells g (k * 11) (enE x))) := Lib.hid (((Ap.of_below (o := some g) HB2.out).trans (Ap.of_below (o := some g) (Below.drewN (Below.refl _ w2) 1)) (fun q hq => Or.inl hq)).trans (Ap.cells _) (fun q hq => Or.inl hq))
    clear hgl hg hpg hpmg hcg HLT hc1 hc2 hBg
    go_upto_region 4 with fail
    refine wp_region_noPanic ?_
    refine wp_region_held_drew (S := (fun w' => w'.cell? ⟨cb, 1, none⟩ = some (.slice (some ⟨g, 0, none⟩) L.length c) ∧ (Ld 40 (.pointer (some ⟨p, 0, none⟩))).run Try.prog w' = .ok (arrV i) w' ∧ (Ld 38 (.pointer (some ⟨pm, 0, none⟩))).run Try.prog w' = .ok (arrV m) w')) (by kernel_rfl) (by first | exact ⟨HKC.out.cell 1, HKI.out.ld_arr4 hi, HKM.out.ld_arr6 hm⟩) (fun hHeld => ?_)
    refine wpAnyH_take (i := 0) (oi := _) (v := ?vr1n0_1) rfl (by kernel_rfl) (by kernel_rfl) (by kernel_rfl) (fun _ _ _ h => h) (Or.inl ⟨by kernel_rfl, ?hr1n0_1⟩) hHeld ?_
    case hr1n0_1 => (intro w hSw; (try dsimp only at hSw); go_simp; try (with_reducible rfl))
    try simp only [List.getElem_toArray, List.getElem_cons_zero, List.getElem_cons_succ, Act.put, List.setIfInBounds_toArray, List.set_cons_zero, List.set_cons_succ]
    refine wpAnyH_take (i := 1) (oi := _) (v := ?vr1n1_2) rfl (by kernel_rfl) (by kernel_rfl) (by kernel_rfl) (fun _ _ _ h => h) (Or.inl ⟨by kernel_rfl, ?hr1n1_2⟩) hHeld ?_
    case hr1n1_2 => (intro w hSw; (try dsimp only at hSw); go_simp; try (with_reducible rfl))
    try simp only [List.getElem_toArray, List.getElem_cons_zero, List.getElem_cons_succ, Act.put, List.setIfInBounds_toArray, List.set_cons_zero, List.set_cons_succ]
    refine wpAnyH_take (i := 2) (oi := _) (v := ?vr1n2_3) rfl (by kernel_rfl) (by kernel_rfl) (by kernel_rfl) (fun _ _ _ h => h) (Or.inl ⟨by kernel_rfl, ?hr1n2_3⟩) hHeld ?_
    case hr1n2_3 => (intro w hSw; (try dsimp only at hSw); go_simp; try (with_reducible rfl))
    try simp only [List.getElem_toArray, List.getElem_cons_zero, List.getElem_cons_succ, Act.put, List.setIfInBounds_toArray, List.set_cons_zero, List.set_cons_succ]
    refine wpAnyH_take (i := 3) (oi := _) (v := ?vr1n3_4) rfl (by kernel_rfl) (by kernel_rfl) (by kernel_rfl) (fun _ _ _ h => h) (Or.inl ⟨by kernel_rfl, ?hr1n3_4⟩) hHeld ?_
    case hr1n3_4 => (intro w hSw; (try dsimp only at hSw); go_simp; try (with_reducible rfl))
    try simp only [List.getElem_toArray, List.getElem_cons_zero, List.getElem_cons_succ, Act.put, List.setIfInBounds_toArray, List.set_cons_zero, List.set_cons_succ]
    refine wpAnyH_take (i := 4) (oi := _) (v := ?vr1n4_5) rfl (by kernel_rfl) (by kernel_rfl) (by kernel_rfl) (fun _ _ _ h => h) (Or.inl ⟨by kernel_rfl, ?hr1n4_5⟩) hHeld ?_
    case hr1n4_5 => (intro w hSw; (try dsimp only at hSw); go_simp; try (with_reducible rfl))
    try simp only [List.getElem_toArray, List.getElem_cons_zero, List.getElem_cons_succ, Act.put, List.setIfInBounds_toArray, List.set_cons_zero, List.set_cons_succ]
    refine wpAnyH_take (i := 5) (oi := _) (v := ?vr1n5_6) rfl (by kernel_rfl) (by kernel_rfl) (by kernel_rfl) (fun _ _ _ h => h) (Or.inl ⟨by kernel_rfl, ?hr1n5_6⟩) hHeld ?_
    case hr1n5_6 => (intro w hSw; (try dsimp only at hSw); go_simp; try (with_reducible rfl))
    try simp only [List.getElem_toArray, List.getElem_cons_zero, List.getElem_cons_succ, Act.put, List.setIfInBounds_toArray, List.set_cons_zero, List.set_cons_succ]
    refine wpAnyH_take (i := 6) (oi := _) (v := ?vr1n6_7) rfl (by kernel_rfl) (by kernel_rfl) (by kernel_rfl) (fun _ _ _ h => h) (Or.inl ⟨by kernel_rfl, ?hr1n6_7⟩) hHeld ?_
    case hr1n6_7 => (intro w hSw; (try dsimp only at hSw); go_simp; try (with_reducible rfl))
    try simp only [List.getElem_toArray, List.getElem_cons_zero, List.getElem_cons_succ, Act.put, List.setIfInBounds_toArray, List.set_cons_zero, List.set_cons_succ]
    refine wpAnyH_take (i := 7) (oi := _) (v := ?vr1n7_8) rfl (by kernel_rfl) (by kernel_rfl) (by kernel_rfl) (fun _ _ _ h => h) (Or.inl ⟨by kernel_rfl, ?hr1n7_8⟩) hHeld ?_
    case hr1n7_8 => (intro w hSw; (try dsimp only at hSw); refine (run_build2 _ _ _ _ rfl (arrV i) (arrV m) rfl rfl w _ (hbd w)).trans ?_; with_reducible rfl)
    try simp only [List.getElem_toArray, List.getElem_cons_zero, List.getElem_cons_succ, Act.put, List.setIfInBounds_toArray, List.set_cons_zero, List.set_cons_succ]
    refine wpAnyH_take (i := 8) (oi := _) (v := ?vr1n8_9) rfl (by kernel_rfl) (by kernel_rfl) (by kernel_rfl) (fun _ _ _ h => h) (Or.inl ⟨by kernel_rfl, ?hr1n8_9⟩) hHeld ?_
    case hr1n8_9 => (intro w hSw; (try dsimp only at hSw); go_simp; try (with_reducible rfl))
    try simp only [List.getElem_toArray, List.getElem_cons_zero, List.getElem_cons_succ, Act.put, List.setIfInBounds_toArray, List.set_cons_zero, List.set_cons_succ]
    refine wpAnyH_ready (rs := [9]) (by kernel_rfl) (by simp) ?_
    refine AllReadyH.cons (o := _) rfl (fun K hK => ?_) AllReadyH.nil
    (have hst := HST.out)
    go_simp
    refine hK.out _ _ ?_ (fun hHeld1 => ?_)
    · (first | exact ⟨HKC2.out.cell 1, HKI2.out.ld_arr4 hi, HKM2.out.ld_arr6 hm⟩)
    clear hHeld hK K
    try simp only [List.getElem_toArray, List.getElem_cons_zero, List.getElem_cons_succ, Act.put, List.setIfInBounds_toArray, List.set_cons_zero, List.set_cons_succ]
    refine wpAnyH_done (by kernel_rfl) ?_ _
    refine NoPanic.normal ?_
    go_wp2_with fail
    exact bodyPost_ret (results_none Try.results30 _ _ _) rfl ⟨rfl, _, by rw [HV.out]; exact ⟨HKC2.out, hBcb, by rw [List.length_set]; exact HO2.out, HA2.out.ne⟩, HAP.out, Or.inl rfl⟩
  · have HV : Hid (learnV L i m = roomV L ++ [x]) := Lib.hid (by rw [← hx]; exact learn_miss (find_miss ha).2)
    rw [e1]
    clear ha e1 hx
    obtain ⟨A, c, hv⟩ := HA2.out.len
    subst hv
    have c1 := HA2.out.blk.cell 1
    go_upto_if 31 with fail
    go_cut [6] from 7 to 65 (fun u wx => ∃ v4, CaAt wx B cb lim v4 (roomV L) ∧ Ap cb (Value.ownBlock (.slice A L.length c)) w wx ∧ v4.ownBlock = Value.ownBlock (.slice A L.length c) ∧ Blk wx p 40 (i.map ubv).toArray ∧ Blk wx pm 38 (m.map ubv).toArray)
    case first =>
      by_cases h8 : 8 ≤ L.length
      · have h8i : (8 : Int) ≤ (L.length : Int) := by omega
        have hn8 : L.length = 8 := by omega
        have hn7 : L.length = 7 + 1 := hn8
        have HRS : Hid (roomV L = L.eraseIdx (oldK L L.length)) := Lib.hid (room_full h8)
        obtain ⟨g, rfl, hBg, hg, hc1, hc2, hcell⟩ : ∃ g, A = some ⟨g, 0, none⟩ ∧ B ≤ g ∧ g < w2.heap.size ∧ L.length ≤ c ∧ c ≤ maxLen ∧ ∀ j (hj : j < L.length) i v, (enE L[j])[i]? = some v → w2.cell? ⟨g, 0 + j * 11 + i, none⟩ = some v := by
          rcases (own_es HA2.out.own).2 with ⟨e1, e2⟩ | ⟨g, c', e, h⟩
          · rw [e1] at hn8; simp at hn8
          · injection e with e1 e2 e3
            subst e1
            subst e3
            exact ⟨g, rfl, h⟩
        have hgl := (HLT.out g rfl).2
        have HCELL := Lib.hid hcell
        obtain ⟨n1, hn1⟩ : ∃ n1, L.length = n1 + 1 := ⟨7, hn8⟩
        have HN8 : Hid (L.length = 8) := Lib.hid hn8
        have HN1 := Lib.hid hn1
        have hge8 : 8 ≤ L.length := h8
        have hgn : cb ≠ g := fun e => hgl.2 e.symm
        have hpg : p ≠ g := by have := HPI.out; omega
        have hpmg : pm ≠ g := by have := HPM.out; omega
        have HNN := Lib.hid (And.intro hgn (And.intro hpg hpmg))
        clear hcell h8 hn8 hn7 hn1 hgn hpg hpmg
        go_upto_region 8 with fail
        go_loopw [7, 37] (fun o j wr => ∃ k : Nat, k ≤ L.length ∧ j = .int .i64 k ∧ o = .int .i64 (oldK L k) ∧ Below w2.heap.size w2 wr) (fun _ j _ => 8 - (intOf j).toNat)
        case atStart => exact ⟨0, by omega, rfl, rfl, Below.refl _ _⟩
        case round =>
          obtain ⟨k, hk, rfl, rfl, hbel⟩ := hrel
          have HB3 := Lib.hid hbel
          clear hbel
          have hol : oldK L k < L.length := by
            rcases Nat.eq_zero_or_pos k with h | h
            · subst h
              exact Nat.lt_of_lt_of_le (show oldK L 0 < 8 from Nat.zero_lt_succ 7) hge8
            · exact Nat.lt_of_lt_of_le (oldK_lt L k h) hk
          by_cases hlt : k < L.length
          · have hlt' : (k : Int) < (L.length : Int) := by omega
            have hol' : (oldK L k : Int) < (L.length : Int) := by omega
            have hok0 : 0 ≤ (oldK L k : Int) := by omega
            have lde := run_lde (w := wr) (g := g) (o := k * 11) (x := L[k]) (fun i v hv => by have h1 := HCELL.out k hlt i v hv; rw [Nat.zero_add] at h1; exact (HB3.out.cell (p := ⟨g, k * 11 + i, none⟩) hg).trans h1)
            have HAG : Hid (∀ w', Below w2.heap.size w2 w' → w'.cell? ⟨g, oldK L k * 11 + 10, none⟩ = some (.int .i64 L[oldK L k].age)) := Lib.hid (fun w' hb => by have h1 := HCELL.out _ hol 10 (.int .i64 L[oldK L k].age) rfl; rw [Nat.zero_add] at h1; exact (hb.cell (p := ⟨g, oldK L k * 11 + 10, none⟩) hg).trans h1)
            have HY : Hid (L[oldK L k].age < L[k].age → oldK L (k + 1) = k) := Lib.hid (fun h => by rw [oldK, getElem!_pos L k hlt, getElem!_pos L _ hol, if_pos h])
            have HN : Hid (¬ L[oldK L k].age < L[k].age → oldK L (k + 1) = oldK L k) := Lib.hid (fun h => by rw [oldK, getElem!_pos L k hlt, getElem!_pos L _ hol, if_neg h])
            generalize L[oldK L k].age = za at HAG HY HN
            generalize L[k] = y at lde HY HN
            generalize oldK L k = od at hol hol' hok0 HAG HY HN ⊢
            have tokA : True := trivial
            go_upto_region 10 with (have _t := tokA; refine wpList_store_blk rfl 96 _ _ rfl wr.heap.size (enC y) rfl rfl zen 96 (Blk.new wr 96 zen 0 0 (Or.inl (Nat.le_refl _))) rfl size_en (enC_one y) ?_; clear tokA)
            have HKX := Lib.hid ((Blk.new wr 96 zen 0 0 (Or.inl (Nat.le_refl _))).setAll (cs := enC y) rfl)
            have hal := (Below.refl wr.heap.size wr).alloc (Nat.le_refl _) (.cells zen 96)
            have HB5 := Lib.hid (HB3.out.trans ((Below.setCells hal (Nat.le_refl _) 0 (enC y).toList).mono HB3.out.size))
            clear hal lde
            generalize World.setCells _ _ _ _ = w5 at HKX HB5 ⊢
            generalize wr.heap.size = px at HKX ⊢
            have HC5 : Hid (w5.drew.cell? ⟨cb, 1, none⟩ = some (.slice (some ⟨g, 0, none⟩) L.length c)) := Lib.hid ((HA2.out.step HB5.out).blk.drew.cell 1)
            have HX5 : Hid (w5.drew.cell? ⟨px, 10, none⟩ = some (.int .i64 y.age)) := Lib.hid (HKX.out.drew.cell 10)
            have HG5 : Hid (w5.drew.cell? ⟨g, od * 11 + 10, none⟩ = some (.int .i64 za)) := Lib.hid (HAG.out _ HB5.out.drew)
            have HB6 : Hid (Below w2.heap.size w2 w5.drew) := Lib.hid HB5.out.drew
            generalize y.age = ya at HX5 HY HN
            clear HKX HB5 HAG
            by_cases hcmp : za < ya
            · have HE := Lib.hid (HY.out hcmp)
              have hcmp' : ya > za := hcmp
              clear HY HN
              refine wp_region_noPanic ?_
              refine wp_region_held_drew (S := (fun w' => w'.cell? ⟨cb, 1, none⟩ = some (.slice (some ⟨g, 0, none⟩) L.length c) ∧ w'.cell? ⟨px, 10, none⟩ = some (.int .i64 ya) ∧ w'.cell? ⟨g, od * 11 + 10, none⟩ = some (.int .i64 za))) (by kernel_rfl) (by first | exact ⟨HC5.out, HX5.out, HG5.out⟩) (fun hHeld => ?_)
              refine wpAnyH_take (i := 0) (oi := _) (v := ?vr3n0_21) rfl (by kernel_rfl) (by kernel_rfl) (by kernel_rfl) (fun _ _ _ h => h) (Or.inl ⟨by kernel_rfl, ?hr3n0_21⟩) hHeld ?_
              case hr3n0_21 => (intro w hSw; (try dsimp only at hSw); go_simp; try (with_reducible rfl))
              try simp only [List.getElem_toArray, List.getElem_cons_zero, List.getElem_cons_succ, Act.put, List.setIfInBounds_toArray, List.set_cons_zero, List.set_cons_succ]
              refine wpAnyH_take (i := 1) (oi := _) (v := ?vr3n1_22) rfl (by kernel_rfl) (by kernel_rfl) (by kernel_rfl) (fun _ _ _ h => h) (Or.inl ⟨by kernel_rfl, ?hr3n1_22⟩) hHeld ?_
              case hr3n1_22 => (intro w hSw; (try dsimp only at hSw); go_simp; try (with_reducible rfl))
              try simp only [List.getElem_toArray, List.getElem_cons_zero, List.getElem_cons_succ, Act.put, List.setIfInBounds_toArray, List.set_cons_zero, List.set_cons_succ]
              refine wpAnyH_take (i := 2) (oi := _) (v := ?vr3n2_23) rfl (by kernel_rfl) (by kernel_rfl) (by kernel_rfl) (fun _ _ _ h => h) (Or.inl ⟨by kernel_rfl, ?hr3n2_23⟩) hHeld ?_
              case hr3n2_23 => (intro w hSw; (try dsimp only at hSw); go_simp; try (with_reducible rfl))
              try simp only [List.getElem_toArray, List.getElem_cons_zero, List.getElem_cons_succ, Act.put, List.setIfInBounds_toArray, List.set_cons_zero, List.set_cons_succ]
              refine wpAnyH_take (i := 3) (oi := _) (v := ?vr3n3_24) rfl (by kernel_rfl) (by kernel_rfl) (by kernel_rfl) (fun _ _ _ h => h) (Or.inl ⟨by kernel_rfl, ?hr3n3_24⟩) hHeld ?_
              case hr3n3_24 => (intro w hSw; (try dsimp only at hSw); go_simp; try (with_reducible rfl))
              try simp only [List.getElem_toArray, List.getElem_cons_zero, List.getElem_cons_succ, Act.put, List.setIfInBounds_toArray, List.set_cons_zero, List.set_cons_succ]
              refine wpAnyH_take (i := 4) (oi := _) (v := ?vr3n4_25) rfl (by kernel_rfl) (by kernel_rfl) (by kernel_rfl) (fun _ _ _ h => h) (Or.inl ⟨by kernel_rfl, ?hr3n4_25⟩) hHeld ?_
              case hr3n4_25 => (intro w hSw; (try dsimp only at hSw); go_simp; try (with_reducible rfl))
              try simp only [List.getElem_toArray, List.getElem_cons_zero, List.getElem_cons_succ, Act.put, List.setIfInBounds_toArray, List.set_cons_zero, List.set_cons_succ]
              refine wpAnyH_take (i := 5) (oi := _) (v := ?vr3n5_26) rfl (by kernel_rfl) (by kernel_rfl) (by kernel_rfl) (fun _ _ _ h => h) (Or.inl ⟨by kernel_rfl, ?hr3n5_26⟩) hHeld ?_
              case hr3n5_26 => (intro w hSw; (try dsimp only at hSw); go_simp; try (with_reducible rfl))
              try simp only [List.getElem_toArray, List.getElem_cons_zero, List.getElem_cons_succ, Act.put, List.setIfInBounds_toArray, List.set_cons_zero, List.set_cons_succ]
              refine wpAnyH_take (i := 6) (oi := _) (v := ?vr3n6_27) rfl (by kernel_rfl) (by kernel_rfl) (by kernel_rfl) (fun _ _ _ h => h) (Or.inl ⟨by kernel_rfl, ?hr3n6_27⟩) hHeld ?_
              case hr3n6_27 => (intro w hSw; (try dsimp only at hSw); go_simp; try (with_reducible rfl))
              try simp only [List.getElem_toArray, List.getElem_cons_zero, List.getElem_cons_succ, Act.put, List.setIfInBounds_toArray, List.set_cons_zero, List.set_cons_succ]
              refine wpAnyH_take (i := 7) (oi := _) (v := ?vr3n7_28) rfl (by kernel_rfl) (by kernel_rfl) (by kernel_rfl) (fun _ _ _ h => h) (Or.inl ⟨by kernel_rfl, ?hr3n7_28⟩) hHeld ?_
              case hr3n7_28 => (intro w hSw; (try dsimp only at hSw); go_simp; try (with_reducible rfl))
              try simp only [List.getElem_toArray, List.getElem_cons_zero, List.getElem_cons_succ, Act.put, List.setIfInBounds_toArray, List.set_cons_zero, List.set_cons_succ]
              refine wpAnyH_take (i := 8) (oi := _) (v := ?vr3n8_29) rfl (by kernel_rfl) (by kernel_rfl) (by kernel_rfl) (fun _ _ _ h => h) (Or.inl ⟨by kernel_rfl, ?hr3n8_29⟩) hHeld ?_
              case hr3n8_29 => (intro w hSw; (try dsimp only at hSw); go_simp; try (with_reducible rfl))
              try simp only [List.getElem_toArray, List.getElem_cons_zero, List.getElem_cons_succ, Act.put, List.setIfInBounds_toArray, List.set_cons_zero, List.set_cons_succ]
              refine wpAnyH_take (i := 9) (oi := _) (v := ?vr3n9_30) rfl (by kernel_rfl) (by kernel_rfl) (by kernel_rfl) (fun _ _ _ h => h) (Or.inl ⟨by kernel_rfl, ?hr3n9_30⟩) hHeld ?_
              case hr3n9_30 => (intro w hSw; (try dsimp only at hSw); go_simp; try (with_reducible rfl))
              try simp only [List.getElem_toArray, List.getElem_cons_zero, List.getElem_cons_succ, Act.put, List.setIfInBounds_toArray, List.set_cons_zero, List.set_cons_succ]
              refine wpAnyH_take (i := 10) (oi := _) (v := ?vr3n10_31) rfl (by kernel_rfl) (by kernel_rfl) (by kernel_rfl) (fun _ _ _ h => h) (Or.inl ⟨by kernel_rfl, ?hr3n10_31⟩) hHeld ?_
              case hr3n10_31 => (intro w hSw; (try dsimp only at hSw); go_simp; try (with_reducible rfl))
              try simp only [List.getElem_toArray, List.getElem_cons_zero, List.getElem_cons_succ, Act.put, List.setIfInBounds_toArray, List.set_cons_zero, List.set_cons_succ]
              refine wpAnyH_done (by kernel_rfl) ?_ _
              refine NoPanic.normal ?_
              go_wp2
              go_roundw
              case rel => exact ⟨k + 1, by omega, by go_num, by rw [HE.out], HB6.out⟩
              case measure => simp [intOf] <;> omega
            · have HE := Lib.hid (HN.out hcmp)
              have hcmp' : ¬ ya > za := hcmp
              clear HY HN
              refine wp_region_noPanic ?_
              refine wp_region_held_drew (S := (fun w' => w'.cell? ⟨cb, 1, none⟩ = some (.slice (some ⟨g, 0, none⟩) L.length c) ∧ w'.cell? ⟨px, 10, none⟩ = some (.int .i64 ya) ∧ w'.cell? ⟨g, od * 11 + 10, none⟩ = some (.int .i64 za))) (by kernel_rfl) (by first | exact ⟨HC5.out, HX5.out, HG5.out⟩) (fun hHeld => ?_)
              refine wpAnyH_take (i := 0) (oi := _) (v := ?vr4n0_32) rfl (by kernel_rfl) (by kernel_rfl) (by kernel_rfl) (fun _ _ _ h => h) (Or.inl ⟨by kernel_rfl, ?hr4n0_32⟩) hHeld ?_
              case hr4n0_32 => (intro w hSw; (try dsimp only at hSw); go_simp; try (with_reducible rfl))
              try simp only [List.getElem_toArray, List.getElem_cons_zero, List.getElem_cons_succ, Act.put, List.setIfInBounds_toArray, List.set_cons_zero, List.set_cons_succ]
              refine wpAnyH_take (i := 1) (oi := _) (v := ?vr4n1_33) rfl (by kernel_rfl) (by kernel_rfl) (by kernel_rfl) (fun _ _ _ h => h) (Or.inl ⟨by kernel_rfl, ?hr4n1_33⟩) hHeld ?_
              case hr4n1_33 => (intro w hSw; (try dsimp only at hSw); go_simp; try (with_reducible rfl))
              try simp only [List.getElem_toArray, List.getElem_cons_zero, List.getElem_cons_succ, Act.put, List.setIfInBounds_toArray, List.set_cons_zero, List.set_cons_succ]
              refine wpAnyH_take (i := 2) (oi := _) (v := ?vr4n2_34) rfl (by kernel_rfl) (by kernel_rfl) (by kernel_rfl) (fun _ _ _ h => h) (Or.inl ⟨by kernel_rfl, ?hr4n2_34⟩) hHeld ?_
              case hr4n2_34 => (intro w hSw; (try dsimp only at hSw); go_simp; try (with_reducible rfl))
              try simp only [List.getElem_toArray, List.getElem_cons_zero, List.getElem_cons_succ, Act.put, List.setIfInBounds_toArray, List.set_cons_zero, List.set_cons_succ]
              refine wpAnyH_take (i := 3) (oi := _) (v := ?vr4n3_35) rfl (by kernel_rfl) (by kernel_rfl) (by kernel_rfl) (fun _ _ _ h => h) (Or.inl ⟨by kernel_rfl, ?hr4n3_35⟩) hHeld ?_
              case hr4n3_35 => (intro w hSw; (try dsimp only at hSw); go_simp; try (with_reducible rfl))
              try simp only [List.getElem_toArray, List.getElem_cons_zero, List.getElem_cons_succ, Act.put, List.setIfInBounds_toArray, List.set_cons_zero, List.set_cons_succ]
              refine wpAnyH_take (i := 4) (oi := _) (v := ?vr4n4_36) rfl (by kernel_rfl) (by kernel_rfl) (by kernel_rfl) (fun _ _ _ h => h) (Or.inl ⟨by kernel_rfl, ?hr4n4_36⟩) hHeld ?_
              case hr4n4_36 => (intro w hSw; (try dsimp only at hSw); go_simp; try (with_reducible rfl))
              try simp only [List.getElem_toArray, List.getElem_cons_zero, List.getElem_cons_succ, Act.put, List.setIfInBounds_toArray, List.set_cons_zero, List.set_cons_succ]
              refine wpAnyH_take (i := 5) (oi := _) (v := ?vr4n5_37) rfl (by kernel_rfl) (by kernel_rfl) (by kernel_rfl) (fun _ _ _ h => h) (Or.inl ⟨by kernel_rfl, ?hr4n5_37⟩) hHeld ?_
              case hr4n5_37 => (intro w hSw; (try dsimp only at hSw); go_simp; try (with_reducible rfl))
              try simp only [List.getElem_toArray, List.getElem_cons_zero, List.getElem_cons_succ, Act.put, List.setIfInBounds_toArray, List.set_cons_zero, List.set_cons_succ]
              refine wpAnyH_take (i := 6) (oi := _) (v := ?vr4n6_38) rfl (by kernel_rfl) (by kernel_rfl) (by kernel_rfl) (fun _ _ _ h => h) (Or.inl ⟨by kernel_rfl, ?hr4n6_38⟩) hHeld ?_
              case hr4n6_38 => (intro w hSw; (try dsimp only at hSw); go_simp; try (with_reducible rfl))
              try simp only [List.getElem_toArray, List.getElem_cons_zero, List.getElem_cons_succ, Act.put, List.setIfInBounds_toArray, List.set_cons_zero, List.set_cons_succ]
              refine wpAnyH_take (i := 7) (oi := _) (v := ?vr4n7_39) rfl (by kernel_rfl) (by kernel_rfl) (by kernel_rfl) (fun _ _ _ h => h) (Or.inl ⟨by kernel_rfl, ?hr4n7_39⟩) hHeld ?_
              case hr4n7_39 => (intro w hSw; (try dsimp only at hSw); go_simp; try (with_reducible rfl))
              try simp only [List.getElem_toArray, List.getElem_cons_zero, List.getElem_cons_succ, Act.put, List.setIfInBounds_toArray, List.set_cons_zero, List.set_cons_succ]
              refine wpAnyH_take (i := 8) (oi := _) (v := ?vr4n8_40) rfl (by kernel_rfl) (by kernel_rfl) (by kernel_rfl) (fun _ _ _ h => h) (Or.inl ⟨by kernel_rfl, ?hr4n8_40⟩) hHeld ?_
              case hr4n8_40 => (intro w hSw; (try dsimp only at hSw); go_simp; try (with_reducible rfl))
              try simp only [List.getElem_toArray, List.getElem_cons_zero, List.getElem_cons_succ, Act.put, List.setIfInBounds_toArray, List.set_cons_zero, List.set_cons_succ]
              refine wpAnyH_take (i := 9) (oi := _) (v := ?vr4n9_41) rfl (by kernel_rfl) (by kernel_rfl) (by kernel_rfl) (fun _ _ _ h => h) (Or.inl ⟨by kernel_rfl, ?hr4n9_41⟩) hHeld ?_
              case hr4n9_41 => (intro w hSw; (try dsimp only at hSw); go_simp; try (with_reducible rfl))
              try simp only [List.getElem_toArray, List.getElem_cons_zero, List.getElem_cons_succ, Act.put, List.setIfInBounds_toArray, List.set_cons_zero, List.set_cons_succ]
              refine wpAnyH_take (i := 10) (oi := _) (v := ?vr4n10_42) rfl (by kernel_rfl) (by kernel_rfl) (by kernel_rfl) (fun _ _ _ h => h) (Or.inl ⟨by kernel_rfl, ?hr4n10_42⟩) hHeld ?_
              case hr4n10_42 => (intro w hSw; (try dsimp only at hSw); go_simp; try (with_reducible rfl))
              try simp only [List.getElem_toArray, List.getElem_cons_zero, List.getElem_cons_succ, Act.put, List.setIfInBounds_toArray, List.set_cons_zero, List.set_cons_succ]
              refine wpAnyH_done (by kernel_rfl) ?_ _
              refine NoPanic.normal ?_
              go_wp2
              go_roundw
              case rel => exact ⟨k + 1, by omega, by go_num, by rw [HE.out], HB6.out⟩
              case measure => simp [intOf] <;> omega
          · have hkn : k = L.length := by omega
            have hlt' : ¬ (k : Int) < (L.length : Int) := by omega
            have HOLD : Hid (oldK L L.length = oldK L k) := Lib.hid (by rw [hkn])
            clear hkn
            rw [HOLD.out] at HRS
            clear HOLD
            generalize oldK L k = od at hol HRS ⊢
            have hw1 : IntKind.i64.wrap ((od : Int) + 1) = (od : Int) + 1 := IntWalk.i64_in _ ⟨by omega, by omega⟩
            have HA3 := Lib.hid (HA2.out.step HB3.out)
            have HI3 := Lib.hid (HI2.out.step HB3.out)
            have HM3 := Lib.hid (HM2.out.step HB3.out)
            have DEL := Lib.hid (delete_any g HA3.out.own od hol hL HN1.out hc1 hc2)
            rw [← HN1.out] at DEL
            have c1 := HA3.out.blk.cell 1
            go_wp2_with fail
            refine DEL.out.mono ?_
            rintro e w6 ⟨rfl, ho6, hap6⟩
            have HO6 := Lib.hid ho6
            have HKC6 := Lib.hid (HA3.out.blk.of_heap (hap6.block cb HA3.out.blk.lt HNN.out.1 (fun e => HNN.out.1 (Option.some.inj e))))
            have HKI6 := Lib.hid (HI3.out.of_heap (hap6.block p HI3.out.lt HNN.out.2.1 (fun e => HNN.out.2.1 (Option.some.inj e))))
            have HKM6 := Lib.hid (HM3.out.of_heap (hap6.block pm HM3.out.lt HNN.out.2.2 (fun e => HNN.out.2.2 (Option.some.inj e))))
            have HAP6 : Hid (Ap cb (Value.ownBlock (.slice (some ⟨g, 0, none⟩) L.length c)) w w6) := Lib.hid (((Ap.of_below (o := some g) HB2.out).trans (Ap.of_below (o := some g) HB3.out) (fun q hq => Or.inl hq)).trans (Ap.weak (cb := cb) hap6) (fun q hq => Or.inl hq))
            clear ho6 hap6 c1
            have c1 := HKC6.out.cell 1
            have f1 := HKC6.out.free 1 (show 1 < 2 from by decide)
            have HPC : Hid (p ≠ cb) := Lib.hid (by have := HPI.out; omega)
            have HPMC : Hid (pm ≠ cb) := Lib.hid (by have := HPM.out; omega)
            go_wp2_with fail
            go_meet
            have hel : (L.eraseIdx od).length = n1 := by rw [List.length_eraseIdx, if_pos hol, HN1.out]; omega
            exact ⟨.slice (some ⟨g, 0, none⟩) n1 c, by rw [HRS.out]; exact CaAt.put HKC6.out hBcb hel.symm HO6.out HA2.out.ne, HAP6.out.trans (Ap.field (o := none) _) (fun q hq => by cases hq), rfl, HKI6.out.set_other ⟨cb, 1, none⟩ _ HPC.out, HKM6.out.set_other ⟨cb, 1, none⟩ _ HPMC.out⟩
      · have h8i : ¬ (8 : Int) ≤ (L.length : Int) := by omega
        have HRS : Hid (roomV L = L) := Lib.hid (room_small h8)
        have HAP : Hid (Ap cb (Value.ownBlock (.slice A L.length c)) w w2) := Lib.hid (Ap.of_below HB2.out)
        clear h8
        go_wp2_with fail
        go_meet
        exact ⟨_, by rw [HRS.out]; exact HA2.out, HAP.out, rfl, HI2.out, HM2.out⟩
    case rest =>
      obtain ⟨v4, hca, hap, how, hbp, hbm⟩ := hcut
      have HR7 : Hid ((roomV L).length ≤ 7) := Lib.hid (room_len hL)
      generalize roomV L = R at hca HV HR7
      obtain ⟨A4, c4, hv4⟩ := hca.len
      subst hv4
      have HLT4 := Lib.hid hca.lt
      have HKC0 := Lib.hid hca.blk.drew
      have HKI0 := Lib.hid (Blk.drew hbp)
      have HKM0 := Lib.hid (Blk.drew hbm)
      have HO0 := Lib.hid hca.own.drew
      have HNE := Lib.hid hca.ne
      have HAP0 : Hid (Ap cb (Value.ownBlock (.slice A L.length c)) w wc.drew) := Lib.hid (hap.trans (Ap.of_below (o := none) (Below.drewN (Below.refl _ wc) 1)) (fun q hq => by cases hq))
      have HOW := Lib.hid how
      have HPC : Hid (p ≠ cb) := Lib.hid (by have := HPI.out; omega)
      have HPMC : Hid (pm ≠ cb) := Lib.hid (by have := HPM.out; omega)
      have HPO : Hid (Value.ownBlock (.slice A4 R.length c4) ≠ some p ∧ Value.ownBlock (.slice A4 R.length c4) ≠ some pm) := Lib.hid (by
        rw [how]
        have h1 := HPI.out
        have h2 := HPM.out
        exact ⟨fun e => by have := (HLT.out p e).2.1; omega, fun e => by have := (HLT.out pm e).2.1; omega⟩)
      obtain ⟨i0, hi0, hz0, hz1, hz2⟩ := info_parts info_en
      clear hca hap how hbp hbm
      go_upto_region 14 with fail
      refine wp_region_noPanic ?_
      refine wp_region_held_drew (S := (fun w' => (Ld 40 (.pointer (some ⟨p, 0, none⟩))).run Try.prog w' = .ok (arrV i) w' ∧ (Ld 38 (.pointer (some ⟨pm, 0, none⟩))).run Try.prog w' = .ok (arrV m) w')) (by kernel_rfl) (by first | exact ⟨HKI0.out.ld_arr4 hi, HKM0.out.ld_arr6 hm⟩) (fun hHeld => ?_)
      refine wpAnyH_take (i := 0) (oi := _) (v := ?vr2n0_10) rfl (by kernel_rfl) (by kernel_rfl) (by kernel_rfl) (fun _ _ _ h => h) (Or.inl ⟨by kernel_rfl, ?hr2n0_10⟩) hHeld ?_
      case hr2n0_10 => (intro w hSw; (try dsimp only at hSw); go_simp; try (with_reducible rfl))
      try simp only [List.getElem_toArray, List.getElem_cons_zero, List.getElem_cons_succ, Act.put, List.setIfInBounds_toArray, List.set_cons_zero, List.set_cons_succ]
      refine wpAnyH_take (i := 1) (oi := _) (v := ?vr2n1_11) rfl (by kernel_rfl) (by kernel_rfl) (by kernel_rfl) (fun _ _ _ h => h) (Or.inl ⟨by kernel_rfl, ?hr2n1_11⟩) hHeld ?_
      case hr2n1_11 => (intro w hSw; (try dsimp only at hSw); go_simp; try (with_reducible rfl))
      try simp only [List.getElem_toArray, List.getElem_cons_zero, List.getElem_cons_succ, Act.put, List.setIfInBounds_toArray, List.set_cons_zero, List.set_cons_succ]
      refine wpAnyH_take (i := 2) (oi := _) (v := ?vr2n2_12) rfl (by kernel_rfl) (by kernel_rfl) (by kernel_rfl) (fun _ _ _ h => h) (Or.inl ⟨by kernel_rfl, ?hr2n2_12⟩) hHeld ?_
      case hr2n2_12 => (intro w hSw; (try dsimp only at hSw); go_simp; try (with_reducible rfl))
      try simp only [List.getElem_toArray, List.getElem_cons_zero, List.getElem_cons_succ, Act.put, List.setIfInBounds_toArray, List.set_cons_zero, List.set_cons_succ]
      refine wpAnyH_take (i := 3) (oi := _) (v := ?vr2n3_13) rfl (by kernel_rfl) (by kernel_rfl) (by kernel_rfl) (fun _ _ _ h => h) (Or.inl ⟨by kernel_rfl, ?hr2n3_13⟩) hHeld ?_
      case hr2n3_13 => (intro w hSw; (try dsimp only at hSw); go_simp; try (with_reducible rfl))
      try simp only [List.getElem_toArray, List.getElem_cons_zero, List.getElem_cons_succ, Act.put, List.setIfInBounds_toArray, List.set_cons_zero, List.set_cons_succ]
      refine wpAnyH_take (i := 5) (oi := _) (v := ?vr2n5_14) rfl (by kernel_rfl) (by kernel_rfl) (by kernel_rfl) (fun _ _ _ h => h) (Or.inl ⟨by kernel_rfl, ?hr2n5_14⟩) hHeld ?_
      case hr2n5_14 => (intro w hSw; (try dsimp only at hSw); go_simp; try (with_reducible rfl))
      try simp only [List.getElem_toArray, List.getElem_cons_zero, List.getElem_cons_succ, Act.put, List.setIfInBounds_toArray, List.set_cons_zero, List.set_cons_succ]
      refine wpAnyH_take (i := 6) (oi := _) (v := ?vr2n6_15) rfl (by kernel_rfl) (by kernel_rfl) (by kernel_rfl) (fun _ _ _ h => h) (Or.inl ⟨by kernel_rfl, ?hr2n6_15⟩) hHeld ?_
      case hr2n6_15 => (intro w hSw; (try dsimp only at hSw); go_simp; try (with_reducible rfl))
      try simp only [List.getElem_toArray, List.getElem_cons_zero, List.getElem_cons_succ, Act.put, List.setIfInBounds_toArray, List.set_cons_zero, List.set_cons_succ]
      refine wpAnyH_take (i := 7) (oi := _) (v := ?vr2n7_16) rfl (by kernel_rfl) (by kernel_rfl) (by kernel_rfl) (fun _ _ _ h => h) (Or.inl ⟨by kernel_rfl, ?hr2n7_16⟩) hHeld ?_
      case hr2n7_16 => (intro w hSw; (try dsimp only at hSw); refine (run_build2 _ _ _ _ rfl (arrV i) (arrV m) rfl rfl w _ (hbd w)).trans ?_; with_reducible rfl)
      try simp only [List.getElem_toArray, List.getElem_cons_zero, List.getElem_cons_succ, Act.put, List.setIfInBounds_toArray, List.set_cons_zero, List.set_cons_succ]
      refine wpAnyH_ready (rs := [4, 8]) (by kernel_rfl) (by simp) ?_
      refine AllReadyH.cons (o := _) rfl (fun K hK => ?_) ?_
      · skip
        (have c1 := HKC0.out.cell 1)
        go_simp
        (clear c1)
        refine hK.out _ _ ?_ (fun hHeld1 => ?_)
        · (first | exact ⟨HKI0.out.ld_arr4 hi, HKM0.out.ld_arr6 hm⟩)
        clear hHeld hK K
        try simp only [List.getElem_toArray, List.getElem_cons_zero, List.getElem_cons_succ, Act.put, List.setIfInBounds_toArray, List.set_cons_zero, List.set_cons_succ]
        refine wpAnyH_ready (rs := [8]) (by kernel_rfl) (by simp) ?_
        refine AllReadyH.cons (o := _) rfl (fun K hK => ?_) AllReadyH.nil
        (refine step_bse rfl (.tmp 73) rfl x rfl ?_; have HKC1 := Lib.hid (HKC0.out.alloc (.cells (enC x) 96)); have HKI1 := Lib.hid (HKI0.out.alloc (.cells (enC x) 96)); have HKM1 := Lib.hid (HKM0.out.alloc (.cells (enC x) 96)); have HO1 := Lib.hid (HO0.out.alloc (.cells (enC x) 96)); have HE1 := Lib.hid (Blk.new wc.drew 96 (enC x) 0 0 (Or.inl (Nat.le_refl _))); have HAP1 : Hid (Ap cb (Value.ownBlock (.slice A L.length c)) w _) := Lib.hid (HAP0.out.trans (Ap.of_below (o := none) ((Below.refl _ _).alloc (Nat.le_refl _) (.cells (enC x) 96))) (fun q hq => by cases hq)); generalize World.alloc _ _ = y1 at HKC1 HKI1 HKM1 HO1 HE1 HAP1 ⊢; (try go_simp))
        refine hK.out _ _ ?_ (fun hHeld2 => ?_)
        · (first | exact ⟨HKI1.out.ld_arr4 hi, HKM1.out.ld_arr6 hm⟩)
        clear hHeld1 hK K
        try simp only [List.getElem_toArray, List.getElem_cons_zero, List.getElem_cons_succ, Act.put, List.setIfInBounds_toArray, List.set_cons_zero, List.set_cons_succ]
        refine wpAnyH_ready (rs := [9]) (by kernel_rfl) (by simp) ?_
        refine AllReadyH.cons (o := _) rfl (fun K hK => ?_) AllReadyH.nil
        (refine step_append_lies _ rfl (.tmp 70) (.tmp 74) 60 rfl B 96 i0 (.agg (enC en0)) 11 24 Try.underlying60 hi0 hz0 hz1 hz2 rfl (by decide) (.slice A4 R.length c4) R.length (flatE R) rfl HO1.out ⟨wc.drew.heap.size, 0, none⟩ 1 1 (enE x) rfl rfl (blk_cells HE1.out) (enE_one x) (by decide) (by have := HR7.out; unfold maxLen; omega) (by have := HR7.out; omega) (by have := HAP1.out.size; omega) _ rfl ?_; intro gl cl y2 hown hg hgo hgl; have HKC2 := Lib.hid (HKC1.out.grownN hg HNE.out); have HKI2 := Lib.hid (HKI1.out.grownN hg HPO.out.1); have HKM2 := Lib.hid (HKM1.out.grownN hg HPO.out.2); have HO2 := Lib.hid hown; have HGO2 := Lib.hid hgo; have HGC2 : Hid (gl ≠ cb) := Lib.hid (by rcases hgo with h1 | h1; exact fun e => HNE.out (by rw [h1, e]); have := HAP1.out.size; omega); have HGW2 : Hid (y2.heap.size = y2.heap.size) := Lib.hid rfl; have HGS2 := Lib.hid (HAP1.out.size); have HAP2 : Hid (Ap cb (Value.ownBlock (.slice A L.length c)) w y2) := Lib.hid (HAP1.out.trans (Ap.grown hg) (fun q hq => Or.inl (by rw [← HOW.out]; exact hq))); clear hown hg hgo hgl; (try go_simp))
        refine hK.out _ _ ?_ (fun hHeld3 => ?_)
        · (first | exact ⟨HKI2.out.ld_arr4 hi, HKM2.out.ld_arr6 hm⟩)
        clear hHeld2 hK K
        try simp only [List.getElem_toArray, List.getElem_cons_zero, List.getElem_cons_succ, Act.put, List.setIfInBounds_toArray, List.set_cons_zero, List.set_cons_succ]
        refine wpAnyH_take (i := 10) (oi := _) (v := ?vr2n10_17) rfl (by kernel_rfl) (by kernel_rfl) (by kernel_rfl) (fun _ _ _ h => h) (Or.inl ⟨by kernel_rfl, ?hr2n10_17⟩) hHeld3 ?_
        case hr2n10_17 => (intro w hSw; (try dsimp only at hSw); go_simp; try (with_reducible rfl))
        try simp only [List.getElem_toArray, List.getElem_cons_zero, List.getElem_cons_succ, Act.put, List.setIfInBounds_toArray, List.set_cons_zero, List.set_cons_succ]
        refine wpAnyH_take (i := 11) (oi := _) (v := ?vr2n11_18) rfl (by kernel_rfl) (by kernel_rfl) (by kernel_rfl) (fun _ _ _ h => h) (Or.inl ⟨by kernel_rfl, ?hr2n11_18⟩) hHeld3 ?_
        case hr2n11_18 => (intro w hSw; (try dsimp only at hSw); go_simp; try (with_reducible rfl))
        try simp only [List.getElem_toArray, List.getElem_cons_zero, List.getElem_cons_succ, Act.put, List.setIfInBounds_toArray, List.set_cons_zero, List.set_cons_succ]
        refine wpAnyH_ready (rs := [12]) (by kernel_rfl) (by simp) ?_
        refine AllReadyH.cons (o := _) rfl (fun K hK => ?_) AllReadyH.nil
        (have c1 := HKC2.out.cell 1; have f1 := HKC2.out.free 1 (show 1 < 2 from by decide); have HKI99 := Lib.hid (HKI2.out.set_other ⟨cb, 1, none⟩ (.slice (some ⟨gl, 0, none⟩) (R.length + 1) cl) HPC.out); have HKM99 := Lib.hid (HKM2.out.set_other ⟨cb, 1, none⟩ (.slice (some ⟨gl, 0, none⟩) (R.length + 1) cl) HPMC.out))
        go_simp
        (clear c1 f1)
        refine hK.out _ _ ?_ (fun hHeld4 => ?_)
        · (first | exact ⟨HKI99.out.ld_arr4 hi, HKM99.out.ld_arr6 hm⟩)
        clear hHeld3 hK K
        try simp only [List.getElem_toArray, List.getElem_cons_zero, List.getElem_cons_succ, Act.put, List.setIfInBounds_toArray, List.set_cons_zero, List.set_cons_succ]
        refine wpAnyH_done (by kernel_rfl) ?_ _
        refine NoPanic.normal ?_
        go_wp2_with fail
        exact bodyPost_end (results_none Try.results30 _ _ _) rfl ⟨rfl, .slice (some ⟨gl, 0, none⟩) (R.length + 1) cl, by rw [HV.out]; exact CaAt.put (n := R.length + 1) HKC2.out hBcb (by simp) (by rw [flatE_snoc]; exact HO2.out) (fun e => HGC2.out (Option.some.inj e)), HAP2.out.trans (Ap.field (o := none) _) (fun q hq => by cases hq), by rcases HGO2.out with h1 | h1; exact Or.inl (by rw [← HOW.out, h1]; rfl); exact Or.inr ⟨gl, rfl, by have := HGS2.out; omega⟩⟩
      refine AllReadyH.cons (o := _) rfl (fun K hK => ?_) AllReadyH.nil
      (refine step_bse rfl (.tmp 73) rfl x rfl ?_; have HKC3 := Lib.hid (HKC0.out.alloc (.cells (enC x) 96)); have HKI3 := Lib.hid (HKI0.out.alloc (.cells (enC x) 96)); have HKM3 := Lib.hid (HKM0.out.alloc (.cells (enC x) 96)); have HO3 := Lib.hid (HO0.out.alloc (.cells (enC x) 96)); have HE3 := Lib.hid (Blk.new wc.drew 96 (enC x) 0 0 (Or.inl (Nat.le_refl _))); have HAP3 : Hid (Ap cb (Value.ownBlock (.slice A L.length c)) w _) := Lib.hid (HAP0.out.trans (Ap.of_below (o := none) ((Below.refl _ _).alloc (Nat.le_refl _) (.cells (enC x) 96))) (fun q hq => by cases hq)); generalize World.alloc _ _ = y3 at HKC3 HKI3 HKM3 HO3 HE3 HAP3 ⊢; (try go_simp))
      refine hK.out _ _ ?_ (fun hHeld5 => ?_)
      · (first | exact ⟨HKI3.out.ld_arr4 hi, HKM3.out.ld_arr6 hm⟩)
      clear hHeld hK K
      try simp only [List.getElem_toArray, List.getElem_cons_zero, List.getElem_cons_succ, Act.put, List.setIfInBounds_toArray, List.set_cons_zero, List.set_cons_succ]
      refine wpAnyH_ready (rs := [4]) (by kernel_rfl) (by simp) ?_
      refine AllReadyH.cons (o := _) rfl (fun K hK => ?_) AllReadyH.nil
      (have c1 := HKC3.out.cell 1)
      go_simp
      (clear c1)
      refine hK.out _ _ ?_ (fun hHeld6 => ?_)
      · (first | exact ⟨HKI3.out.ld_arr4 hi, HKM3.out.ld_arr6 hm⟩)
      clear hHeld5 hK K
      try simp only [List.getElem_toArray, List.getElem_cons_zero, List.getElem_cons_succ, Act.put, List.setIfInBounds_toArray, List.set_cons_zero, List.set_cons_succ]
      refine wpAnyH_ready (rs := [9]) (by kernel_rfl) (by simp) ?_
      refine AllReadyH.cons (o := _) rfl (fun K hK => ?_) AllReadyH.nil
      (refine step_append_lies _ rfl (.tmp 70) (.tmp 74) 60 rfl B 96 i0 (.agg (enC en0)) 11 24 Try.underlying60 hi0 hz0 hz1 hz2 rfl (by decide) (.slice A4 R.length c4) R.length (flatE R) rfl HO3.out ⟨wc.drew.heap.size, 0, none⟩ 1 1 (enE x) rfl rfl (blk_cells HE3.out) (enE_one x) (by decide) (by have := HR7.out; unfold maxLen; omega) (by have := HR7.out; omega) (by have := HAP3.out.size; omega) _ rfl ?_; intro gl cl y4 hown hg hgo hgl; have HKC4 := Lib.hid (HKC3.out.grownN hg HNE.out); have HKI4 := Lib.hid (HKI3.out.grownN hg HPO.out.1); have HKM4 := Lib.hid (HKM3.out.grownN hg HPO.out.2); have HO4 := Lib.hid hown; have HGO4 := Lib.hid hgo; have HGC4 : Hid (gl ≠ cb) := Lib.hid (by rcases hgo with h1 | h1; exact fun e => HNE.out (by rw [h1, e]); have := HAP3.out.size; omega); have HGW4 : Hid (y4.heap.size = y4.heap.size) := Lib.hid rfl; have HGS4 := Lib.hid (HAP3.out.size); have HAP4 : Hid (Ap cb (Value.ownBlock (.slice A L.length c)) w y4) := Lib.hid (HAP3.out.trans (Ap.grown hg) (fun q hq => Or.inl (by rw [← HOW.out]; exact hq))); clear hown hg hgo hgl; (try go_simp))
      refine hK.out _ _ ?_ (fun hHeld7 => ?_)
      · (first | exact ⟨HKI4.out.ld_arr4 hi, HKM4.out.ld_arr6 hm⟩)
      clear hHeld6 hK K
      try simp only [List.getElem_toArray, List.getElem_cons_zero, List.getElem_cons_succ, Act.put, List.setIfInBounds_toArray, List.set_cons_zero, List.set_cons_succ]
      refine wpAnyH_take (i := 10) (oi := _) (v := ?vr2n10_19) rfl (by kernel_rfl) (by kernel_rfl) (by kernel_rfl) (fun _ _ _ h => h) (Or.inl ⟨by kernel_rfl, ?hr2n10_19⟩) hHeld7 ?_
      case hr2n10_19 => (intro w hSw; (try dsimp only at hSw); go_simp; try (with_reducible rfl))
      try simp only [List.getElem_toArray, List.getElem_cons_zero, List.getElem_cons_succ, Act.put, List.setIfInBounds_toArray, List.set_cons_zero, List.set_cons_succ]
      refine wpAnyH_take (i := 11) (oi := _) (v := ?vr2n11_20) rfl (by kernel_rfl) (by kernel_rfl) (by kernel_rfl) (fun _ _ _ h => h) (Or.inl ⟨by kernel_rfl, ?hr2n11_20⟩) hHeld7 ?_
      case hr2n11_20 => (intro w hSw; (try dsimp only at hSw); go_simp; try (with_reducible rfl))
      try simp only [List.getElem_toArray, List.getElem_cons_zero, List.getElem_cons_succ, Act.put, List.setIfInBounds_toArray, List.set_cons_zero, List.set_cons_succ]
      refine wpAnyH_ready (rs := [12]) (by kernel_rfl) (by simp) ?_
      refine AllReadyH.cons (o := _) rfl (fun K hK => ?_) AllReadyH.nil
      (have c1 := HKC4.out.cell 1; have f1 := HKC4.out.free 1 (show 1 < 2 from by decide); have HKI99 := Lib.hid (HKI4.out.set_other ⟨cb, 1, none⟩ (.slice (some ⟨gl, 0, none⟩) (R.length + 1) cl) HPC.out); have HKM99 := Lib.hid (HKM4.out.set_other ⟨cb, 1, none⟩ (.slice (some ⟨gl, 0, none⟩) (R.length + 1) cl) HPMC.out))
      go_simp
      (clear c1 f1)
      refine hK.out _ _ ?_ (fun hHeld8 => ?_)
      · (first | exact ⟨HKI99.out.ld_arr4 hi, HKM99.out.ld_arr6 hm⟩)
      clear hHeld7 hK K
      try simp only [List.getElem_toArray, List.getElem_cons_zero, List.getElem_cons_succ, Act.put, List.setIfInBounds_toArray, List.set_cons_zero, List.set_cons_succ]
      refine wpAnyH_done (by kernel_rfl) ?_ _
      refine NoPanic.normal ?_
      go_wp2_with fail
      exact bodyPost_end (results_none Try.results30 _ _ _) rfl ⟨rfl, .slice (some ⟨gl, 0, none⟩) (R.length + 1) cl, by rw [HV.out]; exact CaAt.put (n := R.length + 1) HKC4.out hBcb (by simp) (by rw [flatE_snoc]; exact HO4.out) (fun e => HGC4.out (Option.some.inj e)), HAP4.out.trans (Ap.field (o := none) _) (fun q hq => by cases hq), by rcases HGO4.out with h1 | h1; exact Or.inl (by rw [← HOW.out, h1]; rfl); exact Or.inr ⟨gl, rfl, by have := HGS4.out; omega⟩⟩
end Go.Proofs.Ytpnhopgfoakgnaa
