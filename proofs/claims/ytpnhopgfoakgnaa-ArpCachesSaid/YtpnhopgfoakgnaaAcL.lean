/- The reference's Learn. Condition: at most eight entries. -/
import Derived.Test.YtpnhopgfoakgnaaAcJ
namespace Go.Proofs.Ytpnhopgfoakgnaa
set_option linter.unusedVariables false
set_option linter.unusedSimpArgs false
set_option maxRecDepth 100000
open Go.RowKit Go.Proofs Go.Shelf
attribute [local go_sem ↓] ld_arp ld_mac ld_ip ld_entQ ld_caQ

theorem wp_bldQ {ops : Array Oper} {rest : List Oper} {o : Oper} {a : Act} {w : World} {Q : Exit → Act → World → Prop} (hgd : o.guard = none) (x y : Operand)
    (ho : o.op = .build 79 #[(0, x), (1, y)]) (i m : List UInt8) (hi : i.length = 4) (hm : m.length = 6) (hx : a.eval x = arrV i) (hy : a.eval y = arrV m)
    (h : wpList Try.prog ops Q rest (a.put o.dst (.agg (enC (mkE i m 0)))) w) : wpList Try.prog ops Q (o :: rest) a w := by
  refine wpList_plain hgd fun K hK => ?_
  have hr : (Instr.build 79 #[(0, arrV i), (1, arrV m)]).run Try.prog w = .ok (.agg (enC (mkE i m 0))) w := by
    obtain ⟨a, b, c, d, rfl⟩ := list4 hi
    obtain ⟨p, q, r, s, t, u, rfl⟩ := list6 hm
    have h : (Instr.build 79 #[(0, .agg #[ubv a, ubv b, ubv c, ubv d]), (1, .agg #[ubv p, ubv q, ubv r, ubv s, ubv t, ubv u])]).run Try.prog w = .ok (.agg #[ubv a, ubv b, ubv c, ubv d, ubv p, ubv q, ubv r, ubv s, ubv t, ubv u, .int .i64 0]) w := by kernel_rfl
    exact h
  unfold Oper.wp execOp
  simp only [ho, Sem.run_bind, Sem.run_pure, Result.andThen_ok, List.map_toArray, List.map_cons, List.map_nil, hx, hy, hr]
  exact hK _ _ h
def lrK (L : List En) (i m : List UInt8) (k : Nat) : List En := (L.take k).map (fun x => if ipIs i x then mkE i m 0 else x)
theorem lrK_len (L : List En) (i m : List UInt8) (k : Nat) : (lrK L i m k).length = min k L.length := by simp [lrK]
theorem lrK_step {L : List En} {i m : List UInt8} {k : Nat} (hk : k < L.length) : lrK L i m (k + 1) = lrK L i m k ++ [if ipIs i L[k] then mkE i m 0 else L[k]] := by
  unfold lrK
  rw [List.take_add_one, List.getElem?_eq_getElem hk, List.map_append]
  rfl
theorem any_step {L : List En} {i : List UInt8} {k : Nat} (hk : k < L.length) : (L.take (k + 1)).any (ipIs i) = ((L.take k).any (ipIs i) || ipIs i L[k]) := by
  rw [List.take_add_one, List.getElem?_eq_getElem hk, List.any_append]
  simp
theorem lrK_all {L : List En} {i m : List UInt8} (h : L.any (ipIs i) = true) : lrK L i m L.length = learnV L i m := by
  unfold lrK learnV
  rw [List.take_of_length_le (Nat.le_refl _), if_pos h]
theorem lrK_none {L : List En} {i m : List UInt8} (h : L.any (ipIs i) = false) : lrK L i m L.length = L := by
  unfold lrK
  rw [List.take_of_length_le (Nat.le_refl _)]
  have e : ∀ x ∈ L, (if ipIs i x then mkE i m 0 else x) = x := fun x hx => by
    rw [if_neg]
    exact List.any_eq_false.1 h x hx
  rw [List.map_congr_left e]
  simp
/-- the first k without number o -/
def rmK (L : List En) (o k : Nat) : List En := if o < k then (L.take k).eraseIdx o else L.take k
theorem rmK_same {L : List En} {o : Nat} (ho : o < L.length) : rmK L o (o + 1) = rmK L o o := by
  unfold rmK
  rw [if_pos (by omega), if_neg (by omega), List.take_add_one, List.getElem?_eq_getElem ho, List.eraseIdx_append_of_length_le (by simp; omega), List.length_take, Nat.min_eq_left (by omega), Nat.sub_self]
  simp
theorem rmK_other {L : List En} {o k : Nat} (hk : k < L.length) (h : k ≠ o) : rmK L o (k + 1) = rmK L o k ++ [L[k]] := by
  unfold rmK
  rw [List.take_add_one, List.getElem?_eq_getElem hk]
  by_cases h1 : o < k
  · rw [if_pos (by omega), if_pos h1, List.eraseIdx_append_of_lt_length (by simp; omega)]
    rfl
  · rw [if_neg (by omega), if_neg h1]
    rfl
theorem rmK_all {L : List En} {o : Nat} (ho : o < L.length) : rmK L o L.length = L.eraseIdx o := by
  unfold rmK
  rw [if_pos ho, List.take_of_length_le (Nat.le_refl _)]
theorem rmK_len (L : List En) (o k : Nat) : (rmK L o k).length ≤ k := by
  unfold rmK
  split
  · exact Nat.le_trans (List.length_eraseIdx_le _ _) (by simp; omega)
  · simp; omega

set_option maxHeartbeats 8000000 in
theorem refLearn_any {w : World} {B : Nat} {lim : Int} {v : Value} {L : List En} (h : w.ownsRow B 79 11 v L.length (flatE L)) (hL : L.length ≤ 8) (i m : List UInt8) (hi : i.length = 4) (hm : m.length = 6) :
    Calls Try.prog 35 #[.agg #[v, .int .i64 lim], arrV i, arrV m] w fun e w' => ∃ v', e = .returned (.agg #[v', .int .i64 lim]) ∧ w'.ownsRow w.heap.size 79 11 v' (learnV L i m).length (flatE (learnV L i m)) ∧ Below w.heap.size w w' := by
  have HB := Lib.hid (((((Below.refl _ w).alloc (Nat.le_refl _) (.cells #[v, .int .i64 lim] 73)).alloc (by simp) (.cells (i.map ubv).toArray 40)).alloc (by simp; omega) (.cells (m.map ubv).toArray 38)).alloc (by simp; omega) (.cells #[.slice none 0 0, .int .i64 0] 73))
  have HO : Hid (∀ w', Below w.heap.size w w' → w'.ownsRow B 79 11 v L.length (flatE L)) := Lib.hid (fun w' hb => h.kept (show w.grownBy w' none from ⟨hb.os, hb.tape, hb.output, hb.size, fun q hq _ => hb.block q hq⟩) (by cases Value.ownBlock _ <;> simp))
  have HC := Lib.hid ((((Blk.new w 73 #[v, .int .i64 lim] 0 0 (Or.inl (Nat.le_refl _))).alloc (.cells (i.map ubv).toArray 40)).alloc (.cells (m.map ubv).toArray 38)).alloc (.cells #[.slice none 0 0, .int .i64 0] 73))
  have hK1 := ((Blk.new (w.alloc (.cells #[v, .int .i64 lim] 73)) 40 (i.map ubv).toArray 0 0 (Or.inl (Nat.le_refl _))).alloc (.cells (m.map ubv).toArray 38)).alloc (.cells #[.slice none 0 0, .int .i64 0] 73)
  have hK2 := (Blk.new ((w.alloc (.cells #[v, .int .i64 lim] 73)).alloc (.cells (i.map ubv).toArray 40)) 38 (m.map ubv).toArray 0 0 (Or.inl (Nat.le_refl _))).alloc (.cells #[.slice none 0 0, .int .i64 0] 73)
  have hK3 := Blk.new (((w.alloc (.cells #[v, .int .i64 lim] 73)).alloc (.cells (i.map ubv).toArray 40)).alloc (.cells (m.map ubv).toArray 38)) 73 #[.slice none 0 0, .int .i64 0] 0 0 (Or.inl (Nat.le_refl _))
  simp only [size_alloc] at hK1 hK2 hK3
  have HI := Lib.hid hK1
  have HM := Lib.hid hK2
  have HR := Lib.hid hK3
  obtain ⟨A, c, hv⟩ := own_sl h
  subst hv
  clear h hK1 hK2 hK3
  go_enter Try.func35, Try.ntmps35
  go_upto_region 1 with fail
  generalize World.alloc _ _ = w1 at HC HI HM HR HB ⊢
  obtain ⟨p, hp⟩ : ∃ q, q = w.heap.size + 1 := ⟨_, rfl⟩
  rw [← hp] at HI HM HR ⊢
  obtain ⟨pm, hpm⟩ : ∃ q, q = p + 1 := ⟨_, rfl⟩
  rw [← hpm] at HM HR ⊢
  obtain ⟨pr, hpr⟩ : ∃ q, q = pm + 1 := ⟨_, rfl⟩
  rw [← hpr] at HR ⊢
  have HPR : Hid (w.heap.size ≤ pr ∧ pr ≠ w.heap.size) := Lib.hid (by omega)
  obtain ⟨pc, hpc⟩ : ∃ pc, pc = w.heap.size := ⟨_, rfl⟩
  have HPC := Lib.hid (fun _ : Unit => hpc)
  rw [← hpc] at HC ⊢
  clear hp hpm hpr hpc
  go_wp2
  go_loopw [7, 8, 9] (fun u b j wr => ∃ k : Nat, k ≤ L.length ∧ j = .int .i64 k ∧ b = .bool ((L.take k).any (ipIs i)) ∧ wr.ownsRow w1.heap.size 79 11 u (lrK L i m k).length (flatE (lrK L i m k)) ∧ Below w1.heap.size w1 wr) (fun _ _ j _ => 8 - (intOf j).toNat)
  case atStart => exact ⟨0, by omega, rfl, rfl, ⟨rfl, Or.inl ⟨rfl, rfl⟩⟩, Below.refl _ _⟩
  case round =>
    obtain ⟨k, hk, rfl, rfl, hown, hb⟩ := hrel
    have HO2 := Lib.hid hown
    have HB2 := Lib.hid hb
    have HW := Lib.hid (Below.step HB.out hb)
    have HC2 := Lib.hid (HC.out.step hb)
    have HI2 := Lib.hid (HI.out.step hb)
    have HM2 := Lib.hid (HM.out.step hb)
    have HR2 := Lib.hid (HR.out.step hb)
    clear hown hb
    by_cases hlt : k < L.length
    · have hlt' : (k : Int) < (L.length : Int) := by omega
      have hk0 : 0 ≤ (k : Int) := by omega
      have HOD := HO.out _ HW.out
      obtain ⟨g, rfl, hcell⟩ : ∃ g, A = some ⟨g, 0, none⟩ ∧ ∀ i v, (enE L[k])[i]? = some v → wr.cell? ⟨g, k * 11 + i, none⟩ = some v := by
        rcases (own_es HOD).2 with ⟨e1, e2⟩ | ⟨g, c', e, _, _, _, _, hcell⟩
        · rw [e1] at hlt; simp at hlt
        · injection e with e1 e2 e3
          subst e1
          exact ⟨g, rfl, fun i v hv => by have := hcell k hlt i v hv; rw [Nat.zero_add] at this; exact this⟩
      have lde := run_ldq hcell
      have c0 := HC2.out.cell 0
      have HST := Lib.hid (lrK_step (i := i) (m := m) hlt)
      have HAN := Lib.hid (any_step (i := i) hlt)
      have htl : (lrK L i m k).length ≤ 8 := by rw [lrK_len]; omega
      have q := fun w => run_ip_eql w L[k].ip i rfl hi
      have HE : Hid (ipIs i L[k] = (L[k].ip == i)) := Lib.hid rfl
      clear hcell HOD
      generalize L[k] = x at lde HST HAN q HE
      have tokA : True := trivial
      go_upto_region 7 with (have _t := tokA; refine wpList_store_blk rfl 79 _ _ rfl wr.heap.size (enC x) rfl rfl zen 79 (Blk.new wr 79 zen 0 0 (Or.inl (Nat.le_refl _))) rfl size_enQ (enC_one x) ?_; clear tokA)
      have HKX := Lib.hid ((Blk.new wr 79 zen 0 0 (Or.inl (Nat.le_refl _))).setAll (cs := enC x) rfl)
      have hal := (Below.refl wr.heap.size wr).alloc (Nat.le_refl _) (.cells zen 79)
      have HBX := Lib.hid (Below.setCells hal (Nat.le_refl _) 0 (enC x).toList)
      clear hal lde c0
      generalize World.setCells _ _ _ _ = w5 at HKX HBX ⊢
      have HO5 := Lib.hid (HO2.out.kept (show wr.grownBy w5 none from ⟨HBX.out.os, HBX.out.tape, HBX.out.output, HBX.out.size, fun q hq _ => HBX.out.block q hq⟩) (by cases Value.ownBlock _ <;> simp))
      have HB5 := Lib.hid (HB2.out.trans (HBX.out.mono HB2.out.size))
      have HI5 := Lib.hid (HI2.out.step HBX.out)
      have HM5 := Lib.hid (HM2.out.step HBX.out)
      have HPX : Hid (w1.heap.size ≤ wr.heap.size) := Lib.hid HB2.out.size
      have HOW : Hid (∀ q, Value.ownBlock _ = some q → q < wr.heap.size) := Lib.hid (fun q hq => (HO2.out.lt q hq).2)
      clear HBX HO2 HB2 HC2 HI2 HM2 HR2 HW
      generalize wr.heap.size = px at HKX HPX HOW ⊢
      have l1 := HKX.out.ld_row 40 4 0 Try.underlying40 size_ip x.ip rfl (enC_ip x)
      have l2 := HI5.out.ld_arr4 hi
      have l3 := HM5.out.ld_arr6 hm
      generalize (L.take k).any (ipIs i) = ab at HAN ⊢
      generalize ipIs i x = bb at HE HST HAN
      rw [← HE.out] at q
      clear HE
      generalize x.ip = xi at l1 q
      cases bb
      · have HS2 : Hid (lrK L i m (k + 1) = lrK L i m k ++ [x]) := Lib.hid (by rw [HST.out]; rfl)
        have HA2 : Hid ((L.take (k + 1)).any (ipIs i) = ab) := Lib.hid (by rw [HAN.out]; simp)
        clear HST HAN
        have ldx := run_ldq (w := w5) (g := px) (o := 0) (x := x) (fun i v hv => by rw [Nat.zero_add, HKX.out.cell]; simpa [enE] using hv)
        have HO7 := Lib.hid (HO5.out.alloc (.cells (enC x) 79))
        have HB7 := Lib.hid (HB5.out.alloc HB5.out.size (.cells (enC x) 79))
        have HK7 := Lib.hid (Blk.new w5 79 (enC x) 0 0 (Or.inl (Nat.le_refl _)))
        have tokA : True := trivial
        go_wp2_with (first | (have _t := tokA; refine wpList_bsE rfl (.tmp 35) rfl x rfl ?_; clear tokA; have tokB : True := trivial) | (have _t := tokB; clear tokB; at_builtin; go_loud (refine wpList_appE rfl (.tmp 34) (.tmp 36) rfl w1.heap.size _ _ _ rfl HO7.out w5.heap.size x rfl HK7.out (by omega) HB7.out.size ?_; intro v8 w8 hown hg; have HO8 := Lib.hid hown; have HB8 := Lib.hid (HB7.out.grown hg HB7.out.size (fun q hq => (HO7.out.lt q hq).1)); clear hown hg HO7 HB7 HK7)))
        go_roundw
        case rel => exact ⟨k + 1, by omega, by go_num, by rw [HA2.out], by rw [HS2.out, List.length_append, List.length_singleton]; exact HO8.out, HB8.out⟩
        case measure => simp [intOf] <;> omega
      · obtain ⟨y, hy⟩ : ∃ y, y = mkE i m 0 := ⟨_, rfl⟩
        have HS2 : Hid (lrK L i m (k + 1) = lrK L i m k ++ [y]) := Lib.hid (by rw [HST.out, hy]; rfl)
        have HA2 : Hid ((L.take (k + 1)).any (ipIs i) = true) := Lib.hid (by rw [HAN.out]; simp)
        have HYY := Lib.hid (fun _ : Unit => hy)
        clear HST HAN hy
        have tokA : True := trivial
        go_upto_region 9 with (first | (have _t := tokA; refine wp_bldQ rfl (.tmp 31) (.tmp 32) rfl i m hi hm rfl rfl ?_; rw [← HYY.out ()]; clear tokA; have tokB : True := trivial) | (have _t := tokB; refine wpList_store_blk rfl 79 _ _ rfl px (enC y) rfl rfl (enC x) 79 HKX.out rfl size_enQ (enC_one y) ?_; clear tokB))
        have HKY := Lib.hid (HKX.out.setAll (cs := enC y) rfl)
        have HO6 := Lib.hid (HO5.out.kept (own_grow w5 px (o := 0) (enC y).toList) (Or.inr (fun e => by have := HOW.out px e; omega)))
        have HB6 := Lib.hid (Below.setCells HB5.out HPX.out 0 (enC y).toList)
        clear l1 l2 l3 HO5 HB5 HKX
        generalize World.setCells _ _ _ _ = w6 at HKY HO6 HB6 ⊢
        have ldx := run_ldq (w := w6) (g := px) (o := 0) (x := y) (fun i v hv => by rw [Nat.zero_add, HKY.out.cell]; simpa [enE] using hv)
        have HO7 := Lib.hid (HO6.out.alloc (.cells (enC y) 79))
        have HB7 := Lib.hid (HB6.out.alloc HB6.out.size (.cells (enC y) 79))
        have HK7 := Lib.hid (Blk.new w6 79 (enC y) 0 0 (Or.inl (Nat.le_refl _)))
        have tokA : True := trivial
        go_wp2_with (first | (have _t := tokA; refine wpList_bsE rfl (.tmp 35) rfl y rfl ?_; clear tokA; have tokB : True := trivial) | (have _t := tokB; clear tokB; at_builtin; go_loud (refine wpList_appE rfl (.tmp 34) (.tmp 36) rfl w1.heap.size _ _ _ rfl HO7.out w6.heap.size y rfl HK7.out (by omega) HB7.out.size ?_; intro v8 w8 hown hg; have HO8 := Lib.hid hown; have HB8 := Lib.hid (HB7.out.grown hg HB7.out.size (fun q hq => (HO7.out.lt q hq).1)); clear hown hg HO7 HB7 HK7)))
        go_roundw
        case rel => exact ⟨k + 1, by omega, by go_num, by rw [HA2.out], by rw [HS2.out, List.length_append, List.length_singleton]; exact HO8.out, HB8.out⟩
        case measure => simp [intOf] <;> omega
    · have hkl : k = L.length := by omega
      have hlt' : ¬ (k : Int) < (L.length : Int) := by omega
      subst hkl
      clear hk
      rw [List.take_of_length_le (Nat.le_refl _)]
      obtain ⟨A7, c7, hv7⟩ := own_sl HO2.out
      subst hv7
      have HSZ := Lib.hid HB2.out.size
      cases hany : L.any (ipIs i)
      · have HLN := Lib.hid (lrK_none (m := m) hany)
        have HV := Lib.hid (learn_miss (m := m) hany)
        rw [HLN.out] at HO2 ⊢
        clear hany HLN
        by_cases h8 : L.length = 8
        · have HRM : Hid (roomV L = L.eraseIdx (oldK L 8)) := Lib.hid (by rw [room_full (by omega), h8])
          have HN8 := Lib.hid h8
          have h8i : (L.length : Int) = 8 := by omega
          clear h8
          have c0 := HC2.out.cell 0
          go_upto_region 12 with fail
          clear c0 h8i
          obtain ⟨g, c', e, hBg, hg, _, _, hcell⟩ : ∃ g c', Value.slice A7 L.length c7 = .slice (some ⟨g, 0, none⟩) L.length c' ∧ w1.heap.size ≤ g ∧ g < wr.heap.size ∧ L.length ≤ c' ∧ c' ≤ maxLen ∧ ∀ j (hj : j < L.length) i v, (enE L[j])[i]? = some v → wr.cell? ⟨g, 0 + j * 11 + i, none⟩ = some v := by
            rcases (own_es HO2.out).2 with ⟨e1, e2⟩ | h
            · have := HN8.out; rw [e1] at this; simp at this
            · exact h
          injection e with e1 e2 e3
          subst e1
          subst e3
          have HCELL := Lib.hid hcell
          clear hcell e2
          obtain ⟨wo, rfl⟩ : ∃ wo : World, wo = wr := ⟨_, rfl⟩
          go_wp2
          go_loopw [11, 12] (fun o j wr => ∃ q : Nat, 1 ≤ q ∧ q ≤ 8 ∧ j = .int .i64 q ∧ o = .int .i64 (oldK L q) ∧ Below wo.heap.size wo wr) (fun _ j _ => 8 - (intOf j).toNat)
          case atStart => exact ⟨1, by omega, by omega, rfl, by rw [oldK_one]; rfl, Below.refl _ _⟩
          case round =>
            obtain ⟨k, hk1, hk8, rfl, rfl, hb⟩ := hrel
            have HB3 := Lib.hid hb
            have hok := oldK_lt L k (by omega)
            clear hb
            by_cases hlt2 : k < 8
            · have hlt2' : (k : Int) < 8 := by omega
              have hkl2 : k < L.length := by rw [HN8.out]; exact hlt2
              have hol : oldK L k < L.length := by omega
              have hki : (k : Int) < (L.length : Int) := by omega
              have hoi : (oldK L k : Int) < (L.length : Int) := by omega
              have hk0 : 0 ≤ (k : Int) := by omega
              have ho0 : 0 ≤ (oldK L k : Int) := by omega
              have HG1 : Hid (wr.drew.cell? ⟨g, k * 11 + 10, none⟩ = some (.int .i64 L[k].age)) := Lib.hid (by have h1 := HCELL.out k hkl2 10 (.int .i64 L[k].age) rfl; rw [Nat.zero_add] at h1; exact (HB3.out.drew.cell (p := ⟨g, k * 11 + 10, none⟩) hg).trans h1)
              have HG2 : Hid (wr.drew.cell? ⟨g, oldK L k * 11 + 10, none⟩ = some (.int .i64 L[oldK L k].age)) := Lib.hid (by have h1 := HCELL.out _ hol 10 (.int .i64 L[oldK L k].age) rfl; rw [Nat.zero_add] at h1; exact (HB3.out.drew.cell (p := ⟨g, oldK L k * 11 + 10, none⟩) hg).trans h1)
              have HY : Hid (L[oldK L k].age < L[k].age → oldK L (k + 1) = k) := Lib.hid (fun h => by rw [oldK, getElem!_pos L k hkl2, getElem!_pos L _ hol, if_pos h])
              have HN : Hid (¬ L[oldK L k].age < L[k].age → oldK L (k + 1) = oldK L k) := Lib.hid (fun h => by rw [oldK, getElem!_pos L k hkl2, getElem!_pos L _ hol, if_neg h])
              have HBD := Lib.hid HB3.out.drew
              generalize L[oldK L k].age = za at HG2 HY HN
              generalize L[k].age = ya at HG1 HY HN
              generalize oldK L k = od at hok hol hoi ho0 HG2 HY HN ⊢
              by_cases hcmp : za < ya
              · have HE := Lib.hid (HY.out hcmp)
                have hcmp' : ya > za := hcmp
                clear HY HN
                go_upto_region 16 with fail
                refine wp_region_noPanic ?_
                refine wp_region_held_drew (S := (fun w' => w'.cell? ⟨g, k * 11 + 10, none⟩ = some (.int .i64 ya) ∧ w'.cell? ⟨g, od * 11 + 10, none⟩ = some (.int .i64 za))) (by kernel_rfl) (by first | exact ⟨HG1.out, HG2.out⟩) (fun hHeld => ?_)
                refine wpAnyH_take (i := 0) (oi := _) (v := ?vr1n0_1) rfl (by kernel_rfl) (by kernel_rfl) (by kernel_rfl) (fun _ _ _ h => h) (Or.inl ⟨by kernel_rfl, ?hr1n0_1⟩) hHeld ?_
                case hr1n0_1 => (intro w hSw; (try dsimp only at hSw); go_simp; try (with_reducible rfl))
                try simp only [List.getElem_toArray, List.getElem_cons_zero, List.getElem_cons_succ, Act.put, List.setIfInBounds_toArray, List.set_cons_zero, List.set_cons_succ]
                refine wpAnyH_take (i := 1) (oi := _) (v := ?vr1n1_2) rfl (by kernel_rfl) (by kernel_rfl) (by kernel_rfl) (fun _ _ _ h => h) (Or.inl ⟨by kernel_rfl, ?hr1n1_2⟩) hHeld ?_
                case hr1n1_2 => (intro w hSw; (try dsimp only at hSw); go_simp; try (with_reducible rfl))
                try simp only [List.getElem_toArray, List.getElem_cons_zero, List.getElem_cons_succ, Act.put, List.setIfInBounds_toArray, List.set_cons_zero, List.set_cons_succ]
                refine wpAnyH_take (i := 2) (oi := _) (v := ?vr1n2_3) rfl (by kernel_rfl) (by kernel_rfl) (by kernel_rfl) (fun _ _ _ h => h) (Or.inl ⟨by kernel_rfl, ?hr1n2_3⟩) hHeld ?_
                case hr1n2_3 => (intro w hSw; (try dsimp only at hSw); go_simp; try (with_reducible rfl))
                try simp only [List.getElem_toArray, List.getElem_cons_zero, List.getElem_cons_succ, Act.put, List.setIfInBounds_toArray, List.set_cons_zero, List.set_cons_succ]
                refine wpAnyH_take (i := 3) (oi := _) (v := ?vr1n3_4) rfl (by kernel_rfl) (by kernel_rfl) (by kernel_rfl) (fun _ _ _ h => h) (Or.inl ⟨by kernel_rfl, ?hr1n3_4⟩) hHeld ?_
                case hr1n3_4 => (intro w hSw; (try dsimp only at hSw); go_simp; try (with_reducible rfl))
                try simp only [List.getElem_toArray, List.getElem_cons_zero, List.getElem_cons_succ, Act.put, List.setIfInBounds_toArray, List.set_cons_zero, List.set_cons_succ]
                refine wpAnyH_take (i := 4) (oi := _) (v := ?vr1n4_5) rfl (by kernel_rfl) (by kernel_rfl) (by kernel_rfl) (fun _ _ _ h => h) (Or.inl ⟨by kernel_rfl, ?hr1n4_5⟩) hHeld ?_
                case hr1n4_5 => (intro w hSw; (try dsimp only at hSw); go_simp; try (with_reducible rfl))
                try simp only [List.getElem_toArray, List.getElem_cons_zero, List.getElem_cons_succ, Act.put, List.setIfInBounds_toArray, List.set_cons_zero, List.set_cons_succ]
                refine wpAnyH_take (i := 5) (oi := _) (v := ?vr1n5_6) rfl (by kernel_rfl) (by kernel_rfl) (by kernel_rfl) (fun _ _ _ h => h) (Or.inl ⟨by kernel_rfl, ?hr1n5_6⟩) hHeld ?_
                case hr1n5_6 => (intro w hSw; (try dsimp only at hSw); go_simp; try (with_reducible rfl))
                try simp only [List.getElem_toArray, List.getElem_cons_zero, List.getElem_cons_succ, Act.put, List.setIfInBounds_toArray, List.set_cons_zero, List.set_cons_succ]
                refine wpAnyH_take (i := 6) (oi := _) (v := ?vr1n6_7) rfl (by kernel_rfl) (by kernel_rfl) (by kernel_rfl) (fun _ _ _ h => h) (Or.inl ⟨by kernel_rfl, ?hr1n6_7⟩) hHeld ?_
                case hr1n6_7 => (intro w hSw; (try dsimp only at hSw); go_simp; try (with_reducible rfl))
                try simp only [List.getElem_toArray, List.getElem_cons_zero, List.getElem_cons_succ, Act.put, List.setIfInBounds_toArray, List.set_cons_zero, List.set_cons_succ]
                refine wpAnyH_take (i := 7) (oi := _) (v := ?vr1n7_8) rfl (by kernel_rfl) (by kernel_rfl) (by kernel_rfl) (fun _ _ _ h => h) (Or.inl ⟨by kernel_rfl, ?hr1n7_8⟩) hHeld ?_
                case hr1n7_8 => (intro w hSw; (try dsimp only at hSw); go_simp; try (with_reducible rfl))
                try simp only [List.getElem_toArray, List.getElem_cons_zero, List.getElem_cons_succ, Act.put, List.setIfInBounds_toArray, List.set_cons_zero, List.set_cons_succ]
                refine wpAnyH_take (i := 8) (oi := _) (v := ?vr1n8_9) rfl (by kernel_rfl) (by kernel_rfl) (by kernel_rfl) (fun _ _ _ h => h) (Or.inl ⟨by kernel_rfl, ?hr1n8_9⟩) hHeld ?_
                case hr1n8_9 => (intro w hSw; (try dsimp only at hSw); go_simp; try (with_reducible rfl))
                try simp only [List.getElem_toArray, List.getElem_cons_zero, List.getElem_cons_succ, Act.put, List.setIfInBounds_toArray, List.set_cons_zero, List.set_cons_succ]
                refine wpAnyH_take (i := 9) (oi := _) (v := ?vr1n9_10) rfl (by kernel_rfl) (by kernel_rfl) (by kernel_rfl) (fun _ _ _ h => h) (Or.inl ⟨by kernel_rfl, ?hr1n9_10⟩) hHeld ?_
                case hr1n9_10 => (intro w hSw; (try dsimp only at hSw); go_simp; try (with_reducible rfl))
                try simp only [List.getElem_toArray, List.getElem_cons_zero, List.getElem_cons_succ, Act.put, List.setIfInBounds_toArray, List.set_cons_zero, List.set_cons_succ]
                refine wpAnyH_take (i := 10) (oi := _) (v := ?vr1n10_11) rfl (by kernel_rfl) (by kernel_rfl) (by kernel_rfl) (fun _ _ _ h => h) (Or.inl ⟨by kernel_rfl, ?hr1n10_11⟩) hHeld ?_
                case hr1n10_11 => (intro w hSw; (try dsimp only at hSw); go_simp; try (with_reducible rfl))
                try simp only [List.getElem_toArray, List.getElem_cons_zero, List.getElem_cons_succ, Act.put, List.setIfInBounds_toArray, List.set_cons_zero, List.set_cons_succ]
                refine wpAnyH_done (by kernel_rfl) ?_ _
                refine NoPanic.normal ?_
                go_wp2
                go_roundw
                case rel => exact ⟨k + 1, by omega, by omega, by go_num, by rw [HE.out], HBD.out⟩
                case measure => simp [intOf] <;> omega
              · have HE := Lib.hid (HN.out hcmp)
                have hcmp' : ¬ ya > za := hcmp
                clear HY HN
                go_upto_region 16 with fail
                refine wp_region_noPanic ?_
                refine wp_region_held_drew (S := (fun w' => w'.cell? ⟨g, k * 11 + 10, none⟩ = some (.int .i64 ya) ∧ w'.cell? ⟨g, od * 11 + 10, none⟩ = some (.int .i64 za))) (by kernel_rfl) (by first | exact ⟨HG1.out, HG2.out⟩) (fun hHeld => ?_)
                refine wpAnyH_take (i := 0) (oi := _) (v := ?vr2n0_12) rfl (by kernel_rfl) (by kernel_rfl) (by kernel_rfl) (fun _ _ _ h => h) (Or.inl ⟨by kernel_rfl, ?hr2n0_12⟩) hHeld ?_
                case hr2n0_12 => (intro w hSw; (try dsimp only at hSw); go_simp; try (with_reducible rfl))
                try simp only [List.getElem_toArray, List.getElem_cons_zero, List.getElem_cons_succ, Act.put, List.setIfInBounds_toArray, List.set_cons_zero, List.set_cons_succ]
                refine wpAnyH_take (i := 1) (oi := _) (v := ?vr2n1_13) rfl (by kernel_rfl) (by kernel_rfl) (by kernel_rfl) (fun _ _ _ h => h) (Or.inl ⟨by kernel_rfl, ?hr2n1_13⟩) hHeld ?_
                case hr2n1_13 => (intro w hSw; (try dsimp only at hSw); go_simp; try (with_reducible rfl))
                try simp only [List.getElem_toArray, List.getElem_cons_zero, List.getElem_cons_succ, Act.put, List.setIfInBounds_toArray, List.set_cons_zero, List.set_cons_succ]
                refine wpAnyH_take (i := 2) (oi := _) (v := ?vr2n2_14) rfl (by kernel_rfl) (by kernel_rfl) (by kernel_rfl) (fun _ _ _ h => h) (Or.inl ⟨by kernel_rfl, ?hr2n2_14⟩) hHeld ?_
                case hr2n2_14 => (intro w hSw; (try dsimp only at hSw); go_simp; try (with_reducible rfl))
                try simp only [List.getElem_toArray, List.getElem_cons_zero, List.getElem_cons_succ, Act.put, List.setIfInBounds_toArray, List.set_cons_zero, List.set_cons_succ]
                refine wpAnyH_take (i := 3) (oi := _) (v := ?vr2n3_15) rfl (by kernel_rfl) (by kernel_rfl) (by kernel_rfl) (fun _ _ _ h => h) (Or.inl ⟨by kernel_rfl, ?hr2n3_15⟩) hHeld ?_
                case hr2n3_15 => (intro w hSw; (try dsimp only at hSw); go_simp; try (with_reducible rfl))
                try simp only [List.getElem_toArray, List.getElem_cons_zero, List.getElem_cons_succ, Act.put, List.setIfInBounds_toArray, List.set_cons_zero, List.set_cons_succ]
                refine wpAnyH_take (i := 4) (oi := _) (v := ?vr2n4_16) rfl (by kernel_rfl) (by kernel_rfl) (by kernel_rfl) (fun _ _ _ h => h) (Or.inl ⟨by kernel_rfl, ?hr2n4_16⟩) hHeld ?_
                case hr2n4_16 => (intro w hSw; (try dsimp only at hSw); go_simp; try (with_reducible rfl))
                try simp only [List.getElem_toArray, List.getElem_cons_zero, List.getElem_cons_succ, Act.put, List.setIfInBounds_toArray, List.set_cons_zero, List.set_cons_succ]
                refine wpAnyH_take (i := 5) (oi := _) (v := ?vr2n5_17) rfl (by kernel_rfl) (by kernel_rfl) (by kernel_rfl) (fun _ _ _ h => h) (Or.inl ⟨by kernel_rfl, ?hr2n5_17⟩) hHeld ?_
                case hr2n5_17 => (intro w hSw; (try dsimp only at hSw); go_simp; try (with_reducible rfl))
                try simp only [List.getElem_toArray, List.getElem_cons_zero, List.getElem_cons_succ, Act.put, List.setIfInBounds_toArray, List.set_cons_zero, List.set_cons_succ]
                refine wpAnyH_take (i := 6) (oi := _) (v := ?vr2n6_18) rfl (by kernel_rfl) (by kernel_rfl) (by kernel_rfl) (fun _ _ _ h => h) (Or.inl ⟨by kernel_rfl, ?hr2n6_18⟩) hHeld ?_
                case hr2n6_18 => (intro w hSw; (try dsimp only at hSw); go_simp; try (with_reducible rfl))
                try simp only [List.getElem_toArray, List.getElem_cons_zero, List.getElem_cons_succ, Act.put, List.setIfInBounds_toArray, List.set_cons_zero, List.set_cons_succ]
                refine wpAnyH_take (i := 7) (oi := _) (v := ?vr2n7_19) rfl (by kernel_rfl) (by kernel_rfl) (by kernel_rfl) (fun _ _ _ h => h) (Or.inl ⟨by kernel_rfl, ?hr2n7_19⟩) hHeld ?_
                case hr2n7_19 => (intro w hSw; (try dsimp only at hSw); go_simp; try (with_reducible rfl))
                try simp only [List.getElem_toArray, List.getElem_cons_zero, List.getElem_cons_succ, Act.put, List.setIfInBounds_toArray, List.set_cons_zero, List.set_cons_succ]
                refine wpAnyH_take (i := 8) (oi := _) (v := ?vr2n8_20) rfl (by kernel_rfl) (by kernel_rfl) (by kernel_rfl) (fun _ _ _ h => h) (Or.inl ⟨by kernel_rfl, ?hr2n8_20⟩) hHeld ?_
                case hr2n8_20 => (intro w hSw; (try dsimp only at hSw); go_simp; try (with_reducible rfl))
                try simp only [List.getElem_toArray, List.getElem_cons_zero, List.getElem_cons_succ, Act.put, List.setIfInBounds_toArray, List.set_cons_zero, List.set_cons_succ]
                refine wpAnyH_take (i := 9) (oi := _) (v := ?vr2n9_21) rfl (by kernel_rfl) (by kernel_rfl) (by kernel_rfl) (fun _ _ _ h => h) (Or.inl ⟨by kernel_rfl, ?hr2n9_21⟩) hHeld ?_
                case hr2n9_21 => (intro w hSw; (try dsimp only at hSw); go_simp; try (with_reducible rfl))
                try simp only [List.getElem_toArray, List.getElem_cons_zero, List.getElem_cons_succ, Act.put, List.setIfInBounds_toArray, List.set_cons_zero, List.set_cons_succ]
                refine wpAnyH_take (i := 10) (oi := _) (v := ?vr2n10_22) rfl (by kernel_rfl) (by kernel_rfl) (by kernel_rfl) (fun _ _ _ h => h) (Or.inl ⟨by kernel_rfl, ?hr2n10_22⟩) hHeld ?_
                case hr2n10_22 => (intro w hSw; (try dsimp only at hSw); go_simp; try (with_reducible rfl))
                try simp only [List.getElem_toArray, List.getElem_cons_zero, List.getElem_cons_succ, Act.put, List.setIfInBounds_toArray, List.set_cons_zero, List.set_cons_succ]
                refine wpAnyH_done (by kernel_rfl) ?_ _
                refine NoPanic.normal ?_
                go_wp2
                go_roundw
                case rel => exact ⟨k + 1, by omega, by omega, by go_num, by rw [HE.out], HBD.out⟩
                case measure => simp [intOf] <;> omega
            · have hlt2' : ¬ (k : Int) < 8 := by omega
              have HO8 : Hid (oldK L 8 = oldK L k) := Lib.hid (by rw [show k = 8 by omega])
              rw [HO8.out] at HRM
              have hod : oldK L k < L.length := by have := HN8.out; omega
              clear HO8
              generalize oldK L k = od at HRM hod hok ⊢
              obtain ⟨wp, rfl⟩ : ∃ wo : World, wo = wr := ⟨_, rfl⟩
              go_wp2
              go_loopw [13, 14] (fun u j wr => ∃ q : Nat, q ≤ 8 ∧ j = .int .i64 q ∧ wr.ownsRow wo.heap.size 79 11 u (rmK L od q).length (flatE (rmK L od q)) ∧ Below wo.heap.size wo wr) (fun _ j _ => 8 - (intOf j).toNat)
              case atStart => exact ⟨0, by omega, rfl, by rw [show rmK L od 0 = [] by unfold rmK; rw [if_neg (by omega)]; rfl]; exact ⟨rfl, Or.inl ⟨rfl, rfl⟩⟩, HB3.out⟩
              case round =>
                obtain ⟨q, hq8, rfl, hown, hb⟩ := hrel
                have HO4 := Lib.hid hown
                have HB4 := Lib.hid hb
                clear hown hb
                by_cases hlq : q < 8
                · have hlq' : (q : Int) < 8 := by omega
                  have hql : q < L.length := by rw [HN8.out]; exact hlq
                  by_cases hqo : q = od
                  · have hqi : (q : Int) = (od : Int) := by omega
                    have HE : Hid (rmK L od (q + 1) = rmK L od q) := Lib.hid (by rw [hqo]; exact rmK_same hod)
                    have hq1 : ((q : Int) == (od : Int)) = true := beq_iff_eq.2 hqi
                    have hq2 : ((q : Int) != (od : Int)) = false := by rw [bne, hq1]; rfl
                    clear hqi hqo
                    go_wp2
                    go_roundw
                    case rel => exact ⟨q + 1, by omega, by go_num, by rw [HE.out]; exact HO4.out, HB4.out⟩
                    case measure => simp [intOf] <;> omega
                  · have hqi : ¬ (q : Int) = (od : Int) := by omega
                    have HE := Lib.hid (rmK_other hql hqo)
                    have hq1 : ((q : Int) == (od : Int)) = false := beq_eq_false_iff_ne.2 hqi
                    have hq2 : ((q : Int) != (od : Int)) = true := bne_iff_ne.2 hqi
                    have hki : (q : Int) < (L.length : Int) := by omega
                    have hk0 : 0 ≤ (q : Int) := by omega
                    have lde := run_ldq (w := wr) (g := g) (o := q * 11) (x := L[q]) (fun i v hv => by have h1 := HCELL.out q hql i v hv; rw [Nat.zero_add] at h1; exact (HB4.out.cell (p := ⟨g, q * 11 + i, none⟩) hg).trans h1)
                    have hrl := rmK_len L od q
                    clear hqo
                    generalize L[q] = x at lde HE
                    have HO7 := Lib.hid (HO4.out.alloc (.cells (enC x) 79))
                    have HB7 := Lib.hid (HB4.out.alloc HB4.out.size (.cells (enC x) 79))
                    have HK7 := Lib.hid (Blk.new wr 79 (enC x) 0 0 (Or.inl (Nat.le_refl _)))
                    have tokA : True := trivial
                    go_wp2_with (first | (have _t := tokA; refine wpList_bsE rfl (.tmp 72) rfl x rfl ?_; clear tokA; have tokB : True := trivial) | (have _t := tokB; clear tokB; at_builtin; go_loud (refine wpList_appE rfl (.tmp 68) (.tmp 73) rfl wo.heap.size _ _ _ rfl HO7.out wr.heap.size x rfl HK7.out (by omega) HB7.out.size ?_; intro v8 w8 hown hg; have HO8 := Lib.hid hown; have HB8 := Lib.hid (HB7.out.grown hg HB7.out.size (fun q hq => (HO7.out.lt q hq).1)); clear hown hg HO7 HB7 HK7)))
                    go_roundw
                    case rel => exact ⟨q + 1, by omega, by go_num, by rw [HE.out, List.length_append, List.length_singleton]; exact HO8.out, HB8.out⟩
                    case measure => simp [intOf] <;> omega
                · have hlq' : ¬ (q : Int) < 8 := by omega
                  have HRR : Hid (roomV L = rmK L od q) := Lib.hid (by rw [HRM.out, show q = L.length by rw [HN8.out]; omega, rmK_all hod])
                  have hrl := rmK_len L od q
                  rw [HRR.out] at HV
                  generalize rmK L od q = R at HO4 HV hrl
                  have HOW := Lib.hid (own_weakE HO4.out HSZ.out)
                  have HBW := Lib.hid (HB2.out.trans (HB4.out.mono HSZ.out))
                  obtain ⟨A4, c4, hv4⟩ := own_sl HO4.out
                  subst hv4
                  clear HO2 HB2 HW HC2 HI2 HM2 HR2 HO4 HB4 HB3 HSZ
                  have HI4 := Lib.hid (HI.out.step HBW.out)
                  have HM4 := Lib.hid (HM.out.step HBW.out)
                  have l2 := HI4.out.ld_arr4 hi
                  have l3 := HM4.out.ld_arr6 hm
                  obtain ⟨y, hy⟩ : ∃ y, y = mkE i m 0 := ⟨_, rfl⟩
                  have HYY := Lib.hid (fun _ : Unit => hy)
                  rw [← hy] at HV
                  clear hy
                  have HO7 := Lib.hid (HOW.out.alloc (.cells (enC y) 79))
                  have HB7 := Lib.hid (HBW.out.alloc HBW.out.size (.cells (enC y) 79))
                  have HK7 := Lib.hid (Blk.new wr 79 (enC y) 0 0 (Or.inl (Nat.le_refl _)))
                  have tokA : True := trivial
                  go_upto_region 27 with (first | (have _t := tokA; refine wp_bldQ rfl (.tmp 79) (.tmp 80) rfl i m hi hm rfl rfl ?_; rw [← HYY.out ()]; clear tokA; have tokB : True := trivial) | (have _t := tokB; refine wpList_bsE rfl (.tmp 81) rfl y rfl ?_; clear tokB; have tokC : True := trivial) | (have _t := tokC; clear tokC; at_builtin; go_loud (refine wpList_appE rfl (.tmp 78) (.tmp 82) rfl w1.heap.size _ _ _ rfl HO7.out wr.heap.size y rfl HK7.out (by omega) HB7.out.size ?_; intro v8 w8 hown hg; have HO8 := Lib.hid hown; have HB8 := Lib.hid (HB7.out.grown hg HB7.out.size (fun q hq => (HO7.out.lt q hq).1)); clear hown hg HO7 HB7 HK7)))
                  clear l2 l3 HI4 HM4 HOW HBW
                  have HOW : Hid (w8.ownsRow w1.heap.size 79 11 v8 (R ++ [y]).length (flatE (R ++ [y]))) := Lib.hid (by rw [List.length_append, List.length_singleton]; exact HO8.out)
                  have HBW := HB8
                  clear HO8 HB8
                  generalize hTL : R ++ [y] = TL at HOW HV
                  clear hTL
                  have HTL : Hid (learnV L i m = TL) := HV
                  clear HV
                  have HCz := Lib.hid (HC.out.step HBW.out)
                  have HRz := Lib.hid (HR.out.step HBW.out)
                  have HWz := Lib.hid (Below.step HB.out HBW.out)
                  have HO3 := Lib.hid (own_weakE HOW.out HB.out.size)
                  obtain ⟨A3, c3, hv3⟩ := own_sl HOW.out
                  subst hv3
                  have c0 := HCz.out.cell 0
                  have f0 := HCz.out.free 0 (show 0 < 2 from by decide)
                  have HCS := Lib.hid (HCz.out.set 0 (.slice A3 TL.length c3))
                  have HRS := Lib.hid (HRz.out.set_other ⟨pc, 0, none⟩ (.slice A3 TL.length c3) (by rw [HPC.out ()]; exact HPR.out.2))
                  have HWS := Lib.hid (Below.setCell (p := ⟨pc, 0, none⟩) HWz.out (by rw [HPC.out ()]; exact Nat.le_refl _) (.slice A3 TL.length c3))
                  have HOS : Hid ((w8.setCell ⟨pc, 0, none⟩ (.slice A3 TL.length c3)).ownsRow w.heap.size 79 11 (.slice A3 TL.length c3) TL.length (flatE TL)) := Lib.hid (ownsRow_setCell_other HO3.out (a := ⟨pc, 0, none⟩) (fun e => by have h1 := (HOW.out.lt pc e).1; have h2 := HC.out.lt; omega) _)
                  have HON : Hid (Value.ownBlock (.slice A3 TL.length c3) ≠ some pr) := Lib.hid (fun e => by have h1 := (HOW.out.lt pr e).1; have h2 := HR.out.lt; omega)
                  clear HOW HO3 HCz HRz HWz HBW
                  go_upto_region 28 with fail
                  clear c0 f0
                  generalize World.setCell _ _ _ = w9 at HCS HRS HWS HOS ⊢
                  have ldc := run_ldc (x := .slice A3 TL.length c3) (y := .int .i64 lim) HCS.out
                  go_wp2_with (refine wpList_store_blk rfl 73 _ _ rfl pr #[.slice A3 TL.length c3, .int .i64 lim] rfl rfl #[.slice none 0 0, .int .i64 0] 73 HRS.out rfl size_caQ rfl ?_)
                  exact bodyPost_ret (results_cell1 Try.results35 _ _ pr _ _ _ rfl (HRS.out.setAll rfl) Try.underlying73 rfl size_caQ) rfl ⟨_, rfl, by rw [HTL.out]; exact HOS.out.kept (own_grow w9 pr _) (Or.inr HON.out), Below.setCells HWS.out HPR.out.1 _ _⟩
        · have h8i : ¬ (L.length : Int) = 8 := by omega
          have h8b : ((L.length : Int) == 8) = false := beq_eq_false_iff_ne.2 h8i
          have HRR := Lib.hid (room_small (L := L) (by omega))
          rw [HRR.out] at HV
          have c0 := HC2.out.cell 0
          have hrl : L.length ≤ 8 := hL
          have HOW := HO2
          have HBW := HB2
          clear h8
          go_upto_region 25 with fail
          clear c0 HC2 HI2 HM2 HR2 HW HB2 HO2
          have HI4 := Lib.hid (HI.out.step HBW.out)
          have HM4 := Lib.hid (HM.out.step HBW.out)
          have l2 := HI4.out.ld_arr4 hi
          have l3 := HM4.out.ld_arr6 hm
          obtain ⟨y, hy⟩ : ∃ y, y = mkE i m 0 := ⟨_, rfl⟩
          have HYY := Lib.hid (fun _ : Unit => hy)
          rw [← hy] at HV
          clear hy
          have HO7 := Lib.hid (HOW.out.alloc (.cells (enC y) 79))
          have HB7 := Lib.hid (HBW.out.alloc HBW.out.size (.cells (enC y) 79))
          have HK7 := Lib.hid (Blk.new wr 79 (enC y) 0 0 (Or.inl (Nat.le_refl _)))
          have tokA : True := trivial
          go_upto_region 27 with (first | (have _t := tokA; refine wp_bldQ rfl (.tmp 79) (.tmp 80) rfl i m hi hm rfl rfl ?_; rw [← HYY.out ()]; clear tokA; have tokB : True := trivial) | (have _t := tokB; refine wpList_bsE rfl (.tmp 81) rfl y rfl ?_; clear tokB; have tokC : True := trivial) | (have _t := tokC; clear tokC; at_builtin; go_loud (refine wpList_appE rfl (.tmp 78) (.tmp 82) rfl w1.heap.size _ _ _ rfl HO7.out wr.heap.size y rfl HK7.out (by omega) HB7.out.size ?_; intro v8 w8 hown hg; have HO8 := Lib.hid hown; have HB8 := Lib.hid (HB7.out.grown hg HB7.out.size (fun q hq => (HO7.out.lt q hq).1)); clear hown hg HO7 HB7 HK7)))
          clear l2 l3 HI4 HM4 HOW HBW
          have HOW : Hid (w8.ownsRow w1.heap.size 79 11 v8 (L ++ [y]).length (flatE (L ++ [y]))) := Lib.hid (by rw [List.length_append, List.length_singleton]; exact HO8.out)
          have HBW := HB8
          clear HO8 HB8
          generalize hTL : L ++ [y] = TL at HOW HV
          clear hTL
          have HTL : Hid (learnV L i m = TL) := HV
          clear HV
          have HCz := Lib.hid (HC.out.step HBW.out)
          have HRz := Lib.hid (HR.out.step HBW.out)
          have HWz := Lib.hid (Below.step HB.out HBW.out)
          have HO3 := Lib.hid (own_weakE HOW.out HB.out.size)
          obtain ⟨A3, c3, hv3⟩ := own_sl HOW.out
          subst hv3
          have c0 := HCz.out.cell 0
          have f0 := HCz.out.free 0 (show 0 < 2 from by decide)
          have HCS := Lib.hid (HCz.out.set 0 (.slice A3 TL.length c3))
          have HRS := Lib.hid (HRz.out.set_other ⟨pc, 0, none⟩ (.slice A3 TL.length c3) (by rw [HPC.out ()]; exact HPR.out.2))
          have HWS := Lib.hid (Below.setCell (p := ⟨pc, 0, none⟩) HWz.out (by rw [HPC.out ()]; exact Nat.le_refl _) (.slice A3 TL.length c3))
          have HOS : Hid ((w8.setCell ⟨pc, 0, none⟩ (.slice A3 TL.length c3)).ownsRow w.heap.size 79 11 (.slice A3 TL.length c3) TL.length (flatE TL)) := Lib.hid (ownsRow_setCell_other HO3.out (a := ⟨pc, 0, none⟩) (fun e => by have h1 := (HOW.out.lt pc e).1; have h2 := HC.out.lt; omega) _)
          have HON : Hid (Value.ownBlock (.slice A3 TL.length c3) ≠ some pr) := Lib.hid (fun e => by have h1 := (HOW.out.lt pr e).1; have h2 := HR.out.lt; omega)
          clear HOW HO3 HCz HRz HWz HBW
          go_upto_region 28 with fail
          clear c0 f0
          generalize World.setCell _ _ _ = w9 at HCS HRS HWS HOS ⊢
          have ldc := run_ldc (x := .slice A3 TL.length c3) (y := .int .i64 lim) HCS.out
          go_wp2_with (refine wpList_store_blk rfl 73 _ _ rfl pr #[.slice A3 TL.length c3, .int .i64 lim] rfl rfl #[.slice none 0 0, .int .i64 0] 73 HRS.out rfl size_caQ rfl ?_)
          exact bodyPost_ret (results_cell1 Try.results35 _ _ pr _ _ _ rfl (HRS.out.setAll rfl) Try.underlying73 rfl size_caQ) rfl ⟨_, rfl, by rw [HTL.out]; exact HOS.out.kept (own_grow w9 pr _) (Or.inr HON.out), Below.setCells HWS.out HPR.out.1 _ _⟩
      · have HV := Lib.hid (lrK_all (m := m) hany)
        clear hany
        have c0 := HC2.out.cell 0
        have HOW := HO2
        have HBW := HB2
        generalize hTL : lrK L i m L.length = TL at HOW HV ⊢
        clear hTL
        have HTL : Hid (learnV L i m = TL) := Lib.hid HV.out.symm
        go_upto_region 27 with fail
        clear c0 HC2 HI2 HM2 HR2 HW HB2 HO2 HV
        have HCz := Lib.hid (HC.out.step HBW.out)
        have HRz := Lib.hid (HR.out.step HBW.out)
        have HWz := Lib.hid (Below.step HB.out HBW.out)
        have HO3 := Lib.hid (own_weakE HOW.out HB.out.size)
        obtain ⟨A3, hA3⟩ : ∃ q, q = A7 := ⟨_, rfl⟩
        obtain ⟨c3, hc3⟩ : ∃ q, q = c7 := ⟨_, rfl⟩
        rw [← hA3, ← hc3] at HOW HO3 ⊢
        clear hA3 hc3
        have c0 := HCz.out.cell 0
        have f0 := HCz.out.free 0 (show 0 < 2 from by decide)
        have HCS := Lib.hid (HCz.out.set 0 (.slice A3 TL.length c3))
        have HRS := Lib.hid (HRz.out.set_other ⟨pc, 0, none⟩ (.slice A3 TL.length c3) (by rw [HPC.out ()]; exact HPR.out.2))
        have HWS := Lib.hid (Below.setCell (p := ⟨pc, 0, none⟩) HWz.out (by rw [HPC.out ()]; exact Nat.le_refl _) (.slice A3 TL.length c3))
        have HOS : Hid ((wr.setCell ⟨pc, 0, none⟩ (.slice A3 TL.length c3)).ownsRow w.heap.size 79 11 (.slice A3 TL.length c3) TL.length (flatE TL)) := Lib.hid (ownsRow_setCell_other HO3.out (a := ⟨pc, 0, none⟩) (fun e => by have h1 := (HOW.out.lt pc e).1; have h2 := HC.out.lt; omega) _)
        have HON : Hid (Value.ownBlock (.slice A3 TL.length c3) ≠ some pr) := Lib.hid (fun e => by have h1 := (HOW.out.lt pr e).1; have h2 := HR.out.lt; omega)
        clear HOW HO3 HCz HRz HWz HBW
        go_upto_region 28 with fail
        clear c0 f0
        generalize World.setCell _ _ _ = w9 at HCS HRS HWS HOS ⊢
        have ldc := run_ldc (x := .slice A3 TL.length c3) (y := .int .i64 lim) HCS.out
        go_wp2_with (refine wpList_store_blk rfl 73 _ _ rfl pr #[.slice A3 TL.length c3, .int .i64 lim] rfl rfl #[.slice none 0 0, .int .i64 0] 73 HRS.out rfl size_caQ rfl ?_)
        exact bodyPost_ret (results_cell1 Try.results35 _ _ pr _ _ _ rfl (HRS.out.setAll rfl) Try.underlying73 rfl size_caQ) rfl ⟨_, rfl, by rw [HTL.out]; exact HOS.out.kept (own_grow w9 pr _) (Or.inr HON.out), Below.setCells HWS.out HPR.out.1 _ _⟩
end Go.Proofs.Ytpnhopgfoakgnaa
