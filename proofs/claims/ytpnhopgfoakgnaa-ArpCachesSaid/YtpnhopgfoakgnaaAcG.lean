/- slices.DeleteFunc at entries, and Tick of package arp's cache. Condition: good entries. -/
import Derived.Test.YtpnhopgfoakgnaaAcF
namespace Go.Proofs.Ytpnhopgfoakgnaa
set_option linter.unusedVariables false
set_option linter.unusedSimpArgs false
set_option maxRecDepth 100000
open Go.RowKit Go.Proofs Go.Shelf
attribute [local go_sem ↓] ld_arp ld_mac ld_ip ld_ent bld_en st_en

set_option maxHeartbeats 2000000 in
theorem tk1_any (lim : Int) (pb cb : Nat) (x : En) (w : World) (hpb : pb < w.heap.size) (hcb : cb < w.heap.size) (h1 : w.cell? ⟨pb, 0, none⟩ = some (.pointer (some ⟨cb, 0, none⟩))) (h2 : w.cell? ⟨cb, 0, none⟩ = some (.int .i64 lim)) :
    Calls Try.prog 50 #[.agg (enC x), .pointer (some ⟨pb, 0, none⟩)] w fun e w' => e = .returned (.bool (decide (lim ≤ x.age))) ∧ Below w.heap.size w w' := by
  have HK := Lib.hid (Blk.new w 96 (enC x) 0 0 (Or.inl (Nat.le_refl _)))
  have HB := Lib.hid ((Below.refl _ w).alloc (Nat.le_refl _) (.cells (enC x) 96))
  have HP := Lib.hid ((HB.out.cell (p := ⟨pb, 0, none⟩) hpb).trans h1)
  have HC := Lib.hid ((HB.out.cell (p := ⟨cb, 0, none⟩) hcb).trans h2)
  clear h1 h2
  go_enter Try.func50, Try.ntmps50
  go_upto_region 1 with fail
  generalize World.alloc _ _ = w1 at HK HB HP HC ⊢
  generalize w.heap.size = px at HK ⊢
  have HA : Hid (w1.cell? ⟨px, 10, none⟩ = some (.int .i64 x.age)) := Lib.hid (HK.out.cell 10)
  clear HK
  generalize hxa : x.age = a at HA ⊢
  have HXA := Lib.hid (fun _ : Unit => hxa)
  clear hxa
  refine wp_region_noPanic ?_
  refine wp_region_held_drew (S := (fun w' => w'.cell? ⟨px, 10, none⟩ = some (.int .i64 a) ∧ w'.cell? ⟨pb, 0, none⟩ = some (.pointer (some ⟨cb, 0, none⟩)) ∧ w'.cell? ⟨cb, 0, none⟩ = some (.int .i64 lim))) (by kernel_rfl) (by first | exact ⟨HA.out, HP.out, HC.out⟩) (fun hHeld => ?_)
  refine wpAnyH_take (i := 0) (oi := _) (v := ?vr1n0_1) rfl (by kernel_rfl) (by kernel_rfl) (by kernel_rfl) (fun _ _ _ h => h) (Or.inl ⟨by kernel_rfl, ?hr1n0_1⟩) hHeld ?_
  case hr1n0_1 => (intro w hSw; (try dsimp only at hSw); go_simp; try (with_reducible rfl))
  try simp only [List.getElem_toArray, List.getElem_cons_zero, List.getElem_cons_succ, Act.put, List.setIfInBounds_toArray, List.set_cons_zero, List.set_cons_succ]
  refine wpAnyH_take (i := 1) (oi := _) (v := ?vr1n1_2) rfl (by kernel_rfl) (by kernel_rfl) (by kernel_rfl) (fun _ _ _ h => h) (Or.inl ⟨by kernel_rfl, ?hr1n1_2⟩) hHeld ?_
  case hr1n1_2 => (intro w hSw; (try dsimp only at hSw); go_simp; try (with_reducible rfl))
  try simp only [List.getElem_toArray, List.getElem_cons_zero, List.getElem_cons_succ, Act.put, List.setIfInBounds_toArray, List.set_cons_zero, List.set_cons_succ]
  refine wpAnyH_take (i := 2) (oi := _) (v := ?vr1n2_3) rfl (by kernel_rfl) (by kernel_rfl) (by kernel_rfl) (fun _ _ _ h => h) (Or.inl ⟨by kernel_rfl, ?hr1n2_3⟩) hHeld ?_
  case hr1n2_3 => (intro w hSw; (try dsimp only at hSw); go_simp; try (with_reducible rfl))
  try simp only [List.getElem_toArray, List.getElem_cons_zero, List.getElem_cons_succ, Act.put, List.setIfInBounds_toArray, List.set_cons_zero, List.set_cons_succ]
  refine wpAnyH_take (i := 3) (oi := _) (v := ?vr1n3_4) rfl (by kernel_rfl) (by kernel_rfl) (by kernel_rfl) (fun _ _ _ h => h) (Or.inl ⟨by kernel_rfl, ?hr1n3_4⟩) hHeld ?_
  case hr1n3_4 => (intro w hSw; (try dsimp only at hSw); go_simp; try (with_reducible rfl))
  try simp only [List.getElem_toArray, List.getElem_cons_zero, List.getElem_cons_succ, Act.put, List.setIfInBounds_toArray, List.set_cons_zero, List.set_cons_succ]
  refine wpAnyH_take (i := 4) (oi := _) (v := ?vr1n4_5) rfl (by kernel_rfl) (by kernel_rfl) (by kernel_rfl) (fun _ _ _ h => h) (Or.inl ⟨by kernel_rfl, ?hr1n4_5⟩) hHeld ?_
  case hr1n4_5 => (intro w hSw; (try dsimp only at hSw); go_simp; try (with_reducible rfl))
  try simp only [List.getElem_toArray, List.getElem_cons_zero, List.getElem_cons_succ, Act.put, List.setIfInBounds_toArray, List.set_cons_zero, List.set_cons_succ]
  refine wpAnyH_take (i := 5) (oi := _) (v := ?vr1n5_6) rfl (by kernel_rfl) (by kernel_rfl) (by kernel_rfl) (fun _ _ _ h => h) (Or.inl ⟨by kernel_rfl, ?hr1n5_6⟩) hHeld ?_
  case hr1n5_6 => (intro w hSw; (try dsimp only at hSw); go_simp; try (with_reducible rfl))
  try simp only [List.getElem_toArray, List.getElem_cons_zero, List.getElem_cons_succ, Act.put, List.setIfInBounds_toArray, List.set_cons_zero, List.set_cons_succ]
  refine wpAnyH_take (i := 6) (oi := _) (v := ?vr1n6_7) rfl (by kernel_rfl) (by kernel_rfl) (by kernel_rfl) (fun _ _ _ h => h) (Or.inl ⟨by kernel_rfl, ?hr1n6_7⟩) hHeld ?_
  case hr1n6_7 => (intro w hSw; (try dsimp only at hSw); go_simp; try (with_reducible rfl))
  try simp only [List.getElem_toArray, List.getElem_cons_zero, List.getElem_cons_succ, Act.put, List.setIfInBounds_toArray, List.set_cons_zero, List.set_cons_succ]
  refine wpAnyH_take (i := 7) (oi := _) (v := ?vr1n7_8) rfl (by kernel_rfl) (by kernel_rfl) (by kernel_rfl) (fun _ _ _ h => h) (Or.inl ⟨by kernel_rfl, ?hr1n7_8⟩) hHeld ?_
  case hr1n7_8 => (intro w hSw; (try dsimp only at hSw); go_simp; try (with_reducible rfl))
  try simp only [List.getElem_toArray, List.getElem_cons_zero, List.getElem_cons_succ, Act.put, List.setIfInBounds_toArray, List.set_cons_zero, List.set_cons_succ]
  refine wpAnyH_done (by kernel_rfl) ?_ _
  refine NoPanic.normal ?_
  go_wp2
  go_ret
  exact ⟨by rw [HXA.out ()]; rfl, HB.out.drew⟩
def tp (lim : Int) (x : En) : Bool := decide (lim ≤ x.age)
def tk (lim : Int) (x : En) : Bool := decide (x.age < lim)
theorem tp_tk (lim : Int) (x : En) : tk lim x = !tp lim x := by
  unfold tk tp
  by_cases h : lim ≤ x.age
  · rw [decide_eq_true h, decide_eq_false (by omega)]; rfl
  · rw [decide_eq_false h, decide_eq_true (by omega)]; rfl
theorem filter_all {lim : Int} {L : List En} (h : ∀ j (h : j < L.length), tp lim L[j] = false) : L.filter (tk lim) = L := by
  rw [List.filter_eq_self]
  intro x hx
  obtain ⟨j, hj, rfl⟩ := List.mem_iff_getElem.1 hx
  rw [tp_tk, h j hj]
  rfl
/-- the row while DeleteFunc goes: what is kept of the first b lies in front, what stands from b on is as it was -/
structure Dk (lim : Int) (L D : List En) (a b : Nat) : Prop where
  len : D.length = L.length
  lt : a < b
  le : b ≤ L.length
  pre : D.take a = (L.take b).filter (tk lim)
  post : ∀ j (h1 : b ≤ j) (h : j < L.length), D[j]? = some L[j]
theorem Dk.start {lim : Int} {L : List En} {k : Nat} (hk : k < L.length) (ht : tp lim L[k] = true) (ha : ∀ j (h : j < k), tp lim (L[j]'(by omega)) = false) : Dk lim L L k (k + 1) := by
  refine ⟨rfl, by omega, by omega, ?_, fun j _ h => List.getElem?_eq_getElem h⟩
  rw [List.take_add_one, List.getElem?_eq_getElem hk, List.filter_append]
  have e1 : (L.take k).filter (tk lim) = L.take k := filter_all (L := L.take k) (fun j h => by
    rw [List.getElem_take]
    exact ha j (by rw [List.length_take] at h; omega))
  have e2 : ([L[k]] : List En).filter (tk lim) = [] := by
    rw [List.filter_cons, tp_tk, ht]
    rfl
  rw [e1]
  show L.take k = L.take k ++ ([L[k]] : List En).filter (tk lim)
  rw [e2, List.append_nil]
theorem Dk.keep {lim : Int} {L D : List En} {a b : Nat} (h : Dk lim L D a b) (hb : b < L.length) (hp : tp lim L[b] = false) : Dk lim L (D.set a L[b]) (a + 1) (b + 1) := by
  have hlt := h.lt
  have hlen := h.len
  refine ⟨by rw [List.length_set]; exact h.len, by omega, by omega, ?_, fun j h1 h2 => by rw [List.getElem?_set_ne (by omega)]; exact h.post j (by omega) h2⟩
  rw [List.take_add_one, List.getElem?_set_self (by omega), List.take_set, List.set_eq_of_length_le (by simp; omega), h.pre, List.take_add_one, List.getElem?_eq_getElem hb, List.filter_append]
  show _ ++ [L[b]] = _ ++ ([L[b]] : List En).filter (tk lim)
  rw [List.filter_cons, tp_tk, hp]
  rfl
theorem Dk.skip {lim : Int} {L D : List En} {a b : Nat} (h : Dk lim L D a b) (hb : b < L.length) (hp : tp lim L[b] = true) : Dk lim L D a (b + 1) := by
  have hlt := h.lt
  refine ⟨h.len, by omega, by omega, ?_, fun j h1 h2 => h.post j (by omega) h2⟩
  rw [h.pre, List.take_add_one, List.getElem?_eq_getElem hb, List.filter_append]
  show _ = _ ++ ([L[b]] : List En).filter (tk lim)
  rw [List.filter_cons, tp_tk, hp]
  simp
theorem Dk.done {lim : Int} {L D : List En} {a : Nat} (h : Dk lim L D a L.length) : D.take a = L.filter (tk lim) ∧ a = (L.filter (tk lim)).length := by
  have h1 := h.pre
  rw [List.take_of_length_le (Nat.le_refl _)] at h1
  refine ⟨h1, ?_⟩
  rw [← h1, List.length_take]
  have := h.lt
  have := h.len
  omega

set_option maxHeartbeats 8000000 in
theorem delf_any {w : World} {B g cap : Nat} {L : List En} (lim : Int) (pb cb : Nat) (h : w.ownsRow B 96 11 (.slice (some ⟨g, 0, none⟩) L.length cap) L.length (flatE L)) (hL : L.length ≤ 8) (hcap : L.length ≤ cap) (hcm : cap ≤ maxLen)
    (hpb : pb < w.heap.size) (hcb : cb < w.heap.size) (hpg : pb ≠ g) (hcg : cb ≠ g) (h1 : w.cell? ⟨pb, 0, none⟩ = some (.pointer (some ⟨cb, 0, none⟩))) (h2 : w.cell? ⟨cb, 0, none⟩ = some (.int .i64 lim)) :
    Calls Try.prog 49 #[.slice (some ⟨g, 0, none⟩) L.length cap, .func (.func 50) #[] #[.pointer (some ⟨pb, 0, none⟩)]] w fun e w' => e = .returned (.slice (some ⟨g, 0, none⟩) (L.filter (tk lim)).length cap) ∧ w'.ownsRow B 96 11 (.slice (some ⟨g, 0, none⟩) (L.filter (tk lim)).length cap) (L.filter (tk lim)).length (flatE (L.filter (tk lim))) ∧ Ap g (some g) w w' := by
  have eg : ∀ args w, (callFunc 50 args).run Try.prog w = .ok (.enter 50 args) w := enters_of Try.func50 (by kernel_rfl) rfl
  have hg : g < w.heap.size := (h.lt g rfl).2
  have hpred : PredBelow Try.prog 50 #[.pointer (some ⟨pb, 0, none⟩)] (fun x => .agg (enE x).toArray) (tp lim) w := fun W x hb =>
    (tk1_any lim pb cb x W (Nat.lt_of_lt_of_le hpb hb.size) (Nat.lt_of_lt_of_le hcb hb.size) ((hb.cell (p := ⟨pb, 0, none⟩) hpb).trans h1) ((hb.cell (p := ⟨cb, 0, none⟩) hcb).trans h2)).mono fun e w' ⟨he, hb'⟩ => ⟨he, Below.step hb hb'⟩
  have HIF : Hid (Calls Try.prog 62 #[.slice (some ⟨g, 0, none⟩) L.length cap, .func (.func 50) #[] #[.pointer (some ⟨pb, 0, none⟩)]] w fun e w' => e = .returned (.int .i64 (Lib.idxBy (fun _ y => tp lim y) L default)) ∧ Below w.heap.size w w') := Lib.hid (by
    have hcon := AnyQ.slices_IndexFunc sh_idxf 11 Try.isAgg96 Try.sizeOf96 enE (fun _ => rfl) (tp lim) 50 #[.pointer (some ⟨pb, 0, none⟩)] eg g 0 L.length cap L w hpred (Nat.le_refl _) (by omega) hg (fun j hj i v hv => by
      rw [getElem!_pos L j hj] at hv
      rcases (own_es h).2 with ⟨e1, _⟩ | ⟨g', c', e, _, _, _, _, hcell⟩
      · rw [e1] at hj; simp at hj
      · injection e with e1 e2 e3
        injection e1 with e1
        injection e1 with e1
        subst e1
        exact hcell j hj i v hv)
    rw [List.take_of_length_le (Nat.le_refl _)] at hcon
    exact hcon)
  -- the closure, in whatever world has come of this one by touching the row alone
  have HCL : Hid (∀ (W : World) (x : En), Ap g (some g) w W → Calls Try.prog 50 #[.agg (enC x), .pointer (some ⟨pb, 0, none⟩)] W fun e w' => e = .returned (.bool (tp lim x)) ∧ Below W.heap.size W w') := Lib.hid (fun W x ha => by
    have hp : W.heap[pb]? = w.heap[pb]? := ha.block pb hpb hpg (fun e => hpg (Option.some.inj e))
    have hc : W.heap[cb]? = w.heap[cb]? := ha.block cb hcb hcg (fun e => hcg (Option.some.inj e))
    exact tk1_any lim pb cb x W (Nat.lt_of_lt_of_le hpb ha.size) (Nat.lt_of_lt_of_le hcb ha.size) ((World.cell?_of_block (a := ⟨pb, 0, none⟩) hp).trans h1) ((World.cell?_of_block (a := ⟨cb, 0, none⟩) hc).trans h2))
  have HOW := Lib.hid h
  have HGW := Lib.hid hg
  have hcm2 : cap ≤ 9223372036854775807 := hcm
  clear h hpred eg hpb hcb hpg hcg h1 h2 hg hcm
  go_enter Try.func49, Try.ntmps49
  go_wp2_with fail
  refine HIF.out.mono ?_
  rintro e w1 ⟨rfl, hb⟩
  have HO1 := Lib.hid (HOW.out.kept (show w.grownBy w1 none from ⟨hb.os, hb.tape, hb.output, hb.size, fun q hq _ => hb.block q hq⟩) (by cases Value.ownBlock _ <;> simp))
  have HA1 : Hid (Ap g (some g) w w1) := Lib.hid (Ap.of_below hb)
  clear hb HIF
  rcases idx_spec (tp lim) L with ⟨e1, ha⟩ | ⟨k0, hk, e1, ht, ha⟩
  · have HF := Lib.hid (filter_all ha)
    rw [e1]
    clear ha e1
    go_wp2
    go_ret
    exact ⟨by rw [HF.out]; rfl, by rw [HF.out]; exact HO1.out, HA1.out⟩
  · have HD := Lib.hid (Dk.start hk ht ha)
    rw [e1]
    clear ha e1 ht
    have hw0 : IntKind.i64.wrap ((k0 : Int) + 1) = (k0 : Int) + 1 := IntWalk.i64_in _ ⟨by omega, by omega⟩
    have hne1 : ((k0 : Int) == -1) = false := beq_eq_false_iff_ne.2 (by omega)
    have hne2 : ¬ (k0 : Int) = -1 := by omega
    go_wp2
    go_loopw [5, 6] (fun i j wr => ∃ (a b : Nat) (D : List En), i = .int .i64 a ∧ j = .int .i64 b ∧ Dk lim L D a b ∧ wr.ownsRow B 96 11 (.slice (some ⟨g, 0, none⟩) L.length cap) L.length (flatE D) ∧ Ap g (some g) w wr) (fun _ j _ => 8 - (intOf j).toNat)
    case atStart => exact ⟨k0, k0 + 1, L, rfl, by go_num, HD.out, HO1.out, HA1.out⟩
    case round =>
      obtain ⟨a, b, D, rfl, rfl, hdk, hown, hap⟩ := hrel
      have hab := hdk.lt
      have hbl := hdk.le
      have HDK := Lib.hid hdk
      have HO2 := Lib.hid hown
      have HA2 := Lib.hid hap
      have HDL := Lib.hid hdk.len
      clear hdk hown hap HD HO1 HA1 hw0 hne1 hne2
      by_cases hlt : b < L.length
      · have hlt' : (b : Int) < (L.length : Int) := by omega
        have hal : (a : Int) < (L.length : Int) := by omega
        have ha0 : 0 ≤ (a : Int) := by omega
        have hb0 : 0 ≤ (b : Int) := by omega
        have hDb : D[b]'(by rw [HDL.out]; exact hlt) = L[b] := by
          have := HDK.out.post b (Nat.le_refl _) hlt
          rw [List.getElem?_eq_getElem (by rw [HDL.out]; exact hlt)] at this
          exact Option.some.inj this
        have lde := run_lde (w := wr) (g := g) (o := b * 11) (x := L[b]) (fun i v hv => by
          rcases (own_es (by rw [← HDL.out] at HO2; exact HO2.out)).2 with ⟨e1, _⟩ | ⟨g', c', e, _, _, _, _, hcell⟩
          · have := HDL.out; rw [e1] at this; simp at this; omega
          · injection e with e1 e2 e3
            injection e1 with e1
            injection e1 with e1
            subst e1
            have h1 := hcell b (by rw [HDL.out]; exact hlt) i v (by rw [hDb]; exact hv)
            rw [Nat.zero_add] at h1
            exact h1)
        have HY := Lib.hid (HDK.out.skip hlt)
        have HN := Lib.hid (HDK.out.keep hlt)
        have HCX := Lib.hid (fun W h => HCL.out W L[b] h)
        clear hDb
        generalize L[b] = x at lde HY HN HCX
        have tokA : True := trivial
        go_upto_region 8 with (have _t := tokA; refine wpList_store_blk rfl 96 _ _ rfl wr.heap.size (enC x) rfl rfl zen 96 (Blk.new wr 96 zen 0 0 (Or.inl (Nat.le_refl _))) rfl size_en (enC_one x) ?_; clear tokA)
        have HKX := Lib.hid ((Blk.new wr 96 zen 0 0 (Or.inl (Nat.le_refl _))).setAll (cs := enC x) rfl)
        have hal2 := (Below.refl wr.heap.size wr).alloc (Nat.le_refl _) (.cells zen 96)
        have HBX := Lib.hid (Below.setCells hal2 (Nat.le_refl _) 0 (enC x).toList)
        clear hal2 lde
        generalize World.setCells _ _ _ _ = w5 at HKX HBX ⊢
        have HO5 := Lib.hid (HO2.out.kept (show wr.grownBy w5 none from ⟨HBX.out.os, HBX.out.tape, HBX.out.output, HBX.out.size, fun q hq _ => HBX.out.block q hq⟩) (by cases Value.ownBlock _ <;> simp))
        have HA5 : Hid (Ap g (some g) w w5) := Lib.hid (HA2.out.trans (Ap.of_below (o := some g) HBX.out) (fun q hq => Or.inl hq))
        have HGX : Hid (wr.heap.size ≠ g) := Lib.hid (fun e => by have := (HO2.out.lt g rfl).2; omega)
        generalize wr.heap.size = px at HKX HGX ⊢
        have ldx := run_lde (w := w5) (g := px) (o := 0) (x := x) (fun i v hv => by rw [Nat.zero_add, HKX.out.cell]; simpa [enE] using hv)
        clear HBX HO2 HA2
        go_wp2_with fail
        refine (HCX.out _ HA5.out).mono ?_
        rintro e w6 ⟨rfl, hb⟩
        have HO6 := Lib.hid (HO5.out.kept (show w5.grownBy w6 none from ⟨hb.os, hb.tape, hb.output, hb.size, fun q hq _ => hb.block q hq⟩) (by cases Value.ownBlock _ <;> simp))
        have HA6 : Hid (Ap g (some g) w w6) := Lib.hid (HA5.out.trans (Ap.of_below (o := some g) hb) (fun q hq => Or.inl hq))
        have HKX6 := Lib.hid (HKX.out.step hb)
        clear ldx hb HO5 HA5 HKX HCX
        cases hp : tp lim x
        · have HE := Lib.hid (HN.out hp)
          have HST := Lib.hid (run_ste (w := w6) x (own_there HO6.out a (by omega)))
          have HO7 : Hid ((w6.setCells g (a * 11) (enE x)).ownsRow B 96 11 (.slice (some ⟨g, 0, none⟩) L.length cap) L.length (flatE (D.set a x))) := Lib.hid (by
            have h1 := HO6.out
            rw [← HDL.out] at h1
            have h2 := own_setE h1 a (by rw [HDL.out]; omega) x
            rw [HDL.out] at h2
            exact h2)
          have HA7 : Hid (Ap g (some g) w (w6.setCells g (a * 11) (enE x))) := Lib.hid (HA6.out.trans (Ap.cells _) (fun q hq => Or.inl hq))
          have hst := HST.out
          have ldx := run_lde (w := w6) (g := px) (o := 0) (x := x) (fun i v hv => by rw [Nat.zero_add, HKX6.out.cell]; simpa [enE] using hv)
          have hwa : IntKind.i64.wrap ((a : Int) + 1) = (a : Int) + 1 := IntWalk.i64_in _ ⟨by omega, by omega⟩
          clear HY HN hp HST
          go_wp2
          go_roundw
          case rel => exact ⟨a + 1, b + 1, _, by go_num, by go_num, HE.out, HO7.out, HA7.out⟩
          case measure => simp [intOf] <;> omega
        · have HE := Lib.hid (HY.out hp)
          clear HY HN hp
          go_wp2
          go_roundw
          case rel => exact ⟨a, b + 1, _, rfl, by go_num, HE.out, HO6.out, HA6.out⟩
          case measure => simp [intOf] <;> omega
      · have hbe : b = L.length := by omega
        subst hbe
        have hlt' : ¬ (L.length : Int) < (L.length : Int) := by omega
        obtain ⟨hK1, hK2⟩ := HDK.out.done
        have hac : ¬ cap = a := by omega
        have hale : (a : Int) ≤ (L.length : Int) := by omega
        have hale2 : (a : Int) ≤ (cap : Int) := by omega
        have hale3 : a ≤ cap := by omega
        have hale4 : a ≤ L.length := by omega
        have ha0 : 0 ≤ (a : Int) := by omega
        have hcl := fun ty => run_clear_en wr ty g (a * 11) (L.length - a) (cap - a) (by omega) (by omega) (fun j hj => by
          have hl := HO2.out.1
          refine ⟨?_, HO2.out.frozenAt _⟩
          rw [HO2.out.cellAt _ (by omega), List.getElem?_eq_getElem (by omega)]
          rfl)
        have HFIN : Hid ((wr.setCells g (a * 11) (flatE (List.replicate (L.length - a) en0))).ownsRow B 96 11 (.slice (some ⟨g, 0, none⟩) a cap) a (flatE (L.filter (tk lim)))) := Lib.hid (by
          have hxl : (flatE D).length = L.length * 11 := HO2.out.1
          have h2 := own_storedK (flatE (List.replicate (L.length - a) en0)) (a * 11) wr _ HO2.out (by rw [hxl, flatE_len, List.length_replicate]; omega)
          have h3 := own_shrink h2 a (by omega)
          rw [List.append_assoc, List.take_append_of_le_length (by rw [List.length_take, hxl]; omega), List.take_take, Nat.min_self, flatE_take, hK1] at h3
          exact h3)
        have HAF : Hid (Ap g (some g) w (wr.setCells g (a * 11) (flatE (List.replicate (L.length - a) en0)))) := Lib.hid (HA2.out.trans (Ap.cells _) (fun q hq => Or.inl hq))
        have HK2 := Lib.hid hK2
        clear hK1 hK2 HO2 HA2 HDK HDL
        go_wp2
        go_ret
        exact ⟨by rw [← HK2.out]; rfl, by rw [← HK2.out]; exact HFIN.out, HAF.out⟩
end Go.Proofs.Ytpnhopgfoakgnaa
