/- journal.Merge: what it answers, of rows of records. Condition: at most 1000 records in all. -/
import Derived.Test.YtccbohjcbhibkaaJpA
import Derived.Test.YtccbohjcbhibkaaJoB
namespace Go.Proofs.Ytccbohjcbhibkaa
set_option linter.unusedVariables false
set_option linter.unusedSimpArgs false
set_option maxRecDepth 100000
open Go.RowKit Go.Proofs Go.Shelf Go.Lib Go.Sort
attribute [local go_sem ↓] Go.wp_at_zero Go.wp_at_succ ix_dat ld_rec

theorem compM_nil (w : World) : Calls Try.prog 34 #[.slice none 0 0, .func (.func 35) #[] #[]] w fun e w' => e = .returned (.slice none 0 0) ∧ w' = w := by
  go_enter Try.func34, Try.ntmps34
  go_wp2
  go_ret
  exact ⟨rfl, rfl⟩
theorem compM_any (B : Nat) (v : Value) (L : List Rc) (hL : L.length ≤ 1000) (w : World) (hv : RecAt w B v L) :
    Calls Try.prog 34 #[v, .func (.func 35) #[] #[]] w
      fun e w' => ∃ v', e = .returned v' ∧ RecAt w' B v' (compG eqR L) ∧ Go.RowKit.Below B w w' := by
  rcases hv with ⟨rfl, rfl⟩ | ⟨g, cap, rfl, hB, hg, hc, hm, hH⟩
  · refine (compM_nil w).mono ?_
    rintro e w' ⟨rfl, rfl⟩
    exact ⟨_, rfl, Or.inl ⟨rfl, rfl⟩, Below.refl _ _⟩
  · have eg : ∀ args w, (callFunc 35 args).run Try.prog w = .ok (.enter 35 args) w := enters_of Try.func35 (by kernel_rfl) rfl
    have hsz : L.toArray.size = L.length := List.size_toArray
    have h := compact_any (cb := #[]) (rowR hH hg) eg (eqM_lays g 0 _ w) L.length cap hsz (by omega) hc hm L rfl w (SWK.start hH) (fun n => (Builtin.zeroCells zrec n).toList) (fun W D m hD hmn hS ty => by
      have hh : HoldsK encR 7 W g 0 D := hS.holds hg hH (by rw [hD, hsz])
      have hth := holds_there hh m (L.length - m) (by rw [hD]; omega)
      exact run_clear_rec W ty g (0 + m * 7) (L.length - m) (cap - m) (by omega) hth)
    refine h.mono ?_
    rintro e w' ⟨rfl, D, W, hD, hpre, hS, hw⟩
    have hh : HoldsK encR 7 W g 0 D := hS.holds hg hH (by rw [hD, hsz])
    have hle : (compG eqR L).length ≤ L.length := by
      have h1 := congrArg List.length hpre
      have h2 : D.toList.length = D.size := Array.length_toList
      rw [List.length_take, h2, hD] at h1
      omega
    have hbl : Below B w W := by
      obtain ⟨n, os, rfl⟩ := hS
      exact below_sorted B w g n D os hB hg
    have hpr := holds_pre hh (compG eqR L) hpre
    refine ⟨_, rfl, ?_, ?_⟩
    · rcases hw with rfl | ⟨m, hm1, hm2, rfl⟩
      · exact Or.inr ⟨g, cap, rfl, hB, Nat.lt_of_lt_of_le hg hbl.size, by omega, hm, hpr⟩
      · refine Or.inr ⟨g, cap, rfl, hB, ?_, by omega, hm, holds_set hpr (by rw [List.size_toArray, hm1]; exact Nat.le_refl _) _⟩
        rw [Go.Sort.size_setCells]
        exact Nat.lt_of_lt_of_le hg hbl.size
    · rcases hw with rfl | ⟨m, hm1, hm2, rfl⟩
      · exact hbl
      · exact Below.setCells hbl hB _ _

/-! ### slices.Grow of none, slices.Concat -/
theorem own_nil (w : World) (B : Nat) : w.ownsRow B 29 7 (.slice none 0 0) 0 (flat []) := ⟨rfl, Or.inl ⟨rfl, rfl⟩⟩
theorem grow_any (n : Nat) (hn : n ≤ 1000) (w : World) : Calls Try.prog 52 #[.slice none 0 0, .int .i64 (n : Nat)] w fun e w' => ∃ v, e = .returned v ∧ w'.ownsRow w.heap.size 29 7 v 0 (flat []) ∧ Below w.heap.size w w' := by
  by_cases h0 : n = 0
  · subst h0
    refine (Any8.slices_Grow_room sh_growR none 0 0 0 w (Nat.le_refl _) (by decide) (by decide) (Nat.le_refl _)).mono ?_
    rintro e w' ⟨rfl, rfl⟩
    exact ⟨_, rfl, own_nil _ _, Below.refl _ _⟩
  · obtain ⟨i0, hi, hz0, hz1, hz2⟩ := info_parts rec_info
    refine (Any8.slices_Grow_grow sh_growR i0 (.agg zrec) hi hz0 (by rw [hz1]; decide) none 0 0 n [] w (Nat.le_refl _) (by omega) (by rw [hz2]; omega) (by omega) (by simp) (fun _ => rfl) (fun a h => by cases h)).mono ?_
    rintro e w' ⟨rfl, rfl⟩
    have hcap := grownCap_le_maxLen w (0 + n) 0 (sh_growR_ren.t 25) (by unfold maxLen; omega)
    have hge := grownCap_ge w (0 + n) 0 (sh_growR_ren.t 25)
    refine ⟨_, rfl, ⟨rfl, Or.inr ⟨w.heap.size, _, _, rfl, Nat.le_refl _, heap_alloc_new w.drew _, Nat.zero_le _, hcap, ?_, by simp [flat]⟩⟩, ?_⟩
    · have h1 : ∀ k, (Builtin.zeroCells zrec k).size = k * 7 := fun k => by simp [Builtin.zeroCells, zrec]
      have h2 : (Value.agg zrec).cells = zrec := rfl
      rw [h2, Array.size_append, Array.size_append, h1, h1]
      show ([] : List Value).toArray.size + _ + _ = _
      simp only [List.size_toArray, List.length_nil]
      omega
    · exact (Below.drew (Below.refl w.heap.size w)).alloc (Nat.le_refl _) _

/-- a row of records, whatever it is -/
def RowV (w : World) (v : Value) (L : List Rc) : Prop := ∃ A c, v = .slice A L.length c ∧ RsAt w w.heap.size A L ∧ (A = none → L = [] ∧ c = 0) ∧ L.length ≤ maxLen
theorem RowV.below {w w' : World} {v : Value} {L : List Rc} (h : RowV w v L) (hb : Below w.heap.size w w') : RowV w' v L := by
  obtain ⟨A, c, h1, h2, h3, h4⟩ := h
  exact ⟨A, c, h1, RsAt.wide (RsAt.below h2 hb) hb.size, h3, h4⟩
theorem RecAt.rowV {w : World} {B : Nat} {v : Value} {L : List Rc} (h : RecAt w B v L) : RowV w v L := by
  obtain ⟨A, c, h1, h2, h3, h4⟩ := h.rs
  exact ⟨A, c, h1, h3, h2, h4⟩
/-- rows of records, in a row -/
def RowsV (w : World) (G : Option Addr) (rs : List (Value × List Rc)) : Prop := (rs = [] ∨ ∃ g, G = some ⟨g, 0, none⟩ ∧ Blk w g 22 (rs.map (·.1)).toArray) ∧ ∀ p ∈ rs, RowV w p.1 p.2
def sumL (rs : List (Value × List Rc)) (k : Nat) : Nat := ((rs.take k).flatMap (·.2)).length
def catL (rs : List (Value × List Rc)) (k : Nat) : List Rc := (rs.take k).flatMap (·.2)
theorem cat_snoc (rs : List (Value × List Rc)) (k : Nat) (hk : k < rs.length) : catL rs (k + 1) = catL rs k ++ rs[k].2 := by
  unfold catL
  rw [List.take_add_one, List.getElem?_eq_getElem hk, List.flatMap_append]
  simp
theorem cat_all (rs : List (Value × List Rc)) : catL rs rs.length = rs.flatMap (·.2) := by unfold catL; rw [List.take_length]
theorem cat_le (rs : List (Value × List Rc)) (k : Nat) : (catL rs k).length ≤ (rs.flatMap (·.2)).length := by
  unfold catL
  conv => rhs; rw [← List.take_append_drop k rs]
  rw [List.flatMap_append, List.length_append]
  omega

set_option maxHeartbeats 4000000 in
theorem concat_any (G : Option Addr) (rs : List (Value × List Rc)) (K : Nat) (hK : rs.length = K) (hK63 : K ≤ 1000) (htot : (rs.flatMap (·.2)).length ≤ 1000) (w : World) (hr : RowsV w G rs) :
    Calls Try.prog 30 #[.slice G K K] w fun e w' => ∃ v, e = .returned v ∧ RecAt w' w.heap.size v (rs.flatMap (·.2)) ∧ Below w.heap.size w w' := by
  have HR := Lib.hid hr
  have HT := Lib.hid htot
  have HK := Lib.hid hK
  clear hr htot hK
  go_enter Try.func30, Try.ntmps30
  go_wp2
  go_loopg [3, 11] K (fun kx s3 s11 wr => ∃ k n : Nat, s3 = .int .i64 n ∧ s11 = .int .i64 k ∧ k ≤ K ∧ K - k ≤ kx ∧ n ≤ 1000 ∧ Hid (n = (catL rs k).length) ∧ wr = w)
  case atStart => exact ⟨0, 0, rfl, rfl, Nat.zero_le _, by omega, by omega, Lib.hid (by simp [catL]), rfl⟩
  case round =>
    obtain ⟨k, n, rfl, rfl, hk, hkx, hn, HN, hw⟩ := hrel
    subst hw
    obtain ⟨w, rfl⟩ : ∃ w : World, w = wr := ⟨_, rfl⟩
    by_cases hlt : k < K
    · have hltz : (k : Int) < (K : Int) := by omega
      have hkl : k < rs.length := by rw [HK.out]; exact hlt
      obtain ⟨A, c, hv, hra, hnn, hml⟩ := HR.out.2 rs[k] (List.getElem_mem _)
      obtain ⟨g, rfl, hgb⟩ : ∃ g, G = some ⟨g, 0, none⟩ ∧ Blk w g 22 (rs.map (·.1)).toArray := by
        rcases HR.out.1 with h | h
        · rw [h] at hkl; simp at hkl
        · exact h
      have hcell : w.cell? ⟨g, k, none⟩ = some (.slice A rs[k].2.length c) := by
        rw [hgb.cell, ← hv]
        simp [hkl]
      have HS := Lib.hid (cat_snoc rs k hkl)
      have hm := cat_le rs (k + 1)
      rw [cat_snoc rs k hkl, List.length_append, ← HN.out] at hm
      have hm2 := HT.out
      obtain ⟨m, hmm⟩ : ∃ m, m = rs[k].2.length := ⟨_, rfl⟩
      have HM := Lib.hid hmm
      rw [← hmm] at hcell hm
      have hnm : n + m ≤ 1000 := by omega
      have hwr : IntKind.i64.wrap ((n : Int) + (m : Int)) = (n : Int) + (m : Int) := by rw [IntKind.wrap_i64]; omega
      have hnn0 : ¬ (n : Int) + (m : Int) < 0 := by omega
      clear hm hm2 hmm hv hra hnn hml hgb
      go_wp2
      go_roundg (K - (k + 1))
      case measure => omega
      case rel => exact ⟨k + 1, n + m, by go_num, by go_num, by omega, Nat.le_refl _, hnm, Lib.hid (by rw [HS.out, List.length_append, ← HN.out, ← HM.out]), rfl⟩
    · have hltz : ¬ (k : Int) < (K : Int) := by omega
      have hGR := Lib.hid (grow_any n hn w)
      go_wp2_with fail
      refine hGR.out.mono ?_
      rintro e w1 ⟨v0, rfl, hown, hb⟩
      have HO := Lib.hid hown
      have HB := Lib.hid hb
      clear hown hb hGR HN
      go_wp2
      go_loopg [6, 27] K (fun kx s6 s27 wr => ∃ k : Nat, s27 = .int .i64 k ∧ k ≤ K ∧ K - k ≤ kx ∧ Hid (wr.ownsRow w.heap.size 29 7 s6 (catL rs k).length (flat (catL rs k))) ∧ Hid (Below w.heap.size w wr))
      case atStart => exact ⟨0, rfl, Nat.zero_le _, by omega, by simpa [catL] using HO, HB⟩
      case round =>
        clear HO HB
        obtain ⟨k, rfl, hk, hkx, HO, HB⟩ := hrel
        by_cases hlt : k < K
        · have hltz : (k : Int) < (K : Int) := by omega
          have hkl : k < rs.length := by rw [HK.out]; exact hlt
          obtain ⟨A, c, hv, hra, hnn, hml⟩ := (HR.out.2 rs[k] (List.getElem_mem _)).below HB.out
          obtain ⟨g, rfl, hgb⟩ : ∃ g, G = some ⟨g, 0, none⟩ ∧ Blk w g 22 (rs.map (·.1)).toArray := by
            rcases HR.out.1 with h | h
            · rw [h] at hkl; simp at hkl
            · exact h
          have hcell : wr.cell? ⟨g, k, none⟩ = some (.slice A rs[k].2.length c) := by
            rw [(hgb.step HB.out).cell, ← hv]
            simp [hkl]
          have HS := Lib.hid (cat_snoc rs k hkl)
          have hm := cat_le rs (k + 1)
          rw [cat_snoc rs k hkl, List.length_append] at hm
          have hm2 := HT.out
          have h16 : ((catL rs k).length + rs[k].2.length) * 88 ≤ 140737488355328 := by omega
          have HRA := Lib.hid hra
          have HNN := Lib.hid hnn
          have HH16 := Lib.hid h16
          clear hv hra hnn hml hgb hm hm2 h16
          have tokA : True := trivial
          obtain ⟨m, hmm⟩ : ∃ m, m = rs[k].2.length := ⟨_, rfl⟩
          have HM := Lib.hid hmm
          rw [← hmm] at hcell
          clear hmm
          go_wp2_with (have _t := tokA; clear tokA; refine wpList_appRs rfl (.tmp 31) (.tmp 32) rfl w.heap.size _ (catL rs k).length (catL rs k) rfl HO.out A m c rs[k].2 rfl HM.out HRA.out HNN.out (by rw [HM.out]; exact HH16.out) HB.out.size ?_; intro v1 w2 hown hg; have HO2 := Lib.hid hown; have HG := Lib.hid hg; have HL1 := Lib.hid HO.out.lt; clear hown hg)
          go_roundg (K - (k + 1))
          case measure => omega
          case rel => exact ⟨k + 1, by go_num, by omega, Nat.le_refl _, Lib.hid (by rw [HS.out, List.length_append, ← HM.out]; exact HO2.out), Lib.hid (HB.out.grown HG.out HB.out.size (fun q hq => (HL1.out q hq).1))⟩
        · have hltz : ¬ (k : Int) < (K : Int) := by omega
          have hke : k = K := by omega
          go_wp2
          go_ret
          refine ⟨_, rfl, ?_, HB.out⟩
          have h := HO.out
          rw [hke, ← HK.out, cat_all] at h
          exact (RecAt.of_own h).2
end Go.Proofs.Ytccbohjcbhibkaa
