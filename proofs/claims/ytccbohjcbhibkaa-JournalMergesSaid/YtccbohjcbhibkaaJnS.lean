/- given of the law's; the reference's Right, four and Sector. Condition: texts and numbers that a memory can hold. -/
import Derived.Test.YtccbohjcbhibkaaJnQ
import Derived.Test.YtccbohjcbhibkaaJnL
namespace Go.Proofs.Ytccbohjcbhibkaa
set_option linter.unusedVariables false
set_option linter.unusedSimpArgs false
set_option maxRecDepth 100000
open Go.RowKit
attribute [local go_sem ↓] Go.wp_at_zero Go.wp_at_succ ix_dat ld_rec

theorem size_ref : (Try.prog.info? 36).map (·.size) = some 7 := by kernel_rfl
theorem given_any (r : Rc) (w : World) : Calls Try.prog 18 #[.agg (rcC r)] w fun e w' => e = .returned (.agg (rcC r)) ∧ Below w.heap.size w w' := by
  have hk0 := (Blk.new w 29 (rcC r) 0 0 (Or.inl (Nat.le_refl _))).alloc (.cells zrec 36)
  have hk1 := Blk.new (w.alloc (.cells (rcC r) 29)) 36 zrec 0 0 (Or.inl (Nat.le_refl _))
  have hb0 := ((Below.refl _ w).alloc (Nat.le_refl _) (.cells (rcC r) 29)).alloc (by simp) (.cells zrec 36)
  simp only [size_alloc] at hk1
  go_enter Try.func18, Try.ntmps18
  go_upto_region 1 with fail
  generalize World.alloc _ _ = w1 at hk0 hk1 hb0 ⊢
  have HK0 := Lib.hid hk0
  have HK1 := Lib.hid hk1
  have HB0 := Lib.hid hb0
  clear hk0 hk1 hb0
  obtain ⟨hc0, hc1, hc2⟩ := HK0.out.rc
  have hD : ((rcC r).toList.drop 3).take (rcD r).size = (rcD r).toList := rfl
  have HX := Lib.hid (HK1.out.setAll (cs := rcC r) rfl)
  have tokA : True := trivial
  go_wp2_with (first | (have _t := tokA; refine wpList_load_part rfl 27 _ rfl w.heap.size 3 rfl (rcC r) #[sv r.d0, sv r.d1, sv r.d2, sv r.d3] 29 _ HK0.out rfl Try.underlying27 rfl size_dat ?_; clear tokA; have tokB : True := trivial) | (have _t := tokB; refine wpList_store_blk rfl 36 _ _ rfl (w.heap.size + 1) (rcC r) rfl rfl zrec 36 HK1.out rfl size_ref (rcC_one _) ?_; clear tokB))
  exact bodyPost_ret (results_cell1 Try.results18 _ _ (w.heap.size + 1) _ _ _ rfl HX.out Try.underlying36 rfl size_ref) rfl ⟨rfl, Below.setCells HB0.out (Nat.le_succ _) _ _⟩

/-- is one of the first k members' texts there? -/
def smK (r : Rc) : Nat → Bool
  | 0 => false
  | k + 1 => smK r k || !em (dk r k)
theorem sm_mask (r : Rc) : smK r 4 = (maskR r != 0) := by
  simp only [smK, dk, maskR, maskN, bt]
  cases em r.d0 <;> cases em r.d1 <;> cases em r.d2 <;> cases em r.d3 <;> rfl
theorem right_ref (r : Rc) (h : okK r 4 = true) : rightB r = (smK r 4 && (decide (1 ≤ r.ep) && decide (r.ep < 2147483648) && (decide (1 ≤ r.sq) && decide (r.sq < 2147483648)) && (decide (0 ≤ r.rw) && decide (r.rw ≤ 63)))) := by
  rw [right_eq, h, sm_mask]
  unfold cntB
  have e1 : decide (r.ep ≤ 2147483647) = decide (r.ep < 2147483648) := decide_eq_decide.2 (by omega)
  have e2 : decide (r.sq ≤ 2147483647) = decide (r.sq < 2147483648) := decide_eq_decide.2 (by omega)
  have e3 : decide (r.rw < 64) = decide (r.rw ≤ 63) := decide_eq_decide.2 (by omega)
  rw [e1, e2, e3]
  generalize (maskR r != 0) = m
  generalize decide (1 ≤ r.ep) = a
  generalize decide (1 ≤ r.sq) = b
  generalize decide (r.ep < 2147483648) = c
  generalize decide (r.sq < 2147483648) = d
  generalize decide (0 ≤ r.rw) = e
  generalize decide (r.rw ≤ 63) = f
  cases m <;> cases a <;> cases b <;> cases c <;> cases d <;> cases e <;> cases f <;> rfl
theorem Blk.mem {w : World} {b : Nat} {e : TypeId} {r : Rc} (h : Blk w b e (rcC r)) (k : Nat) (hk : k < 4) : w.cell? ⟨b, 3 + k, none⟩ = some (sv (dk r k)) := by
  obtain rfl | rfl | rfl | rfl : k = 0 ∨ k = 1 ∨ k = 2 ∨ k = 3 := by omega
  · exact h.cell 3
  · exact h.cell 4
  · exact h.cell 5
  · exact h.cell 6

set_option maxHeartbeats 1000000 in
theorem refRight_any (r : Rc) (hs : Data r) (w : World) : Calls Try.prog 17 #[.agg (rcC r)] w fun e w' => e = .returned (.bool (rightB r)) ∧ Below w.heap.size w w' := by
  have HK := Lib.hid (Blk.new w 36 (rcC r) 0 0 (Or.inl (Nat.le_refl _)))
  have HB := Lib.hid ((Below.refl _ w).alloc (Nat.le_refl _) (.cells (rcC r) 36))
  have HS := Lib.hid hs
  clear hs
  go_enter Try.func17, Try.ntmps17
  go_upto_region 1 with fail
  generalize World.alloc _ _ = w1 at HK HB ⊢
  go_wp2
  go_loopw [3, 4] (fun v i wr => ∃ k : Nat, k ≤ 4 ∧ i = .int .i64 k ∧ v = .bool (smK r k) ∧ okK r k = true ∧ wr = w1) (fun _ i _ => 4 - (intOf i).toNat)
  case atStart => exact ⟨0, by omega, rfl, rfl, rfl, rfl⟩
  case round =>
    obtain ⟨k, hk, rfl, rfl, hok, rfl⟩ := hrel
    have HOK := Lib.hid hok
    clear hok
    by_cases hlt : k < 4
    · have hlt' : (k : Int) < 4 := by omega
      have hc := HK.out.mem k hlt
      have HN := Lib.hid (right_not r k hlt)
      have HY : Hid (okS (dk r k) = true → okK r (k + 1) = true) := Lib.hid (fun h => by rw [okK, HOK.out, h]; rfl)
      have HM : Hid (smK r (k + 1) = (smK r k || !em (dk r k))) := Lib.hid rfl
      have hsl : (dk r k).length ≤ 9223372036854775807 := HS.out k
      generalize dk r k = s at hc HN HY HM hsl
      by_cases he : s = []
      · subst he
        have HE := Lib.hid (HY.out rfl)
        have HME : Hid (smK r (k + 1) = smK r k) := Lib.hid (by rw [HM.out, em_nil]; simp)
        clear HN HY HM
        generalize smK r k = b0 at HME ⊢
        go_wp2
        go_roundw
        case rel => exact ⟨k + 1, by omega, by go_num, by rw [HME.out], HE.out, by trivial⟩
        case measure => simp [intOf] <;> omega
      · have he1 : (s == []) = false := beq_eq_false_iff_ne.2 he
        have he2 : (s != []) = true := by rw [bne_iff_ne]; exact he
        have HOS : Hid (okS s = (s.length == 64)) := Lib.hid (by unfold okS; rw [em_ne he]; rfl)
        have HME : Hid (smK r (k + 1) = true) := Lib.hid (by rw [HM.out, em_ne he]; simp)
        by_cases hl : s.length = 64
        · have hlb : (s.length == 64) = true := beq_iff_eq.2 hl
          have hli : ((s.length : Int) != 64) = false := by rw [bne_eq_false_iff_eq]; omega
          have HE := Lib.hid (HY.out (HOS.out.trans hlb))
          clear HN HY hl hlb HM
          go_wp2
          go_roundw
          case rel => exact ⟨k + 1, by omega, by go_num, by rw [HME.out], HE.out, by trivial⟩
          case measure => simp [intOf] <;> omega
        · have hlb : (s.length == 64) = false := beq_eq_false_iff_ne.2 hl
          have hli : ((s.length : Int) != 64) = true := by rw [bne_iff_ne]; omega
          have HE := Lib.hid (HN.out (HOS.out.trans hlb))
          clear HN HY hl hlb HM
          go_wp2
          go_ret
          exact ⟨by rw [HE.out]; rfl, HB.out⟩
    · have h4 : k = 4 := by omega
      subst h4
      have HR := Lib.hid (right_ref r HOK.out)
      obtain ⟨hc0, hc1, hc2⟩ := HK.out.rc
      generalize smK r 4 = b0 at HR ⊢
      generalize r.ep = n0 at HR hc0
      generalize r.sq = n1 at HR hc1
      generalize r.rw = n2 at HR hc2
      cases b0
      · go_wp2
        go_ret
        exact ⟨by rw [HR.out]; rfl, HB.out⟩
      · by_cases h1 : 1 ≤ n0
        rotate_left
        · have HE : Hid (rightB r = false) := Lib.hid (by rw [HR.out, decide_eq_false h1]; simp)
          go_wp2
          go_ret
          exact ⟨by rw [HE.out]; rfl, HB.out⟩
        by_cases h2 : n0 < 2147483648
        rotate_left
        · have HE : Hid (rightB r = false) := Lib.hid (by rw [HR.out, decide_eq_false h2]; simp)
          go_wp2
          go_ret
          exact ⟨by rw [HE.out]; rfl, HB.out⟩
        by_cases h3 : 1 ≤ n1
        rotate_left
        · have HE : Hid (rightB r = false) := Lib.hid (by rw [HR.out, decide_eq_false h3]; simp)
          go_wp2
          go_ret
          exact ⟨by rw [HE.out]; rfl, HB.out⟩
        by_cases h4 : n1 < 2147483648
        rotate_left
        · have HE : Hid (rightB r = false) := Lib.hid (by rw [HR.out, decide_eq_false h4]; simp)
          go_wp2
          go_ret
          exact ⟨by rw [HE.out]; rfl, HB.out⟩
        by_cases h5 : 0 ≤ n2
        rotate_left
        · have HE : Hid (rightB r = false) := Lib.hid (by rw [HR.out, decide_eq_false h5]; simp)
          go_wp2
          go_ret
          exact ⟨by rw [HE.out]; rfl, HB.out⟩
        by_cases h6 : n2 ≤ 63
        · have HE : Hid (rightB r = true) := Lib.hid (by rw [HR.out, decide_eq_true h1, decide_eq_true h2, decide_eq_true h3, decide_eq_true h4, decide_eq_true h5, decide_eq_true h6]; rfl)
          go_wp2
          go_ret
          exact ⟨by rw [HE.out]; rfl, HB.out⟩
        · have HE : Hid (rightB r = false) := Lib.hid (by rw [HR.out, decide_eq_false h6]; simp)
          go_wp2
          go_ret
          exact ⟨by rw [HE.out]; rfl, HB.out⟩
end Go.Proofs.Ytccbohjcbhibkaa
