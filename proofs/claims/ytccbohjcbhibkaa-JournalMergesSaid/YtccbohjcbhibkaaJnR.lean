/- Right of the journal, the program's. Condition: texts that a memory can hold. -/
import Derived.Test.YtccbohjcbhibkaaJnA
namespace Go.Proofs.Ytccbohjcbhibkaa
set_option linter.unusedVariables false
set_option linter.unusedSimpArgs false
set_option maxRecDepth 100000
open Go.RowKit
attribute [local go_sem ↓] Go.wp_at_zero Go.wp_at_succ ix_dat ld_rec

theorem Blk.rc {w : World} {b : Nat} {e : TypeId} {r : Rc} (h : Blk w b e (rcC r)) : w.cell? ⟨b, 0, none⟩ = some (.int .i64 r.ep) ∧ w.cell? ⟨b, 1, none⟩ = some (.int .i64 r.sq) ∧ w.cell? ⟨b, 2, none⟩ = some (.int .i64 r.rw) :=
  ⟨h.cell 0, h.cell 1, h.cell 2⟩

set_option maxHeartbeats 1000000 in
theorem right_any (r : Rc) (hs : ∀ k, (dk r k).length ≤ maxLen) (w : World) : Calls Try.prog 16 #[.agg (rcC r)] w fun e w' => e = .returned (.bool (rightB r)) ∧ Below w.heap.size w w' := by
  have HK := Lib.hid (Blk.new w 29 (rcC r) 0 0 (Or.inl (Nat.le_refl _)))
  have HB := Lib.hid ((Below.refl _ w).alloc (Nat.le_refl _) (.cells (rcC r) 29))
  have IS := Lib.hid (fun s w => is_any s w)
  have CE := Lib.hid (fun w => count_any r.ep w)
  have CS := Lib.hid (fun w => count_any r.sq w)
  have MK := Lib.hid (fun w => mask_any r w)
  have HS := Lib.hid hs
  clear hs
  go_enter Try.func16, Try.ntmps16
  go_upto_region 1 with fail
  generalize World.alloc _ _ = w1 at HK HB ⊢
  have hD : ((rcC r).toList.drop 3).take (rcD r).size = (rcD r).toList := rfl
  have tokA : True := trivial
  go_wp2_with (have _t := tokA; refine wpList_load_part rfl 27 _ rfl w.heap.size 3 rfl (rcC r) (rcD r) 29 _ HK.out hD Try.underlying27 rfl size_dat ?_; clear tokA)
  clear hD
  go_loopw [9] (fun i wr => ∃ k : Nat, k ≤ 4 ∧ i = .int .i64 k ∧ okK r k = true ∧ wr = w1) (fun i _ => 4 - (intOf i).toNat)
  case atStart => exact ⟨0, by omega, rfl, rfl, rfl⟩
  case round =>
    obtain ⟨k, hk, rfl, hok, rfl⟩ := hrel
    have HOK := Lib.hid hok
    clear hok
    by_cases hlt : k < 4
    · have hlt' : (k : Int) < 4 := by omega
      have hix := ix_d r k hlt wr
      have HN := Lib.hid (right_not r k hlt)
      have HY : Hid (okS (dk r k) = true → okK r (k + 1) = true) := Lib.hid (fun h => by rw [okK, HOK.out, h]; rfl)
      have hsl : (dk r k).length ≤ maxLen := HS.out k
      generalize dk r k = s at hix HN HY hsl
      by_cases he : s = []
      · subst he
        have HE := Lib.hid (HY.out rfl)
        clear HN HY
        go_wp2
        go_roundw
        case rel => exact ⟨k + 1, by omega, by go_num, HE.out, by trivial⟩
        case measure => simp [intOf] <;> omega
      · have he1 : (s == []) = false := beq_eq_false_iff_ne.2 he
        have he2 : (s != []) = true := by rw [bne_iff_ne]; exact he
        have HI := Lib.hid (fun w => IS.out s w)
        have HOS : Hid (okS s = (s.length == 64)) := Lib.hid (by unfold okS; rw [em_ne he]; rfl)
        by_cases hl : s.length = 64
        · have hlb : (s.length == 64) = true := beq_iff_eq.2 hl
          rw [hlb] at HI
          have HE := Lib.hid (HY.out (HOS.out.trans hlb))
          clear HN HY hl hlb
          go_wp2_with fail
          refine (HI.out _).mono ?_
          rintro e w2 ⟨rfl, hw2⟩
          subst hw2
          go_wp2
          go_roundw
          case rel => exact ⟨k + 1, by omega, by go_num, HE.out, by trivial⟩
          case measure => simp [intOf] <;> omega
        · have hlb : (s.length == 64) = false := beq_eq_false_iff_ne.2 hl
          rw [hlb] at HI
          have HE := Lib.hid (HN.out (HOS.out.trans hlb))
          clear HN HY hl hlb
          go_wp2_with fail
          refine (HI.out _).mono ?_
          rintro e w2 ⟨rfl, hw2⟩
          subst hw2
          go_wp2
          go_ret
          exact ⟨by rw [HE.out]; rfl, HB.out⟩
    · have h4 : k = 4 := by omega
      subst h4
      have HR : Hid (rightB r = (cntB r.ep && (cntB r.sq && (decide (0 ≤ r.rw) && decide (r.rw < 64) && (maskR r != 0))))) := Lib.hid (by rw [right_eq, HOK.out]; rfl)
      obtain ⟨hc0, hc1, hc2⟩ := HK.out.rc
      have hrow : ∃ v b, b = (decide (0 ≤ r.rw) && decide (r.rw < 64)) ∧ ∀ w, Calls Try.prog 26 #[.int .i64 r.rw] w fun e w' => e = .returned (.tuple #[.int .i64 v, .bool b]) ∧ w' = w := by
        by_cases h : 0 ≤ r.rw ∧ r.rw < 64
        · exact ⟨51 + r.rw, true, by simp [h.1, h.2], fun w => rowAt_in r.rw h.1 h.2 w⟩
        · refine ⟨0, false, ?_, fun w => rowAt_out r.rw (by omega) w⟩
          rw [eq_comm, Bool.and_eq_false_iff, decide_eq_false_iff_not, decide_eq_false_iff_not]
          omega
      obtain ⟨v, b, hb, hrw⟩ := hrow
      have RW := Lib.hid hrw
      rw [← hb] at HR
      have hm : maskR r < 16 := maskR_lt r
      generalize cntB r.ep = b1 at HR CE
      generalize cntB r.sq = b2 at HR CS
      generalize maskR r = m at HR MK hm
      clear hb hrw HOK
      go_wp2_with fail
      refine (RW.out _).mono ?_
      rintro e w2 ⟨rfl, hw2⟩
      subst hw2
      go_wp2_with fail
      refine (CE.out _).mono ?_
      rintro e w3 ⟨rfl, hw3⟩
      subst hw3
      cases b1
      · go_wp2
        go_ret
        exact ⟨by rw [HR.out]; rfl, HB.out⟩
      · go_wp2_with fail
        refine (CS.out _).mono ?_
        rintro e w4 ⟨rfl, hw4⟩
        subst hw4
        cases b2
        · go_wp2
          go_ret
          exact ⟨by rw [HR.out]; rfl, HB.out⟩
        · cases b
          · go_wp2
            go_ret
            exact ⟨by rw [HR.out]; rfl, HB.out⟩
          · have hld := HK.out.ldR
            go_wp2_with fail
            refine (MK.out _).mono ?_
            rintro e w5 ⟨rfl, hb5⟩
            have HB5 := Lib.hid (Below.step HB.out hb5)
            clear hb5
            by_cases h0 : m = 0
            · have hi : (m : Int) = 0 := by omega
              have hib : ((m : Int) != 0) = false := by rw [hi]; rfl
              subst h0
              go_wp2
              go_ret
              exact ⟨by rw [HR.out]; rfl, HB5.out⟩
            · have hi : ¬ (m : Int) = 0 := by omega
              have hib : ((m : Int) != 0) = true := by rw [bne_iff_ne]; exact hi
              have hmb : (m != 0) = true := by rw [bne_iff_ne]; exact h0
              have HMB := Lib.hid hmb
              clear hmb
              go_wp2
              go_ret
              exact ⟨by rw [HR.out, HMB.out]; rfl, HB5.out⟩
end Go.Proofs.Ytccbohjcbhibkaa
