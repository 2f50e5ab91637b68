/- The law's same: two equal lists of records. Conditions: rows that a memory can hold. -/
import Derived.Test.YtccbohjcbhibkaaJoB
import Derived.Test.YtccbohjcbhibkaaJnY
namespace Go.Proofs.Ytccbohjcbhibkaa
set_option linter.unusedVariables false
set_option linter.unusedSimpArgs false
set_option maxRecDepth 100000
open Go.RowKit Go.ChangeShapes Go.WideShapes Go.Deep
attribute [local go_sem ↓] Go.wp_at_zero Go.wp_at_succ
attribute [local go_sem ↓] ix_dat ld_rec ld_ref
theorem run_rcQ_equal (w : World) (r s : Rc) : (Op.equalIn 10000 36 (.agg (rcC r)) (.agg (rcC s))).run Try.prog w = .ok (rcEq r s) w := by
  have hd := run_dat_eq w 9997 r s
  unfold rcEq
  unfold rcD at hd
  generalize (r.d0 == s.d0 && (r.d1 == s.d1 && (r.d2 == s.d2 && r.d3 == s.d3))) = x at hd ⊢
  unfold rcC
  by_cases h0 : r.ep = s.ep <;> by_cases h1 : r.sq = s.sq <;> by_cases h2 : r.rw = s.rw <;> cases x <;> (go_simp; try simp [hd, h0, h1, h2])
theorem run_rcQ_neq (w : World) (r s : Rc) : (binOp .neq 36 (.agg (rcC r)) (.agg (rcC s))).run Try.prog w = .ok (.bool (!rcEq r s)) w := by
  rw [run_neq_struct, run_rcQ_equal]
  rfl

set_option maxHeartbeats 4000000 in
theorem same_any (A A2 : Option Addr) (c c2 : Nat) (L : List Rc) (hL : L.length ≤ maxLen) (w : World) (h1 : RsAt w w.heap.size A L) (h2 : RsAt w w.heap.size A2 L) :
    Calls Try.prog 21 #[.slice A L.length c, .slice A2 L.length c2] w fun e w' => e = .returned (.bool true) ∧ Below w.heap.size w w' := by
  have hLm : L.length ≤ 9223372036854775807 := hL
  have H1 := Lib.hid h1
  have H2 := Lib.hid h2
  have GV := Lib.hid (fun r w => given_any r w)
  have NQ := Lib.hid (fun X w => (by have h := run_rcQ_neq w X X; rw [rcEq_self] at h; exact h : (binOp .neq 36 (.agg (rcC X)) (.agg (rcC X))).run Try.prog w = .ok (.bool false) w))
  clear h1 h2 hL
  go_enter Try.func21, Try.ntmps21
  go_wp2
  go_loopw [5] (fun i wr => ∃ k : Nat, k ≤ L.length ∧ i = .int .i64 k ∧ Below w.heap.size w wr) (fun i _ => L.length - (intOf i).toNat)
  case atStart => exact ⟨0, by omega, rfl, Below.refl _ _⟩
  case round =>
    obtain ⟨k, hk, rfl, hb⟩ := hrel
    have HB := Lib.hid hb
    clear hb
    by_cases hlt : k < L.length
    · have hlt' : (k : Int) < L.length := by omega
      have h0 : L ≠ [] := by intro h; rw [h] at hlt; simp at hlt
      obtain ⟨b, o, rfl, hbw, hcells⟩ : ∃ b o, A = some ⟨b, o, none⟩ ∧ b < w.heap.size ∧ ∀ j (hj : j < L.length), w.rangeAt b (o + j * 7) (encR L[j]) := by
        rcases H1.out with h | h
        · exact absurd h h0
        · exact h
      obtain ⟨b2, o2, rfl, hbw2, hcells2⟩ : ∃ b o, A2 = some ⟨b, o, none⟩ ∧ b < w.heap.size ∧ ∀ j (hj : j < L.length), w.rangeAt b (o + j * 7) (encR L[j]) := by
        rcases H2.out with h | h
        · exact absurd h h0
        · exact h
      have HL1 : Hid (∀ w', Below w.heap.size w w' → (Ld 29 (.pointer (some ⟨b, o + k * 7, none⟩))).run Try.prog w' = .ok (.agg (rcC L[k])) w') := Lib.hid (fun w' hb => RsAt.ld (B := w.heap.size) (fun j hj i v hv => (hb.cell (p := ⟨b, o + j * 7 + i, none⟩) hbw).trans (hcells j hj i v hv)) k hlt)
      have HL2 : Hid (∀ w', Below w.heap.size w w' → (Ld 36 (.pointer (some ⟨b2, o2 + k * 7, none⟩))).run Try.prog w' = .ok (.agg (rcC L[k])) w') := Lib.hid (fun w' hb => RsAt.ldQ (B := w.heap.size) (fun j hj i v hv => (hb.cell (p := ⟨b2, o2 + j * 7 + i, none⟩) hbw2).trans (hcells2 j hj i v hv)) k hlt)
      clear hcells hcells2 h0
      generalize L[k] = X at HL1 HL2
      have HBd : Hid (Below w.heap.size w wr.drew) := Lib.hid HB.out.drew
      have hnq := NQ.out X
      clear NQ
      go_upto_region 6 with fail
      go_cut [26] from 17 to 25 (fun v wx => v = .bool false ∧ Below w.heap.size w wx)
      case first =>
        refine wp_region_noPanic ?_
        refine wp_region_held_drew (S := (fun w' => (Ld 29 (.pointer (some ⟨b, o + k * 7, none⟩))).run Try.prog w' = .ok (.agg (rcC X)) w' ∧ (Ld 36 (.pointer (some ⟨b2, o2 + k * 7, none⟩))).run Try.prog w' = .ok (.agg (rcC X)) w')) (by kernel_rfl) (by first | exact ⟨HL1.out _ HBd.out, HL2.out _ HBd.out⟩) (fun hHeld => ?_)
        refine wpAnyH_take (i := 0) (oi := _) (v := ?vr1n0_1) rfl (by kernel_rfl) (by kernel_rfl) (by kernel_rfl) (fun _ _ _ h => h) (Or.inl ⟨by kernel_rfl, ?hr1n0_1⟩) hHeld ?_
        case hr1n0_1 => (intro w hSw; (try dsimp only at hSw); go_simp; try (with_reducible rfl))
        try simp only [List.getElem_toArray, List.getElem_cons_zero, List.getElem_cons_succ, Act.put, List.setIfInBounds_toArray, List.set_cons_zero, List.set_cons_succ]
        refine wpAnyH_take (i := 1) (oi := _) (v := ?vr1n1_2) rfl (by kernel_rfl) (by kernel_rfl) (by kernel_rfl) (fun _ _ _ h => h) (Or.inl ⟨by kernel_rfl, ?hr1n1_2⟩) hHeld ?_
        case hr1n1_2 => (intro w hSw; (try dsimp only at hSw); go_simp; try (with_reducible rfl))
        try simp only [List.getElem_toArray, List.getElem_cons_zero, List.getElem_cons_succ, Act.put, List.setIfInBounds_toArray, List.set_cons_zero, List.set_cons_succ]
        refine wpAnyH_take (i := 2) (oi := _) (v := ?vr1n2_3) rfl (by kernel_rfl) (by kernel_rfl) (by kernel_rfl) (fun _ _ _ h => h) (Or.inl ⟨by kernel_rfl, ?hr1n2_3⟩) hHeld ?_
        case hr1n2_3 => (intro w hSw; (try dsimp only at hSw); go_simp; try (with_reducible rfl))
        try simp only [List.getElem_toArray, List.getElem_cons_zero, List.getElem_cons_succ, Act.put, List.setIfInBounds_toArray, List.set_cons_zero, List.set_cons_succ]
        refine wpAnyH_take (i := 3) (oi := _) (v := ?vr1n3_4) rfl (by kernel_rfl) (by kernel_rfl) (by kernel_rfl) (fun _ _ _ h => h) (Or.inl ⟨by kernel_rfl, ?hr1n3_4⟩) hHeld ?_
        case hr1n3_4 => (intro w hSw; (try dsimp only at hSw); go_simp; try (with_reducible rfl))
        try simp only [List.getElem_toArray, List.getElem_cons_zero, List.getElem_cons_succ, Act.put, List.setIfInBounds_toArray, List.set_cons_zero, List.set_cons_succ]
        refine wpAnyH_take (i := 5) (oi := _) (v := ?vr1n5_5) rfl (by kernel_rfl) (by kernel_rfl) (by kernel_rfl) (fun _ _ _ h => h) (Or.inl ⟨by kernel_rfl, ?hr1n5_5⟩) hHeld ?_
        case hr1n5_5 => (intro w hSw; (try dsimp only at hSw); go_simp; try (with_reducible rfl))
        try simp only [List.getElem_toArray, List.getElem_cons_zero, List.getElem_cons_succ, Act.put, List.setIfInBounds_toArray, List.set_cons_zero, List.set_cons_succ]
        refine wpAnyH_take (i := 6) (oi := _) (v := ?vr1n6_6) rfl (by kernel_rfl) (by kernel_rfl) (by kernel_rfl) (fun _ _ _ h => h) (Or.inl ⟨by kernel_rfl, ?hr1n6_6⟩) hHeld ?_
        case hr1n6_6 => (intro w hSw; (try dsimp only at hSw); go_simp; try (with_reducible rfl))
        try simp only [List.getElem_toArray, List.getElem_cons_zero, List.getElem_cons_succ, Act.put, List.setIfInBounds_toArray, List.set_cons_zero, List.set_cons_succ]
        refine wpAnyH_take (i := 7) (oi := _) (v := ?vr1n7_7) rfl (by kernel_rfl) (by kernel_rfl) (by kernel_rfl) (fun _ _ _ h => h) (Or.inl ⟨by kernel_rfl, ?hr1n7_7⟩) hHeld ?_
        case hr1n7_7 => (intro w hSw; (try dsimp only at hSw); go_simp; try (with_reducible rfl))
        try simp only [List.getElem_toArray, List.getElem_cons_zero, List.getElem_cons_succ, Act.put, List.setIfInBounds_toArray, List.set_cons_zero, List.set_cons_succ]
        refine wpAnyH_take (i := 8) (oi := _) (v := ?vr1n8_8) rfl (by kernel_rfl) (by kernel_rfl) (by kernel_rfl) (fun _ _ _ h => h) (Or.inl ⟨by kernel_rfl, ?hr1n8_8⟩) hHeld ?_
        case hr1n8_8 => (intro w hSw; (try dsimp only at hSw); go_simp; try (with_reducible rfl))
        try simp only [List.getElem_toArray, List.getElem_cons_zero, List.getElem_cons_succ, Act.put, List.setIfInBounds_toArray, List.set_cons_zero, List.set_cons_succ]
        refine wpAnyH_ready (rs := [4]) (by kernel_rfl) (by simp) ?_
        refine AllReadyH.cons (o := _) rfl (fun K hK => ?_) AllReadyH.nil
        go_simp
        (go_at_call 18; refine (GV.out X _).mono ?_; rintro e w9 ⟨rfl, hb⟩; have HB9 := Lib.hid (Below.step HBd.out hb); clear hb)
        refine hK.out _ _ ?_ (fun hHeld1 => ?_)
        · (first | exact ⟨HL1.out _ HB9.out, HL2.out _ HB9.out⟩)
        clear hHeld hK K
        try simp only [List.getElem_toArray, List.getElem_cons_zero, List.getElem_cons_succ, Act.put, List.setIfInBounds_toArray, List.set_cons_zero, List.set_cons_succ]
        refine wpAnyH_take (i := 9) (oi := _) (v := ?vr1n9_9) rfl (by kernel_rfl) (by kernel_rfl) (by kernel_rfl) (fun _ _ _ h => h) (Or.inl ⟨by kernel_rfl, ?hr1n9_9⟩) hHeld1 ?_
        case hr1n9_9 => (intro w hSw; (try dsimp only at hSw); go_simp; try (with_reducible rfl))
        try simp only [List.getElem_toArray, List.getElem_cons_zero, List.getElem_cons_succ, Act.put, List.setIfInBounds_toArray, List.set_cons_zero, List.set_cons_succ]
        refine wpAnyH_done (by kernel_rfl) ?_ _
        refine NoPanic.normal ?_
        go_wp2_with fail
        go_meet
        exact ⟨rfl, HB9.out⟩
      case rest =>
        obtain ⟨rfl, hb⟩ := hcut
        have HBN := Lib.hid hb
        clear hb HB HBd HL1 HL2
        go_wp2
        go_roundw
        case rel => exact ⟨k + 1, by omega, by go_num, HBN.out⟩
        case measure => simp [intOf] <;> omega
    · have hke : ¬ (k : Int) < L.length := by omega
      go_wp2
      go_ret
      exact ⟨rfl, HB.out⟩
end Go.Proofs.Ytccbohjcbhibkaa
