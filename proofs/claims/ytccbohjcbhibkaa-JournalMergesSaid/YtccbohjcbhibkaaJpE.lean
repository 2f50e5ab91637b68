/- The walk through the law JournalOnce: it answers true. Condition: texts and slices that a memory can hold. -/
import Derived.Test.YtccbohjcbhibkaaJpD
import Derived.Test.YtccbohjcbhibkaaJnY
import Derived.Maps.OwnSet
import Derived.Maps.OwnOps
import Derived.WalkKit
namespace Go.Proofs.Ytccbohjcbhibkaa
set_option linter.unusedVariables false
set_option linter.unusedSimpArgs false
set_option maxRecDepth 100000
open Go.RowKit Go.Proofs Go.Shelf Go.Lib Go.Sort Go.Maps Go.ChangeShapes
attribute [local go_sem ↓] Go.wp_at_zero Go.wp_at_succ
attribute [local go_sem ↓] ix_dat ld_rec
theorem lawInt : Keyed Try.prog 3 := int_keyed Try.underlying3
theorem zeroInt (w : World) : (zeroValue 3).run Try.prog w = .ok (.int .i64 0) w := by kernel_rfl
/-- each of these numbers has 1 -/
def Ones (D : DataW Unit) (C : List Rc) : Prop := ∀ x ∈ C, D.atKey (.int .i64 x.sq) (.lit (.int .i64 0)) = .lit (.int .i64 1)
theorem Ones.put {D : DataW Unit} {C : List Rc} (h : Ones D C) (hD : IsMap D) (r : Rc) : Ones (D.put (.int .i64 r.sq) (.lit (.int .i64 1))) (C ++ [r]) := by
  intro x hx
  by_cases he : x.sq = r.sq
  · rw [he]; exact atKey_put_same hD (by trivial) _ _
  · rw [atKey_put_other (fun h => he (by injection h))]
    rcases List.mem_append.1 hx with h1 | h1
    · exact h x h1
    · rw [List.mem_singleton.1 h1] at he; exact absurd rfl he
theorem take_snoc (L : List Rc) (k : Nat) (h : k < L.length) : L.take (k + 1) = L.take k ++ [L[k]] := by rw [List.take_add_one, List.getElem?_eq_getElem h]; rfl
theorem rise_at {C : List Rc} (h : Rise C) (k : Nat) (hk : k + 1 < C.length) : C[k].sq < C[k + 1].sq := List.pairwise_iff_getElem.1 h k (k + 1) (by omega) hk (by omega)
theorem ownR_none (w : World) (B : Nat) (hB : B ≤ w.heap.size) :
    (w.alloc (.cells #[] 29)).ownsRow B 29 7 (.slice (some ⟨w.heap.size, 0, none⟩) 0 0) 0 (flat []) :=
  ⟨by rw [flat_len]; rfl, Or.inr ⟨w.heap.size, 0, #[], rfl, hB, heap_alloc_new w _, Nat.le_refl _, by simp [maxLen], rfl, rfl⟩⟩
theorem RsAt.cells {w : World} {B : Nat} {A : Option Addr} {L : List Rc} (h : RsAt w B A L) (k : Nat) (hk : k < L.length) : ∃ b o, A = some ⟨b, o, none⟩ ∧ b < B ∧ ∀ j (hj : j < L.length), w.rangeAt b (o + j * 7) (encR L[j]) := by
  rcases h with h | h
  · rw [h] at hk; simp at hk
  · exact h

set_option maxHeartbeats 1000000 in
theorem journalOnce_walk (A : Option Addr) (cA : Nat) (LA : List Rc) (hlA : LA.length ≤ maxLen) (hdA : ∀ r ∈ LA, Data r ∧ QOk r) (hnA : A = none → LA = [] ∧ cA = 0) (B : Option Addr) (cB : Nat) (LB : List Rc) (hlB : LB.length ≤ maxLen) (hdB : ∀ r ∈ LB, Data r ∧ QOk r) (hnB : B = none → LB = [] ∧ cB = 0)
    (w : World) (hA : RsAt w w.heap.size A LA) (hB : RsAt w w.heap.size B LB) :
    Calls Try.prog 3 #[.slice A LA.length cA, .slice B LB.length cB] w fun e w' => e = .returned (.bool true) ∧ Below w.heap.size w w' := by
  have hmm := @run_makeMap Try.prog
  have WK := Lib.hid wakes_any
  have GA := Lib.hid (great_any A cA LA hlA (fun r h => (hdA r h).1) w hA)
  have GB := Lib.hid (great_any B cB LB hlB (fun r h => (hdB r h).1) w hB)
  have HRA := Lib.hid hA
  have HRB := Lib.hid hB
  have HNNA := Lib.hid hnA
  have HNNB := Lib.hid hnB
  have HVA : Hid (RowV w (.slice A LA.length cA) LA) := Lib.hid ⟨A, cA, rfl, hA, hnA, hlA⟩
  have HVB : Hid (RowV w (.slice B LB.length cB) LB) := Lib.hid ⟨B, cB, rfl, hB, hnB, hlB⟩
  have HQ : Hid (∀ r ∈ LA ++ LB, QOk r) := Lib.hid (fun r h => by rcases List.mem_append.1 h with h | h; exact (hdA r h).2; exact (hdB r h).2)
  have HLL := Lib.hid (And.intro (@great_len LA) (@great_len LB))
  generalize greatB LA = ga at GA HLL
  generalize greatB LB = gb at GB HLL
  obtain ⟨nA, hnA2⟩ : ∃ n, n = LA.length := ⟨_, rfl⟩
  obtain ⟨nB, hnB2⟩ : ∃ n, n = LB.length := ⟨_, rfl⟩
  rw [← hnA2] at GA HVA ⊢
  rw [← hnB2] at GB HVB ⊢
  have HNA := Lib.hid hnA2
  have HNB := Lib.hid hnB2
  clear hnA2 hnB2 hA hB hlA hlB hdA hdB hnA hnB
  go_enter Try.func3, Try.ntmps3
  go_wp2_with fail
  refine GA.out.mono ?_
  rintro e w1 ⟨rfl, hw1⟩
  rw [hw1]
  clear hw1 GA
  cases ga with
  | true =>
    go_wp2_with fail
    refine (WK.out _).mono ?_
    rintro e w9 ⟨rfl, hb⟩
    have HBe := Lib.hid (hb)
    clear hb
    go_wp2
    go_ret
    exact ⟨rfl, HBe.out⟩
  | false =>
    go_wp2_with fail
    refine GB.out.mono ?_
    rintro e w1 ⟨rfl, hw1⟩
    rw [hw1]
    clear hw1 GB
    cases gb with
    | true =>
      go_wp2_with fail
      refine (WK.out _).mono ?_
      rintro e w9 ⟨rfl, hb⟩
      have HBe := Lib.hid (hb)
      clear hb
      go_wp2
      go_ret
      exact ⟨rfl, HBe.out⟩
    | false =>
      have hA40 : LA.length ≤ 40 := by simpa using HLL.out.1
      have hB40 : LB.length ≤ 40 := by simpa using HLL.out.2
      have HL := Lib.hid (And.intro hA40 hB40)
      have hal := (Below.refl w.heap.size w).alloc (Nat.le_refl _) (.cells #[.slice A nA cA, .slice B nB cB] 22)
      have HC := Lib.hid (merge_any (some ⟨w.heap.size, 0, none⟩) [(.slice A nA cA, LA), (.slice B nB cB, LB)] 2 rfl (by decide) (by simp; omega) (w.alloc (.cells #[.slice A nA cA, .slice B nB cB] 22)) ⟨Or.inr ⟨w.heap.size, rfl, Blk.new w 22 #[.slice A nA cA, .slice B nB cB] 0 0 (Or.inl (Nat.le_refl _))⟩, by
        intro p hp
        rcases List.mem_cons.1 hp with rfl | hp
        · exact HVA.out.below hal
        · rw [List.mem_singleton.1 hp]; exact HVB.out.below hal⟩)
      have HB0 := Lib.hid hal
      clear hal hA40 hB40
      go_wp2_with fail
      refine HC.out.mono ?_
      rintro e w1 ⟨v5, L, rfl, hm, hr, hb⟩
      have HM : Hid (MergeOf (LA ++ LB) L) := Lib.hid (by simpa using hm)
      have HB1 := Lib.hid (Below.step HB0.out hb)
      have HV5 : Hid (RowV w1 v5 L) := Lib.hid hr.rowV
      clear hm hr hb HC HB0
      obtain ⟨A5, c5, rfl, hra5, hn5, hl5⟩ := HV5.out
      have hLl : L.length ≤ 80 := by
        have h1 := HM.out.len
        rw [List.length_append] at h1
        have h2 := HL.out
        omega
      obtain ⟨n5, hn5e⟩ : ∃ n, n = L.length := ⟨_, rfl⟩
      rw [← hn5e] at HV5
      have HN5 := Lib.hid hn5e
      have hn80 : n5 ≤ 80 := by omega
      clear hra5 hn5 hl5
      rw [← hn5e]
      clear hn5e
      have hal := (Below.refl w1.heap.size w1).alloc (Nat.le_refl _) (.cells #[.slice A5 n5 c5, .slice A nA cA, .slice B nB cB] 22)
      have HC := Lib.hid (merge_any (some ⟨w1.heap.size, 0, none⟩) [(.slice A5 n5 c5, L), (.slice A nA cA, LA), (.slice B nB cB, LB)] 3 rfl (by decide) (by have := HL.out; simp; omega) (w1.alloc (.cells #[.slice A5 n5 c5, .slice A nA cA, .slice B nB cB] 22)) ⟨Or.inr ⟨w1.heap.size, rfl, Blk.new w1 22 #[.slice A5 n5 c5, .slice A nA cA, .slice B nB cB] 0 0 (Or.inl (Nat.le_refl _))⟩, by
        intro p hp
        rcases List.mem_cons.1 hp with rfl | hp
        · exact HV5.out.below hal
        · rcases List.mem_cons.1 hp with rfl | hp
          · exact (HVA.out.below HB1.out).below hal
          · rw [List.mem_singleton.1 hp]; exact (HVB.out.below HB1.out).below hal⟩)
      have HBa := Lib.hid hal
      clear hal hLl
      go_wp2_with fail
      refine HC.out.mono ?_
      rintro e w2 ⟨v6, M, rfl, hm, hr, hb⟩
      obtain rfl : M = L := merge_again HM.out (by simpa using hm)
      have HB2 := Lib.hid (HB1.out.trans ((HBa.out.trans (hb.mono HBa.out.size)).mono HB1.out.size))
      have HV6 : Hid (RowV w2 v6 M) := Lib.hid hr.rowV
      have HV5b : Hid (RowV w2 (.slice A5 n5 c5) M) := Lib.hid ((HV5.out.below HBa.out).below hb)
      clear hm hr hb HC HBa HV5
      obtain ⟨A6, c6, rfl, hra6, _, _⟩ := HV6.out
      obtain ⟨A5b, c5b, he5, hra5, _, _⟩ := HV5b.out
      injection he5 with e1 e2 e3
      subst e1
      subst e3
      clear e2
      have HR5 := Lib.hid hra5
      have HR6 := Lib.hid hra6
      have HRA2 := Lib.hid (HRA.out.below HB2.out)
      have HRB2 := Lib.hid (HRB.out.below HB2.out)
      clear hra5 hra6 HV6 HV5b HVA HVB HB1
      rw [← HN5.out]
      go_upto_region 8 with fail
      have HW3 := Lib.hid (World.ownsMap_made (H := Unit) w2 Try.prog 3 (plainElem (H := Unit) Try.prog 3))
      have hal := (Below.refl w2.heap.size w2).alloc (Nat.le_refl _) (.map #[] 0)
      have HR53 := Lib.hid (HR5.out.below hal)
      have HR63 := Lib.hid (HR6.out.below hal)
      have HB3 := Lib.hid (HB2.out.trans (hal.mono HB2.out.size))
      have HMP : Hid (w.heap.size ≤ w2.heap.size) := Lib.hid HB2.out.size
      have HMN : Hid (w2.heap.size < (w2.alloc (.map #[] 0)).heap.size) := Lib.hid (by rw [size_alloc]; omega)
      clear hal HR5 HR6 HB2
      generalize World.alloc _ _ = w3 at HW3 HR53 HR63 HB3 HMN ⊢
      obtain ⟨mp, hmp⟩ : ∃ mp, mp = w2.heap.size := ⟨_, rfl⟩
      rw [← hmp] at HW3 HMP HMN HR53 HR63 ⊢
      clear hmp HRA2 HRB2
      go_wp2
      go_loopw [8] (fun i wr => ∃ k : Nat, i = .int .i64 k ∧ k ≤ n5 ∧ Hid (∃ D, wr.ownsMap Try.prog 3 (plainElem (H := Unit) Try.prog 3) mp k D ∧ Ones D (M.take k)) ∧ Hid (Below mp w3 wr)) (fun i _ => n5 - (intOf i).toNat)
      case atStart => exact ⟨0, rfl, Nat.zero_le _, Lib.hid ⟨_, HW3.out, fun x hx => by simp at hx⟩, Lib.hid (Below.refl _ _)⟩
      case round =>
        obtain ⟨k, rfl, hk, HD, HBk⟩ := hrel
        clear HW3
        by_cases hlt : k < n5
        · have hltz : (k : Int) < (n5 : Int) := by omega
          have hkM : k < M.length := by rw [← HN5.out]; exact hlt
          obtain ⟨b5, o5, rfl, hb5, hc5⟩ := HR53.out.cells k hkM
          obtain ⟨b6, o6, rfl, hb6, hc6⟩ := HR63.out.cells k hkM
          have HC5 : Hid (∀ w', Below mp w3 w' → ∀ j (hj : j < M.length), w'.rangeAt b5 (o5 + j * 7) (encR M[j])) := Lib.hid (fun w' hb j hj i v hv => (hb.cell (p := ⟨b5, o5 + j * 7 + i, none⟩) hb5).trans (hc5 j hj i v hv))
          have HC6 : Hid (∀ w', Below mp w3 w' → ∀ j (hj : j < M.length), w'.rangeAt b6 (o6 + j * 7) (encR M[j])) := Lib.hid (fun w' hb j hj i v hv => (hb.cell (p := ⟨b6, o6 + j * 7 + i, none⟩) hb6).trans (hc6 j hj i v hv))
          have HD5 : Hid ((Ld 29 (.pointer (some ⟨b5, o5 + k * 7, none⟩))).run Try.prog wr.drew = .ok (.agg (rcC M[k])) wr.drew) := Lib.hid (RsAt.ld (B := mp) (HC5.out _ HBk.out.drew) k hkM)
          have HD6 : Hid ((Ld 29 (.pointer (some ⟨b6, o6 + k * 7, none⟩))).run Try.prog wr.drew = .ok (.agg (rcC M[k])) wr.drew) := Lib.hid (RsAt.ld (B := mp) (HC6.out _ HBk.out.drew) k hkM)
          have hcs : wr.drew.cell? ⟨b5, o5 + k * 7 + 1, none⟩ = some (.int .i64 M[k].sq) := HC5.out _ HBk.out.drew k hkM 1 _ rfl
          have HCS := Lib.hid hcs
          have HTS := Lib.hid (take_snoc M k hkM)
          have HQX : Hid (QOk M[k]) := Lib.hid (HQ.out _ (HM.out.sub (List.getElem_mem hkM)))
          have HPREV : Hid (∀ kp (h : k = kp + 1), wr.drew.cell? ⟨b5, o5 + kp * 7 + 1, none⟩ = some (.int .i64 (M[kp]'(by omega)).sq) ∧ (M[kp]'(by omega)).sq < M[k].sq) := Lib.hid (fun kp h => ⟨HC5.out _ HBk.out.drew kp (by omega) 1 _ rfl, by subst h; exact rise_at HM.out.rise kp hkM⟩)
          clear hc5 hc6 hcs HC5 HC6
          generalize M[k] = X at HD5 HD6 HCS HTS HQX HPREV
          have hneq := fun w => (by have h := run_rc_neq w X X; rw [rcEq_self] at h; exact h : (binOp .neq 29 (.agg (rcC X)) (.agg (rcC X))).run Try.prog w = .ok (.bool false) w)
          generalize hsq : X.sq = sq at HCS HPREV
          have HSQ := Lib.hid (fun _ : Unit => hsq)
          clear hsq
          go_upto_region 11 with fail
          go_cut [65] from 33 to 71 (fun v wx => v = .bool false ∧ wx = wr.drew)
          case first =>
            cases k with
            | zero =>
              have HD5z : Hid ((Ld 29 (.pointer (some ⟨b5, o5, none⟩))).run Try.prog wr.drew = .ok (.agg (rcC X)) wr.drew) := Lib.hid (by have := HD5.out; rwa [Nat.zero_mul, Nat.add_zero] at this)
              have HD6z : Hid ((Ld 29 (.pointer (some ⟨b6, o6, none⟩))).run Try.prog wr.drew = .ok (.agg (rcC X)) wr.drew) := Lib.hid (by have := HD6.out; rwa [Nat.zero_mul, Nat.add_zero] at this)
              have hn0 : (0 : Int) < (n5 : Int) := by omega
              clear HD5 HD6 HCS HPREV
              refine wp_region_noPanic ?_
              refine wp_region_held_drew (S := (fun w' => (Ld 29 (.pointer (some ⟨b6, o6, none⟩))).run Try.prog w' = .ok (.agg (rcC X)) w' ∧ (Ld 29 (.pointer (some ⟨b5, o5, none⟩))).run Try.prog w' = .ok (.agg (rcC X)) w')) (by kernel_rfl) (by first | exact ⟨HD6z.out, HD5z.out⟩) (fun hHeld => ?_)
              refine wpAnyH_take (i := 0) (oi := _) (v := ?vr1n0_1) rfl (by kernel_rfl) (by kernel_rfl) (by kernel_rfl) (fun _ _ _ h => h) (Or.inl ⟨by kernel_rfl, ?hr1n0_1⟩) hHeld ?_
              case hr1n0_1 => (intro w hSw; (try dsimp only at hSw); go_simp; try (with_reducible rfl))
              try simp only [List.getElem_toArray, List.getElem_cons_zero, List.getElem_cons_succ, Act.put, List.setIfInBounds_toArray, List.set_cons_zero, List.set_cons_succ]
              refine wpAnyH_take (i := 1) (oi := _) (v := ?vr1n1_2) rfl (by kernel_rfl) (by kernel_rfl) (by kernel_rfl) (fun _ _ _ h => h) (Or.inl ⟨by kernel_rfl, ?hr1n1_2⟩) hHeld ?_
              case hr1n1_2 => (intro w hSw; (try dsimp only at hSw); go_simp; try (with_reducible rfl))
              try simp only [List.getElem_toArray, List.getElem_cons_zero, List.getElem_cons_succ, Act.put, List.setIfInBounds_toArray, List.set_cons_zero, List.set_cons_succ]
              refine wpAnyH_take (i := 2) (oi := _) (v := ?vr1n2_3) rfl (by kernel_rfl) (by kernel_rfl) (by kernel_rfl) (fun _ _ _ h => h) (Or.inl ⟨by kernel_rfl, ?hr1n2_3⟩) hHeld ?_
              case hr1n2_3 => (intro w hSw; (try dsimp only at hSw); go_simp; try (with_reducible rfl))
              try simp only [List.getElem_toArray, List.getElem_cons_zero, List.getElem_cons_succ, Act.put, List.setIfInBounds_toArray, List.set_cons_zero, List.set_cons_succ]
              refine wpAnyH_take (i := 3) (oi := _) (v := ?vr1n3_4) rfl (by kernel_rfl) (by kernel_rfl) (by kernel_rfl) (fun _ _ _ h => h) (Or.inl ⟨by kernel_rfl, ?hr1n3_4⟩) hHeld ?_
              case hr1n3_4 => (intro w hSw; (try dsimp only at hSw); go_simp; try (with_reducible rfl))
              try simp only [List.getElem_toArray, List.getElem_cons_zero, List.getElem_cons_succ, Act.put, List.setIfInBounds_toArray, List.set_cons_zero, List.set_cons_succ]
              refine wpAnyH_take (i := 4) (oi := _) (v := ?vr1n4_5) rfl (by kernel_rfl) (by kernel_rfl) (by kernel_rfl) (fun _ _ _ h => h) (Or.inl ⟨by kernel_rfl, ?hr1n4_5⟩) hHeld ?_
              case hr1n4_5 => (intro w hSw; (try dsimp only at hSw); go_simp; try (with_reducible rfl))
              try simp only [List.getElem_toArray, List.getElem_cons_zero, List.getElem_cons_succ, Act.put, List.setIfInBounds_toArray, List.set_cons_zero, List.set_cons_succ]
              refine wpAnyH_take (i := 5) (oi := _) (v := ?vr1n5_6) rfl (by kernel_rfl) (by kernel_rfl) (by kernel_rfl) (fun _ _ _ h => h) (Or.inl ⟨by kernel_rfl, ?hr1n5_6⟩) hHeld ?_
              case hr1n5_6 => (intro w hSw; (try dsimp only at hSw); go_simp; try (with_reducible rfl))
              try simp only [List.getElem_toArray, List.getElem_cons_zero, List.getElem_cons_succ, Act.put, List.setIfInBounds_toArray, List.set_cons_zero, List.set_cons_succ]
              refine wpAnyH_take (i := 6) (oi := _) (v := ?vr1n6_7) rfl (by kernel_rfl) (by kernel_rfl) (by kernel_rfl) (fun _ _ _ h => h) (Or.inl ⟨by kernel_rfl, ?hr1n6_7⟩) hHeld ?_
              case hr1n6_7 => (intro w hSw; (try dsimp only at hSw); go_simp; try (with_reducible rfl))
              try simp only [List.getElem_toArray, List.getElem_cons_zero, List.getElem_cons_succ, Act.put, List.setIfInBounds_toArray, List.set_cons_zero, List.set_cons_succ]
              refine wpAnyH_take (i := 7) (oi := _) (v := ?vr1n7_8) rfl (by kernel_rfl) (by kernel_rfl) (by kernel_rfl) (fun _ _ _ h => h) (Or.inl ⟨by kernel_rfl, ?hr1n7_8⟩) hHeld ?_
              case hr1n7_8 => (intro w hSw; (try dsimp only at hSw); go_simp; try (with_reducible rfl))
              try simp only [List.getElem_toArray, List.getElem_cons_zero, List.getElem_cons_succ, Act.put, List.setIfInBounds_toArray, List.set_cons_zero, List.set_cons_succ]
              refine wpAnyH_take (i := 8) (oi := _) (v := ?vr1n8_9) rfl (by kernel_rfl) (by kernel_rfl) (by kernel_rfl) (fun _ _ _ h => h) (Or.inl ⟨by kernel_rfl, ?hr1n8_9⟩) hHeld ?_
              case hr1n8_9 => (intro w hSw; (try dsimp only at hSw); go_simp; try (with_reducible rfl))
              try simp only [List.getElem_toArray, List.getElem_cons_zero, List.getElem_cons_succ, Act.put, List.setIfInBounds_toArray, List.set_cons_zero, List.set_cons_succ]
              refine wpAnyH_take (i := 9) (oi := _) (v := ?vr1n9_10) rfl (by kernel_rfl) (by kernel_rfl) (by kernel_rfl) (fun _ _ _ h => h) (Or.inl ⟨by kernel_rfl, ?hr1n9_10⟩) hHeld ?_
              case hr1n9_10 => (intro w hSw; (try dsimp only at hSw); go_simp; try (with_reducible rfl))
              try simp only [List.getElem_toArray, List.getElem_cons_zero, List.getElem_cons_succ, Act.put, List.setIfInBounds_toArray, List.set_cons_zero, List.set_cons_succ]
              refine wpAnyH_take (i := 10) (oi := _) (v := ?vr1n10_11) rfl (by kernel_rfl) (by kernel_rfl) (by kernel_rfl) (fun _ _ _ h => h) (Or.inl ⟨by kernel_rfl, ?hr1n10_11⟩) hHeld ?_
              case hr1n10_11 => (intro w hSw; (try dsimp only at hSw); go_simp; try (with_reducible rfl))
              try simp only [List.getElem_toArray, List.getElem_cons_zero, List.getElem_cons_succ, Act.put, List.setIfInBounds_toArray, List.set_cons_zero, List.set_cons_succ]
              refine wpAnyH_take (i := 11) (oi := _) (v := ?vr1n11_12) rfl (by kernel_rfl) (by kernel_rfl) (by kernel_rfl) (fun _ _ _ h => h) (Or.inl ⟨by kernel_rfl, ?hr1n11_12⟩) hHeld ?_
              case hr1n11_12 => (intro w hSw; (try dsimp only at hSw); go_simp; try (with_reducible rfl))
              try simp only [List.getElem_toArray, List.getElem_cons_zero, List.getElem_cons_succ, Act.put, List.setIfInBounds_toArray, List.set_cons_zero, List.set_cons_succ]
              refine wpAnyH_take (i := 12) (oi := _) (v := ?vr1n12_13) rfl (by kernel_rfl) (by kernel_rfl) (by kernel_rfl) (fun _ _ _ h => h) (Or.inl ⟨by kernel_rfl, ?hr1n12_13⟩) hHeld ?_
              case hr1n12_13 => (intro w hSw; (try dsimp only at hSw); go_simp; try (with_reducible rfl))
              try simp only [List.getElem_toArray, List.getElem_cons_zero, List.getElem_cons_succ, Act.put, List.setIfInBounds_toArray, List.set_cons_zero, List.set_cons_succ]
              refine wpAnyH_take (i := 13) (oi := _) (v := undef) rfl (by kernel_rfl) (by kernel_rfl) (by kernel_rfl) (fun _ _ _ h => h) (Or.inr ⟨by kernel_rfl, rfl⟩) hHeld ?_
              try simp only [List.getElem_toArray, List.getElem_cons_zero, List.getElem_cons_succ, Act.put, List.setIfInBounds_toArray, List.set_cons_zero, List.set_cons_succ]
              refine wpAnyH_take (i := 14) (oi := _) (v := undef) rfl (by kernel_rfl) (by kernel_rfl) (by kernel_rfl) (fun _ _ _ h => h) (Or.inr ⟨by kernel_rfl, rfl⟩) hHeld ?_
              try simp only [List.getElem_toArray, List.getElem_cons_zero, List.getElem_cons_succ, Act.put, List.setIfInBounds_toArray, List.set_cons_zero, List.set_cons_succ]
              refine wpAnyH_take (i := 15) (oi := _) (v := undef) rfl (by kernel_rfl) (by kernel_rfl) (by kernel_rfl) (fun _ _ _ h => h) (Or.inr ⟨by kernel_rfl, rfl⟩) hHeld ?_
              try simp only [List.getElem_toArray, List.getElem_cons_zero, List.getElem_cons_succ, Act.put, List.setIfInBounds_toArray, List.set_cons_zero, List.set_cons_succ]
              refine wpAnyH_take (i := 16) (oi := _) (v := undef) rfl (by kernel_rfl) (by kernel_rfl) (by kernel_rfl) (fun _ _ _ h => h) (Or.inr ⟨by kernel_rfl, rfl⟩) hHeld ?_
              try simp only [List.getElem_toArray, List.getElem_cons_zero, List.getElem_cons_succ, Act.put, List.setIfInBounds_toArray, List.set_cons_zero, List.set_cons_succ]
              refine wpAnyH_take (i := 17) (oi := _) (v := undef) rfl (by kernel_rfl) (by kernel_rfl) (by kernel_rfl) (fun _ _ _ h => h) (Or.inr ⟨by kernel_rfl, rfl⟩) hHeld ?_
              try simp only [List.getElem_toArray, List.getElem_cons_zero, List.getElem_cons_succ, Act.put, List.setIfInBounds_toArray, List.set_cons_zero, List.set_cons_succ]
              refine wpAnyH_take (i := 18) (oi := _) (v := undef) rfl (by kernel_rfl) (by kernel_rfl) (by kernel_rfl) (fun _ _ _ h => h) (Or.inr ⟨by kernel_rfl, rfl⟩) hHeld ?_
              try simp only [List.getElem_toArray, List.getElem_cons_zero, List.getElem_cons_succ, Act.put, List.setIfInBounds_toArray, List.set_cons_zero, List.set_cons_succ]
              refine wpAnyH_take (i := 19) (oi := _) (v := undef) rfl (by kernel_rfl) (by kernel_rfl) (by kernel_rfl) (fun _ _ _ h => h) (Or.inr ⟨by kernel_rfl, rfl⟩) hHeld ?_
              try simp only [List.getElem_toArray, List.getElem_cons_zero, List.getElem_cons_succ, Act.put, List.setIfInBounds_toArray, List.set_cons_zero, List.set_cons_succ]
              refine wpAnyH_take (i := 20) (oi := _) (v := undef) rfl (by kernel_rfl) (by kernel_rfl) (by kernel_rfl) (fun _ _ _ h => h) (Or.inr ⟨by kernel_rfl, rfl⟩) hHeld ?_
              try simp only [List.getElem_toArray, List.getElem_cons_zero, List.getElem_cons_succ, Act.put, List.setIfInBounds_toArray, List.set_cons_zero, List.set_cons_succ]
              refine wpAnyH_take (i := 21) (oi := _) (v := undef) rfl (by kernel_rfl) (by kernel_rfl) (by kernel_rfl) (fun _ _ _ h => h) (Or.inr ⟨by kernel_rfl, rfl⟩) hHeld ?_
              try simp only [List.getElem_toArray, List.getElem_cons_zero, List.getElem_cons_succ, Act.put, List.setIfInBounds_toArray, List.set_cons_zero, List.set_cons_succ]
              refine wpAnyH_take (i := 22) (oi := _) (v := undef) rfl (by kernel_rfl) (by kernel_rfl) (by kernel_rfl) (fun _ _ _ h => h) (Or.inr ⟨by kernel_rfl, rfl⟩) hHeld ?_
              try simp only [List.getElem_toArray, List.getElem_cons_zero, List.getElem_cons_succ, Act.put, List.setIfInBounds_toArray, List.set_cons_zero, List.set_cons_succ]
              refine wpAnyH_take (i := 23) (oi := _) (v := undef) rfl (by kernel_rfl) (by kernel_rfl) (by kernel_rfl) (fun _ _ _ h => h) (Or.inr ⟨by kernel_rfl, rfl⟩) hHeld ?_
              try simp only [List.getElem_toArray, List.getElem_cons_zero, List.getElem_cons_succ, Act.put, List.setIfInBounds_toArray, List.set_cons_zero, List.set_cons_succ]
              refine wpAnyH_take (i := 24) (oi := _) (v := undef) rfl (by kernel_rfl) (by kernel_rfl) (by kernel_rfl) (fun _ _ _ h => h) (Or.inr ⟨by kernel_rfl, rfl⟩) hHeld ?_
              try simp only [List.getElem_toArray, List.getElem_cons_zero, List.getElem_cons_succ, Act.put, List.setIfInBounds_toArray, List.set_cons_zero, List.set_cons_succ]
              refine wpAnyH_take (i := 25) (oi := _) (v := ?vr1n25_14) rfl (by kernel_rfl) (by kernel_rfl) (by kernel_rfl) (fun _ _ _ h => h) (Or.inl ⟨by kernel_rfl, ?hr1n25_14⟩) hHeld ?_
              case hr1n25_14 => (intro w hSw; (try dsimp only at hSw); go_simp; try (with_reducible rfl))
              try simp only [List.getElem_toArray, List.getElem_cons_zero, List.getElem_cons_succ, Act.put, List.setIfInBounds_toArray, List.set_cons_zero, List.set_cons_succ]
              refine wpAnyH_take (i := 26) (oi := _) (v := ?vr1n26_15) rfl (by kernel_rfl) (by kernel_rfl) (by kernel_rfl) (fun _ _ _ h => h) (Or.inl ⟨by kernel_rfl, ?hr1n26_15⟩) hHeld ?_
              case hr1n26_15 => (intro w hSw; (try dsimp only at hSw); go_simp; try (with_reducible rfl))
              try simp only [List.getElem_toArray, List.getElem_cons_zero, List.getElem_cons_succ, Act.put, List.setIfInBounds_toArray, List.set_cons_zero, List.set_cons_succ]
              refine wpAnyH_done (by kernel_rfl) ?_ _
              refine NoPanic.normal ?_
              go_wp2_with fail
              go_meet
              exact ⟨rfl, rfl⟩
            | succ kp =>
              obtain ⟨hcp, hsp⟩ := HPREV.out kp rfl
              have HCP := Lib.hid hcp
              generalize (M[kp]'(by omega)).sq = sp at hsp HCP
              have hsp2 : ¬ sq ≤ sp := by omega
              have hk1 : (kp : Int) + 1 < (n5 : Int) := by omega
              have hk2 : (0 : Int) < (kp : Int) + 1 := by omega
              have hk3 : (kp : Int) < (n5 : Int) := by omega
              have hk4 : (0 : Int) ≤ (kp : Int) + 1 := by omega
              have hk5 : ((kp : Int) + 1).toNat = kp + 1 := by omega
              have hk6 : IntKind.i64.wrap (kp : Int) = (kp : Int) := IntWalk.i64_in _ ⟨by omega, by omega⟩
              clear hcp HPREV
              refine wp_region_noPanic ?_
              refine wp_region_held_drew (S := (fun w' => (Ld 29 (.pointer (some ⟨b6, o6 + (kp + 1) * 7, none⟩))).run Try.prog w' = .ok (.agg (rcC X)) w' ∧ (Ld 29 (.pointer (some ⟨b5, o5 + (kp + 1) * 7, none⟩))).run Try.prog w' = .ok (.agg (rcC X)) w' ∧ w'.cell? ⟨b5, o5 + kp * 7 + 1, none⟩ = some (.int .i64 sp) ∧ w'.cell? ⟨b5, o5 + (kp + 1) * 7 + 1, none⟩ = some (.int .i64 sq))) (by kernel_rfl) (by first | exact ⟨HD6.out, HD5.out, HCP.out, HCS.out⟩) (fun hHeld => ?_)
              refine wpAnyH_take (i := 0) (oi := _) (v := ?vr2n0_16) rfl (by kernel_rfl) (by kernel_rfl) (by kernel_rfl) (fun _ _ _ h => h) (Or.inl ⟨by kernel_rfl, ?hr2n0_16⟩) hHeld ?_
              case hr2n0_16 => (intro w hSw; (try dsimp only at hSw); go_simp; try (with_reducible rfl))
              try simp only [List.getElem_toArray, List.getElem_cons_zero, List.getElem_cons_succ, Act.put, List.setIfInBounds_toArray, List.set_cons_zero, List.set_cons_succ]
              refine wpAnyH_take (i := 1) (oi := _) (v := ?vr2n1_17) rfl (by kernel_rfl) (by kernel_rfl) (by kernel_rfl) (fun _ _ _ h => h) (Or.inl ⟨by kernel_rfl, ?hr2n1_17⟩) hHeld ?_
              case hr2n1_17 => (intro w hSw; (try dsimp only at hSw); go_simp; try (with_reducible rfl))
              try simp only [List.getElem_toArray, List.getElem_cons_zero, List.getElem_cons_succ, Act.put, List.setIfInBounds_toArray, List.set_cons_zero, List.set_cons_succ]
              refine wpAnyH_take (i := 2) (oi := _) (v := ?vr2n2_18) rfl (by kernel_rfl) (by kernel_rfl) (by kernel_rfl) (fun _ _ _ h => h) (Or.inl ⟨by kernel_rfl, ?hr2n2_18⟩) hHeld ?_
              case hr2n2_18 => (intro w hSw; (try dsimp only at hSw); go_simp; try (with_reducible rfl))
              try simp only [List.getElem_toArray, List.getElem_cons_zero, List.getElem_cons_succ, Act.put, List.setIfInBounds_toArray, List.set_cons_zero, List.set_cons_succ]
              refine wpAnyH_take (i := 3) (oi := _) (v := ?vr2n3_19) rfl (by kernel_rfl) (by kernel_rfl) (by kernel_rfl) (fun _ _ _ h => h) (Or.inl ⟨by kernel_rfl, ?hr2n3_19⟩) hHeld ?_
              case hr2n3_19 => (intro w hSw; (try dsimp only at hSw); go_simp; try (with_reducible rfl))
              try simp only [List.getElem_toArray, List.getElem_cons_zero, List.getElem_cons_succ, Act.put, List.setIfInBounds_toArray, List.set_cons_zero, List.set_cons_succ]
              refine wpAnyH_take (i := 4) (oi := _) (v := ?vr2n4_20) rfl (by kernel_rfl) (by kernel_rfl) (by kernel_rfl) (fun _ _ _ h => h) (Or.inl ⟨by kernel_rfl, ?hr2n4_20⟩) hHeld ?_
              case hr2n4_20 => (intro w hSw; (try dsimp only at hSw); go_simp; try (with_reducible rfl))
              try simp only [List.getElem_toArray, List.getElem_cons_zero, List.getElem_cons_succ, Act.put, List.setIfInBounds_toArray, List.set_cons_zero, List.set_cons_succ]
              refine wpAnyH_take (i := 5) (oi := _) (v := ?vr2n5_21) rfl (by kernel_rfl) (by kernel_rfl) (by kernel_rfl) (fun _ _ _ h => h) (Or.inl ⟨by kernel_rfl, ?hr2n5_21⟩) hHeld ?_
              case hr2n5_21 => (intro w hSw; (try dsimp only at hSw); go_simp; try (with_reducible rfl))
              try simp only [List.getElem_toArray, List.getElem_cons_zero, List.getElem_cons_succ, Act.put, List.setIfInBounds_toArray, List.set_cons_zero, List.set_cons_succ]
              refine wpAnyH_take (i := 6) (oi := _) (v := ?vr2n6_22) rfl (by kernel_rfl) (by kernel_rfl) (by kernel_rfl) (fun _ _ _ h => h) (Or.inl ⟨by kernel_rfl, ?hr2n6_22⟩) hHeld ?_
              case hr2n6_22 => (intro w hSw; (try dsimp only at hSw); go_simp; try (with_reducible rfl))
              try simp only [List.getElem_toArray, List.getElem_cons_zero, List.getElem_cons_succ, Act.put, List.setIfInBounds_toArray, List.set_cons_zero, List.set_cons_succ]
              refine wpAnyH_take (i := 7) (oi := _) (v := ?vr2n7_23) rfl (by kernel_rfl) (by kernel_rfl) (by kernel_rfl) (fun _ _ _ h => h) (Or.inl ⟨by kernel_rfl, ?hr2n7_23⟩) hHeld ?_
              case hr2n7_23 => (intro w hSw; (try dsimp only at hSw); go_simp; try (with_reducible rfl))
              try simp only [List.getElem_toArray, List.getElem_cons_zero, List.getElem_cons_succ, Act.put, List.setIfInBounds_toArray, List.set_cons_zero, List.set_cons_succ]
              refine wpAnyH_take (i := 8) (oi := _) (v := ?vr2n8_24) rfl (by kernel_rfl) (by kernel_rfl) (by kernel_rfl) (fun _ _ _ h => h) (Or.inl ⟨by kernel_rfl, ?hr2n8_24⟩) hHeld ?_
              case hr2n8_24 => (intro w hSw; (try dsimp only at hSw); go_simp; try (with_reducible rfl))
              try simp only [List.getElem_toArray, List.getElem_cons_zero, List.getElem_cons_succ, Act.put, List.setIfInBounds_toArray, List.set_cons_zero, List.set_cons_succ]
              refine wpAnyH_take (i := 9) (oi := _) (v := ?vr2n9_25) rfl (by kernel_rfl) (by kernel_rfl) (by kernel_rfl) (fun _ _ _ h => h) (Or.inl ⟨by kernel_rfl, ?hr2n9_25⟩) hHeld ?_
              case hr2n9_25 => (intro w hSw; (try dsimp only at hSw); go_simp; try (with_reducible rfl))
              try simp only [List.getElem_toArray, List.getElem_cons_zero, List.getElem_cons_succ, Act.put, List.setIfInBounds_toArray, List.set_cons_zero, List.set_cons_succ]
              refine wpAnyH_take (i := 10) (oi := _) (v := ?vr2n10_26) rfl (by kernel_rfl) (by kernel_rfl) (by kernel_rfl) (fun _ _ _ h => h) (Or.inl ⟨by kernel_rfl, ?hr2n10_26⟩) hHeld ?_
              case hr2n10_26 => (intro w hSw; (try dsimp only at hSw); go_simp; try (with_reducible rfl))
              try simp only [List.getElem_toArray, List.getElem_cons_zero, List.getElem_cons_succ, Act.put, List.setIfInBounds_toArray, List.set_cons_zero, List.set_cons_succ]
              refine wpAnyH_take (i := 11) (oi := _) (v := ?vr2n11_27) rfl (by kernel_rfl) (by kernel_rfl) (by kernel_rfl) (fun _ _ _ h => h) (Or.inl ⟨by kernel_rfl, ?hr2n11_27⟩) hHeld ?_
              case hr2n11_27 => (intro w hSw; (try dsimp only at hSw); go_simp; try (with_reducible rfl))
              try simp only [List.getElem_toArray, List.getElem_cons_zero, List.getElem_cons_succ, Act.put, List.setIfInBounds_toArray, List.set_cons_zero, List.set_cons_succ]
              refine wpAnyH_take (i := 12) (oi := _) (v := ?vr2n12_28) rfl (by kernel_rfl) (by kernel_rfl) (by kernel_rfl) (fun _ _ _ h => h) (Or.inl ⟨by kernel_rfl, ?hr2n12_28⟩) hHeld ?_
              case hr2n12_28 => (intro w hSw; (try dsimp only at hSw); go_simp; try (with_reducible rfl))
              try simp only [List.getElem_toArray, List.getElem_cons_zero, List.getElem_cons_succ, Act.put, List.setIfInBounds_toArray, List.set_cons_zero, List.set_cons_succ]
              refine wpAnyH_take (i := 13) (oi := _) (v := ?vr2n13_29) rfl (by kernel_rfl) (by kernel_rfl) (by kernel_rfl) (fun _ _ _ h => h) (Or.inl ⟨by kernel_rfl, ?hr2n13_29⟩) hHeld ?_
              case hr2n13_29 => (intro w hSw; (try dsimp only at hSw); go_simp; try (with_reducible rfl))
              try simp only [List.getElem_toArray, List.getElem_cons_zero, List.getElem_cons_succ, Act.put, List.setIfInBounds_toArray, List.set_cons_zero, List.set_cons_succ]
              refine wpAnyH_take (i := 14) (oi := _) (v := ?vr2n14_30) rfl (by kernel_rfl) (by kernel_rfl) (by kernel_rfl) (fun _ _ _ h => h) (Or.inl ⟨by kernel_rfl, ?hr2n14_30⟩) hHeld ?_
              case hr2n14_30 => (intro w hSw; (try dsimp only at hSw); go_simp; try (with_reducible rfl))
              try simp only [List.getElem_toArray, List.getElem_cons_zero, List.getElem_cons_succ, Act.put, List.setIfInBounds_toArray, List.set_cons_zero, List.set_cons_succ]
              refine wpAnyH_take (i := 15) (oi := _) (v := ?vr2n15_31) rfl (by kernel_rfl) (by kernel_rfl) (by kernel_rfl) (fun _ _ _ h => h) (Or.inl ⟨by kernel_rfl, ?hr2n15_31⟩) hHeld ?_
              case hr2n15_31 => (intro w hSw; (try dsimp only at hSw); go_simp; try (with_reducible rfl))
              try simp only [List.getElem_toArray, List.getElem_cons_zero, List.getElem_cons_succ, Act.put, List.setIfInBounds_toArray, List.set_cons_zero, List.set_cons_succ]
              refine wpAnyH_take (i := 16) (oi := _) (v := ?vr2n16_32) rfl (by kernel_rfl) (by kernel_rfl) (by kernel_rfl) (fun _ _ _ h => h) (Or.inl ⟨by kernel_rfl, ?hr2n16_32⟩) hHeld ?_
              case hr2n16_32 => (intro w hSw; (try dsimp only at hSw); go_simp; try (with_reducible rfl))
              try simp only [List.getElem_toArray, List.getElem_cons_zero, List.getElem_cons_succ, Act.put, List.setIfInBounds_toArray, List.set_cons_zero, List.set_cons_succ]
              refine wpAnyH_take (i := 17) (oi := _) (v := ?vr2n17_33) rfl (by kernel_rfl) (by kernel_rfl) (by kernel_rfl) (fun _ _ _ h => h) (Or.inl ⟨by kernel_rfl, ?hr2n17_33⟩) hHeld ?_
              case hr2n17_33 => (intro w hSw; (try dsimp only at hSw); go_simp; try (with_reducible rfl))
              try simp only [List.getElem_toArray, List.getElem_cons_zero, List.getElem_cons_succ, Act.put, List.setIfInBounds_toArray, List.set_cons_zero, List.set_cons_succ]
              refine wpAnyH_take (i := 18) (oi := _) (v := ?vr2n18_34) rfl (by kernel_rfl) (by kernel_rfl) (by kernel_rfl) (fun _ _ _ h => h) (Or.inl ⟨by kernel_rfl, ?hr2n18_34⟩) hHeld ?_
              case hr2n18_34 => (intro w hSw; (try dsimp only at hSw); go_simp; try (with_reducible rfl))
              try simp only [List.getElem_toArray, List.getElem_cons_zero, List.getElem_cons_succ, Act.put, List.setIfInBounds_toArray, List.set_cons_zero, List.set_cons_succ]
              refine wpAnyH_take (i := 19) (oi := _) (v := ?vr2n19_35) rfl (by kernel_rfl) (by kernel_rfl) (by kernel_rfl) (fun _ _ _ h => h) (Or.inl ⟨by kernel_rfl, ?hr2n19_35⟩) hHeld ?_
              case hr2n19_35 => (intro w hSw; (try dsimp only at hSw); go_simp; try (with_reducible rfl))
              try simp only [List.getElem_toArray, List.getElem_cons_zero, List.getElem_cons_succ, Act.put, List.setIfInBounds_toArray, List.set_cons_zero, List.set_cons_succ]
              refine wpAnyH_take (i := 20) (oi := _) (v := ?vr2n20_36) rfl (by kernel_rfl) (by kernel_rfl) (by kernel_rfl) (fun _ _ _ h => h) (Or.inl ⟨by kernel_rfl, ?hr2n20_36⟩) hHeld ?_
              case hr2n20_36 => (intro w hSw; (try dsimp only at hSw); go_simp; try (with_reducible rfl))
              try simp only [List.getElem_toArray, List.getElem_cons_zero, List.getElem_cons_succ, Act.put, List.setIfInBounds_toArray, List.set_cons_zero, List.set_cons_succ]
              refine wpAnyH_take (i := 21) (oi := _) (v := ?vr2n21_37) rfl (by kernel_rfl) (by kernel_rfl) (by kernel_rfl) (fun _ _ _ h => h) (Or.inl ⟨by kernel_rfl, ?hr2n21_37⟩) hHeld ?_
              case hr2n21_37 => (intro w hSw; (try dsimp only at hSw); go_simp; try (with_reducible rfl))
              try simp only [List.getElem_toArray, List.getElem_cons_zero, List.getElem_cons_succ, Act.put, List.setIfInBounds_toArray, List.set_cons_zero, List.set_cons_succ]
              refine wpAnyH_take (i := 22) (oi := _) (v := ?vr2n22_38) rfl (by kernel_rfl) (by kernel_rfl) (by kernel_rfl) (fun _ _ _ h => h) (Or.inl ⟨by kernel_rfl, ?hr2n22_38⟩) hHeld ?_
              case hr2n22_38 => (intro w hSw; (try dsimp only at hSw); go_simp; try (with_reducible rfl))
              try simp only [List.getElem_toArray, List.getElem_cons_zero, List.getElem_cons_succ, Act.put, List.setIfInBounds_toArray, List.set_cons_zero, List.set_cons_succ]
              refine wpAnyH_take (i := 23) (oi := _) (v := ?vr2n23_39) rfl (by kernel_rfl) (by kernel_rfl) (by kernel_rfl) (fun _ _ _ h => h) (Or.inl ⟨by kernel_rfl, ?hr2n23_39⟩) hHeld ?_
              case hr2n23_39 => (intro w hSw; (try dsimp only at hSw); go_simp; try (with_reducible rfl))
              try simp only [List.getElem_toArray, List.getElem_cons_zero, List.getElem_cons_succ, Act.put, List.setIfInBounds_toArray, List.set_cons_zero, List.set_cons_succ]
              refine wpAnyH_take (i := 24) (oi := _) (v := ?vr2n24_40) rfl (by kernel_rfl) (by kernel_rfl) (by kernel_rfl) (fun _ _ _ h => h) (Or.inl ⟨by kernel_rfl, ?hr2n24_40⟩) hHeld ?_
              case hr2n24_40 => (intro w hSw; (try dsimp only at hSw); go_simp; try (with_reducible rfl))
              try simp only [List.getElem_toArray, List.getElem_cons_zero, List.getElem_cons_succ, Act.put, List.setIfInBounds_toArray, List.set_cons_zero, List.set_cons_succ]
              refine wpAnyH_take (i := 25) (oi := _) (v := ?vr2n25_41) rfl (by kernel_rfl) (by kernel_rfl) (by kernel_rfl) (fun _ _ _ h => h) (Or.inl ⟨by kernel_rfl, ?hr2n25_41⟩) hHeld ?_
              case hr2n25_41 => (intro w hSw; (try dsimp only at hSw); go_simp; try (with_reducible rfl))
              try simp only [List.getElem_toArray, List.getElem_cons_zero, List.getElem_cons_succ, Act.put, List.setIfInBounds_toArray, List.set_cons_zero, List.set_cons_succ]
              refine wpAnyH_take (i := 26) (oi := _) (v := ?vr2n26_42) rfl (by kernel_rfl) (by kernel_rfl) (by kernel_rfl) (fun _ _ _ h => h) (Or.inl ⟨by kernel_rfl, ?hr2n26_42⟩) hHeld ?_
              case hr2n26_42 => (intro w hSw; (try dsimp only at hSw); go_simp; try (with_reducible rfl))
              try simp only [List.getElem_toArray, List.getElem_cons_zero, List.getElem_cons_succ, Act.put, List.setIfInBounds_toArray, List.set_cons_zero, List.set_cons_succ]
              refine wpAnyH_done (by kernel_rfl) ?_ _
              refine NoPanic.normal ?_
              go_wp2_with fail
              go_meet
              exact ⟨rfl, rfl⟩
          case rest =>
            obtain ⟨rfl, rfl⟩ := hcut
            obtain ⟨D, hD, hO⟩ := HD.out
            have hown := hD.drew
            have hcs := HCS.out
            have hkey : keyOf Try.prog 3 (.int .i64 sq) = some (.int .i64 sq) := keyOf_int_mk Try.underlying3 (by have := HQX.out; unfold QOk at this; rw [HSQ.out ()] at this; exact this)
            have HO := Lib.hid (Ones.put hO hD.isMap X)
            rw [HSQ.out ()] at HO
            have HOW := Lib.hid hown
            have HBd := Lib.hid HBk.out.drew
            have HKY := Lib.hid hkey
            clear hD hO hown hkey HD HD5 HD6 HCS HPREV hneq
            have tokA : True := trivial
            go_wp2_with (have _t := tokA; clear tokA; at_mapUpdate; refine wpList_mapUpdate_own _ rfl _ _ _ 26 rfl 3 3 lawInt Try.underlying26 _ mp k _ rfl HOW.out (by unfold maxLen; omega) _ _ _ rfl rfl HKY.out _ [] (plainElem_int Try.underlying3 (by decide)) ?_; intro w4 hown1 hgrow1; have HO4 := Lib.hid hown1; have HG4 := Lib.hid hgrow1; clear hown1 hgrow1)
            go_roundw
            case rel => exact ⟨k + 1, by go_num, by omega, Lib.hid ⟨_, HO4.out, by rw [HTS.out]; exact HO.out⟩, Lib.hid (HBd.out.grown HG4.out (Nat.le_trans (Nat.le_of_lt HMN.out) HBd.out.size) (fun j hj => by cases hj; exact Nat.le_refl _))⟩
            case measure => simp [intOf] <;> omega
        · have hltz : ¬ (k : Int) < (n5 : Int) := by omega
          have hke : k = n5 := by omega
          obtain ⟨D, hD, hO⟩ := HD.out
          rw [hke] at hD hO
          rw [HN5.out, List.take_of_length_le (Nat.le_refl _)] at hO
          have HD2 := Lib.hid hD
          have HO2 := Lib.hid hO
          have HMr : Hid (mp < wr.heap.size) := Lib.hid (Nat.lt_of_lt_of_le HMN.out HBk.out.size)
          have HBr := Lib.hid (HB3.out.trans (HBk.out.mono HMP.out))
          clear hD hO HD HBk HB3 HR53 HR63
          have HN0 := Lib.hid (ownR_none wr wr.heap.size (Nat.le_refl _))
          have hal := (Below.refl wr.heap.size wr).alloc (Nat.le_refl _) (.cells #[] 29)
          have HB0 := Lib.hid hal
          have HX0 := Lib.hid (RsAt.wide (HRA.out.below (HBr.out.trans (hal.mono HBr.out.size))) (Nat.le_trans HBr.out.size hal.size))
          have HYr := Lib.hid (RsAt.wide (HRB.out.below HBr.out) HBr.out.size)
          have HZ0 := Lib.hid hal.size
          have H40 := Lib.hid HL.out
          clear hal
          have tokA : True := trivial
          go_upto_region 15 with (first
            | (have _t := tokA; clear tokA; at_builtin; go_loud (refine wpList_appRs rfl (.tmp 72) (.tmp 73) rfl wr.heap.size _ 0 [] rfl HN0.out A nA cA LA rfl HNA.out HX0.out HNNA.out (by rw [HNA.out]; have := H40.out; omega) HZ0.out ?_; intro v1 w5 hown hg; have HO5 := Lib.hid hown; have HB5 := Lib.hid (HB0.out.grown hg HZ0.out (fun q hq => by cases hq; exact Nat.le_refl _)); have HY5 := Lib.hid (RsAt.wide (RsAt.below HYr.out HB5.out) HB5.out.size); have HM5 := Lib.hid ((HD2.out.alloc (.cells #[] 29)).kept hg (fun h => by have h1 := HMr.out; injection h with h; have h2 : mp = wr.heap.size := h; omega)); clear hown hg; have tokB : True := trivial))
            | (have _t := tokB; clear tokB; at_builtin; go_loud (refine wpList_appRs rfl (.tmp 74) (.tmp 75) rfl wr.heap.size _ (0 + nA) ([] ++ LA) rfl HO5.out B nB cB LB rfl HNB.out HY5.out HNNB.out (by rw [HNA.out, HNB.out]; have := H40.out; omega) HB5.out.size ?_; intro v2 w6 hown hg; have HO6 := Lib.hid hown; have HB6 := Lib.hid (HB5.out.grown hg HB5.out.size (fun q hq => (HO5.out.lt q hq).1)); have HM6 := Lib.hid (HM5.out.kept hg (fun h => by have h1 := (HO5.out.lt mp h.symm).1; have h2 := HMr.out; omega)); clear hown hg)))
          have HBF := Lib.hid (HBr.out.trans (HB6.out.mono HBr.out.size))
          obtain ⟨hn9, hrec⟩ := RecAt.of_own HO6.out
          obtain ⟨A9, c9, he9, hn9', hr9, hl9⟩ := hrec.rs
          subst he9
          have HX9 : Hid (RsAt w6 w6.heap.size A9 (LA ++ LB)) := Lib.hid (by simpa using hr9)
          have HN9 : Hid (nA + nB = (LA ++ LB).length) := Lib.hid (by rw [List.length_append, ← HNA.out, ← HNB.out])
          have hl80 : nA + nB ≤ 80 := by have := HL.out; rw [HNA.out, HNB.out]; omega
          rw [← hn9, Nat.zero_add] at *
          obtain ⟨n9, hn9e⟩ : ∃ n, n = nA + nB := ⟨_, rfl⟩
          rw [← hn9e] at HN9 hl80 ⊢
          clear hn9 hrec hn9' hr9 hl9 hn9e HO6 HO5 HM5 HB5 HN0 HX0 HY5 HYr HZ0 HB0 HD2 HB6
          go_wp2
          go_loopw [10] (fun i wx => ∃ k : Nat, i = .int .i64 k ∧ k ≤ n9 ∧ Hid (wx = w6)) (fun i _ => n9 - (intOf i).toNat)
          case atStart => exact ⟨0, rfl, Nat.zero_le _, Lib.hid rfl⟩
          case round =>
            obtain ⟨k2, rfl, hk2, HW⟩ := hrel
            have hw := HW.out
            rw [hw]
            clear hw HW
            by_cases hlt2 : k2 < n9
            · have hltz2 : (k2 : Int) < (n9 : Int) := by omega
              have hkM : k2 < (LA ++ LB).length := by rw [← HN9.out]; exact hlt2
              obtain ⟨b9, o9, rfl, hb9, hc9⟩ := HX9.out.cells k2 hkM
              have hcs : w6.cell? ⟨b9, o9 + k2 * 7 + 1, none⟩ = some (.int .i64 (LA ++ LB)[k2].sq) := hc9 k2 hkM 1 _ rfl
              have HC1 : Hid (∀ c, D.atKey (.int .i64 (LA ++ LB)[k2].sq) (.lit (.int .i64 0)) = .lit (.int .i64 c) → c = 1) := Lib.hid (fun c h => by
                obtain ⟨y, hy, hyq⟩ := HM.out.all (List.getElem_mem hkM)
                have h1 := HO2.out y hy
                rw [hyq, h] at h1
                injection h1 with h1
                injection h1)
              have hqk : QOk (LA ++ LB)[k2] := HQ.out _ (List.getElem_mem hkM)
              have hkey : keyOf Try.prog 3 (.int .i64 (LA ++ LB)[k2].sq) = some (.int .i64 (LA ++ LB)[k2].sq) := keyOf_int_mk Try.underlying3 hqk
              have HKY := Lib.hid hkey
              generalize (LA ++ LB)[k2].sq = sq at hcs HC1 HKY
              clear hqk hkey hc9
              have tokC : True := trivial
              go_wp2_with (have _t := tokC; clear tokC; at_lookup; refine wpList_lookup_own_int _ rfl _ _ 26 rfl 3 3 .i64 lawInt Try.underlying26 Try.underlying3 (zeroInt _) mp _ D rfl HM6.out _ _ rfl HKY.out ?_; intro c hat hwc; obtain rfl : c = 1 := HC1.out c hat; clear hat hwc)
              go_roundw
              case rel => exact ⟨k2 + 1, by go_num, by omega, Lib.hid (by simp)⟩
              case measure => simp [intOf] <;> omega
            · have hltz2 : ¬ (k2 : Int) < (n9 : Int) := by omega
              go_wp2_with fail
              refine (WK.out _).mono ?_
              rintro e w9 ⟨rfl, hb⟩
              have HBe := Lib.hid (HBF.out.trans (hb.mono HBF.out.size))
              clear hb
              go_wp2
              go_ret
              exact ⟨rfl, HBe.out⟩
end Go.Proofs.Ytccbohjcbhibkaa
