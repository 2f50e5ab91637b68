/- The walk through the law JournalBack: it answers true. Condition: texts and slices that a memory can hold. -/
import Derived.Test.YtccbohjcbhibkaaJnX
import Derived.Test.YtccbohjcbhibkaaJnU
import Derived.Test.YtccbohjcbhibkaaJnO
namespace Go.Proofs.Ytccbohjcbhibkaa
set_option linter.unusedVariables false
set_option linter.unusedSimpArgs false
set_option maxRecDepth 100000
open Go.RowKit
attribute [local go_sem ↓] Go.wp_at_zero Go.wp_at_succ
attribute [local go_sem ↓] ix_dat ld_rec

theorem Blk.grown {w w' : World} {b : Nat} {e : TypeId} {C : Array Value} {row : Option Nat} (h : Blk w b e C) (hg : w.grownBy w' row) (hr : ∀ k, row = some k → k < b) : Blk w' b e C := by
  obtain ⟨lo, hi, h1, h2⟩ := h
  have hb : b < w.heap.size := (Array.getElem?_eq_some_iff.1 h1).1
  refine ⟨lo, hi, ?_, h2⟩
  rw [hg.block b hb (fun e => by have := hr b e.symm; omega)]
  exact h1
theorem RecAt.grown {w w' : World} {B : Nat} {v : Value} {L : List Rc} {row : Option Nat} (h : RecAt w B v L) (hg : w.grownBy w' row) (hr : ∀ k, row = some k → k < B) : RecAt w' B v L := by
  rcases h with h | ⟨g, cap, e1, e2, e3, e4, e5, e6⟩
  · exact Or.inl h
  · have hb := hg.block g e3 (fun e => by have := hr g e.symm; omega)
    exact Or.inr ⟨g, cap, e1, e2, Nat.lt_of_lt_of_le e3 hg.size, e4, e5, fun j hj => ⟨(World.cell?_of_block (a := ⟨g, 0 + j, none⟩) hb).trans (e6 j hj).1, (World.frozen?_of_block (a := ⟨g, 0 + j, none⟩) hb).trans (e6 j hj).2⟩⟩
theorem RecAt.rsAt {w : World} {B n c : Nat} {A : Option Addr} {L : List Rc} (h : RecAt w B (.slice A n c) L) : n = L.length ∧ (A = none → L = [] ∧ c = 0) ∧ RsAt w w.heap.size A L := by
  obtain ⟨A', c', he, hn, hr, _⟩ := h.rs
  injection he with h1 h2 h3
  subst h1
  subst h2
  subst h3
  exact ⟨rfl, hn, hr⟩
theorem own_ne {v : Value} {m q : Nat} (h : ∀ k, v.ownBlock = some k → k < m) (hq : m ≤ q) : v.ownBlock = none ∨ v.ownBlock ≠ some q := by
  cases hv : v.ownBlock with
  | none => exact Or.inl rfl
  | some k =>
    refine Or.inr fun e => ?_
    have h1 := h k hv
    have h2 : k = q := Option.some.inj e
    omega
theorem secs_short (G : List Rc) (h : ∀ x ∈ G, RcOk x) : ∀ s ∈ secs G, s.length ≤ 64 := by
  intro s hs
  obtain ⟨r, hr, hs⟩ := List.mem_flatMap.1 hs
  have hr := h r hr
  rw [six_ok hr] at hs
  have hd : ∀ k, k < 4 → (dk r k).length ≤ 64 := by
    intro k hk
    have := hr.s k hk
    unfold okS at this
    rw [Bool.or_eq_true, beq_iff_eq] at this
    rcases this with h | h
    · have : dk r k = [] := by simpa [em] using h
      rw [this]; decide
    · omega
  simp only [List.mem_cons, List.not_mem_nil, or_false] at hs
  rcases hs with rfl | rfl | rfl | rfl | rfl | rfl
  · rw [secV_len mgH rfl 5 r]; decide
  · exact hd 0 (by decide)
  · exact hd 1 (by decide)
  · exact hd 2 (by decide)
  · exact hd 3 (by decide)
  · rw [secV_len mgC rfl 5 r]; decide
theorem bk_data (ep : Int) (k : Nat) {r : Rc} (h : Data r) : Data (bkR ep k r) := fun j => h j
set_option maxHeartbeats 4000000 in
theorem journalBack_walk (A : Option Addr) (c : Nat) (L : List Rc) (hl : L.length ≤ maxLen) (hd : ∀ r ∈ L, Data r) (ep : Int) (w : World) (hA : RsAt w w.heap.size A L) :
    Calls Try.prog 6 #[.slice A L.length c, .int .i64 ep] w fun e w' => e = .returned (.bool true) ∧ Below w.heap.size w w' := by
  have hl2 : L.length ≤ 9223372036854775807 := hl
  have WK := Lib.hid wakes_any
  have GR := Lib.hid (great_any A c L hl hd w hA)
  have RT := Lib.hid (fun r (h : Data r) w => right_any r h w)
  have SX := Lib.hid (fun r (h : Data r) w => six_any 5 r h w)
  have HA := Lib.hid hA
  have HDA := Lib.hid hd
  generalize greatB L = gb at GR
  clear hA hd hl
  go_enter Try.func6, Try.ntmps6
  go_wp2_with fail
  refine GR.out.mono ?_
  rintro e w1 ⟨rfl, hw1⟩
  rw [hw1]
  clear hw1 GR
  cases gb
  rotate_left
  · skip
    go_wp2_with fail
    refine (WK.out _).mono ?_
    rintro e w9 ⟨rfl, hb⟩
    go_wp2
    go_ret
    exact ⟨rfl, hb⟩
  by_cases h8 : 8 < L.length
  · have h8i : (8 : Int) < L.length := by omega
    go_wp2_with fail
    refine (WK.out _).mono ?_
    rintro e w9 ⟨rfl, hb⟩
    go_wp2
    go_ret
    exact ⟨rfl, hb⟩
  have h8i : ¬ (8 : Int) < L.length := by omega
  have h8n : L.length ≤ 8 := by omega
  by_cases he1 : ep < 1
  · skip
    go_wp2_with fail
    refine (WK.out _).mono ?_
    rintro e w9 ⟨rfl, hb⟩
    go_wp2
    go_ret
    exact ⟨rfl, hb⟩
  by_cases he2 : 2147483647 ≤ ep
  · skip
    go_wp2_with fail
    refine (WK.out _).mono ?_
    rintro e w9 ⟨rfl, hb⟩
    go_wp2
    go_ret
    exact ⟨rfl, hb⟩
  have he2' : ¬ 2147483647 ≤ ep := he2
  have hwe : IntKind.i64.wrap (ep + 1) = ep + 1 := IntWalk.i64_in _ ⟨by omega, by omega⟩
  clear h8
  go_wp2
  go_loopw [5, 6, 7] (fun v5 v6 i wr => ∃ k : Nat, k ≤ L.length ∧ i = .int .i64 k ∧ wr.ownsRow w.heap.size 9 1 v5 ((bkL ep L k).length * 6) ((secs (bkL ep L k)).map encStr) ∧ (∃ B, w.heap.size ≤ B ∧ (∀ q, v5.ownBlock = some q → q < B) ∧ RecAt wr B v6 (bkL ep L k).reverse) ∧ Below w.heap.size w wr) (fun _ _ i _ => 8 - (intOf i).toNat)
  case atStart => exact ⟨0, by omega, rfl, ⟨rfl, Or.inl ⟨rfl, rfl⟩⟩, ⟨w.heap.size, Nat.le_refl _, fun q hq => by simp [Value.ownBlock] at hq, Or.inl ⟨rfl, rfl⟩⟩, Below.refl _ _⟩
  case round =>
    obtain ⟨k, hk, rfl, hown, ⟨Bw, hBw, hq5, hrec⟩, hbel⟩ := hrel
    have HO := Lib.hid hown
    have HQ5 := Lib.hid (fun q hq => And.intro (hq5 q hq) (hown.lt q hq).2)
    have HBw := Lib.hid hBw
    have HR := Lib.hid hrec
    have HB := Lib.hid hbel
    clear hown hrec hbel hq5 hBw
    by_cases hlt : k < L.length
    · have hlt' : (k : Int) < L.length := by omega
      have h0 : L ≠ [] := by intro h; rw [h] at hlt; simp at hlt
      obtain ⟨b, o, rfl, hbw, hcells⟩ : ∃ b o, A = some ⟨b, o, none⟩ ∧ b < w.heap.size ∧ ∀ j (hj : j < L.length), wr.rangeAt b (o + j * 7) (encR L[j]) := by
        rcases HA.out.below HB.out with h | h
        · exact absurd h h0
        · exact h
      have hld := RsAt.ld (B := w.heap.size) hcells k hlt
      have HDk := Lib.hid (HDA.out L[k] (List.getElem_mem hlt))
      have HY := Lib.hid (bk_yes (ep := ep) (L := L) (k := k) hlt)
      have HN := Lib.hid (bk_no (ep := ep) (L := L) (k := k) hlt)
      generalize L[k] = r at hld HDk HY HN
      clear h0 hcells
      have tokA : True := trivial
      go_upto_region 9 with (have _t := tokA; refine wpList_store_blk rfl 29 _ _ rfl wr.heap.size (rcC r) rfl rfl zrec 29 (Blk.new wr 29 zrec 0 0 (Or.inl (Nat.le_refl _))) (by rw [rcC_size]; rfl) (by rw [rcC_size]; exact size_rec) (rcC_one _) ?_; clear tokA)
      have HK1 := Lib.hid ((Blk.new wr 29 zrec 0 0 (Or.inl (Nat.le_refl _))).setAll (cs := rcC r) (by rw [rcC_size]; rfl))
      have hal := (Below.refl wr.heap.size wr).alloc (Nat.le_refl _) (.cells zrec 29)
      have HS1 := Lib.hid (Below.setCells hal (Nat.le_refl _) 0 (rcC r).toList)
      clear hal hld
      generalize World.setCells _ _ _ _ = w2 at HK1 HS1 ⊢
      have hc0 := HK1.out.cell 0
      have hf0 := HK1.out.free 0 (by rw [rcC_size]; decide)
      go_upto_region 10 with fail
      have HK2 := Lib.hid (HK1.out.set 0 (.int .i64 ep))
      have HS2 := Lib.hid (Below.setCell (p := ⟨wr.heap.size, 0, none⟩) HS1.out (Nat.le_refl _) (.int .i64 ep))
      clear hc0 hf0 HK1 HS1
      generalize World.setCell _ _ _ = w3 at HK2 HS2 ⊢
      have hc0 := HK2.out.cell 1
      have hf0 := HK2.out.free 1 (by rw [Array.size_setIfInBounds, rcC_size]; decide)
      have hw7 : IntKind.i64.wrap (7 * (k : Int)) = 7 * (k : Int) := IntWalk.i64_in _ ⟨by omega, by omega⟩
      have hw8 : IntKind.i64.wrap (100 - 7 * (k : Int)) = 100 - 7 * (k : Int) := IntWalk.i64_in _ ⟨by omega, by omega⟩
      go_upto_region 11 with fail
      have HK3 : Hid (Blk _ wr.heap.size 29 (rcC (bkR ep k r))) := Lib.hid (HK2.out.set 1 (.int .i64 (100 - 7 * (k : Int))))
      have HS3 := Lib.hid (Below.setCell (p := ⟨wr.heap.size, 1, none⟩) HS2.out (Nat.le_refl _) (.int .i64 (100 - 7 * (k : Int))))
      clear hc0 hf0 HK2 HS2 hw7 hw8
      generalize World.setCell _ _ _ = w4 at HK3 HS3 ⊢
      have HDX := Lib.hid (bk_data ep k HDk.out)
      generalize bkR ep k r = X at HK3 HDX HY HN
      have hlt4 := HK3.out.lt
      have HB4 := Lib.hid (Below.step HB.out HS3.out)
      have HO4 := Lib.hid (HO.out.kept (grown_of_below HS3.out) (by cases Value.ownBlock _ <;> simp))
      have HR4 := Lib.hid (HR.out.step HS3.out)
      clear HO HR HS3
      have hld := HK3.out.ldR
      have hbl : (bkL ep L k).length ≤ 8 := by have := bk_len ep L k; omega
      go_wp2_with fail
      refine (RT.out _ HDX.out _).mono ?_
      rintro e w5 ⟨rfl, hb⟩
      have HK5 := Lib.hid (HK3.out.step hb)
      have HO5 := Lib.hid (HO4.out.kept (grown_of_below hb) (by cases Value.ownBlock _ <;> simp))
      have HR5 := Lib.hid (HR4.out.step hb)
      have HB5 := Lib.hid (Below.step HB4.out hb)
      clear hb hld hlt4 HK3 HO4 HR4 HB4
      generalize rightB X = rb at HY HN ⊢
      cases rb
      · have HE := Lib.hid (HN.out rfl)
        go_wp2
        go_roundw
        case rel => exact ⟨k + 1, by omega, by go_num, by rw [HE.out]; exact HO5.out, ⟨Bw, HBw.out, fun q hq => (HQ5.out q hq).1, by rw [HE.out]; exact HR5.out⟩, HB5.out⟩
        case measure => simp [intOf] <;> omega
      · have HE := Lib.hid (HY.out rfl)
        have hld := HK5.out.ldR
        go_wp2_with fail
        refine (SX.out _ HDX.out _).mono ?_
        rintro e w6 ⟨v6, rfl, hown, hb⟩
        obtain ⟨A6, c6, rfl, hq1, hst, hq2, hq3, hq4⟩ := own_strs hown
        have HN6 := Lib.hid hq4
        have HS6 := Lib.hid hst
        clear hown hq1 hst hq2 hq3 hq4
        have HK6 := Lib.hid (HK5.out.step hb)
        have HO6 := Lib.hid (HO5.out.kept (grown_of_below hb) (by cases Value.ownBlock _ <;> simp))
        have HR6 := Lib.hid (HR5.out.step hb)
        have HB6 := Lib.hid (Below.step HB5.out hb)
        clear hb hld HK5 HO5 HR5 HB5
        obtain ⟨Aw, cw, rfl, hnw, _, _⟩ := HR6.out.rs
        have HNW := Lib.hid hnw
        clear hnw
        have HL6 : Hid ((sixV 5 X).length = 6) := Lib.hid (sixV_len 5 X)
        have tokA : True := trivial
        go_upto_region 13 with (have _t := tokA; clear tokA; at_builtin; go_loud (refine wpList_app rfl (.tmp 46) (.tmp 48) rfl w.heap.size _ _ _ rfl HO6.out A6 _ c6 (sixV 5 X) rfl (by first | rfl | exact HL6.out.symm) HS6.out HN6.out (by have := HL6.out; omega) HB6.out.size ?_; intro v7 w7 hown hg; have HK7 := Lib.hid (HK6.out.grown hg (fun q hq => (HQ5.out q hq).2)); have HR7 := Lib.hid (HR6.out.grown hg (fun q hq => (HQ5.out q hq).1)); have HO7 := Lib.hid hown; have HB7 := Lib.hid (HB6.out.grown hg HB6.out.size (fun q hq => (HO6.out.lt q hq).1)); clear hown hg HO6 HB6 HK6 HR6 HS6 HN6))
        have hld := HK7.out.ldR
        have HR8 := Lib.hid (HR7.out.step ((Below.refl _ w7).alloc (Nat.le_refl _) (.cells (rcC X) 29))).rsAt
        have HO8 := Lib.hid (HO7.out.alloc (.cells (rcC X) 29))
        have HB8 := Lib.hid (HB7.out.alloc HB7.out.size (.cells (rcC X) 29))
        have HQ8 := Lib.hid (fun q hq => (HO7.out.lt q hq).2)
        have HOX := Lib.hid (ownR_new w7 w7.heap.size X (Nat.le_refl _))
        have HS7 := Lib.hid HB7.out.size
        have HZ7 : Hid ((w7.alloc (.cells (rcC X) 29)).heap.size = w7.heap.size + 1) := Lib.hid (size_alloc _ _)
        have tokB : True := trivial
        clear HR7 HK7 HB7 HO7
        go_wp2_with (first | (have _t := tokB; refine wpList_bsR rfl (.tmp 50) rfl X rfl ?_; clear tokB; have tokC : True := trivial) | (have _t := tokC; clear tokC; at_builtin; go_loud (refine wpList_appRs rfl (.tmp 51) (.tmp 52) rfl w7.heap.size _ 1 [X] rfl HOX.out Aw _ cw (bkL ep L k).reverse rfl (by first | rfl | exact (List.length_reverse ..).symm) HR8.out.2.2 HR8.out.2.1 (by omega) (by have := HZ7.out; omega) ?_; intro v8 w8 hown hg; have HO9 := Lib.hid (HO8.out.kept hg (own_ne (fun q hq => HQ8.out q hq) (Nat.le_refl _))); have HR9 := Lib.hid (RecAt.of_own hown).2; have HB9 := Lib.hid (HB8.out.grown hg HB8.out.size (fun q hq => by have h3 : w7.heap.size = q := Option.some.inj hq; have := HS7.out; omega)); clear hown hg HO8 HB8 HOX)))
        have hsz : ((bkL ep L k ++ [X]).length * 6) = (bkL ep L k).length * 6 + (sixV 5 X).length := by rw [List.length_append, HL6.out, List.length_singleton]; omega
        clear hld
        go_roundw
        case rel => exact ⟨k + 1, by omega, by go_num, by rw [HE.out, secs_app, hsz]; exact HO9.out, ⟨w7.heap.size, HS7.out, fun q hq => HQ8.out q hq, by rw [HE.out, List.reverse_append]; exact HR9.out⟩, HB9.out⟩
        case measure => simp [intOf] <;> omega
    · have hkl : k = L.length := by omega
      subst hkl
      have hbl : (bkL ep L L.length).length ≤ 8 := by have := bk_len ep L L.length; omega
      have HOKS := Lib.hid (fun x hx => (bk_mem ep L L.length x hx).1)
      have HSM : Hid (∀ s ∈ secs (bkL ep L L.length), s.length ≤ maxLen) := Lib.hid (fun s hs => by have := secs_short _ HOKS.out s hs; unfold maxLen; omega)
      have HSL : Hid ((secs (bkL ep L L.length)).length ≤ maxLen) := Lib.hid (by rw [secs_len]; unfold maxLen; omega)
      have HWL : Hid ((bkL ep L L.length).reverse.length ≤ 8) := Lib.hid (by rw [List.length_reverse]; exact hbl)
      have RD1 : Hid (∀ w A c, StrsAt w w.heap.size A (secs (bkL ep L L.length)) → Calls Try.prog 22 #[.int .i64 5, .int .i64 ep, .slice A (secs (bkL ep L L.length)).length c] w fun e w' => ∃ v, e = .returned v ∧ RecAt w' w.heap.size v (bkL ep L L.length).reverse ∧ Below w.heap.size w w') := Lib.hid (fun w A c h => by
        have h2 := read_any 5 ep A c _ HSL.out HSM.out w h
        rw [back_own ep L h8n] at h2
        exact h2)
      have RD2 : Hid (∀ w A c, StrsAt w w.heap.size A (secs (bkL ep L L.length)) → Calls Try.prog 22 #[.int .i64 5, .int .i64 (ep + 1), .slice A (secs (bkL ep L L.length)).length c] w fun e w' => ∃ v, e = .returned v ∧ RecAt w' w.heap.size v [] ∧ Below w.heap.size w w') := Lib.hid (fun w A c h => by
        have h2 := read_any 5 (ep + 1) A c _ HSL.out HSM.out w h
        rw [back_epoch ep L h8n] at h2
        exact h2)
      have RD3 : Hid (∀ w A c, StrsAt w w.heap.size A (secs (bkL ep L L.length)) → Calls Try.prog 22 #[.int .i64 6, .int .i64 ep, .slice A (secs (bkL ep L L.length)).length c] w fun e w' => ∃ v, e = .returned v ∧ RecAt w' w.heap.size v [] ∧ Below w.heap.size w w') := Lib.hid (fun w A c h => by
        have h2 := read_any 6 ep A c _ HSL.out HSM.out w h
        rw [back_array ep L h8n] at h2
        exact h2)
      obtain ⟨A5, c5, rfl, hq1, hst, hq2, hq3, hq4⟩ := own_strs HO.out
      have HS := Lib.hid hst
      clear hq1 hst hq2 hq3 hq4 HO HSM HSL HOKS HQ5
      generalize secs (bkL ep L L.length) = S at HS RD1 RD2 RD3
      obtain ⟨A6, c6, rfl, hnw, hrs, _⟩ := HR.out.rs
      have HW6 := Lib.hid hrs
      clear hnw hrs HR HBw
      generalize (bkL ep L L.length).reverse = W at HW6 RD1 HWL
      clear hbl
      have hwl : (W.length : Int) ≤ 8 := by have := HWL.out; omega
      go_wp2_with fail
      refine (RD1.out _ _ _ HS.out).mono ?_
      rintro e w5 ⟨v5, rfl, hrec, hb⟩
      obtain ⟨A9, c9, rfl, _, hr9, _⟩ := hrec.rs
      have HW9 := Lib.hid hr9
      have HS5 := Lib.hid (HS.out.up hb)
      have HW5 := Lib.hid (HW6.out.up hb)
      have HB5 := Lib.hid (Below.step HB.out hb)
      clear hrec hb hr9 HS HW6 HB RD1
      go_wp2_with fail
      refine (RD2.out _ _ _ HS5.out).mono ?_
      rintro e w6 ⟨v6, rfl, hrec, hb⟩
      obtain ⟨Ae, ce, rfl⟩ := rec_nil hrec
      have HV6 := Lib.hid (HW9.out.up hb)
      have HS6 := Lib.hid (HS5.out.up hb)
      have HW6 := Lib.hid (HW5.out.up hb)
      have HB6 := Lib.hid (Below.step HB5.out hb)
      clear hrec hb HW9 HS5 HW5 HB5 RD2
      go_wp2_with fail
      refine (RD3.out _ _ _ HS6.out).mono ?_
      rintro e w7 ⟨v7, rfl, hrec, hb⟩
      obtain ⟨Af, cf, rfl⟩ := rec_nil hrec
      have HV7 := Lib.hid (HV6.out.up hb)
      have HW7 := Lib.hid (HW6.out.up hb)
      have HB7 := Lib.hid (Below.step HB6.out hb)
      clear hrec hb HV6 HS6 HW6 HB6 RD3
      go_wp2
      go_loopw [10] (fun i wr => ∃ k : Nat, k ≤ W.length ∧ i = .int .i64 k ∧ Below w7.heap.size w7 wr) (fun i _ => 8 - (intOf i).toNat)
      case atStart => exact ⟨0, by omega, rfl, Below.refl _ _⟩
      case round =>
        obtain ⟨k, hk, rfl, hbel⟩ := hrel
        have HB8 := Lib.hid hbel
        clear hbel
        by_cases hlt : k < W.length
        · have hlt' : (k : Int) < W.length := by omega
          have h0 : W ≠ [] := by intro h; rw [h] at hlt; simp at hlt
          obtain ⟨b9, o9, rfl, hbw9, hc9⟩ : ∃ b o, A9 = some ⟨b, o, none⟩ ∧ b < w7.heap.size ∧ ∀ j (hj : j < W.length), wr.rangeAt b (o + j * 7) (encR W[j]) := by
            rcases HV7.out.below HB8.out with h | h
            · exact absurd h h0
            · exact h
          obtain ⟨b6, o6, rfl, hbw6, hc6⟩ : ∃ b o, A6 = some ⟨b, o, none⟩ ∧ b < w7.heap.size ∧ ∀ j (hj : j < W.length), wr.rangeAt b (o + j * 7) (encR W[j]) := by
            rcases HW7.out.below HB8.out with h | h
            · exact absurd h h0
            · exact h
          have hl9 := RsAt.ld (w := wr.drew) (B := w7.heap.size) hc9 k hlt
          have hl6 := RsAt.ld (w := wr.drew) (B := w7.heap.size) hc6 k hlt
          have HL96 := Lib.hid (And.intro hl9 hl6)
          generalize W[k] = X at HL96
          clear h0 hc9 hc6 hl9 hl6 hbw9 hbw6
          have hneq := fun w => (by have h := run_rc_neq w X X; rw [rcEq_self] at h; exact h : (binOp .neq 29 (.agg (rcC X)) (.agg (rcC X))).run Try.prog w = .ok (.bool false) w)
          go_upto_region 20 with fail
          refine wp_region_noPanic ?_
          refine wp_region_held_drew (S := (fun w' => (Ld 29 (.pointer (some ⟨b9, o9 + k * 7, none⟩))).run Try.prog w' = .ok (.agg (rcC X)) w' ∧ (Ld 29 (.pointer (some ⟨b6, o6 + k * 7, none⟩))).run Try.prog w' = .ok (.agg (rcC X)) w')) (by kernel_rfl) (by first | exact HL96.out) (fun hHeld => ?_)
          refine wpAnyH_take (i := 0) (oi := _) (v := ?vr1n0_1) rfl (by kernel_rfl) (by kernel_rfl) (by kernel_rfl) (fun _ _ _ h => h) (Or.inl ⟨by kernel_rfl, ?hr1n0_1⟩) hHeld ?_
          case hr1n0_1 => (intro w hSw; (try dsimp only at hSw); go_simp; try (with_reducible rfl))
          try simp only [List.getElem_toArray, List.getElem_cons_zero, List.getElem_cons_succ, Act.put, List.setIfInBounds_toArray, List.set_cons_zero, List.set_cons_succ]
          refine wpAnyH_take (i := 1) (oi := _) (v := ?vr1n1_2) rfl (by kernel_rfl) (by kernel_rfl) (by kernel_rfl) (fun _ _ _ h => h) (Or.inl ⟨by kernel_rfl, ?hr1n1_2⟩) hHeld ?_
          case hr1n1_2 => (intro w hSw; (try dsimp only at hSw); go_simp; try (with_reducible rfl))
          try simp only [List.getElem_toArray, List.getElem_cons_zero, List.getElem_cons_succ, Act.put, List.setIfInBounds_toArray, List.set_cons_zero, List.set_cons_succ]
          refine wpAnyH_take (i := 2) (oi := _) (v := ?vr1n2_3) rfl (by kernel_rfl) (by kernel_rfl) (by kernel_rfl) (fun _ _ _ h => h) (Or.inl ⟨by kernel_rfl, ?hr1n2_3⟩) hHeld ?_
          case hr1n2_3 => (intro w hSw; (try dsimp only at hSw); go_simp; try (with_reducible rfl))
          try simp only [List.getElem_toArray, List.getElem_cons_zero, List.getElem_cons_succ, Act.put, List.setIfInBounds_toArray, List.set_cons_zero, List.set_cons_succ]
          refine wpAnyH_take (i := 3) (oi := _) (v := ?vr1n3_4) rfl (by kernel_rfl) (by kernel_rfl) (by kernel_rfl) (fun _ _ _ h => h) (Or.inl ⟨by kernel_rfl, ?hr1n3_4⟩) hHeld ?_
          case hr1n3_4 => (intro w hSw; (try dsimp only at hSw); go_simp; try (with_reducible rfl))
          try simp only [List.getElem_toArray, List.getElem_cons_zero, List.getElem_cons_succ, Act.put, List.setIfInBounds_toArray, List.set_cons_zero, List.set_cons_succ]
          refine wpAnyH_take (i := 4) (oi := _) (v := ?vr1n4_5) rfl (by kernel_rfl) (by kernel_rfl) (by kernel_rfl) (fun _ _ _ h => h) (Or.inl ⟨by kernel_rfl, ?hr1n4_5⟩) hHeld ?_
          case hr1n4_5 => (intro w hSw; (try dsimp only at hSw); go_simp; try (with_reducible rfl))
          try simp only [List.getElem_toArray, List.getElem_cons_zero, List.getElem_cons_succ, Act.put, List.setIfInBounds_toArray, List.set_cons_zero, List.set_cons_succ]
          refine wpAnyH_take (i := 5) (oi := _) (v := ?vr1n5_6) rfl (by kernel_rfl) (by kernel_rfl) (by kernel_rfl) (fun _ _ _ h => h) (Or.inl ⟨by kernel_rfl, ?hr1n5_6⟩) hHeld ?_
          case hr1n5_6 => (intro w hSw; (try dsimp only at hSw); go_simp; try (with_reducible rfl))
          try simp only [List.getElem_toArray, List.getElem_cons_zero, List.getElem_cons_succ, Act.put, List.setIfInBounds_toArray, List.set_cons_zero, List.set_cons_succ]
          refine wpAnyH_take (i := 6) (oi := _) (v := ?vr1n6_7) rfl (by kernel_rfl) (by kernel_rfl) (by kernel_rfl) (fun _ _ _ h => h) (Or.inl ⟨by kernel_rfl, ?hr1n6_7⟩) hHeld ?_
          case hr1n6_7 => (intro w hSw; (try dsimp only at hSw); go_simp; try (with_reducible rfl))
          try simp only [List.getElem_toArray, List.getElem_cons_zero, List.getElem_cons_succ, Act.put, List.setIfInBounds_toArray, List.set_cons_zero, List.set_cons_succ]
          refine wpAnyH_take (i := 7) (oi := _) (v := ?vr1n7_8) rfl (by kernel_rfl) (by kernel_rfl) (by kernel_rfl) (fun _ _ _ h => h) (Or.inl ⟨by kernel_rfl, ?hr1n7_8⟩) hHeld ?_
          case hr1n7_8 => (intro w hSw; (try dsimp only at hSw); go_simp; try (with_reducible rfl))
          try simp only [List.getElem_toArray, List.getElem_cons_zero, List.getElem_cons_succ, Act.put, List.setIfInBounds_toArray, List.set_cons_zero, List.set_cons_succ]
          refine wpAnyH_take (i := 8) (oi := _) (v := ?vr1n8_9) rfl (by kernel_rfl) (by kernel_rfl) (by kernel_rfl) (fun _ _ _ h => h) (Or.inl ⟨by kernel_rfl, ?hr1n8_9⟩) hHeld ?_
          case hr1n8_9 => (intro w hSw; (try dsimp only at hSw); go_simp; try (with_reducible rfl))
          try simp only [List.getElem_toArray, List.getElem_cons_zero, List.getElem_cons_succ, Act.put, List.setIfInBounds_toArray, List.set_cons_zero, List.set_cons_succ]
          refine wpAnyH_done (by kernel_rfl) ?_ _
          refine NoPanic.normal ?_
          go_wp2
          go_roundw
          case rel => exact ⟨k + 1, by omega, by go_num, HB8.out.drew⟩
          case measure => simp [intOf] <;> omega
        · have hke : k = W.length := by omega
          subst hke
          go_wp2_with fail
          refine (WK.out _).mono ?_
          rintro e w9 ⟨rfl, hb⟩
          go_wp2
          go_ret
          exact ⟨rfl, Below.step (HB7.out.trans (HB8.out.mono HB7.out.size)) hb⟩
end Go.Proofs.Ytccbohjcbhibkaa
