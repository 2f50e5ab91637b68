/- The walk through the law MemPlays: it answers true. -/
import Derived.Test.YteinnindnijdiaaMemY
namespace Go.Proofs.Yteinnindnijdiaa
set_option linter.unusedVariables false
set_option maxRecDepth 100000
open Go.RowKit
attribute [local go_sem ↓] Go.wp_at_zero Go.wp_at_succ
attribute [local go_sem ↓] ld_act

theorem putL_len (l : List UInt8) (p n x : Int) : (putL l p n x).length = l.length := by
  unfold putL
  split
  · rename_i h
    unfold numE roomE at h
    split at h
    · omega
    · split at h
      · rename_i h1 h2
        rw [spl_len]
        rw [litN, if_pos (by omega), lit_len]
        omega
      · omega
  · rfl
theorem wrL_len (l : List UInt8) (p : Int) (s : List UInt8) : (wrL l p s).length = l.length := by
  unfold wrL
  split
  · rename_i h
    unfold roomE at h
    split at h
    · rw [spl_len]; omega
    · omega
  · rfl

theorem txt_all {w : World} {p g : Nat} {l : List UInt8} (h : MemAt w p g l) (N : Nat) (hN : l.length = N) :
    Calls Try.prog 33 #[.pointer (some ⟨p, 0, none⟩), .int .i64 0, .int .i64 N] w fun e w' => e = .returned (.tuple #[.string ⟨l.toArray⟩, .int .i64 0]) ∧ w = w' := by
  subst hN
  have hT := text_any h 0 l.length (by omega) (by have := h.small; omega)
  have e1 : roomE (l.length : Int) 0 l.length = 0 := by rw [roomE, if_pos (by omega)]
  have e2 : txtL l 0 l.length = l := by
    rw [txtL, if_pos e1]
    show (l.drop 0).take l.length = l
    rw [List.drop_zero, List.take_length]
  rw [e1, e2] at hT
  exact hT

theorem actB_cells {w : World} {b : Nat} {e : TypeId} {d p n x : Int} {s : List UInt8} (h : Blk w b e #[.int .i64 d, .int .i64 p, .int .i64 n, .int .u64 x, .string ⟨s.toArray⟩]) :
    w.cell? ⟨b, 0, none⟩ = some (.int .i64 d) ∧ w.cell? ⟨b, 1, none⟩ = some (.int .i64 p) ∧ w.cell? ⟨b, 2, none⟩ = some (.int .i64 n) ∧ w.cell? ⟨b, 3, none⟩ = some (.int .u64 x) ∧ w.cell? ⟨b, 4, none⟩ = some (.string ⟨s.toArray⟩) := by
  refine ⟨?_, ?_, ?_, ?_, ?_⟩ <;> (rw [h.cell]; rfl)

theorem below_grown {B g : Nat} {u w w' : World} (h : Below B u w) (hB : B ≤ w.heap.size) (hg : w.grownBy w' (some g)) (hBg : B ≤ g) : Below B u w' :=
  h.grown hg hB (fun q hq => by have : g = q := Option.some.inj hq; omega)

set_option maxHeartbeats 1000000 in
theorem memPlays_out (size : Int) (A : Option Addr) (n c : Nat) (hsz : -9223372036854775808 ≤ size ∧ size ≤ 9223372036854775807) (hn : n ≤ 9223372036854775807) (w : World) (h : ActsAt w w.heap.size A n) (hs : size < 1 ∨ 500 < size) :
    Calls Try.prog 7 #[.int .i64 size, .slice A n c] w fun e w' => e = .returned (.bool true) ∧ Below w.heap.size w w' := by
  obtain ⟨hsa, hsb⟩ := hsz
  have H := Lib.hid h
  clear h
  by_cases h1 : size < 1
  · clear hs
    go_enter Try.func7, Try.ntmps7
    go_wp2_with fail
    refine (memawake_any _).mono ?_
    rintro e w1 ⟨rfl, hb1⟩
    have HB := Lib.hid hb1
    clear hb1
    go_wp2_with fail
    refine (great_any _ A n c w.heap.size hn (H.out.below HB.out)).mono ?_
    rintro e w2 ⟨b, rfl, rfl⟩
    cases b
    · go_wp2_with fail
      refine (new_no _ size (Or.inl h1)).mono ?_
      rintro e w2 ⟨rfl, rfl⟩
      go_wp2_with fail
      refine (size_nil _).mono ?_
      rintro e w2 ⟨rfl, rfl⟩
      go_wp2
      go_ret
      exact ⟨rfl, HB.out⟩
    · go_wp2
      go_ret
      exact ⟨rfl, HB.out⟩
  · have h2 : 500 < size := by omega
    clear hs
    by_cases h3 : 65536 < size
    · go_enter Try.func7, Try.ntmps7
      go_wp2_with fail
      refine (memawake_any _).mono ?_
      rintro e w1 ⟨rfl, hb1⟩
      have HB := Lib.hid hb1
      clear hb1
      go_wp2_with fail
      refine (great_any _ A n c w.heap.size hn (H.out.below HB.out)).mono ?_
      rintro e w2 ⟨b, rfl, rfl⟩
      cases b
      · go_wp2_with fail
        refine (new_no _ size (Or.inr h3)).mono ?_
        rintro e w2 ⟨rfl, rfl⟩
        go_wp2_with fail
        refine (size_nil _).mono ?_
        rintro e w2 ⟨rfl, rfl⟩
        go_wp2
        go_ret
        exact ⟨rfl, HB.out⟩
      · go_wp2
        go_ret
        exact ⟨rfl, HB.out⟩
    · go_enter Try.func7, Try.ntmps7
      go_wp2_with fail
      refine (memawake_any _).mono ?_
      rintro e w1 ⟨rfl, hb1⟩
      have HB := Lib.hid hb1
      clear hb1
      go_wp2_with fail
      refine (great_any _ A n c w.heap.size hn (H.out.below HB.out)).mono ?_
      rintro e w2 ⟨b, rfl, rfl⟩
      cases b
      all_goals
        go_wp2
        go_ret
        exact ⟨rfl, HB.out⟩

set_option maxHeartbeats 4000000 in
theorem memPlays_in (N : Nat) (A : Option Addr) (n c : Nat) (hN1 : 1 ≤ N) (hN2 : N ≤ 500) (hn : n ≤ 9223372036854775807) (w : World) (h : ActsAt w w.heap.size A n) :
    Calls Try.prog 7 #[.int .i64 N, .slice A n c] w fun e w' => e = .returned (.bool true) ∧ Below w.heap.size w w' := by
  have H := Lib.hid h
  clear h
  obtain ⟨i0, hi, hz0, hz1, hz2⟩ := info_parts info_u8
  obtain ⟨Z, hZ⟩ : ∃ Z : List UInt8, Z = List.replicate N 0 := ⟨_, rfl⟩
  have HZ := Lib.hid hZ
  have hZl : Z.length = N := by rw [hZ]; simp
  have HZL := Lib.hid hZl
  have HNew := Lib.hid (fun w => new_ok w N hN1 (by omega))
  rw [← hZ] at HNew
  clear hZ hZl
  go_enter Try.func7, Try.ntmps7
  go_wp2_with fail
  refine (memawake_any _).mono ?_
  rintro e w1 ⟨rfl, hb1⟩
  have HB := Lib.hid hb1
  clear hb1
  go_wp2_with fail
  refine (great_any _ A n c w.heap.size hn (H.out.below HB.out)).mono ?_
  rintro e w2 ⟨bb, rfl, rfl⟩
  cases bb
  · go_wp2_with fail
    refine (HNew.out _).mono ?_
    rintro e w2 ⟨rfl, hm, hb2⟩
    have HB2 := Lib.hid (Below.step HB.out hb2)
    have hle := HB.out.size
    obtain ⟨p, hp⟩ : ∃ p, p = w1.heap.size + 1 := ⟨_, rfl⟩
    obtain ⟨g, hg⟩ : ∃ g, g = w1.heap.size := ⟨_, rfl⟩
    rw [← hp, ← hg] at hm
    rw [← hp]
    have hgw : w.heap.size ≤ g := by omega
    have hpw : w.heap.size ≤ p := by omega
    have HM := Lib.hid hm
    clear hm hb2 HB hp hg hle
    go_wp2_with fail
    refine (size_any HM.out).mono ?_
    rintro e w3 ⟨rfl, rfl⟩
    rw [HZL.out]
    have hmk := run_make (P := Try.prog) w2 47 5 i0 (.int .u8 0) Try.underlying47 hi hz0 .i64 .i64 N N (by omega) (by omega) (by rw [hz2]; omega) (by omega)
    rw [hz1] at hmk
    simp only [Int.toNat_natCast] at hmk
    have hmd := made_u8 w2 N
    rw [← HZ.out] at hmd
    have hbk := run_back Try.prog _ 47 9 5 w2.heap.size 0 N Z Try.underlying47 Try.underlying5 Try.underlying9 hmd.at
    rw [HZL.out] at hbk
    clear hmd
    have HM3 := Lib.hid (HM.out.step ((Below.refl _ _).alloc (Nat.le_refl _) (.cells (madeCells #[Value.int .u8 0] (N * 1)) 5)))
    have HB3 := Lib.hid (HB2.out.alloc HB2.out.size (.cells (madeCells #[Value.int .u8 0] (N * 1)) 5))
    go_wp2
    clear hmk hbk
    try simp only [Nat.mul_one] at HM3 HB3
    generalize World.alloc _ _ = W at HM3 HB3 ⊢
    go_loopw [7, 8] (fun bs ix wr => ∃ (k : Nat) (l : List UInt8), k ≤ n ∧ ix = .int .i64 k ∧ bs = .string ⟨l.toArray⟩ ∧ l.length = N ∧ MemAt wr p g l ∧ Below w.heap.size w wr) (fun _ ix _ => n - (intOf ix).toNat)
    case atStart => exact ⟨0, Z, by omega, rfl, rfl, HZL.out, HM3.out, HB3.out⟩
    case round =>
      obtain ⟨k, l, hk, rfl, rfl, hl, hml, hbel⟩ := hrel
      have HL := Lib.hid hl
      have HMl := Lib.hid hml
      have HBl := Lib.hid hbel
      have hl65 := hml.small
      by_cases hlt : k < n
      · obtain ⟨b, o, rfl, hb, hi⟩ := (H.out.below hbel) (by omega)
        obtain ⟨d, q, m, x, s, hok, hr⟩ := hi k hlt
        have ha := act_load hr
        have HOK := Lib.hid hok
        have hX := Blk.new wr 50 #[.int .i64 d, .int .i64 q, .int .i64 m, .int .u64 x, .string ⟨s.toArray⟩] 0 0 (Or.inl (Nat.le_refl _))
        have HX := Lib.hid hX
        have HB4 := Lib.hid (hbel.alloc hbel.size (.cells #[.int .i64 d, .int .i64 q, .int .i64 m, .int .u64 x, .string ⟨s.toArray⟩] 50))
        have HM4 := Lib.hid (hml.step ((Below.refl _ _).alloc (Nat.le_refl _) (.cells #[.int .i64 d, .int .i64 q, .int .i64 m, .int .u64 x, .string ⟨s.toArray⟩] 50)))
        clear hl hml hbel hi hr hok hX
        by_cases e0 : d = 0
        · subst e0
          go_wp2_with fail
          refine (refPut_any _ l hl65 q m x HOK.out.p HOK.out.n HOK.out.x).mono ?_
          rintro e w4 ⟨rfl, hb4⟩
          obtain ⟨c0, c1, c2, c3, c4⟩ := actB_cells (HX.out.step hb4)
          have HM5 := Lib.hid (HM4.out.step hb4)
          have HB5 := Lib.hid (Below.step HB4.out hb4)
          clear hb4
          go_wp2_with fail
          refine (put_any HM5.out q m x HOK.out.p HOK.out.n HOK.out.x).mono ?_
          rintro e w5 ⟨rfl, hm6, hg6⟩
          have HM6 := Lib.hid hm6
          have HB6 := Lib.hid (below_grown HB5.out HB5.out.size hg6 hgw)
          have HL6 := Lib.hid ((putL_len l q m x).trans HL.out)
          clear hm6 hg6 c0 c1 c2 c3 c4
          generalize numE (l.length : Int) q m = E
          generalize putL l q m x = l' at HM6 HL6 ⊢
          go_wp2_with fail
          refine (txt_all HM6.out N HL6.out).mono ?_
          rintro e wt ⟨rfl, rfl⟩
          go_wp2
          go_roundw
          case rel => exact ⟨k + 1, _, by omega, by go_num, rfl, HL6.out, HM6.out, HB6.out⟩
          case measure => simp [intOf]; omega
        by_cases e1 : d = 1
        · subst e1
          go_wp2_with fail
          refine (refWrite_any _ l hl65 q s HOK.out.p HOK.out.s).mono ?_
          rintro e w4 ⟨rfl, kk, rfl⟩
          obtain ⟨c0, c1, c2, c3, c4⟩ := actB_cells HX.out
          have HM5 := Lib.hid (HM4.out.drewN kk)
          have HB5 := Lib.hid (Below.drewN HB4.out kk)
          go_wp2_with fail
          refine (write_any HM5.out q s HOK.out.p HOK.out.s).mono ?_
          rintro e w5 ⟨rfl, hm6, hg6⟩
          have HM6 := Lib.hid hm6
          have HB6 := Lib.hid (below_grown HB5.out HB5.out.size hg6 hgw)
          have HL6 := Lib.hid ((wrL_len l q s).trans HL.out)
          clear hm6 hg6 c0 c1 c2 c3 c4
          generalize roomE (l.length : Int) q (s.length : Int) = E
          generalize wrL l q s = l' at HM6 HL6 ⊢
          go_wp2_with fail
          refine (txt_all HM6.out N HL6.out).mono ?_
          rintro e wt ⟨rfl, rfl⟩
          go_wp2
          go_roundw
          case rel => exact ⟨k + 1, _, by omega, by go_num, rfl, HL6.out, HM6.out, HB6.out⟩
          case measure => simp [intOf]; omega
        by_cases e2 : d = 2
        · subst e2
          go_wp2_with fail
          refine (get_any HM4.out q m HOK.out.p HOK.out.n).mono ?_
          rintro e w4 ⟨rfl, hb4⟩
          obtain ⟨c0, c1, c2, c3, c4⟩ := actB_cells (HX.out.step hb4)
          have HM5 := Lib.hid (HM4.out.step hb4)
          have HB5 := Lib.hid (Below.step HB4.out hb4)
          clear hb4
          go_wp2_with fail
          refine (refGet_any _ l hl65 q m HOK.out.p HOK.out.n).mono ?_
          rintro e w5 ⟨rfl, hb5⟩
          have HM6 := Lib.hid (HM5.out.step hb5)
          have HB6 := Lib.hid (Below.step HB5.out hb5)
          clear hb5 c0 c1 c2 c3 c4
          generalize numE (l.length : Int) q m = E
          generalize gotE l q m = G
          go_wp2_with fail
          refine (txt_all HM6.out N HL.out).mono ?_
          rintro e wt ⟨rfl, rfl⟩
          go_wp2
          go_roundw
          case rel => exact ⟨k + 1, _, by omega, by go_num, rfl, HL.out, HM6.out, HB6.out⟩
          case measure => simp [intOf]; omega
        by_cases e3 : d = 3
        · subst e3
          go_wp2_with fail
          refine (text_any HM4.out q m HOK.out.p HOK.out.n).mono ?_
          rintro e w4 ⟨rfl, rfl⟩
          go_wp2_with fail
          refine (refText_any _ l hl65 q m HOK.out.p HOK.out.n).mono ?_
          rintro e w5 ⟨rfl, rfl⟩
          generalize roomE (l.length : Int) q m = E
          generalize txtL l q m = G
          go_wp2_with fail
          refine (txt_all HM4.out N HL.out).mono ?_
          rintro e wt ⟨rfl, rfl⟩
          go_wp2
          go_roundw
          case rel => exact ⟨k + 1, _, by omega, by go_num, rfl, HL.out, HM4.out, HB4.out⟩
          case measure => simp [intOf]; omega
        have f0 : (d == 0) = false := by rw [beq_eq_false_iff_ne]; exact e0
        have f1 : (d == 1) = false := by rw [beq_eq_false_iff_ne]; exact e1
        have f2 : (d == 2) = false := by rw [beq_eq_false_iff_ne]; exact e2
        have f3 : (d == 3) = false := by rw [beq_eq_false_iff_ne]; exact e3
        clear e0 e1 e2 e3
        go_wp2_with fail
        refine (txt_all HM4.out N HL.out).mono ?_
        rintro e wt ⟨rfl, rfl⟩
        go_wp2
        go_roundw
        case rel => exact ⟨k + 1, _, by omega, by go_num, rfl, HL.out, HM4.out, HB4.out⟩
        case measure => simp [intOf]; omega
      · clear hl hml hbel
        go_wp2
        go_ret
        exact ⟨rfl, HBl.out⟩
  · go_wp2
    go_ret
    exact ⟨rfl, HB.out⟩
end Go.Proofs.Yteinnindnijdiaa
