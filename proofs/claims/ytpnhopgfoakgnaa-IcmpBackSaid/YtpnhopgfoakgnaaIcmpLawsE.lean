/- The walk through the law IcmpBack: it answers true. -/
import Derived.Test.YtpnhopgfoakgnaaIcmpLawsD
namespace Go.Proofs.Ytpnhopgfoakgnaa
set_option linter.unusedVariables false
open Go.RowKit
attribute [local go_sem ↓] Go.wp_at_zero Go.wp_at_succ
attribute [local go_sem ↓] run_ic_eql run_ic_neq

/-- what is asked of the message: its bytes, and what these are read as -/
def IcM (k c r : Int) (l A : List UInt8) (E : Int) : Prop :=
  (∀ w, Calls Try.prog 16 #[icV k c r ⟨l.toArray⟩] w fun e w' => e = .returned (.tuple #[.string ⟨A.toArray⟩, .int .i64 E]) ∧ Below w.heap.size w w') ∧
  (E = 0 → (∀ w, Calls Try.prog 18 #[.string ⟨A.toArray⟩] w fun e w' => e = .returned (.tuple #[icV k c r ⟨l.toArray⟩, .int .i64 0]) ∧ Below w.heap.size w w') ∧
    (∀ w, Calls Try.prog 20 #[.string ⟨A.toArray⟩] w fun e w' => e = .returned (.int .i64 0) ∧ w = w') ∧ A.length = 8 + l.length ∧ l.length ≤ 558)

theorem icM_any (k c r : Int) (hk : -9223372036854775808 ≤ k ∧ k ≤ 9223372036854775807) (hc : -9223372036854775808 ≤ c ∧ c ≤ 9223372036854775807) (hr : 0 ≤ r ∧ r ≤ 4294967295)
    (l : List UInt8) (hl : l.length ≤ 9223372036854775807) : IcM k c r l (icBytes k c r l).1 (icBytes k c r l).2 := by
  refine ⟨fun w => ic_any k c r l w hk hc hr hl, fun hE => ?_⟩
  obtain ⟨⟨hk1, hk2⟩, ⟨hc1, hc2⟩, hl2⟩ := icBytes_no k c r l hE
  obtain ⟨k', rfl⟩ := Int.eq_ofNat_of_zero_le hk1
  obtain ⟨c', rfl⟩ := Int.eq_ofNat_of_zero_le hc1
  obtain ⟨r', rfl⟩ := Int.eq_ofNat_of_zero_le hr.1
  obtain ⟨h1, h2, h3, h4⟩ := ic_back k' c' r' l (by omega) (by omega) (by omega) hl2
  refine ⟨fun w => ?_, fun w => ?_, h3, hl2⟩
  · have := icr_any ⟨(icBytes k' c' r' l).1.toArray⟩ w (by show (icBytes k' c' r' l).1.length ≤ _; omega)
    rw [h1] at this
    exact this
  · have := sum_any w ⟨(icBytes k' c' r' l).1.toArray⟩ (by show (icBytes k' c' r' l).1.length ≤ _; omega)
    rw [h2] at this
    exact this

/-- what is asked of the text: what it is read as, and the bytes of that -/
def IcT (s : List UInt8) (k c r : Int) (l a t u : List UInt8) : Prop :=
  (∀ w, Calls Try.prog 18 #[.string ⟨s.toArray⟩] w fun e w' => e = .returned (.tuple #[icV k c r ⟨l.toArray⟩, .int .i64 0]) ∧ Below w.heap.size w w') ∧
  (∀ w, Calls Try.prog 16 #[icV k c r ⟨l.toArray⟩] w fun e w' => e = .returned (.tuple #[.string ⟨a.toArray⟩, .int .i64 0]) ∧ Below w.heap.size w w') ∧
  (∀ w, Calls Try.prog 18 #[.string ⟨a.toArray⟩] w fun e w' => e = .returned (.tuple #[icV k c r ⟨l.toArray⟩, .int .i64 0]) ∧ Below w.heap.size w w') ∧
  a.length = s.length ∧ 8 ≤ s.length ∧ s.length ≤ 566 ∧ (⟨a.toArray⟩ : ByteArray).extract 4 s.length = ⟨t.toArray⟩ ∧ (⟨s.toArray⟩ : ByteArray).extract 4 s.length = ⟨t.toArray⟩ ∧
  (⟨a.toArray⟩ : ByteArray).extract 0 2 = ⟨u.toArray⟩ ∧ (⟨s.toArray⟩ : ByteArray).extract 0 2 = ⟨u.toArray⟩

theorem icT_any (s : List UInt8) (hs : s.length ≤ 9223372036854775807) :
    (∃ k c r l a t u, IcT s k c r l a t u) ∨ (∃ F : Int, F ≠ 0 ∧ ∀ w, Calls Try.prog 18 #[.string ⟨s.toArray⟩] w fun e w' => e = .returned (.tuple #[ic0, .int .i64 F]) ∧ Below w.heap.size w w') := by
  by_cases h : (rdIc ⟨s.toArray⟩).2 = 0
  · left
    obtain ⟨k, c, r, l, a, hk, hc, hr, hl, h1, h2, h3, h4, h5, h6, h7, h8⟩ := ic_forth s h
    refine ⟨k, c, r, l, a, s.drop 4, s.take 2, ?_, ?_, ?_, h4, h7, h8, ?_, ?_, ?_, ?_⟩
    · intro w
      have := icr_any ⟨s.toArray⟩ w hs
      rw [h1] at this
      exact this
    · intro w
      have := ic_any k c r l w (by omega) (by omega) (by omega) (by omega)
      rw [h2] at this
      exact this
    · intro w
      have := icr_any ⟨a.toArray⟩ w (by show a.length ≤ _; omega)
      rw [h3] at this
      exact this
    · rw [ext_list, h5, List.take_of_length_le (by rw [List.length_drop]; omega)]
    · rw [ext_list, List.take_of_length_le (by rw [List.length_drop]; omega)]
    · rw [ext_list, List.drop_zero, Nat.sub_zero, h6]
    · rw [ext_list, List.drop_zero, Nat.sub_zero]
  · right
    refine ⟨_, h, fun w => ?_⟩
    have := icr_any ⟨s.toArray⟩ w hs
    rw [rdIc_no s h] at this
    exact this

set_option maxRecDepth 100000 in
theorem icmpBack_big (k c r : Int) (l : List UInt8) (hl : l.length ≤ 9223372036854775807) (s : List UInt8) (hs : s.length ≤ 9223372036854775807) (h : 2000 < l.length ∨ 2000 < s.length) (w : World) :
    Calls Try.prog 4 #[icV k c r ⟨l.toArray⟩, .string ⟨s.toArray⟩] w fun e w' => e = .returned (.bool true) ∧ Below w.heap.size w w' := by
  have HB := Lib.hid ((Below.refl w.heap.size w).alloc (Nat.le_refl _) (.cells (icV k c r ⟨l.toArray⟩).cells 24))
  have HK := Lib.hid (Blk.new w 24 (icV k c r ⟨l.toArray⟩).cells 0 0 (Or.inl (Nat.le_refl _)))
  by_cases h1 : 2000 < l.length
  · clear h
    go_enter Try.func4, Try.ntmps4
    go_wp2_with fail
    refine (icawake_any _).mono ?_
    rintro e w1 ⟨rfl, hb1⟩
    obtain ⟨c0, c1, c2, c3⟩ := blk_ic (HK.out.step hb1)
    have HB1 := Lib.hid (Below.step HB.out hb1)
    clear hb1
    go_wp2
    go_ret
    exact ⟨rfl, HB1.out⟩
  · have h2 : 2000 < s.length := by omega
    clear h
    go_enter Try.func4, Try.ntmps4
    go_wp2_with fail
    refine (icawake_any _).mono ?_
    rintro e w1 ⟨rfl, hb1⟩
    obtain ⟨c0, c1, c2, c3⟩ := blk_ic (HK.out.step hb1)
    have HB1 := Lib.hid (Below.step HB.out hb1)
    clear hb1
    go_wp2
    go_ret
    exact ⟨rfl, HB1.out⟩

set_option maxRecDepth 100000 in
set_option maxHeartbeats 1000000 in
theorem icmpBack_yy (k c r : Int) (l A : List UInt8) (E : Int) (h : ¬ 2000 < l.length) (s : List UInt8) (h2 : ¬ 2000 < s.length) (hM : IcM k c r l A E) (hE : E = 0)
    (k' c' r' : Int) (l' a t u : List UInt8) (hT : IcT s k' c' r' l' a t u) (w : World) :
    Calls Try.prog 4 #[icV k c r ⟨l.toArray⟩, .string ⟨s.toArray⟩] w fun e w' => e = .returned (.bool true) ∧ Below w.heap.size w w' := by
  have hself := icEq_self
  have HB := Lib.hid ((Below.refl w.heap.size w).alloc (Nat.le_refl _) (.cells (icV k c r ⟨l.toArray⟩).cells 24))
  have HK := Lib.hid (Blk.new w 24 (icV k c r ⟨l.toArray⟩).cells 0 0 (Or.inl (Nat.le_refl _)))
  obtain ⟨hA, hM2⟩ := hM
  have HA := Lib.hid hA
  clear hA
  subst hE
  obtain ⟨hA2, hA3, hAl, hl5⟩ := hM2 rfl
  have HA2 := Lib.hid hA2
  have HA3 := Lib.hid hA3
  clear hM2 hA2 hA3
  obtain ⟨hR, hBy, hR2, hal, hs8, hs9, ha4, hs4, ha2, hs2⟩ := hT
  have HR := Lib.hid hR
  have HBy := Lib.hid hBy
  have HR2 := Lib.hid hR2
  have hs8' : 4 ≤ (s.length : Int) := by omega
  have hs9' : 2 ≤ (s.length : Int) := by omega
  clear hR hBy hR2
  go_enter Try.func4, Try.ntmps4
  go_wp2_with fail
  refine (icawake_any _).mono ?_
  rintro e w1 ⟨rfl, hb1⟩
  have hK1 := HK.out.step hb1
  obtain ⟨c0, c1, c2, c3⟩ := blk_ic hK1
  have hlt1 := hK1.lt
  have HK1 := Lib.hid hK1
  have HB1 := Lib.hid (Below.step HB.out hb1)
  clear hb1 hK1
  go_wp2_with fail
  refine (HA.out _).mono ?_
  rintro e w2 ⟨rfl, hb2⟩
  have hK2 := HK1.out.step hb2
  have HK2 := Lib.hid hK2
  have HB2 := Lib.hid (Below.step HB1.out hb2)
  clear hb2 hK2 c0 c1 c2 c3
  go_wp2_with fail
  refine (HA2.out _).mono ?_
  rintro e w3 ⟨rfl, hb3⟩
  have hK3 := HK2.out.step hb3
  obtain ⟨c0, c1, c2, c3⟩ := blk_ic hK3
  have hlt3 := hK3.lt
  have HB3 := Lib.hid ((Below.step HB2.out hb3).alloc (Below.step HB2.out hb3).size (.cells (icV k c r ⟨l.toArray⟩).cells 24))
  clear hb3 hK3
  go_wp2_with fail
  refine (HA3.out _).mono ?_
  rintro e w4 ⟨rfl, rfl⟩
  clear hlt1
  go_wp2_with fail
  refine (HR.out _).mono ?_
  rintro e w5 ⟨rfl, hb5⟩
  have HB5 := Lib.hid ((Below.step HB3.out hb5).alloc (Below.step HB3.out hb5).size (.cells (icV k' c' r' ⟨l'.toArray⟩).cells 24))
  have HX := Lib.hid (Blk.new w5 24 (icV k' c' r' ⟨l'.toArray⟩).cells 0 0 (Or.inl (Nat.le_refl _)))
  clear hb5
  go_wp2_with fail
  refine (HBy.out _).mono ?_
  rintro e w6 ⟨rfl, hb6⟩
  have HX6 := Lib.hid (HX.out.step hb6)
  have HB6 := Lib.hid (Below.step HB5.out hb6)
  clear hb6
  go_wp2_with fail
  refine (HR2.out _).mono ?_
  rintro e w7 ⟨rfl, hb7⟩
  have hX7 := HX6.out.step hb7
  have hlt7 := hX7.lt
  obtain ⟨x0, x1, x2, x3⟩ := blk_ic (hX7.alloc (.cells (icV k' c' r' ⟨l'.toArray⟩).cells 24))
  obtain ⟨y0, y1, y2, y3⟩ := blk_ic (Blk.new w7 24 (icV k' c' r' ⟨l'.toArray⟩).cells 0 0 (Or.inl (Nat.le_refl _)))
  have HB7 := Lib.hid ((Below.step HB6.out hb7).alloc (Below.step HB6.out hb7).size (.cells (icV k' c' r' ⟨l'.toArray⟩).cells 24))
  clear hb7 hX7
  go_wp2
  simp only [Value.cells] at x0 x1 x2 x3 y0 y1 y2 y3 HB7
  generalize World.alloc _ _ = W at x0 x1 x2 x3 y0 y1 y2 y3 HB7 ⊢
  go_quiet (fail)
  go_wp2
  go_ret
  exact ⟨rfl, Below.drewN HB7.out _⟩

set_option maxRecDepth 100000 in
set_option maxHeartbeats 1000000 in
theorem icmpBack_yn (k c r : Int) (l A : List UInt8) (E : Int) (h : ¬ 2000 < l.length) (s : List UInt8) (h2 : ¬ 2000 < s.length) (hM : IcM k c r l A E) (hE : E = 0)
    (F : Int) (hF : F ≠ 0) (hR : ∀ w, Calls Try.prog 18 #[.string ⟨s.toArray⟩] w fun e w' => e = .returned (.tuple #[ic0, .int .i64 F]) ∧ Below w.heap.size w w') (w : World) :
    Calls Try.prog 4 #[icV k c r ⟨l.toArray⟩, .string ⟨s.toArray⟩] w fun e w' => e = .returned (.bool true) ∧ Below w.heap.size w w' := by
  have hself := icEq_self
  have HB := Lib.hid ((Below.refl w.heap.size w).alloc (Nat.le_refl _) (.cells (icV k c r ⟨l.toArray⟩).cells 24))
  have HK := Lib.hid (Blk.new w 24 (icV k c r ⟨l.toArray⟩).cells 0 0 (Or.inl (Nat.le_refl _)))
  obtain ⟨hA, hM2⟩ := hM
  have HA := Lib.hid hA
  clear hA
  subst hE
  obtain ⟨hA2, hA3, hAl, hl5⟩ := hM2 rfl
  have HA2 := Lib.hid hA2
  have HA3 := Lib.hid hA3
  clear hM2 hA2 hA3
  have HR := Lib.hid hR
  have hF' : ¬ F = 0 := hF
  clear hR hF
  go_enter Try.func4, Try.ntmps4
  go_wp2_with fail
  refine (icawake_any _).mono ?_
  rintro e w1 ⟨rfl, hb1⟩
  have hK1 := HK.out.step hb1
  obtain ⟨c0, c1, c2, c3⟩ := blk_ic hK1
  have hlt1 := hK1.lt
  have HK1 := Lib.hid hK1
  have HB1 := Lib.hid (Below.step HB.out hb1)
  clear hb1 hK1
  go_wp2_with fail
  refine (HA.out _).mono ?_
  rintro e w2 ⟨rfl, hb2⟩
  have hK2 := HK1.out.step hb2
  have HK2 := Lib.hid hK2
  have HB2 := Lib.hid (Below.step HB1.out hb2)
  clear hb2 hK2 c0 c1 c2 c3
  go_wp2_with fail
  refine (HA2.out _).mono ?_
  rintro e w3 ⟨rfl, hb3⟩
  have hK3 := HK2.out.step hb3
  obtain ⟨c0, c1, c2, c3⟩ := blk_ic hK3
  have hlt3 := hK3.lt
  have HB3 := Lib.hid ((Below.step HB2.out hb3).alloc (Below.step HB2.out hb3).size (.cells (icV k c r ⟨l.toArray⟩).cells 24))
  clear hb3 hK3
  go_wp2_with fail
  refine (HA3.out _).mono ?_
  rintro e w4 ⟨rfl, rfl⟩
  clear hlt1
  go_wp2_with fail
  refine (HR.out _).mono ?_
  rintro e w5 ⟨rfl, hb5⟩
  have HB5 := Lib.hid (Below.step HB3.out hb5)
  clear hb5
  go_wp2
  go_ret
  exact ⟨rfl, HB5.out.alloc HB5.out.size _⟩

set_option maxRecDepth 100000 in
set_option maxHeartbeats 1000000 in
theorem icmpBack_ny (k c r : Int) (l A : List UInt8) (E : Int) (h : ¬ 2000 < l.length) (s : List UInt8) (h2 : ¬ 2000 < s.length) (hM : IcM k c r l A E) (hE : ¬ E = 0)
    (k' c' r' : Int) (l' a t u : List UInt8) (hT : IcT s k' c' r' l' a t u) (w : World) :
    Calls Try.prog 4 #[icV k c r ⟨l.toArray⟩, .string ⟨s.toArray⟩] w fun e w' => e = .returned (.bool true) ∧ Below w.heap.size w w' := by
  have hself := icEq_self
  have HB := Lib.hid ((Below.refl w.heap.size w).alloc (Nat.le_refl _) (.cells (icV k c r ⟨l.toArray⟩).cells 24))
  have HK := Lib.hid (Blk.new w 24 (icV k c r ⟨l.toArray⟩).cells 0 0 (Or.inl (Nat.le_refl _)))
  obtain ⟨hA, hM2⟩ := hM
  have HA := Lib.hid hA
  clear hA
  clear hM2
  obtain ⟨hR, hBy, hR2, hal, hs8, hs9, ha4, hs4, ha2, hs2⟩ := hT
  have HR := Lib.hid hR
  have HBy := Lib.hid hBy
  have HR2 := Lib.hid hR2
  have hs8' : 4 ≤ (s.length : Int) := by omega
  have hs9' : 2 ≤ (s.length : Int) := by omega
  clear hR hBy hR2
  go_enter Try.func4, Try.ntmps4
  go_wp2_with fail
  refine (icawake_any _).mono ?_
  rintro e w1 ⟨rfl, hb1⟩
  have hK1 := HK.out.step hb1
  obtain ⟨c0, c1, c2, c3⟩ := blk_ic hK1
  have hlt1 := hK1.lt
  have HK1 := Lib.hid hK1
  have HB1 := Lib.hid (Below.step HB.out hb1)
  clear hb1 hK1
  go_wp2_with fail
  refine (HA.out _).mono ?_
  rintro e w2 ⟨rfl, hb2⟩
  have HB3 := Lib.hid (Below.step HB1.out hb2)
  clear hb2 c0 c1 c2 c3
  go_wp2_with fail
  refine (HR.out _).mono ?_
  rintro e w5 ⟨rfl, hb5⟩
  have HB5 := Lib.hid ((Below.step HB3.out hb5).alloc (Below.step HB3.out hb5).size (.cells (icV k' c' r' ⟨l'.toArray⟩).cells 24))
  have HX := Lib.hid (Blk.new w5 24 (icV k' c' r' ⟨l'.toArray⟩).cells 0 0 (Or.inl (Nat.le_refl _)))
  clear hb5
  go_wp2_with fail
  refine (HBy.out _).mono ?_
  rintro e w6 ⟨rfl, hb6⟩
  have HX6 := Lib.hid (HX.out.step hb6)
  have HB6 := Lib.hid (Below.step HB5.out hb6)
  clear hb6
  go_wp2_with fail
  refine (HR2.out _).mono ?_
  rintro e w7 ⟨rfl, hb7⟩
  have hX7 := HX6.out.step hb7
  have hlt7 := hX7.lt
  obtain ⟨x0, x1, x2, x3⟩ := blk_ic (hX7.alloc (.cells (icV k' c' r' ⟨l'.toArray⟩).cells 24))
  obtain ⟨y0, y1, y2, y3⟩ := blk_ic (Blk.new w7 24 (icV k' c' r' ⟨l'.toArray⟩).cells 0 0 (Or.inl (Nat.le_refl _)))
  have HB7 := Lib.hid ((Below.step HB6.out hb7).alloc (Below.step HB6.out hb7).size (.cells (icV k' c' r' ⟨l'.toArray⟩).cells 24))
  clear hb7 hX7
  go_wp2
  simp only [Value.cells] at x0 x1 x2 x3 y0 y1 y2 y3 HB7
  generalize World.alloc _ _ = W at x0 x1 x2 x3 y0 y1 y2 y3 HB7 ⊢
  go_quiet (fail)
  go_wp2
  go_ret
  exact ⟨rfl, Below.drewN HB7.out _⟩

set_option maxRecDepth 100000 in
set_option maxHeartbeats 1000000 in
theorem icmpBack_nn (k c r : Int) (l A : List UInt8) (E : Int) (h : ¬ 2000 < l.length) (s : List UInt8) (h2 : ¬ 2000 < s.length) (hM : IcM k c r l A E) (hE : ¬ E = 0)
    (F : Int) (hF : F ≠ 0) (hR : ∀ w, Calls Try.prog 18 #[.string ⟨s.toArray⟩] w fun e w' => e = .returned (.tuple #[ic0, .int .i64 F]) ∧ Below w.heap.size w w') (w : World) :
    Calls Try.prog 4 #[icV k c r ⟨l.toArray⟩, .string ⟨s.toArray⟩] w fun e w' => e = .returned (.bool true) ∧ Below w.heap.size w w' := by
  have hself := icEq_self
  have HB := Lib.hid ((Below.refl w.heap.size w).alloc (Nat.le_refl _) (.cells (icV k c r ⟨l.toArray⟩).cells 24))
  have HK := Lib.hid (Blk.new w 24 (icV k c r ⟨l.toArray⟩).cells 0 0 (Or.inl (Nat.le_refl _)))
  obtain ⟨hA, hM2⟩ := hM
  have HA := Lib.hid hA
  clear hA
  clear hM2
  have HR := Lib.hid hR
  have hF' : ¬ F = 0 := hF
  clear hR hF
  go_enter Try.func4, Try.ntmps4
  go_wp2_with fail
  refine (icawake_any _).mono ?_
  rintro e w1 ⟨rfl, hb1⟩
  have hK1 := HK.out.step hb1
  obtain ⟨c0, c1, c2, c3⟩ := blk_ic hK1
  have hlt1 := hK1.lt
  have HK1 := Lib.hid hK1
  have HB1 := Lib.hid (Below.step HB.out hb1)
  clear hb1 hK1
  go_wp2_with fail
  refine (HA.out _).mono ?_
  rintro e w2 ⟨rfl, hb2⟩
  have HB3 := Lib.hid (Below.step HB1.out hb2)
  clear hb2 c0 c1 c2 c3
  go_wp2_with fail
  refine (HR.out _).mono ?_
  rintro e w5 ⟨rfl, hb5⟩
  have HB5 := Lib.hid (Below.step HB3.out hb5)
  clear hb5
  go_wp2
  go_ret
  exact ⟨rfl, HB5.out.alloc HB5.out.size _⟩

theorem icmpBack_walk (k c r : Int) (hk : -9223372036854775808 ≤ k ∧ k ≤ 9223372036854775807) (hc : -9223372036854775808 ≤ c ∧ c ≤ 9223372036854775807) (hr : 0 ≤ r ∧ r ≤ 4294967295)
    (l : List UInt8) (hl : l.length ≤ 9223372036854775807) (s : List UInt8) (hs : s.length ≤ 9223372036854775807) (w : World) :
    Calls Try.prog 4 #[icV k c r ⟨l.toArray⟩, .string ⟨s.toArray⟩] w fun e w' => e = .returned (.bool true) ∧ Below w.heap.size w w' := by
  by_cases h : 2000 < l.length ∨ 2000 < s.length
  · exact icmpBack_big k c r l hl s hs h w
  · have hM := icM_any k c r hk hc hr l hl
    have h1 : ¬ 2000 < l.length := fun g => h (Or.inl g)
    have h2 : ¬ 2000 < s.length := fun g => h (Or.inr g)
    by_cases hE : (icBytes k c r l).2 = 0
    · rcases icT_any s hs with ⟨k', c', r', l', a, t, u, hT⟩ | ⟨F, hF, hR⟩
      · exact icmpBack_yy k c r l _ _ h1 s h2 hM hE k' c' r' l' a t u hT w
      · exact icmpBack_yn k c r l _ _ h1 s h2 hM hE F hF hR w
    · rcases icT_any s hs with ⟨k', c', r', l', a, t, u, hT⟩ | ⟨F, hF, hR⟩
      · exact icmpBack_ny k c r l _ _ h1 s h2 hM hE k' c' r' l' a t u hT w
      · exact icmpBack_nn k c r l _ _ h1 s h2 hM hE F hF hR w
end Go.Proofs.Ytpnhopgfoakgnaa
