/- The walk through the law IcmpQuotes: it answers true. -/
import Derived.Test.YtpnhopgfoakgnaaIcmpU
namespace Go.Proofs.Ytpnhopgfoakgnaa
set_option linter.unusedVariables false
open Go.RowKit
attribute [local go_sem ↓] Go.wp_at_zero Go.wp_at_succ
attribute [local go_sem ↓] run_ic_eql run_ic_neq

theorem icu_form (s : ByteArray) : ∃ l : List UInt8, s.extract 0 (icN s) = ⟨l.toArray⟩ ∧ l.length = icN s ∧ s.extract 0 l.length = ⟨l.toArray⟩ := by
  have h := (icN_le s).2.1
  have hl : (s.extract 0 (icN s)).data.toList.length = icN s := by rw [size_list]; simp; omega
  exact ⟨(s.extract 0 (icN s)).data.toList, rfl, hl, by rw [hl]⟩

theorem icu_bytes (c : Int) (l : List UInt8) (h : l.length ≤ 68) (w : World) :
    Calls Try.prog 16 #[icV 3 (c % 256) 0 ⟨l.toArray⟩] w fun e w' => (∃ s, e = .returned (.tuple #[.string s, .int .i64 0])) ∧ Below w.heap.size w w' := by
  have e : (icBytes 3 (c % 256) 0 l).2 = 0 := by rw [icBytes, if_neg (by omega), if_neg (by omega)]
  refine (ic_any 3 (c % 256) 0 l w (by omega) (by omega) (by omega) (by omega)).mono ?_
  rintro e' w' ⟨rfl, hb⟩
  exact ⟨⟨_, by rw [e]⟩, hb⟩

set_option maxRecDepth 100000 in
set_option maxHeartbeats 1000000 in
theorem icmpQuotes_walk (c : Int) (hc : -9223372036854775808 ≤ c ∧ c ≤ 9223372036854775807) (t : List UInt8) (ht : t.length ≤ 9223372036854775807) (w : World) :
    Calls Try.prog 9 #[.int .i64 c, .string ⟨t.toArray⟩] w fun e w' => e = .returned (.bool true) ∧ Below w.heap.size w w' := by
  by_cases h : 2000 < t.length
  · go_enter Try.func9, Try.ntmps9
    go_wp2_with fail
    refine (icawake_any _).mono ?_
    rintro e w1 ⟨rfl, hb1⟩
    go_wp2
    go_ret
    exact ⟨rfl, hb1⟩
  · have hU := fun w => icu_any c ⟨t.toArray⟩ w hc ht
    have hN := icN_le ⟨t.toArray⟩
    obtain ⟨l, hl, hll, hex⟩ := icu_form ⟨t.toArray⟩
    have hsz : (⟨t.toArray⟩ : ByteArray).size = t.length := rfl
    rw [hl] at hU
    rw [← hll, hsz] at hN
    obtain ⟨hn1, hn2, hn3⟩ := hN
    have hn2' : (l.length : Int) ≤ (t.length : Int) := by omega
    have hn1' : (l.length : Int) ≤ 68 := by omega
    have HU := Lib.hid hU
    have H1 := Lib.hid hn1
    have hc0 : -9223372036854775808 ≤ c % 256 ∧ c % 256 ≤ 255 := by omega
    obtain ⟨hca, hcb⟩ := hc0
    clear hU hl hll hsz hc
    by_cases h8 : 8 ≤ l.length
    · have h8' : 8 ≤ (l.length : Int) := by omega
      clear hn3
      go_enter Try.func9, Try.ntmps9
      go_wp2_with fail
      refine (icawake_any _).mono ?_
      rintro e w1 ⟨rfl, hb1⟩
      go_wp2_with fail
      refine (HU.out _).mono ?_
      rintro e w2 ⟨rfl, hb2⟩
      go_wp2_with fail
      refine (icu_bytes c l H1.out _).mono ?_
      rintro e w3 ⟨⟨a, rfl⟩, hb3⟩
      have hK := (Blk.new w2 24 (icV 3 (c % 256) 0 ⟨l.toArray⟩).cells 0 0 (Or.inl (Nat.le_refl _))).below hb3 (by simp)
      have c0 : w3.cell? ⟨w2.heap.size, 0, none⟩ = some (.int .i64 3) := by rw [hK.cell]; rfl
      have c2 : w3.cell? ⟨w2.heap.size, 2, none⟩ = some (.int .u32 0) := by rw [hK.cell]; rfl
      have c3 : w3.cell? ⟨w2.heap.size, 3, none⟩ = some (.string ⟨l.toArray⟩) := by rw [hK.cell]; rfl
      have h12 := hb1.size
      have h23 := hb2.size
      have h3 := hb3.size
      simp only [size_alloc] at h3
      have HB := Lib.hid (((hb1.trans (hb2.mono h12)).alloc (by omega) (.cells (icV 3 (c % 256) 0 ⟨l.toArray⟩).cells 24)).trans (hb3.mono (by rw [size_alloc]; omega)))
      clear hb1 hb2 hb3 hK h12 h23 h3
      go_wp2
      go_quiet (fail)
      go_wp2
      go_ret
      exact ⟨rfl, Below.drewN HB.out _⟩
    · have h8' : ¬ 8 ≤ (l.length : Int) := by omega
      have hlt : l = t := by
        have hq : l.length = t.length := by omega
        have e : (⟨t.toArray⟩ : ByteArray).extract 0 l.length = ⟨t.toArray⟩ := by
          have h0 : (⟨t.toArray⟩ : ByteArray).size = l.length := hq.symm
          rw [← h0]
          simp
        rw [e] at hex
        have h1 := congrArg (fun b : ByteArray => b.data.toList) hex
        simpa using h1.symm
      subst hlt
      clear hn3 hn2 hn2'
      have h8'' : (l.length : Int) < 8 := by omega
      go_enter Try.func9, Try.ntmps9
      go_wp2_with fail
      refine (icawake_any _).mono ?_
      rintro e w1 ⟨rfl, hb1⟩
      go_wp2_with fail
      refine (HU.out _).mono ?_
      rintro e w2 ⟨rfl, hb2⟩
      go_wp2_with fail
      refine (icu_bytes c l H1.out _).mono ?_
      rintro e w3 ⟨⟨a, rfl⟩, hb3⟩
      have hK := (Blk.new w2 24 (icV 3 (c % 256) 0 ⟨l.toArray⟩).cells 0 0 (Or.inl (Nat.le_refl _))).below hb3 (by simp)
      have c0 : w3.cell? ⟨w2.heap.size, 0, none⟩ = some (.int .i64 3) := by rw [hK.cell]; rfl
      have c2 : w3.cell? ⟨w2.heap.size, 2, none⟩ = some (.int .u32 0) := by rw [hK.cell]; rfl
      have c3 : w3.cell? ⟨w2.heap.size, 3, none⟩ = some (.string ⟨l.toArray⟩) := by rw [hK.cell]; rfl
      have h12 := hb1.size
      have h23 := hb2.size
      have h3 := hb3.size
      simp only [size_alloc] at h3
      have HB := Lib.hid (((hb1.trans (hb2.mono h12)).alloc (by omega) (.cells (icV 3 (c % 256) 0 ⟨l.toArray⟩).cells 24)).trans (hb3.mono (by rw [size_alloc]; omega)))
      clear hb1 hb2 hb3 hK h12 h23 h3
      go_wp2
      go_quiet (fail)
      go_wp2
      go_ret
      exact ⟨rfl, Below.drewN HB.out _⟩
end Go.Proofs.Ytpnhopgfoakgnaa
