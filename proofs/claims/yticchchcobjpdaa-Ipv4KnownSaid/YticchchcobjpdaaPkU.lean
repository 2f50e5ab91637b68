/- The walk through the law Ipv4Sums: it answers true. -/
import Derived.Test.YticchchcobjpdaaPkA
import Derived.Test.YticchchcobjpdaaPkQ
namespace Go.Proofs.Yticchchcobjpdaa
set_option linter.unusedVariables false
set_option linter.unusedSimpArgs false
set_option maxRecDepth 100000
open Go.RowKit
attribute [local go_sem ↓] Go.wp_at_zero Go.wp_at_succ

theorem sum_q (l : List UInt8) (h : l.length ≤ 1000000) (v : Int) (hv : sumE ⟨l.toArray⟩ = v) (w : World) :
    Calls Try.prog 15 #[.string ⟨l.toArray⟩] w fun e w' => e = .returned (.int .i64 v) ∧ w' = w := by
  subst hv
  exact (sum_any w ⟨l.toArray⟩ h).mono fun _ _ ⟨a, b⟩ => ⟨a, b.symm⟩

theorem xor_bit (x : UInt8) (j : Nat) (h : j < 8) : ∃ y : UInt8, bits .xor .u8 (x.toNat : Int) ((2 ^ j : Nat) : Int) = (y.toNat : Int) ∧ (y.toNat = x.toNat + 2 ^ j ∨ x.toNat = y.toNat + 2 ^ j) := by
  have hx := x.toNat_lt
  have hj : 2 ^ j < 256 := Nat.lt_of_lt_of_le (Nat.pow_lt_pow_right (by omega) h) (by decide)
  have key : ∀ x : Fin 256, ∀ j : Fin 8, (x.val ^^^ 2 ^ j.val) < 256 ∧ ((x.val ^^^ 2 ^ j.val) = x.val + 2 ^ j.val ∨ x.val = (x.val ^^^ 2 ^ j.val) + 2 ^ j.val) := by decide +kernel
  have hk := key ⟨x.toNat, hx⟩ ⟨j, h⟩
  simp only at hk
  refine ⟨UInt8.ofNat (x.toNat ^^^ 2 ^ j), ?_, ?_⟩
  · have e1 : (BitVec.ofInt 8 (x.toNat : Int)).toNat = x.toNat := by rw [BitVec.ofInt_natCast, BitVec.toNat_ofNat]; omega
    have e2 : (BitVec.ofInt 8 ((2 ^ j : Nat) : Int)).toNat = 2 ^ j := by rw [BitVec.ofInt_natCast, BitVec.toNat_ofNat, Nat.mod_eq_of_lt hj]
    show IntKind.u8.wrap ((BitVec.ofInt 8 (x.toNat : Int) ^^^ BitVec.ofInt 8 ((2 ^ j : Nat) : Int)).toNat : Int) = _
    rw [BitVec.toNat_xor, e1, e2, ofNat_toNat _ hk.1]
    exact u8_in _ ⟨by omega, by have := hk.1; omega⟩
  · rw [ofNat_toNat _ hk.1]
    exact hk.2

set_option maxHeartbeats 1000000 in
theorem ipv4Sums_walk (a b : List UInt8) (ha : a.length ≤ 9223372036854775807) (hb : b.length ≤ 9223372036854775807) (at' : Nat) (hat : at' ≤ 65535) (bit : Nat) (hbit : bit ≤ 255) (w : World) :
    Calls Try.prog 8 #[.string ⟨a.toArray⟩, .string ⟨b.toArray⟩, .int .u16 at', .int .u8 bit] w fun e w' => e = .returned (.bool true) ∧ Below w.heap.size w w' := by
  by_cases h1 : 3000 < (a.length : Int)
  · go_enter Try.func8, Try.ntmps8
    go_wp2_with fail
    refine (pkawake_any _).mono ?_
    rintro e w1 ⟨rfl, hb1⟩
    have HB1 := Lib.hid hb1
    clear hb1
    go_wp2
    go_ret
    exact ⟨rfl, HB1.out⟩
  by_cases h2 : 3000 < (b.length : Int)
  · have h1' : (a.length : Int) ≤ 3000 := by omega
    go_enter Try.func8, Try.ntmps8
    go_wp2_with fail
    refine (pkawake_any _).mono ?_
    rintro e w1 ⟨rfl, hb1⟩
    have HB1 := Lib.hid hb1
    clear hb1
    go_wp2
    go_ret
    exact ⟨rfl, HB1.out⟩
  obtain ⟨p, hp⟩ : ∃ p, p = a.length / 2 := ⟨_, rfl⟩
  obtain ⟨q, hq⟩ : ∃ q, q = a.length / 2 * 2 := ⟨_, rfl⟩
  obtain ⟨p', hp'⟩ : ∃ p, p = b.length / 2 := ⟨_, rfl⟩
  obtain ⟨q', hq'⟩ : ∃ q, q = b.length / 2 * 2 := ⟨_, rfl⟩
  have wp1 : IntKind.i64.wrap ((a.length : Int) / 2) = (p : Int) := by rw [IntWalk.i64_in _ (by omega)]; omega
  have wp2 : IntKind.i64.wrap ((p : Int) * 2) = (q : Int) := by rw [IntWalk.i64_in _ (by omega)]; omega
  have wp3 : IntKind.i64.wrap ((b.length : Int) / 2) = (p' : Int) := by rw [IntWalk.i64_in _ (by omega)]; omega
  have wp4 : IntKind.i64.wrap ((p' : Int) * 2) = (q' : Int) := by rw [IntWalk.i64_in _ (by omega)]; omega
  have lq : (q : Int) ≤ (a.length : Int) := by omega
  have lq' : (q' : Int) ≤ (b.length : Int) := by omega
  obtain ⟨A, hA⟩ : ∃ A, A = a.take q := ⟨_, rfl⟩
  obtain ⟨B, hB⟩ : ∃ B, B = b.take q' := ⟨_, rfl⟩
  have heA : (⟨a.toArray⟩ : ByteArray).extract 0 q = ⟨A.toArray⟩ := by rw [ext_list', hA]; rfl
  have heB : (⟨b.toArray⟩ : ByteArray).extract 0 q' = ⟨B.toArray⟩ := by rw [ext_list', hB]; rfl
  have hlA : A.length = q := by rw [hA, List.length_take]; omega
  have hlB : B.length = q' := by rw [hB, List.length_take]; omega
  have hA2 : A.length % 2 = 0 := by omega
  have hB2 : B.length % 2 = 0 := by omega
  have lA : (A.length : Int) ≤ 3000 := by omega
  have lB : (B.length : Int) ≤ 3000 := by omega
  have h1' : (a.length : Int) ≤ 3000 := by omega
  have h2' : (b.length : Int) ≤ 3000 := by omega
  clear hA hB hp hq hp' hq' hlA hlB
  have hin := sumE_in ⟨A.toArray⟩
  obtain ⟨n, hn⟩ : ∃ n : Nat, sumE ⟨A.toArray⟩ = (n : Int) := ⟨_, (Int.toNat_of_nonneg hin.1).symm⟩
  have hS0 := fun w => sum_q A (by omega) _ hn w
  have hbe := be2 (sumE ⟨A.toArray⟩) hin
  have hS1 := sum_behind A hA2
  have hS2 := sum_ahead A
  rw [hbe, hn, Int.toNat_natCast] at hS1 hS2
  have hC1 := fun w => sum_q _ (by simp only [List.length_append, List.length_cons, List.length_nil]; omega) _ hS1 w
  have hC2 := fun w => sum_q _ (by simp only [List.length_append, List.length_cons, List.length_nil]; omega) _ hS2 w
  have hab := sum_comm A B hA2 hB2
  obtain ⟨m, hm⟩ : ∃ m, m = sumE ⟨(B ++ A).toArray⟩ := ⟨_, rfl⟩
  have hC3 := fun w => sum_q (A ++ B) (by rw [List.length_append]; omega) m (by rw [hm, hab]) w
  have hC4 := fun w => sum_q (B ++ A) (by rw [List.length_append]; omega) m hm.symm w
  rw [hn] at hin
  have hn1 : (n : Int) ≤ 65535 := hin.2
  obtain ⟨x, hx⟩ : ∃ x : Nat, x = n / 256 := ⟨_, rfl⟩
  obtain ⟨y, hy⟩ : ∃ y : Nat, y = n % 256 := ⟨_, rfl⟩
  have hwx : (n : Int) / 256 = (x : Int) := by omega
  have hux : IntKind.u8.wrap (x : Int) = (x : Int) := u8_in _ (by omega)
  have huy : IntKind.u8.wrap (n : Int) = (y : Int) := by rw [show IntKind.u8.wrap (n : Int) = (n : Int) % 256 by simp [IntKind.wrap, IntKind.bits, IntKind.signed]]; omega
  have hxx : (x : Int) = ((UInt8.ofNat (n / 256)).toNat : Int) := by rw [ofNat_toNat _ (by omega)]; omega
  have hyy : (y : Int) = ((UInt8.ofNat n).toNat : Int) := by rw [UInt8.toNat_ofNat']; omega
  generalize UInt8.ofNat (n / 256) = hi at hC1 hC2 hxx
  generalize UInt8.ofNat n = lo at hC1 hC2 hyy
  simp only [← str_append] at hC1 hC2 hC3 hC4
  have HTW := Lib.hid (fun w => run_two Try.prog w 47 9 5 hi lo (x : Int) (y : Int) hxx hyy Try.underlying47 Try.underlying5 Try.underlying9)
  have HN := Lib.hid hn
  have HS0 := Lib.hid hS0
  have HC1 := Lib.hid hC1
  have HC2 := Lib.hid hC2
  have HC3 := Lib.hid hC3
  have HC4 := Lib.hid hC4
  clear hS0 hC1 hC2 hC3 hC4 hS1 hS2 hbe hn hin hab hm hx hy hxx hyy hA2 hB2 h1 h2 ha hb
  go_enter Try.func8, Try.ntmps8
  go_wp2_with fail
  refine (pkawake_any _).mono ?_
  rintro e w1 ⟨rfl, hb1⟩
  have HB1 := Lib.hid hb1
  clear hb1
  go_wp2_with fail
  refine (HS0.out _).mono ?_
  rintro e w2 ⟨rfl, rfl⟩
  have htw0 := HTW.out w2
  go_wp2_with fail
  refine (HC1.out _).mono ?_
  rintro e w3 ⟨rfl, rfl⟩
  go_wp2_with fail
  refine (HC2.out _).mono ?_
  rintro e w3 ⟨rfl, rfl⟩
  go_wp2_with fail
  refine (HC3.out _).mono ?_
  rintro e w3 ⟨rfl, rfl⟩
  go_wp2_with fail
  refine (HC4.out _).mono ?_
  rintro e w3 ⟨rfl, rfl⟩
  have HB2 := Lib.hid (HB1.out.alloc HB1.out.size (.cells #[.int .u8 (x : Int), .int .u8 (y : Int)] 5))
  generalize World.alloc _ _ = w4 at HB2 ⊢
  clear htw0
  by_cases h0 : A.length = 0
  · have h0' : (A.length : Int) = 0 := by omega
    go_wp2
    go_ret
    exact ⟨rfl, HB2.out⟩
  have h0' : ¬ (A.length : Int) = 0 := by omega
  have hcv := fun w s => run_bytes_of_string (P := Try.prog) w 9 47 5 s Try.underlying9 Try.underlying47 Try.underlying5
  obtain ⟨K, hK⟩ : ∃ K, K = at' % A.length := ⟨_, rfl⟩
  have hKl : K < A.length := by rw [hK]; exact Nat.mod_lt _ (by omega)
  have hat1 : IntKind.i64.wrap (at' : Int) = (at' : Int) := IntWalk.i64_in _ (by omega)
  have hat2 : (at' : Int).tmod (A.length : Int) = (K : Int) := by rw [hK]; exact (Int.ofNat_tmod _ _).symm
  have hKi : (K : Int) < (A.length : Int) := by omega
  clear hK
  go_upto_region 15 with fail
  have HY := Lib.hid (Byt.new w4 5 ⟨A.toArray⟩ (grownCap w4 A.length 0 5) _ ((bytesRow ⟨A.toArray⟩ (grownCap w4 A.length 0 5)).size + 1) (Nat.le_refl _)).drew
  have HB3 := Lib.hid (HB2.out.alloc HB2.out.size (.cells (bytesRow ⟨A.toArray⟩ (grownCap w4 A.length 0 5)) 5 ((bytesRow ⟨A.toArray⟩ (grownCap w4 A.length 0 5)).size, (bytesRow ⟨A.toArray⟩ (grownCap w4 A.length 0 5)).size + 1))).drew
  generalize World.drew _ = w5 at HY HB3 ⊢
  generalize grownCap w4 A.length 0 5 = cap
  have hlt4 := HB2.out.size
  generalize w4.heap.size = g at HY hlt4 ⊢
  clear hcv HB2
  have hy0 : Byt w5 5 g A := HY.out
  have c := hy0.cell K hKl
  have fz := hy0.free K hKl
  obtain ⟨v, hv⟩ : ∃ v, v = A[K] := ⟨_, rfl⟩
  rw [← hv] at c
  obtain ⟨j, hj⟩ : ∃ j, j = bit % 8 := ⟨_, rfl⟩
  have hj8 : j < 8 := by omega
  have hjt : (bit : Int).tmod 8 = (j : Int) := by rw [Int.tmod_eq_emod_of_nonneg (by omega)]; omega
  have hjl : (j : Int) ≤ 8 := by omega
  obtain ⟨z, hz1, hz2⟩ := xor_bit v j hj8
  have hP1 : 1 ≤ 2 ^ j := Nat.one_le_two_pow
  have hP2 : 2 ^ j ≤ 128 := Nat.pow_le_pow_right (n := 2) (by decide) (show j ≤ 7 by omega)
  have hsh : IntKind.u8.wrap ((2 : Int) ^ j) = ((2 ^ j : Nat) : Int) := by
    have : (2 : Int) ^ j = ((2 ^ j : Nat) : Int) := by simp
    rw [this]; exact u8_in _ ⟨by omega, by omega⟩
  have hne := flip_sum A K hKl z (2 ^ j) ⟨hP1, hP2⟩ (by rw [← hv]; exact hz2)
  generalize 2 ^ j = P at hz1 hsh hne hP1 hP2 hz2
  rw [HN.out] at hne
  have hY2 := hy0.set K hKl z
  obtain ⟨M, hM⟩ : ∃ M, M = sumE ⟨(A.set K z).toArray⟩ := ⟨_, rfl⟩
  have hset := fun w => sum_q (A.set K z) (by rw [List.length_set]; omega) M hM.symm w
  rw [← hM] at hne
  have hne' : (M != (n : Int)) = true := by simpa using hne
  have hlZ : (A.set K z).length = A.length := List.length_set
  generalize A.set K z = Z at hY2 hset hlZ
  have HSE := Lib.hid hset
  have HY2 := Lib.hid hY2
  have HB4 := Lib.hid (Below.setCell (p := ⟨g, K, none⟩) HB3.out hlt4 (.int .u8 (z.toNat : Int)))
  have HZ := Lib.hid hlZ
  clear hy0 hv hj hz2 hP1 hP2 hset hM hY2 hne hlZ HY
  go_upto_region 16 with fail
  generalize World.setCell _ _ _ = w6 at HY2 HB4 ⊢
  have hbk := run_back Try.prog w6 47 9 5 g 0 cap Z Try.underlying47 Try.underlying5 Try.underlying9 HY2.out.at
  rw [HZ.out] at hbk
  go_wp2_with fail
  refine (HSE.out _).mono ?_
  rintro e w7 ⟨rfl, rfl⟩
  go_wp2
  go_ret
  exact ⟨rfl, HB4.out⟩
end Go.Proofs.Yticchchcobjpdaa
