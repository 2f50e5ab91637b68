/- The closure that reads a head's numbers. Condition: a text of 64 bytes. -/
import Derived.Test.YtccbohjcbhibkaaJnD
namespace Go.Proofs.Ytccbohjcbhibkaa
set_option linter.unusedVariables false
set_option linter.unusedSimpArgs false
set_option maxRecDepth 100000
open Go.RowKit
attribute [local go_sem ↓] Go.wp_at_zero Go.wp_at_succ ix_dat ld_rec

theorem i64_or_nat (a b : Nat) (ha : a < 4611686018427387904) (hb : b < 4611686018427387904) : bits .or .i64 (a : Int) (b : Int) = ((a ||| b : Nat) : Int) := by
  have e1 : (BitVec.ofInt 64 (a : Int)).toNat = a := by rw [BitVec.ofInt_natCast, BitVec.toNat_ofNat]; omega
  have e2 : (BitVec.ofInt 64 (b : Int)).toNat = b := by rw [BitVec.ofInt_natCast, BitVec.toNat_ofNat]; omega
  show IntKind.i64.wrap ((BitVec.ofInt 64 (a : Int) ||| BitVec.ofInt 64 (b : Int)).toNat : Int) = _
  rw [BitVec.toNat_or, e1, e2]
  have h : a ||| b < 4611686018427387904 := Nat.or_lt_two_pow (n := 62) ha hb
  exact IntWalk.i64_in _ ⟨by omega, by omega⟩
theorem or_sh (m x k : Nat) (h : m < 2 ^ k) : m ||| x * 2 ^ k = m + x * 2 ^ k := by
  rw [Nat.or_comm, Nat.mul_comm, ← Nat.two_pow_add_eq_or_of_lt h]
  omega
/-- the number of 4 bytes -/
def nm4 (a b c d : UInt8) : Nat := a.toNat + b.toNat * 256 + c.toNat * 65536 + d.toNat * 16777216
theorem nm4_lt (a b c d : UInt8) : nm4 a b c d < 4294967296 := by
  have ha := a.toNat_lt
  have hb := b.toNat_lt
  have hc := c.toNat_lt
  have hd := d.toNat_lt
  unfold nm4
  omega
theorem nm4_or (a b c d : Nat) (ha : a < 256) (hb : b < 256) (hc : c < 256) (hd : d < 256) :
    bits .or .i64 (a : Int) ((b : Int) * 256) = (a : Int) + (b : Int) * 256 ∧
    bits .or .i64 ((a : Int) + (b : Int) * 256) ((c : Int) * 65536) = (a : Int) + (b : Int) * 256 + (c : Int) * 65536 ∧
    bits .or .i64 ((a : Int) + (b : Int) * 256 + (c : Int) * 65536) ((d : Int) * 16777216) = (a : Int) + (b : Int) * 256 + (c : Int) * 65536 + (d : Int) * 16777216 := by
  have h1 := i64_or_nat a (b * 2 ^ 8) (by omega) (by omega)
  rw [or_sh a b 8 (by omega)] at h1
  have h2 := i64_or_nat (a + b * 256) (c * 2 ^ 16) (by omega) (by omega)
  rw [or_sh (a + b * 256) c 16 (by omega)] at h2
  have h3 := i64_or_nat (a + b * 256 + c * 65536) (d * 2 ^ 24) (by omega) (by omega)
  rw [or_sh (a + b * 256 + c * 65536) d 24 (by omega)] at h3
  refine ⟨?_, ?_, ?_⟩
  · exact h1
  · exact h2
  · exact h3
/-- the number from a place on -/
def nmA (l : List UInt8) (o : Nat) : Nat := nm4 (l.getD o 0) (l.getD (o + 1) 0) (l.getD (o + 2) 0) (l.getD (o + 3) 0)

set_option maxHeartbeats 1000000 in
theorem number_any (l : List UInt8) (hl : l.length = 64) (p g cap i : Nat) (hcap : 64 ≤ cap) (hcm : cap ≤ maxLen) (hi : i ≤ 4) (w : World) (hp : w.cell? ⟨p, 0, none⟩ = some (.slice (some ⟨g, 0, none⟩) 64 cap)) (hb : Byt w 5 g l) :
    Calls Try.prog 56 #[.int .i64 (i : Int), .pointer (some ⟨p, 0, none⟩)] w fun e w' => e = .returned (.int .i64 (nmA l (4 + 4 * i) : Int)) ∧ ∃ q, w' = w.drewN q := by
  have hcm' : (cap : Int) ≤ 9223372036854775807 := by unfold maxLen at hcm; omega
  have c0 := hb.cell (4 + 4 * i) (by omega)
  have c1 := hb.cell (4 + 4 * i + 1) (by omega)
  have c2 := hb.cell (4 + 4 * i + 2) (by omega)
  have c3 := hb.cell (4 + 4 * i + 3) (by omega)
  have e0 : l.getD (4 + 4 * i) 0 = l[4 + 4 * i]'(by omega) := by simp [List.getD_eq_getElem?_getD, List.getElem?_eq_getElem (by omega : 4 + 4 * i < l.length)]
  have e1 : l.getD (4 + 4 * i + 1) 0 = l[4 + 4 * i + 1]'(by omega) := by simp [List.getD_eq_getElem?_getD, List.getElem?_eq_getElem (by omega : 4 + 4 * i + 1 < l.length)]
  have e2 : l.getD (4 + 4 * i + 2) 0 = l[4 + 4 * i + 2]'(by omega) := by simp [List.getD_eq_getElem?_getD, List.getElem?_eq_getElem (by omega : 4 + 4 * i + 2 < l.length)]
  have e3 : l.getD (4 + 4 * i + 3) 0 = l[4 + 4 * i + 3]'(by omega) := by simp [List.getD_eq_getElem?_getD, List.getElem?_eq_getElem (by omega : 4 + 4 * i + 3 < l.length)]
  have HV : Hid (nmA l (4 + 4 * i) = nm4 (l[4 + 4 * i]'(by omega)) (l[4 + 4 * i + 1]'(by omega)) (l[4 + 4 * i + 2]'(by omega)) (l[4 + 4 * i + 3]'(by omega))) := Lib.hid (by unfold nmA; rw [e0, e1, e2, e3])
  clear e0 e1 e2 e3
  have b0 := (l[4 + 4 * i]'(by omega)).toNat_lt
  have b1 := (l[4 + 4 * i + 1]'(by omega)).toNat_lt
  have b2 := (l[4 + 4 * i + 2]'(by omega)).toNat_lt
  have b3 := (l[4 + 4 * i + 3]'(by omega)).toNat_lt
  unfold nm4 at HV
  generalize (l[4 + 4 * i]'(by omega)).toNat = x0 at c0 HV b0
  generalize (l[4 + 4 * i + 1]'(by omega)).toNat = x1 at c1 HV b1
  generalize (l[4 + 4 * i + 2]'(by omega)).toNat = x2 at c2 HV b2
  generalize (l[4 + 4 * i + 3]'(by omega)).toNat = x3 at c3 HV b3
  obtain ⟨o1, o2, o3⟩ := nm4_or x0 x1 x2 x3 b0 b1 b2 b3
  have hlow : (4 : Int) + 4 * (i : Int) ≤ 20 := by omega
  have hlow0 : (0 : Int) ≤ 4 + 4 * (i : Int) := by omega
  have hne : ¬ cap = 4 + 4 * i := by omega
  clear hb
  go_enter Try.func56, Try.ntmps56
  go_upto_region 2 with fail
  go_quiet (fail)
  go_wp2
  go_ret
  exact ⟨ret_int (by rw [HV.out]; omega), _, rfl⟩
end Go.Proofs.Ytccbohjcbhibkaa
