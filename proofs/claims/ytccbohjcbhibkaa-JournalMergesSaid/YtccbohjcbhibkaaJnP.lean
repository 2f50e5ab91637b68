/- Records of the journal as plain data; what the small functions answer. No walk is in sight. -/
import Derived.Test.YtccbohjcbhibkaaBase
namespace Go.Proofs.Ytccbohjcbhibkaa
set_option linter.unusedVariables false
open Go.RowKit

/-- a record -/
structure Rc where
  ep : Int
  sq : Int
  rw : Int
  d0 : List UInt8
  d1 : List UInt8
  d2 : List UInt8
  d3 : List UInt8
abbrev sv (l : List UInt8) : Value := .string ⟨l.toArray⟩
/-- a record's cells -/
def rcC (r : Rc) : Array Value := #[.int .i64 r.ep, .int .i64 r.sq, .int .i64 r.rw, sv r.d0, sv r.d1, sv r.d2, sv r.d3]
def rcD (r : Rc) : Array Value := #[sv r.d0, sv r.d1, sv r.d2, sv r.d3]
theorem rcC_size (r : Rc) : (rcC r).size = 7 := rfl
theorem rcC_one (r : Rc) : (rcC r).toList.all (·.oneCell') = true := rfl
def bt (b : Bool) (n : Nat) : Nat := if b then n else 0
/-- is a text none? -/
def em (s : List UInt8) : Bool := s == []
def maskN (a b c d : Bool) : Nat := bt (!a) 1 + bt (!b) 2 + bt (!c) 4 + bt (!d) 8
def maskR (r : Rc) : Nat := maskN (em r.d0) (em r.d1) (em r.d2) (em r.d3)
/-- of the first k members -/
def maskK (r : Rc) : Nat → Nat
  | 0 => 0
  | 1 => bt (!em r.d0) 1
  | 2 => bt (!em r.d0) 1 + bt (!em r.d1) 2
  | 3 => bt (!em r.d0) 1 + bt (!em r.d1) 2 + bt (!em r.d2) 4
  | _ => maskR r
theorem bt_le (b : Bool) (n : Nat) : bt b n ≤ n := by unfold bt; split <;> omega
theorem maskR_lt (r : Rc) : maskR r < 16 := by
  unfold maskR maskN
  have h0 := bt_le (!em r.d0) 1
  have h1 := bt_le (!em r.d1) 2
  have h2 := bt_le (!em r.d2) 4
  have h3 := bt_le (!em r.d3) 8
  omega
theorem or_1 : ∀ m : Nat, m < 1 → bits .or .i64 (m : Int) 1 = ((m + 1 : Nat) : Int) := by decide +kernel
theorem or_2 : ∀ m : Nat, m < 2 → bits .or .i64 (m : Int) 2 = ((m + 2 : Nat) : Int) := by decide +kernel
theorem or_4 : ∀ m : Nat, m < 4 → bits .or .i64 (m : Int) 4 = ((m + 4 : Nat) : Int) := by decide +kernel
theorem or_8 : ∀ m : Nat, m < 8 → bits .or .i64 (m : Int) 8 = ((m + 8 : Nat) : Int) := by decide +kernel
/-- a member's text -/
def dk (r : Rc) : Nat → List UInt8
  | 0 => r.d0
  | 1 => r.d1
  | 2 => r.d2
  | _ => r.d3
theorem mask_no (r : Rc) (k : Nat) (hk : k < 4) (h : em (dk r k) = true) : maskK r (k + 1) = maskK r k := by
  match k, hk with
  | 0, _ | 1, _ | 2, _ | 3, _ => simp only [dk] at h; simp [maskK, maskR, maskN, h, bt]
theorem mask_yes (r : Rc) (k : Nat) (hk : k < 4) (h : em (dk r k) = false) : bits .or .i64 (maskK r k : Int) (2 ^ k) = (maskK r (k + 1) : Int) := by
  have h0 := bt_le (!em r.d0) 1
  have h1 := bt_le (!em r.d1) 2
  have h2 := bt_le (!em r.d2) 4
  match k, hk with
  | 0, _ =>
    refine (or_1 (maskK r 0) (by simp only [maskK]; omega)).trans ?_
    simp only [dk] at h; simp [maskK, h, bt]
  | 1, _ =>
    refine (or_2 (maskK r 1) (by simp only [maskK]; omega)).trans ?_
    simp only [dk] at h; simp [maskK, h, bt]
  | 2, _ =>
    refine (or_4 (maskK r 2) (by simp only [maskK]; omega)).trans ?_
    simp only [dk] at h; simp [maskK, h, bt]
  | 3, _ =>
    refine (or_8 (maskK r 3) (by simp only [maskK]; omega)).trans ?_
    simp only [dk] at h; simp [maskK, maskR, maskN, h, bt]
theorem em_nil : em [] = true := rfl
theorem em_ne {s : List UInt8} (h : ¬ s = []) : em s = false := beq_eq_false_iff_ne.2 h
def okS (s : List UInt8) : Bool := em s || s.length == 64
def cntB (n : Int) : Bool := decide (1 ≤ n) && decide (n ≤ 2147483647)
/-- is it a record? -/
def rightB (r : Rc) : Bool := okS r.d0 && (okS r.d1 && (okS r.d2 && okS r.d3)) && (cntB r.ep && (cntB r.sq && (decide (0 ≤ r.rw) && decide (r.rw < 64) && (maskR r != 0))))
/-- are the first k members' texts right? -/
def okK (r : Rc) : Nat → Bool
  | 0 => true
  | k + 1 => okK r k && okS (dk r k)
theorem right_eq (r : Rc) : rightB r = (okK r 4 && (cntB r.ep && (cntB r.sq && (decide (0 ≤ r.rw) && decide (r.rw < 64) && (maskR r != 0))))) := by
  unfold rightB
  simp [okK, dk, Bool.and_assoc]
theorem right_not (r : Rc) (k : Nat) (hk : k < 4) (h : okS (dk r k) = false) : rightB r = false := by
  rw [right_eq]
  have e : okK r 4 = false := by
    obtain rfl | rfl | rfl | rfl : k = 0 ∨ k = 1 ∨ k = 2 ∨ k = 3 := by omega
    all_goals simp [okK, h]
  rw [e]; rfl
end Go.Proofs.Ytccbohjcbhibkaa
