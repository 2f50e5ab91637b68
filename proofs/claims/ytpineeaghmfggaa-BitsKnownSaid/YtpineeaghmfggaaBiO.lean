/- How many bits of a number are set, reckoned in parallel, as math/bits does. Plain facts: no walk is in sight. -/
import Derived.Test.YtpineeaghmfggaaBase
namespace Go.Proofs.Ytpineeaghmfggaa
set_option linter.unusedVariables false

theorem land_split (a b c d k : Nat) (hb : b < 2 ^ k) (hd : d < 2 ^ k) : (b + 2 ^ k * a) &&& (d + 2 ^ k * c) = (b &&& d) + 2 ^ k * (a &&& c) := by
  have hbd : b &&& d < 2 ^ k := Nat.lt_of_le_of_lt Nat.and_le_left hb
  apply Nat.eq_of_testBit_eq
  intro j
  rw [Nat.testBit_and, Nat.add_comm b, Nat.add_comm d, Nat.add_comm (b &&& d), Nat.testBit_two_pow_mul_add _ hb, Nat.testBit_two_pow_mul_add _ hd, Nat.testBit_two_pow_mul_add _ hbd]
  by_cases h : j < k
  · simp [h]
  · simp [h]

/-- a number of bytes -/
def num : List Nat → Nat
  | [] => 0
  | y :: r => y + 256 * num r
def masks (m : Nat) (n : Nat) : Nat := num (List.replicate n m)
theorem land256 (a b c d : Nat) (hb : b < 256) (hd : d < 256) : (b + 256 * a) &&& (d + 256 * c) = (b &&& d) + 256 * (a &&& c) := land_split a b c d 8 hb hd

def g1 (y : Nat) : Nat := (y / 2 &&& 85) + (y &&& 85)
def g2 (y : Nat) : Nat := (y / 4 &&& 51) + (y &&& 51)
def g3 (c : Nat) : Nat := (c / 16 + c) % 16

theorem oc1 : ∀ (ys : List Nat), (∀ y ∈ ys, y < 256) → (num ys / 2 &&& masks 85 ys.length) + (num ys &&& masks 85 ys.length) = num (ys.map g1)
  | [], _ => by decide
  | y :: r, h => by
    have ih := oc1 r (fun x hx => h x (by simp [hx]))
    have hy := h y (by simp)
    have e : masks 85 (y :: r).length = 85 + 256 * masks 85 r.length := rfl
    have e2 : num (y :: r) = y + 256 * num r := rfl
    have e3 : num ((y :: r).map g1) = g1 y + 256 * num (r.map g1) := rfl
    rw [e, e2, e3, ← ih]
    generalize num r = z
    generalize masks 85 r.length = M
    have e4 : (y + 256 * z) / 2 = (y / 2 + 128 * (z % 2)) + 256 * (z / 2) := by omega
    have hb : z % 2 < 2 := Nat.mod_lt _ (by omega)
    have e5 : ∀ y, y < 256 → ∀ b, b < 2 → (y / 2 + 128 * b) &&& 85 = y / 2 &&& 85 := by decide +kernel
    rw [e4, land256 _ _ _ _ (by omega) (by omega), land256 _ _ _ _ hy (by omega), e5 y hy _ hb]
    simp only [g1]
    omega
theorem oc2 : ∀ (ys : List Nat), (∀ y ∈ ys, y < 256) → (num ys / 4 &&& masks 51 ys.length) + (num ys &&& masks 51 ys.length) = num (ys.map g2)
  | [], _ => by decide
  | y :: r, h => by
    have ih := oc2 r (fun x hx => h x (by simp [hx]))
    have hy := h y (by simp)
    have e : masks 51 (y :: r).length = 51 + 256 * masks 51 r.length := rfl
    have e2 : num (y :: r) = y + 256 * num r := rfl
    have e3 : num ((y :: r).map g2) = g2 y + 256 * num (r.map g2) := rfl
    rw [e, e2, e3, ← ih]
    generalize num r = z
    generalize masks 51 r.length = M
    have e4 : (y + 256 * z) / 4 = (y / 4 + 64 * (z % 4)) + 256 * (z / 4) := by omega
    have hb : z % 4 < 4 := Nat.mod_lt _ (by omega)
    have e5 : ∀ y, y < 256 → ∀ b, b < 4 → (y / 4 + 64 * b) &&& 51 = y / 4 &&& 51 := by decide +kernel
    rw [e4, land256 _ _ _ _ (by omega) (by omega), land256 _ _ _ _ hy (by omega), e5 y hy _ hb]
    simp only [g2]
    omega
theorem oc3 : ∀ (ys : List Nat), (∀ y ∈ ys, y < 256 ∧ y % 16 ≤ 4 ∧ y / 16 ≤ 4) → (num ys / 16 + num ys) &&& masks 15 ys.length = num (ys.map g3)
  | [], _ => by decide
  | y :: r, h => by
    have ih := oc3 r (fun x hx => h x (by simp [hx]))
    obtain ⟨hy, hy1, hy2⟩ := h y (by simp)
    have hz : num r % 16 ≤ 4 := by
      cases r with
      | nil => decide
      | cons x r =>
        have hx := h x (by simp)
        show (x + 256 * num r) % 16 ≤ 4
        omega
    have e : masks 15 (y :: r).length = 15 + 256 * masks 15 r.length := rfl
    have e2 : num (y :: r) = y + 256 * num r := rfl
    have e3 : num ((y :: r).map g3) = g3 y + 256 * num (r.map g3) := rfl
    rw [e, e2, e3, ← ih]
    generalize num r = z at hz ⊢
    generalize masks 15 r.length = M
    have e4 : (y + 256 * z) / 16 + (y + 256 * z) = (y / 16 + 16 * (z % 16) + y) + 256 * (z / 16 + z) := by omega
    rw [e4, land256 _ _ _ _ (by omega) (by omega)]
    have e6 : ∀ a : Nat, a &&& 15 = a % 16 := fun a => Nat.and_two_pow_sub_one_eq_mod a 4
    rw [e6]
    simp only [g3]
    omega

/-- how many of the first k bits are set -/
def pcn : Nat → Nat → Nat
  | 0, _ => 0
  | k + 1, n => n % 2 + pcn k (n / 2)
theorem pcn_8 (k y z : Nat) (hy : y < 256) : pcn (8 + k) (y + 256 * z) = pcn 8 y + pcn k z := by
  rw [Nat.add_comm 8 k]
  simp only [pcn, Nat.div_div_eq_div_mul]
  have e : (y + 256 * z) / (2 * 2 * 2 * 2 * 2 * 2 * 2 * 2) = z := by omega
  rw [e]
  omega
theorem pcn_num : ∀ (ys : List Nat), (∀ y ∈ ys, y < 256) → pcn (8 * ys.length) (num ys) = (ys.map (pcn 8)).sum
  | [], _ => rfl
  | y :: r, h => by
    have ih := pcn_num r (fun x hx => h x (by simp [hx]))
    have e : 8 * (y :: r).length = 8 + 8 * r.length := by rw [List.length_cons]; omega
    rw [e]
    show pcn _ (y + 256 * num r) = _
    rw [pcn_8 _ _ _ (h y (by simp)), ih]
    rfl
theorem g_pcn : ∀ y, y < 256 → g3 (g2 (g1 y)) = pcn 8 y := by decide +kernel
theorem g12 : ∀ y, y < 256 → g1 y < 256 ∧ g2 (g1 y) < 256 ∧ g2 (g1 y) % 16 ≤ 4 ∧ g2 (g1 y) / 16 ≤ 4 := by decide +kernel
theorem pcn_le : ∀ y, y < 256 → pcn 8 y ≤ 8 := by decide +kernel

def M0 : Nat := 6148914691236517205
def M1 : Nat := 3689348814741910323
def M2 : Nat := 1085102592571150095
def ocX (x : Nat) : Nat := (x / 2 &&& M0) + (x &&& M0)
def ocY (x : Nat) : Nat := (x / 4 &&& M1) + (x &&& M1)
def ocZ (x : Nat) : Nat := (x / 16 + x) &&& M2

theorem split8 (x : Nat) (h : x < 2 ^ 64) : ∃ ys : List Nat, ys.length = 8 ∧ (∀ y ∈ ys, y < 256) ∧ num ys = x := by
  refine ⟨[x % 256, x / 256 % 256, x / 65536 % 256, x / 16777216 % 256, x / 4294967296 % 256, x / 1099511627776 % 256, x / 281474976710656 % 256, x / 72057594037927936 % 256], rfl, ?_, ?_⟩
  · intro y hy
    simp only [List.mem_cons, List.not_mem_nil, or_false] at hy
    omega
  · simp only [num]
    omega

theorem oc_sum (x : Nat) (h : x < 2 ^ 64) : ∃ cs : List Nat, cs.length = 8 ∧ (∀ c ∈ cs, c ≤ 8) ∧ ocZ (ocY (ocX x)) = num cs ∧ pcn 64 x = cs.sum ∧ ocX x < 2 ^ 64 ∧ ocY (ocX x) / 16 + ocY (ocX x) < 2 ^ 64 := by
  obtain ⟨ys, hl, hy, rfl⟩ := split8 x h
  have m0 : M0 = masks 85 8 := by decide +kernel
  have m1 : M1 = masks 51 8 := by decide +kernel
  have m2 : M2 = masks 15 8 := by decide +kernel
  have h1 : ocX (num ys) = num (ys.map g1) := by rw [ocX, m0, ← hl]; exact oc1 ys hy
  have hy1 : ∀ y ∈ ys.map g1, y < 256 := by
    intro y hy'
    obtain ⟨a, ha, rfl⟩ := List.mem_map.1 hy'
    exact (g12 a (hy a ha)).1
  have h2 : ocY (num (ys.map g1)) = num ((ys.map g1).map g2) := by rw [ocY, m1, ← hl, ← List.length_map (f := g1)]; exact oc2 _ hy1
  have hy2 : ∀ y ∈ (ys.map g1).map g2, y < 256 ∧ y % 16 ≤ 4 ∧ y / 16 ≤ 4 := by
    intro y hy'
    rw [List.map_map] at hy'
    obtain ⟨a, ha, rfl⟩ := List.mem_map.1 hy'
    exact (g12 a (hy a ha)).2
  have h3 : ocZ (num ((ys.map g1).map g2)) = num (((ys.map g1).map g2).map g3) := by
    rw [ocZ, m2]
    have := oc3 _ hy2
    rw [List.length_map, List.length_map, hl] at this
    exact this
  have h4 : ((ys.map g1).map g2).map g3 = ys.map (pcn 8) := by
    rw [List.map_map, List.map_map]
    exact List.map_congr_left (fun a ha => g_pcn a (hy a ha))
  have hn : ∀ (l : List Nat), l.length = 8 → (∀ y ∈ l, y < 256) → num l < 2 ^ 64 := by
    intro l h8 hl'
    match l, h8 with
    | [a, b, c, d, e, f, g, i], _ =>
      simp only [List.mem_cons, List.not_mem_nil, or_false, forall_eq_or_imp, forall_eq] at hl'
      simp only [num]
      omega
  have hn2 : ∀ (l : List Nat), l.length = 8 → (∀ y ∈ l, y ≤ 68) → num l / 16 + num l < 2 ^ 64 := by
    intro l h8 hl'
    match l, h8 with
    | [a, b, c, d, e, f, g, i], _ =>
      simp only [List.mem_cons, List.not_mem_nil, or_false, forall_eq_or_imp, forall_eq] at hl'
      simp only [num]
      omega
  refine ⟨ys.map (pcn 8), by rw [List.length_map, hl], ?_, by rw [h1, h2, h3, h4], ?_, ?_, ?_⟩
  · intro c hc
    obtain ⟨a, ha, rfl⟩ := List.mem_map.1 hc
    exact pcn_le a (hy a ha)
  · have := pcn_num ys hy
    rw [hl] at this
    exact this
  · rw [h1]; exact hn _ (by rw [List.length_map, hl]) hy1
  · rw [h1, h2]; exact hn2 _ (by rw [List.length_map, List.length_map, hl]) (fun y hy' => by have := hy2 y hy'; omega)

theorem oc_end (X : Nat) (cs : List Nat) (hl : cs.length = 8) (hc : ∀ c ∈ cs, c ≤ 8) (hX : X = num cs) :
    X + X / 256 < 2 ^ 64 ∧ (X + X / 256) + (X + X / 256) / 65536 < 2 ^ 64 ∧ ((X + X / 256) + (X + X / 256) / 65536) + ((X + X / 256) + (X + X / 256) / 65536) / 4294967296 < 2 ^ 63 ∧
    (((X + X / 256) + (X + X / 256) / 65536) + ((X + X / 256) + (X + X / 256) / 65536) / 4294967296) % 128 = cs.sum := by
  match cs, hl with
  | [a, b, c, d, e, f, g, i], _ =>
    simp only [List.mem_cons, List.not_mem_nil, or_false, forall_eq_or_imp, forall_eq] at hc
    obtain ⟨h1, h2, h3, h4, h5, h6, h7, h8⟩ := hc
    have hX2 : X = a + 256 * b + 65536 * c + 16777216 * d + 4294967296 * e + 1099511627776 * f + 281474976710656 * g + 72057594037927936 * i := by rw [hX]; simp only [num]; omega
    clear hX
    have e1 : X / 256 = b + 256 * c + 65536 * d + 16777216 * e + 4294967296 * f + 1099511627776 * g + 281474976710656 * i := by omega
    obtain ⟨Y, hY⟩ : ∃ Y, Y = X + X / 256 := ⟨_, rfl⟩
    have hY2 : Y = (a + b) + 256 * (b + c) + 65536 * (c + d) + 16777216 * (d + e) + 4294967296 * (e + f) + 1099511627776 * (f + g) + 281474976710656 * (g + i) + 72057594037927936 * i := by rw [hY, e1, hX2]; omega
    rw [← hY]
    clear hY e1 hX2
    have e2 : Y / 65536 = (c + d) + 256 * (d + e) + 65536 * (e + f) + 16777216 * (f + g) + 4294967296 * (g + i) + 1099511627776 * i := by omega
    obtain ⟨Z, hZ⟩ : ∃ Z, Z = Y + Y / 65536 := ⟨_, rfl⟩
    have hZ2 : Z = (a + b + c + d) + 256 * (b + c + d + e) + 65536 * (c + d + e + f) + 16777216 * (d + e + f + g) + 4294967296 * (e + f + g + i) + 1099511627776 * (f + g + i) + 281474976710656 * (g + i) + 72057594037927936 * i := by rw [hZ, e2, hY2]; omega
    have hYl : Y < 2 ^ 64 := by omega
    rw [← hZ]
    clear hZ e2 hY2
    have e3 : Z / 4294967296 = (e + f + g + i) + 256 * (f + g + i) + 65536 * (g + i) + 16777216 * i := by omega
    refine ⟨hYl, by omega, by rw [e3]; omega, ?_⟩
    rw [e3]
    show _ = a + (b + (c + (d + (e + (f + (g + (i + 0)))))))
    have e4 : Z + ((e + f + g + i) + 256 * (f + g + i) + 65536 * (g + i) + 16777216 * i) = (a + b + c + d + e + f + g + i) + 256 * ((b + c + d + e + f + g + i) + 256 * (c + d + e + f + g + i) + 65536 * (d + e + f + g + i) + 16777216 * (e + f + g + i) + 4294967296 * (f + g + i) + 1099511627776 * (g + i) + 281474976710656 * i) := by
      rw [hZ2]; clear h1 h2 h3 h4 h5 h6 h7 h8 hYl hZ2; omega
    rw [e4]
    clear e4 e3 hZ2 hYl
    generalize (b + c + d + e + f + g + i) + 256 * (c + d + e + f + g + i) + 65536 * (d + e + f + g + i) + 16777216 * (e + f + g + i) + 4294967296 * (f + g + i) + 1099511627776 * (g + i) + 281474976710656 * i = K
    omega

/-- what math/bits.OnesCount64 reckons -/
theorem oc_all (x : Nat) (h : x < 2 ^ 64) : ∃ X, X = ocZ (ocY (ocX x)) ∧ ocX x < 2 ^ 64 ∧ ocY (ocX x) / 16 + ocY (ocX x) < 2 ^ 64 ∧ X + X / 256 < 2 ^ 64 ∧ (X + X / 256) + (X + X / 256) / 65536 < 2 ^ 64 ∧ ((X + X / 256) + (X + X / 256) / 65536) + ((X + X / 256) + (X + X / 256) / 65536) / 4294967296 < 2 ^ 63 ∧
    (((X + X / 256) + (X + X / 256) / 65536) + ((X + X / 256) + (X + X / 256) / 65536) / 4294967296) % 128 = pcn 64 x := by
  obtain ⟨cs, h1, h2, h3, h4, h5, h6⟩ := oc_sum x h
  obtain ⟨e1, e2, e3, e4⟩ := oc_end _ cs h1 h2 h3
  exact ⟨_, rfl, h5, h6, e1, e2, e3, by rw [e4, h4]⟩
end Go.Proofs.Ytpineeaghmfggaa
