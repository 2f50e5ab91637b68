/- Pieces of package ipv4: packets as records; where a piece ends; whether two meet; the comparing closures. Condition: packets that may be. -/
import Derived.Test.YticchchcobjpdaaPkA
import Derived.Test.YticchchcobjpdaaSuF
namespace Go.Proofs.Yticchchcobjpdaa
set_option linter.unusedVariables false
set_option linter.unusedSimpArgs false
set_option maxRecDepth 100000
open Go.RowKit Go.Proofs Go.Shelf Go.Lib Go.Sort
attribute [local go_sem ↓] Go.wp_at_zero Go.wp_at_succ
attribute [local go_sem ↓] ld_pk ld_ip
/-- a packet -/
structure Pkt where
  id : Int
  f : List UInt8
  t : List UInt8
  pr : Int
  tt : Int
  a : Int
  mo : Bool
  d : List UInt8
  L : PkL f t
def pkt0 : Pkt := ⟨0, zz4, zz4, 0, 0, 0, false, [], ⟨rfl, rfl⟩⟩
instance : Inhabited Pkt := ⟨pkt0⟩
def Pkt.c (p : Pkt) : Array Value := pkC p.id p.f p.t p.pr p.tt p.a p.mo p.d
theorem Pkt.c_size (p : Pkt) : p.c.size = 14 := pkC_size p.L
theorem Pkt.c_one (p : Pkt) : p.c.toList.all (·.oneCell') = true := pkC_one _ _ _ _ _ _ _ _
abbrev encP (p : Pkt) : List Value := p.c.toList
theorem encP_len (p : Pkt) : (encP p).length = 14 := by rw [Array.length_toList, p.c_size]
theorem encP_one (p : Pkt) : ∀ v ∈ encP p, v.oneCell' = true := fun v hv => List.all_eq_true.1 p.c_one v hv
/-- it may be -/
def May (p : Pkt) : Prop := mayB p.id p.pr p.tt p.a p.mo p.d.length = true
theorem May.b {p : Pkt} (h : May p) : 0 ≤ p.a ∧ p.a ≤ 65528 ∧ p.a % 8 = 0 ∧ p.a + p.d.length ≤ 65515 ∧ (p.mo = true → 0 < p.d.length ∧ p.d.length % 8 = 0) := by
  have := mayB_yes h
  exact ⟨this.2.2.2.2.2.2.1, this.2.2.2.2.2.2.2.1, this.2.2.2.2.2.2.2.2.1, this.2.2.2.2.2.2.2.2.2.1, this.2.2.2.2.2.2.2.2.2.2⟩
def endP (p : Pkt) : Int := p.a + p.d.length
def meetB (x y : Pkt) : Bool := decide (x.a < endP y) && decide (y.a < endP x)
theorem pk_c5 {w : World} {b : Nat} {e : TypeId} {p : Pkt} (h : Blk w b e p.c) : w.cell? ⟨b, 11, none⟩ = some (.int .i64 p.a) ∧ w.cell? ⟨b, 12, none⟩ = some (.bool p.mo) ∧ w.cell? ⟨b, 13, none⟩ = some (.string ⟨p.d.toArray⟩) := by
  have := pk_at h p.L
  exact ⟨this.a, this.mo, this.d⟩
theorem Blk.ld_pkt {w : World} {b : Nat} {e : TypeId} {p : Pkt} (h : Blk w b e p.c) : (Ld 25 (.pointer (some ⟨b, 0, none⟩))).run Try.prog w = .ok (.agg p.c) w := h.ld_pk p.L

theorem end_any (p : Pkt) (h : May p) (w : World) : Calls Try.prog 58 #[.agg p.c] w fun e w' => e = .returned (.int .i64 (endP p)) ∧ ∃ q os, w' = grow (w.drewN q) os := by
  have hb := pk_c5 (Blk.new w 25 p.c 0 0 (Or.inl (Nat.le_refl _)))
  obtain ⟨c1, c2, c3⟩ := hb
  have hm := h.b
  have hw : IntKind.i64.wrap (p.a + (p.d.length : Int)) = p.a + (p.d.length : Int) := IntWalk.i64_in _ ⟨by omega, by omega⟩
  go_enter Try.func58, Try.ntmps58
  go_wp2
  go_ret
  exact ⟨rfl, 0, _, by rw [alloc_eq_grow]; rfl⟩

theorem below_grow (w : World) (n : Nat) (os : Array Obj) : Below w.heap.size w (grow (w.drewN n) os) := by
  refine ⟨rfl, rfl, rfl, ?_, ?_⟩
  · show w.heap.size ≤ (w.heap ++ os).size
    simp
  · intro k hk
    show (w.heap ++ os)[k]? = _
    rw [Array.getElem?_append_left hk]
/-! ### the closures -/
def cfP (x y : Pkt) : Int := wrap64 (x.a - y.a)
theorem cmpP_any (x y : Pkt) (w : World) : Calls Try.prog 62 #[.agg x.c, .agg y.c] w fun e w' => e = .returned (.int .i64 (cfP x y)) ∧ ∃ q os', w' = grow (w.drewN q) os' := by
  have hx := (Blk.new w 25 x.c 0 0 (Or.inl (Nat.le_refl _))).alloc (.cells y.c 25)
  have hy := Blk.new (w.alloc (.cells x.c 25)) 25 y.c 0 0 (Or.inl (Nat.le_refl _))
  rw [size_alloc] at hy
  have c1 := (pk_c5 hx).1
  have c2 := (pk_c5 hy).1
  clear hx hy
  go_enter Try.func62, Try.ntmps62
  go_wp2
  go_ret
  exact ⟨rfl, 0, _, by rw [alloc_eq_grow, alloc_eq_grow, grow_grow]; rfl⟩
abbrev keyP (p : Pkt) : Int := p.a
def GoodP (p : Pkt) : Prop := 0 ≤ p.a ∧ p.a ≤ 65528
theorem keyOnP : KeyOn cfP keyP GoodP := fun x y hx hy => by
  obtain ⟨h1, h2⟩ := hx
  obtain ⟨h3, h4⟩ := hy
  have e : cfP x y = x.a - y.a := by unfold cfP wrap64; omega
  rw [e]
  show x.a - y.a < 0 ↔ x.a < y.a
  omega
theorem cmpP_lays (blk off size : Nat) (w : World) : CmpLays Try.prog 62 #[] encP stK cfP blk off size w :=
  fun m os dk _ x y => by
    show Calls Try.prog 62 #[.agg x.c.toList.toArray, .agg y.c.toList.toArray] _ _
    rw [Array.toArray_toList, Array.toArray_toList]
    exact cmpP_any x y _
theorem rowP {w : World} {g : Nat} {d : Array Pkt} (h : HoldsK encP 14 w g 0 d) (hg : g < w.heap.size) : RowK encP stK w g 0 d :=
  ⟨fun x => encP_len x, fun x v hv => encP_one x v hv, h, hg⟩

/-- the same piece? -/
def sameB (x p : Pkt) : Bool := decide (x.a = p.a) && ((x.d == p.d) && (x.mo == p.mo))
set_option maxHeartbeats 1000000 in
theorem put1_any (x p : Pkt) (pb : Nat) (w : World) (hp : Blk w pb 25 p.c) : Calls Try.prog 35 #[.agg x.c, .pointer (some ⟨pb, 0, none⟩)] w fun e w' => e = .returned (.bool (sameB x p)) ∧ Below w.heap.size w w' := by
  have hx := Blk.new w 25 x.c 0 0 (Or.inl (Nat.le_refl _))
  obtain ⟨a1, a2, a3⟩ := pk_c5 hx
  obtain ⟨b1, b2, b3⟩ := pk_c5 (hp.alloc (.cells x.c 25))
  have HB := Lib.hid ((Below.refl w.heap.size w).alloc (Nat.le_refl _) (.cells x.c 25))
  have HV : Hid (sameB x p = (decide (x.a = p.a) && ((x.d == p.d) && (x.mo == p.mo)))) := Lib.hid rfl
  clear hx hp
  generalize x.a = xa at *
  generalize p.a = pa at *
  generalize x.d = xd at *
  generalize p.d = pd at *
  generalize x.mo = xm at *
  generalize p.mo = pm at *
  by_cases h1 : xa = pa
  · have h1' : (xa == pa) = true := beq_iff_eq.2 h1
    by_cases h2 : xd = pd
    · by_cases h3 : xm = pm
      · subst h1 h2 h3
        go_enter Try.func35, Try.ntmps35
        go_wp2
        go_ret
        exact ⟨by rw [HV.out]; simp, HB.out⟩
      · subst h1 h2
        have h3' : (xm == pm) = false := beq_eq_false_iff_ne.2 h3
        go_enter Try.func35, Try.ntmps35
        go_wp2
        go_ret
        exact ⟨by rw [HV.out]; simp [h3, h3'], HB.out⟩
    · subst h1
      have h2' : (xd == pd) = false := beq_eq_false_iff_ne.2 h2
      go_enter Try.func35, Try.ntmps35
      go_wp2
      go_ret
      exact ⟨by rw [HV.out]; simp [h2, h2'], HB.out⟩
  · have h1' : (xa == pa) = false := beq_eq_false_iff_ne.2 h1
    go_enter Try.func35, Try.ntmps35
    go_wp2
    go_ret
    exact ⟨by rw [HV.out]; simp [h1, h1'], HB.out⟩
end Go.Proofs.Yticchchcobjpdaa
