/- slices.CompactFunc at structs. No condition beyond what each lemma says. -/
import Derived.Test.YtccbohjcbhibkaaStF
import Derived.Sort.WalkB2
import Derived.Sort.WalkB12
import Derived.Deep.RegionHeld3
import Derived.Deep.DeepCutAuto
import Derived.Deep.CutRange
import Derived.Deep.DrawnRows
import Derived.Deep.LoopGhost
namespace Go.Proofs.Ytccbohjcbhibkaa
set_option linter.unusedVariables false
set_option linter.unusedSimpArgs false
set_option linter.unusedSectionVars false
set_option maxRecDepth 100000
open Go.RowKit Go.Proofs Go.Shelf Go.Lib Go.Sort
attribute [local go_sem ↓] Go.wp_at_zero Go.wp_at_succ
attribute [local go_sem ↓] zStK zStE
attribute [local irreducible] stK
variable {α : Type} [Inhabited α] {enc : α → List Value} {ef : α → α → Bool} {g : Nat} {cb : Array Value} {blk off : Nat} {d0 : Array α} {w0 : World}

/-- one element is laid into a flat row -/
theorem setMany_put (enc : α → List Value) (k : Nat) (hk : ∀ x, (enc x).length = k) (d : Array α) (i : Nat) (x : α) (hi : i < d.size) : setMany (flatK enc k d) (i * k) (enc x) = flatK enc k (d.setIfInBounds i x) := by
  refine ext_get! (by simp) fun t ht => ?_
  have ht' : t < d.size * k := by simpa using ht
  have k0 : 0 < k := by rcases Nat.eq_zero_or_pos k with h | h; · subst h; simp at ht'
                        · exact h
  have htd : t / k < d.size := by rw [Nat.div_lt_iff_lt_mul k0]; exact ht'
  rw [get_setMany _ _ _ t (by simpa using ht'), get_flatK _ _ _ t ht', get_flatK _ _ _ t (by simpa using ht'), hk]
  have m : ∀ q, t / k = q → t - q * k = t % k := fun q h => by subst h; rw [Nat.mod_eq_sub_div_mul]
  by_cases a : t / k = i
  · rw [if_pos ((blk_iff k i t k0).2 a), m i a]
    congr 2
    rw [a]; simp [hi]
  · rw [if_neg (fun h => a ((blk_iff k i t k0).1 h))]
    congr 2
    simp only [getElem!_def, Array.getElem?_setIfInBounds]
    rw [if_neg (fun h => a h.symm)]
theorem swk_put {k : Nat} {W : World} {dk : Array α} (h : SWK enc k w0 blk off dk W) (hk : ∀ x, (enc x).length = k) (hblk : blk < w0.heap.size) (i : Nat) (hi : i < dk.size) (x : α) : SWK enc k w0 blk off (dk.setIfInBounds i x) (W.setCells blk (off + i * k) (enc x)) := by
  obtain ⟨n, os, rfl⟩ := h
  refine ⟨n, os, ?_⟩
  have b : i * k + k ≤ dk.size * k := rowK_bnd dk k i hi
  unfold sortWorldK
  rw [← putRowK_grow enc k (Sort.ahead w0 n) os blk off dk hblk, ← putRowK_grow enc k (Sort.ahead w0 n) os blk off _ hblk]
  unfold putRowK
  rw [setCells_putRow _ _ _ _ _ _ (by rw [hk, size_flatK]; exact b), setMany_put enc k hk dk i x hi]

/-- what is asked of an 'eq' -/
def EqLays (P : Program) (g : Nat) (cb : Array Value) (enc : α → List Value) (k : Nat) (ef : α → α → Bool) (blk off size : Nat) (w : World) : Prop :=
  ∀ (m : Nat) (os : Array Obj) (dk : Array α), dk.size = size → ∀ x y : α,
    Calls P g (#[.agg (enc x).toArray, .agg (enc y).toArray] ++ cb) (sortWorldK enc k w blk off m dk os) fun e w' => e = .returned (.bool (ef x y)) ∧ ∃ q os', w' = grow ((sortWorldK enc k w blk off m dk os).drewN q) os'
theorem swk_eqc {P : Program} {k size : Nat} {W : World} {dk : Array α} (h : SWK enc k w0 blk off dk W) (hC : EqLays P g cb enc k ef blk off size w0) (hs : dk.size = size) (x y : α) (n : Nat) (os : Array Obj) :
    Calls P g (#[.agg (enc x).toArray, .agg (enc y).toArray] ++ cb) (grow (W.drewN n) os) fun e w' => e = .returned (.bool (ef x y)) ∧ ∃ q os', w' = grow ((grow (W.drewN n) os).drewN q) os' := by
  obtain ⟨m, os0, hw⟩ := h.grown n os
  rw [hw]
  exact hC m os0 dk hs x y

/-- what is kept: each that is not equal to the one ahead of it -/
def ddG (ef : α → α → Bool) (p : α) : List α → List α
  | [] => []
  | y :: l => if ef y p then ddG ef y l else y :: ddG ef y l
def compG (ef : α → α → Bool) : List α → List α
  | [] => []
  | x :: l => x :: ddG ef x l
theorem ddG_app (ef : α → α → Bool) (y : α) : ∀ (l : List α) (p : α), ddG ef p (l ++ [y]) = ddG ef p l ++ (if ef y ((p :: l).getLast (by simp)) then [] else [y])
  | [], p => by
    by_cases h : ef y p = true <;> simp [ddG, h]
  | z :: l, p => by
    have ih := ddG_app ef y l z
    have e : (p :: z :: l).getLast (by simp) = (z :: l).getLast (by simp) := List.getLast_cons (by simp)
    rw [List.cons_append, ddG, ddG, ih, e]
    split <;> simp
theorem comp_snoc (ef : α → α → Bool) (l : List α) (x y : α) : compG ef (l ++ [x] ++ [y]) = compG ef (l ++ [x]) ++ (if ef y x then [] else [y]) := by
  cases l with
  | nil => simp [compG, ddG]
  | cons z l =>
    have h := ddG_app ef y (l ++ [x]) z
    have e : (z :: (l ++ [x])).getLast (by simp) = x := by rw [List.getLast_cons (by simp)]; simp
    rw [e] at h
    show z :: ddG ef z (l ++ [x] ++ [y]) = z :: ddG ef z (l ++ [x]) ++ _
    rw [h]
    simp
theorem comp_take (ef : α → α → Bool) (l : List α) (k : Nat) (h0 : 0 < k) (hk : k < l.length) : compG ef (l.take (k + 1)) = compG ef (l.take k) ++ (if ef l[k]! l[k - 1]! then [] else [l[k]!]) := by
  obtain ⟨j, rfl⟩ : ∃ j, k = j + 1 := ⟨k - 1, by omega⟩
  have e1 : l.take (j + 1) = l.take j ++ [l[j]!] := by rw [List.take_add_one, List.getElem?_eq_getElem (by omega), getElem!_pos l j (by omega)]; rfl
  have e2 : l.take (j + 1 + 1) = l.take (j + 1) ++ [l[j + 1]!] := by rw [List.take_add_one, List.getElem?_eq_getElem (by omega), getElem!_pos l (j + 1) (by omega)]; rfl
  rw [e2, e1, comp_snoc, Nat.add_sub_cancel]
theorem comp_one (ef : α → α → Bool) (l : List α) (h : 1 ≤ l.length) : compG ef (l.take 1) = l.take 1 := by
  cases l with
  | nil => simp at h
  | cons x l => simp [compG, ddG]
theorem comp_small (ef : α → α → Bool) (l : List α) (h : l.length < 2) : compG ef l = l := by
  match l, h with
  | [], _ => rfl
  | [x], _ => rfl

/-- so far all are kept -/
def Cp1 (ef : α → α → Bool) (l : List α) (k : Nat) : Prop := compG ef (l.take k) = l.take k
/-- the row while CompactFunc goes: m are kept of the first t, they lie in front; what stands from t - 1 on is as it was -/
structure Cp2 (ef : α → α → Bool) (l : List α) (t m : Nat) (D : Array α) : Prop where
  sz : D.size = l.length
  lt : m < t
  le : t ≤ l.length
  kept : (compG ef (l.take t)).length = m
  pre : D.toList.take m = compG ef (l.take t)
  post : ∀ j, t - 1 ≤ j → j < l.length → D[j]! = l[j]!
theorem Cp1.go {l : List α} {k : Nat} (h : Cp1 ef l k) (h0 : 0 < k) (hk : k < l.length) (he : ef l[k]! l[k - 1]! = false) : Cp1 ef l (k + 1) := by
  unfold Cp1 at h ⊢
  rw [comp_take ef l k h0 hk, h, he]
  rw [List.take_add_one, List.getElem?_eq_getElem hk, getElem!_pos l k hk]
  simp
theorem Cp2.start {l : List α} {k : Nat} (h : Cp1 ef l k) (h0 : 0 < k) (hk : k < l.length) (he : ef l[k]! l[k - 1]! = true) : Cp2 ef l (k + 1) k l.toArray := by
  unfold Cp1 at h
  have e : compG ef (l.take (k + 1)) = l.take k := by rw [comp_take ef l k h0 hk, h, he]; simp
  exact ⟨by simp, by omega, by omega, by rw [e, List.length_take]; omega, by rw [e], fun j _ _ => by simp⟩
theorem Cp2.skip {l : List α} {t m : Nat} {D : Array α} (h : Cp2 ef l t m D) (ht : t < l.length) (he : ef D[t]! D[t - 1]! = true) : Cp2 ef l (t + 1) m D := by
  have h1 := h.lt
  rw [h.post t (by omega) ht, h.post (t - 1) (by omega) (by omega)] at he
  have e : compG ef (l.take (t + 1)) = compG ef (l.take t) := by rw [comp_take ef l t (by omega) ht, he]; simp
  exact ⟨h.sz, by omega, by omega, by rw [e]; exact h.kept, by rw [e]; exact h.pre, fun j h1 h2 => h.post j (by omega) h2⟩
theorem Cp2.keep {l : List α} {t m : Nat} {D : Array α} (h : Cp2 ef l t m D) (ht : t < l.length) (he : ef D[t]! D[t - 1]! = false) : Cp2 ef l (t + 1) (m + 1) (D.setIfInBounds m D[t]!) := by
  have h1 := h.lt
  have hsz := h.sz
  have ht0 := h.post t (by omega) ht
  rw [ht0, h.post (t - 1) (by omega) (by omega)] at he
  have e : compG ef (l.take (t + 1)) = compG ef (l.take t) ++ [l[t]!] := by rw [comp_take ef l t (by omega) ht, he]; simp
  refine ⟨by simp [hsz], by omega, by omega, by rw [e, List.length_append, h.kept]; rfl, ?_, fun j h2 h3 => ?_⟩
  · rw [e, ← h.pre, Array.toList_setIfInBounds, List.take_add_one, List.getElem?_set_self (by rw [Array.length_toList]; omega), List.take_set, List.set_eq_of_length_le (by simp; omega), ht0]
    rfl
  · rw [← h.post j (by omega) h3]
    simp only [getElem!_def, Array.getElem?_setIfInBounds]
    rw [if_neg (by omega)]

/-- what CompactFunc leaves -/
def CompPost (enc : α → List Value) (blk off : Nat) (w0 : World) (N : Nat) (cl : List α) (Z : Nat → List Value) (w' : World) : Prop :=
  ∃ (D : Array α) (W : World), D.size = N ∧ D.toList.take cl.length = cl ∧ SWK enc stK w0 blk off D W ∧ (w' = W ∨ ∃ m, m = cl.length ∧ m < N ∧ w' = W.setCells blk (off + m * stK) (Z (N - m)))
set_option maxHeartbeats 8000000 in
theorem compact_any (R : RowK enc stK w0 blk off d0) (eg : ∀ args w, (callFunc g args).run Try.prog w = .ok (.enter g args) w) (hcmp : EqLays Try.prog g cb enc stK ef blk off d0.size w0) (N cap : Nat) (hs : d0.size = N) (hsz : N < 1152921504606846976) (hcap : N ≤ cap) (hc63 : cap ≤ 9223372036854775807)
    (l : List α) (hl : l.length = N) (w : World) (S : SWK enc stK w0 blk off l.toArray w) (Z : Nat → List Value)
    (hclr : ∀ (W : World) (D : Array α) (m : Nat), D.size = N → m < N → SWK enc stK w0 blk off D W → ∀ ty, (Builtin.clear_ #[22] ty #[.slice (some ⟨blk, off + m * stK, none⟩) (N - m) (cap - m)]).run Try.prog W = .ok (.tuple #[]) (W.setCells blk (off + m * stK) (Z (N - m)))) :
    Calls Try.prog 34 #[.slice (some ⟨blk, off, none⟩) N cap, .func (.func g) #[] cb] w fun e w' => e = .returned (.slice (some ⟨blk, off, none⟩) (compG ef l).length cap) ∧ CompPost enc blk off w0 N (compG ef l) Z w' := by
  have S0 : Aside _ := S
  have HC : Aside _ := hcmp
  have HCL : Hid (_) := Lib.hid hclr
  have mixed : Try.prog.follows .mixedOrders = true := by kernel_rfl
  have HL := Lib.hid hl
  by_cases h2 : N < 2
  · have h2z : (N : Int) < 2 := by omega
    have e := comp_small ef l (by omega)
    have HEC := Lib.hid e
    obtain ⟨cl, hcl⟩ : ∃ cl, cl = compG ef l := ⟨_, rfl⟩
    rw [← hcl]
    have HQ := Lib.hid hcl
    clear e hl hcmp hclr S hcl
    go_enter Try.func34, Try.ntmps34
    go_wp2
    go_ret
    have hcl : cl = l := HQ.out.trans HEC.out
    exact ⟨by rw [hcl, HL.out]; rfl, l.toArray, w, by rw [List.size_toArray, HL.out], by rw [hcl]; exact List.take_of_length_le (Nat.le_refl _), S0.out, Or.inl rfl⟩
  · have h2z : ¬ (N : Int) < 2 := by omega
    have hN2 : 2 ≤ N := by omega
    have H1 : Hid (Cp1 ef l 1) := Lib.hid (comp_one ef l (by omega))
    have hdl : l.toArray.size = N := by rw [List.size_toArray, hl]
    obtain ⟨cl, hcl⟩ : ∃ cl, cl = compG ef l := ⟨_, rfl⟩
    rw [← hcl]
    have HQ := Lib.hid hcl
    clear hl hcmp hclr S h2 hcl
    go_enter Try.func34, Try.ntmps34
    go_wp2
    go_loopg [5] N (fun kx s5 wr => ∃ k : Nat, s5 = .int .i64 k ∧ 1 ≤ k ∧ k ≤ N ∧ N - k ≤ kx ∧ Aside (SWK enc stK w0 blk off l.toArray wr) ∧ Hid (Cp1 ef l k))
    case atStart => exact ⟨1, rfl, Nat.le_refl _, by omega, by omega, S0, H1⟩
    case round =>
      clear S0 H1
      obtain ⟨k, rfl, hk1, hkN, hkx, S1, HP⟩ := hrel
      by_cases hlt : k < N
      · have hltz : (k : Int) < (N : Int) := by omega
        obtain ⟨kp, rfl⟩ : ∃ kp, k = kp + 1 := ⟨k - 1, by omega⟩
        obtain ⟨d, hd⟩ : ∃ d, d = l.toArray := ⟨_, rfl⟩
        rw [← hd] at S1 hdl
        have HGE : Hid (∀ j, j < N → d[j]! = l[j]!) := Lib.hid (fun j hj => by rw [hd]; simp)
        have HD := Lib.hid hd
        clear hd
        obtain ⟨x1, hx1⟩ : ∃ x, d[kp + 1]! = x := ⟨_, rfl⟩
        obtain ⟨y1, hy1⟩ : ∃ y, d[kp]! = y := ⟨_, rfl⟩
        have HXY : Hid (l[kp + 1]! = x1 ∧ l[kp]! = y1) := Lib.hid ⟨by rw [← HGE.out _ hlt, hx1], by rw [← HGE.out _ (by omega), hy1]⟩
        cases hv1 : ef x1 y1 with
        | false =>
          have ea1 : ((kp : Int) + 1).toNat = kp + 1 := by omega
          have pa1 : (0 : Int) ≤ (kp : Int) + 1 := by omega
          have ba1 : (kp : Int) + 1 < (N : Int) := by omega
          have ra1 : IntKind.i64.wrap ((kp : Int) + 1) = (kp : Int) + 1 := by rw [IntKind.wrap_i64]; omega
          have ec1 : ((kp : Int)).toNat = kp := by omega
          have pc1 : (0 : Int) ≤ (kp : Int) := by omega
          have bc1 : (kp : Int) < (N : Int) := by omega
          have rc1 : IntKind.i64.wrap ((kp : Int)) = (kp : Int) := by rw [IntKind.wrap_i64]; omega
          have l1a := S1.out.ld R (by omega) Try.prog (kp + 1) (by omega)
          have l1b := S1.out.ld R (by omega) Try.prog (kp) (by omega)
          rw [hx1] at l1a
          rw [hy1] at l1b
          have hc1 := swk_eqc S1.out HC.out (by omega) x1 y1
          rw [hv1] at hc1
          clear hx1 hy1
          go_wp2_with fail
          go_quiet_grown (first | (go_at_fn g; refine Calls.grown_of (hc1 _ _)))
          have S2 : Aside (SWK enc stK w0 blk off d (grow (wr.drewN nq) osq)) := S1.out.grown nq osq
          clear l1a l1b hc1 S1
          generalize grow (wr.drewN nq) osq = w2 at S2 ⊢
          clear nq osq
          have HV := Lib.hid hv1
          clear hv1
          go_wp2
          go_roundg (N - (kp + 1 + 1))
          case measure => omega
          case rel => exact ⟨kp + 1 + 1, by go_num, by omega, by omega, Nat.le_refl _, by rw [← HD.out]; exact S2, Lib.hid (Cp1.go HP.out (by omega) (by rw [HL.out]; exact hlt) (by rw [Nat.add_sub_cancel, HXY.out.1, HXY.out.2]; exact HV.out))⟩
        | true =>
          have ea1 : ((kp : Int) + 1).toNat = kp + 1 := by omega
          have pa1 : (0 : Int) ≤ (kp : Int) + 1 := by omega
          have ba1 : (kp : Int) + 1 < (N : Int) := by omega
          have ra1 : IntKind.i64.wrap ((kp : Int) + 1) = (kp : Int) + 1 := by rw [IntKind.wrap_i64]; omega
          have ec1 : ((kp : Int)).toNat = kp := by omega
          have pc1 : (0 : Int) ≤ (kp : Int) := by omega
          have bc1 : (kp : Int) < (N : Int) := by omega
          have rc1 : IntKind.i64.wrap ((kp : Int)) = (kp : Int) := by rw [IntKind.wrap_i64]; omega
          have l1a := S1.out.ld R (by omega) Try.prog (kp + 1) (by omega)
          have l1b := S1.out.ld R (by omega) Try.prog (kp) (by omega)
          rw [hx1] at l1a
          rw [hy1] at l1b
          have hc1 := swk_eqc S1.out HC.out (by omega) x1 y1
          rw [hv1] at hc1
          clear hx1 hy1
          go_wp2_with fail
          go_quiet_grown (first | (go_at_fn g; refine Calls.grown_of (hc1 _ _)))
          have S2 : Aside (SWK enc stK w0 blk off d (grow (wr.drewN nq) osq)) := S1.out.grown nq osq
          clear l1a l1b hc1 S1
          generalize grow (wr.drewN nq) osq = w2 at S2 ⊢
          clear nq osq
          have HV := Lib.hid hv1
          have H2 : Hid (Cp2 ef l (kp + 1 + 1) (kp + 1) d) := Lib.hid (by rw [HD.out]; exact Cp2.start HP.out (by omega) (by rw [HL.out]; exact hlt) (by rw [Nat.add_sub_cancel, HXY.out.1, HXY.out.2]; exact HV.out))
          clear hv1 HV HXY HGE HP
          have hck : ¬ cap = kp + 1 := by omega
          have hkc : (kp : Int) + 1 ≤ (cap : Int) := by omega
          have hkc2 : kp + 1 ≤ cap := by omega
          have hkn : (kp : Int) + 1 ≤ (N : Int) := by omega
          have hk0 : (0 : Int) ≤ (kp : Int) + 1 := by omega
          have hkt : ((kp : Int) + 1).toNat = kp + 1 := by omega
          obtain ⟨n2, hn2⟩ : ∃ n2, n2 = N - (kp + 1) := ⟨_, rfl⟩
          have en2 : N - (kp + 1) = n2 := hn2.symm
          have hn2a : n2 + (kp + 1) ≤ N := by omega
          have hn2b : N ≤ n2 + (kp + 1) := by omega
          clear hn2
          go_wp2
          go_loopg [5, 7] N (fun kx s5 s7 wr => ∃ (m t2 : Nat) (D : Array α), s5 = .int .i64 m ∧ s7 = .int .i64 t2 ∧ 1 ≤ t2 ∧ t2 ≤ n2 ∧ n2 - t2 ≤ kx ∧ Aside (SWK enc stK w0 blk off D wr) ∧ Hid (Cp2 ef l (kp + 1 + t2) m D))
          case atStart => exact ⟨kp + 1, 1, d, by go_num, rfl, Nat.le_refl _, by omega, by omega, S2, H2⟩
          case round =>
            clear S2 H2
            obtain ⟨m, t2, D, rfl, rfl, ht1, htn, hkx2, S1, HP⟩ := hrel
            have hDs : D.size = N := by rw [HP.out.sz, HL.out]
            have hmt : m < kp + 1 + t2 := HP.out.lt
            by_cases hlt2 : t2 < n2
            · have hltz2 : (t2 : Int) < (n2 : Int) := by omega
              obtain ⟨tp, rfl⟩ : ∃ tp, t2 = tp + 1 := ⟨t2 - 1, by omega⟩
              obtain ⟨x1, hx1⟩ : ∃ x, D[kp + 1 + (tp + 1)]! = x := ⟨_, rfl⟩
              obtain ⟨y1, hy1⟩ : ∃ y, D[kp + 1 + tp]! = y := ⟨_, rfl⟩
              have HXY : Hid (D[kp + 1 + (tp + 1)]! = x1 ∧ D[kp + 1 + (tp + 1) - 1]! = y1) := Lib.hid ⟨hx1, by rw [← hy1]; congr 1⟩
              cases hv1 : ef x1 y1 with
              | true =>
                have ea2 : ((tp : Int) + 1).toNat = tp + 1 := by omega
                have pa2 : (0 : Int) ≤ (tp : Int) + 1 := by omega
                have ba2 : (tp : Int) + 1 < (n2 : Int) := by omega
                have ra2 : IntKind.i64.wrap ((tp : Int) + 1) = (tp : Int) + 1 := by rw [IntKind.wrap_i64]; omega
                have bc2 : (tp : Int) < (n2 : Int) := by omega
                have pc2 : (0 : Int) ≤ (tp : Int) := by omega
                have rc2 : IntKind.i64.wrap (tp : Int) = (tp : Int) := by rw [IntKind.wrap_i64]; omega
                have l2a := S1.out.ld R (by omega) Try.prog (kp + 1 + (tp + 1)) (by omega)
                have l2b := S1.out.ld R (by omega) Try.prog (kp + 1 + tp) (by omega)
                rw [hx1] at l2a
                rw [hy1] at l2b
                rw [show off + (kp + 1 + (tp + 1)) * stK = off + (kp + 1) * stK + (tp + 1) * stK by rw [Nat.add_mul]; omega] at l2a
                rw [show off + (kp + 1 + tp) * stK = off + (kp + 1) * stK + tp * stK by rw [Nat.add_mul]; omega] at l2b
                have hc2 := swk_eqc S1.out HC.out (by omega) x1 y1
                rw [hv1] at hc2
                clear hx1 hy1
                go_wp2_with fail
                go_quiet_grown (first | (go_at_fn g; refine Calls.grown_of (hc2 _ _)))
                have S2 : Aside (SWK enc stK w0 blk off D (grow (wr.drewN nq) osq)) := S1.out.grown nq osq
                clear l2a l2b hc2 S1
                generalize grow (wr.drewN nq) osq = w2 at S2 ⊢
                clear nq osq
                have HV := Lib.hid hv1
                clear hv1
                go_wp2
                go_roundg (n2 - (tp + 1 + 1))
                case measure => omega
                case rel => exact ⟨m, tp + 1 + 1, D, rfl, by go_num, by omega, by omega, Nat.le_refl _, S2, Lib.hid (HP.out.skip (by rw [HL.out]; omega) (by rw [HXY.out.1, HXY.out.2]; exact HV.out))⟩
              | false =>
                have ea2 : ((tp : Int) + 1).toNat = tp + 1 := by omega
                have pa2 : (0 : Int) ≤ (tp : Int) + 1 := by omega
                have ba2 : (tp : Int) + 1 < (n2 : Int) := by omega
                have ra2 : IntKind.i64.wrap ((tp : Int) + 1) = (tp : Int) + 1 := by rw [IntKind.wrap_i64]; omega
                have bc2 : (tp : Int) < (n2 : Int) := by omega
                have pc2 : (0 : Int) ≤ (tp : Int) := by omega
                have rc2 : IntKind.i64.wrap (tp : Int) = (tp : Int) := by rw [IntKind.wrap_i64]; omega
                have l2a := S1.out.ld R (by omega) Try.prog (kp + 1 + (tp + 1)) (by omega)
                have l2b := S1.out.ld R (by omega) Try.prog (kp + 1 + tp) (by omega)
                rw [hx1] at l2a
                rw [hy1] at l2b
                rw [show off + (kp + 1 + (tp + 1)) * stK = off + (kp + 1) * stK + (tp + 1) * stK by rw [Nat.add_mul]; omega] at l2a
                rw [show off + (kp + 1 + tp) * stK = off + (kp + 1) * stK + tp * stK by rw [Nat.add_mul]; omega] at l2b
                have hc2 := swk_eqc S1.out HC.out (by omega) x1 y1
                rw [hv1] at hc2
                clear hx1 hy1
                go_wp2_with fail
                go_quiet_grown (first | (go_at_fn g; refine Calls.grown_of (hc2 _ _)))
                have S2 : Aside (SWK enc stK w0 blk off D (grow (wr.drewN nq) osq)) := S1.out.grown nq osq
                clear l2a l2b hc2 S1
                generalize grow (wr.drewN nq) osq = w2 at S2 ⊢
                clear nq osq
                have HV := Lib.hid hv1
                clear hv1
                have l3 := S2.out.load R (by omega) Try.prog (kp + 1 + (tp + 1)) (by omega)
                rw [HXY.out.1] at l3
                rw [show off + (kp + 1 + (tp + 1)) * stK = off + (kp + 1) * stK + (tp + 1) * stK by rw [Nat.add_mul]; omega] at l3
                have s3 := stores_of_holds Try.prog (S2.out.holds R.hblk R.hH (by omega)) (m * stK) (enc x1) (by rw [R.hk, size_flatK]; exact rowK_bnd D stK m (by omega)) (R.h1 _)
                have S3 : Aside (SWK enc stK w0 blk off (D.setIfInBounds m x1) (w2.setCells blk (off + m * stK) (enc x1))) := swk_put S2.out R.hk R.hblk m (by omega) x1
                have n3 : (enc x1).length = stK := R.hk _
                generalize enc x1 = cX at l3 s3 S3 n3
                have hmz : (m : Int) < (N : Int) := by omega
                have hwm : IntKind.i64.wrap ((m : Int) + 1) = (m : Int) + 1 := by rw [IntKind.wrap_i64]; omega
                clear S2
                go_wp2
                go_roundg (n2 - (tp + 1 + 1))
                case measure => omega
                case rel => exact ⟨m + 1, tp + 1 + 1, _, by go_num, by go_num, by omega, by omega, Nat.le_refl _, S3, Lib.hid (by
                  have := HP.out.keep (by rw [HL.out]; omega) (by rw [HXY.out.1, HXY.out.2]; exact HV.out)
                  rw [HXY.out.1] at this
                  exact this)⟩
            · have hltz2 : ¬ (t2 : Int) < (n2 : Int) := by omega
              have htN : kp + 1 + t2 = N := by omega
              have hmN : m < N := by omega
              have HFIN : Hid (cl.length = m ∧ D.toList.take m = cl) := Lib.hid (by
                have h1 := HP.out.kept
                have h2 := HP.out.pre
                rw [htN, ← HL.out, List.take_of_length_le (Nat.le_refl _), ← HQ.out] at h1 h2
                exact ⟨h1, h2⟩)
              have hcl := HCL.out _ D m hDs hmN S1.out
              have hcm : ¬ cap = m := by omega
              have hmz : (m : Int) ≤ (N : Int) := by omega
              have hmc : (m : Int) ≤ (cap : Int) := by omega
              have hmc2 : m ≤ cap := by omega
              clear htN HP
              go_wp2
              go_ret
              refine ⟨by rw [HFIN.out.1]; rfl, D, _, hDs, by rw [HFIN.out.1]; exact HFIN.out.2, S1.out, Or.inr ⟨m, HFIN.out.1.symm, hmN, rfl⟩⟩
      · have hltz : ¬ (k : Int) < (N : Int) := by omega
        have hkN2 : k = N := by omega
        have e : compG ef l = l := by
          have := HP.out
          unfold Cp1 at this
          rw [List.take_of_length_le (by rw [HL.out]; omega)] at this
          exact this
        go_wp2
        go_ret
        have hcl : cl = l := HQ.out.trans e
        exact ⟨by rw [hcl, HL.out]; rfl, l.toArray, wr, hdl, by rw [hcl]; exact List.take_of_length_le (Nat.le_refl _), S1.out, Or.inl rfl⟩
end Go.Proofs.Ytccbohjcbhibkaa
