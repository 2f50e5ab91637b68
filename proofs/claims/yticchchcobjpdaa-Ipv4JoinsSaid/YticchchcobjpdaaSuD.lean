/- slices.SortStableFunc at structs: symMerge: two sorted runs become one, sorted, stably. No condition beyond what each lemma says. -/
import Derived.Test.YticchchcobjpdaaSuC
import Derived.Sort.WalkB2
import Derived.Sort.WalkB12
import Derived.Deep.RegionHeld3
import Derived.Deep.DeepCutAuto
import Derived.Deep.CutRange
import Derived.Deep.DrawnRows
import Derived.Deep.LoopGhost
namespace Go.Proofs.Yticchchcobjpdaa
set_option linter.unusedVariables false
set_option linter.unusedSimpArgs false
set_option linter.unusedSectionVars false
set_option maxRecDepth 100000
open Go.RowKit Go.Proofs Go.Shelf Go.Lib Go.Sort
attribute [local go_sem ↓] Go.wp_at_zero Go.wp_at_succ
attribute [local go_sem ↓] zStK zStE
attribute [local irreducible] stK
variable {α : Type} [Inhabited α] {enc : α → List Value} {cf : α → α → Int} {g : Nat} {cb : Array Value} {blk off : Nat} {d0 : Array α} {w0 : World}

/-! ### where the elements stand -/
theorem at_A {X A B Z : List α} {d : Array α} (hd : d = (X ++ A ++ B ++ Z).toArray) {a : Nat} (ha : a = X.length) (t : Nat) (h1 : a ≤ t) (h2 : t < a + A.length) : d[t]! = A[t - a]! := by
  subst hd ha
  rw [arr_get, ← get_Aa X A B Z (t - X.length) (by omega)]
  congr 1
  omega
theorem at_B {X A B Z : List α} {d : Array α} (hd : d = (X ++ A ++ B ++ Z).toArray) {m : Nat} (hm : m = X.length + A.length) (t : Nat) (h1 : m ≤ t) (h2 : t < m + B.length) : d[t]! = B[t - m]! := by
  subst hd hm
  rw [arr_get, ← get_B X A B Z (t - (X.length + A.length)) (by omega)]
  congr 1
  omega
theorem at_good {X A B Z : List α} {d : Array α} {G : α → Prop} (hd : d = (X ++ A ++ B ++ Z).toArray) (hG : ∀ y ∈ A ++ B, G y) {a b : Nat} (ha : a = X.length) (hb : b = a + A.length + B.length) (t : Nat) (h1 : a ≤ t) (h2 : t < b) : G d[t]! := by
  by_cases h : t < a + A.length
  · rw [at_A hd ha t h1 h, getElem!_pos A _ (by omega)]
    exact hG _ (List.mem_append_left _ (List.getElem_mem _))
  · rw [at_B hd (m := a + A.length) (by omega) t (by omega) (by omega), getElem!_pos B _ (by omega)]
    exact hG _ (List.mem_append_right _ (List.getElem_mem _))

/-- one goes to the right, step by step -/
def BubR (X : List α) (x : α) (B Z : List α) (q t : Nat) (dk : Array α) : Prop := dk = (X ++ (B.take q).take t ++ x :: (B.take q).drop t ++ (B.drop q ++ Z)).toArray
theorem BubR.start (X : List α) (x : α) (B Z : List α) (q : Nat) : BubR X x B Z q 0 (X ++ [x] ++ B ++ Z).toArray := by
  unfold BubR
  congr 1
  simp
  rw [← List.append_assoc (B.take q), List.take_append_drop]
theorem BubR.step {X : List α} {x : α} {B Z : List α} {q t : Nat} {dk : Array α} (h : BubR X x B Z q t dk) (hq : q ≤ B.length) (ht : t < q) : BubR X x B Z q (t + 1) (swp dk (X.length + t) (X.length + t + 1)) := by
  unfold BubR at h ⊢
  subst h
  have hl : (B.take q).length = q := by rw [List.length_take]; omega
  have e1 : ((B.take q).take t).length = t := by rw [List.length_take, hl]; omega
  obtain ⟨c, hc⟩ : ∃ c, (B.take q)[t]? = some c := ⟨(B.take q)[t]'(by omega), List.getElem?_eq_getElem _⟩
  have e2 : (B.take q).drop t = c :: (B.take q).drop (t + 1) := by
    rw [List.drop_eq_getElem_cons (by omega)]
    congr 1
    rw [List.getElem?_eq_getElem (by omega)] at hc
    exact Option.some.inj hc
  have e3 : (B.take q).take (t + 1) = (B.take q).take t ++ [c] := by rw [List.take_add_one, hc]; rfl
  have h := bub_r X ((B.take q).take t) ((B.take q).drop (t + 1)) (B.drop q ++ Z) x c
  rw [e1] at h
  rw [e3, ← h, e2]
theorem BubR.done {X : List α} {x : α} {B Z : List α} {q : Nat} {dk : Array α} (h : BubR X x B Z q q dk) : dk = (X ++ (B.take q ++ x :: B.drop q) ++ Z).toArray := by
  unfold BubR at h
  have e : (B.take q).take q = B.take q := by rw [List.take_take, Nat.min_self]
  have e2 : (B.take q).drop q = [] := by rw [List.drop_take, Nat.sub_self, List.take_zero]
  rw [h, e, e2]
  congr 1
  simp
/-- .. to the left -/
def BubL (X : List α) (y : α) (A Z : List α) (p t : Nat) (dk : Array α) : Prop := dk = (X ++ A.take p ++ (A.drop p).take t ++ y :: (A.drop p).drop t ++ Z).toArray
theorem BubL.start (X : List α) (y : α) (A Z : List α) (p : Nat) : BubL X y A Z p (A.length - p) (X ++ A ++ [y] ++ Z).toArray := by
  unfold BubL
  congr 1
  have e : (A.drop p).length = A.length - p := List.length_drop
  have e1 : (A.drop p).take (A.length - p) = A.drop p := List.take_of_length_le (Nat.le_of_eq e)
  have e2 : (A.drop p).drop (A.length - p) = [] := List.drop_eq_nil_of_le (Nat.le_of_eq e)
  rw [e1, e2, List.append_assoc X (A.take p) (A.drop p), List.take_append_drop]
theorem BubL.step {X : List α} {y : α} {A Z : List α} {p t : Nat} {dk : Array α} (h : BubL X y A Z p (t + 1) dk) (hp : p ≤ A.length) (ht : p + t < A.length) : BubL X y A Z p t (swp dk (X.length + p + t + 1) (X.length + p + t)) := by
  unfold BubL at h ⊢
  subst h
  have e1 : ((A.drop p).take t).length = t := by rw [List.length_take, List.length_drop]; omega
  have e0 : (A.take p).length = p := by rw [List.length_take]; omega
  obtain ⟨c, hc⟩ : ∃ c, (A.drop p)[t]? = some c := ⟨(A.drop p)[t]'(by rw [List.length_drop]; omega), List.getElem?_eq_getElem _⟩
  have e2 : (A.drop p).drop t = c :: (A.drop p).drop (t + 1) := by
    rw [List.drop_eq_getElem_cons (by rw [List.length_drop]; omega)]
    congr 1
    rw [List.getElem?_eq_getElem (by rw [List.length_drop]; omega)] at hc
    exact Option.some.inj hc
  have e3 : (A.drop p).take (t + 1) = (A.drop p).take t ++ [c] := by rw [List.take_add_one, hc]; rfl
  have h := bub_l (X ++ A.take p) ((A.drop p).take t) ((A.drop p).drop (t + 1)) Z y c
  rw [e1, List.length_append, e0] at h
  rw [e3, h, e2]
theorem BubL.done {X : List α} {y : α} {A Z : List α} {p : Nat} {dk : Array α} (h : BubL X y A Z p 0 dk) : dk = (X ++ (A.take p ++ y :: A.drop p) ++ Z).toArray := by
  unfold BubL at h
  rw [h]
  congr 1
  simp

variable {key : α → Int} {G : α → Prop}
/-- what symMerge does -/
def SymPost (enc : α → List Value) (blk off : Nat) (w0 : World) (key : α → Int) (X A B Z : List α) (e : Ending) (w' : World) : Prop := e = .returned (.tuple #[]) ∧ ∃ M, Srt key M ∧ Stb key (A ++ B) M ∧ SWK enc stK w0 blk off (X ++ M ++ Z).toArray w'

set_option maxHeartbeats 8000000 in
theorem sym_one (R : RowK enc stK w0 blk off d0) (eg : ∀ args w, (callFunc g args).run Try.prog w = .ok (.enter g args) w) (hcmp : CmpLays Try.prog g cb enc stK cf blk off d0.size w0) (K : KeyOn cf key G)
    (X : List α) (x : α) (B Z : List α) (a m b N cap : Nat) (hB : 0 < B.length) (ha : a = X.length) (hm : m = a + 1) (hb : b = m + B.length) (hN : N = (X ++ [x] ++ B ++ Z).length) (hsB : Srt key B) (hG : ∀ y ∈ [x] ++ B, G y)
    (hs : d0.size = N) (hsz : N < 4611686018427387904) (w : World) (S : SWK enc stK w0 blk off (X ++ [x] ++ B ++ Z).toArray w) :
    Calls Try.prog 74 #[.slice (some ⟨blk, off, none⟩) N cap, .int .i64 a, .int .i64 m, .int .i64 b, .func (.func g) #[] cb] w (SymPost enc blk off w0 key X [x] B Z) := by
  have S0 : Aside (SWK enc stK w0 blk off (X ++ [x] ++ B ++ Z).toArray w) := S
  have hlen : N = X.length + 1 + B.length + Z.length := by rw [hN]; simp only [List.length_append, List.length_cons, List.length_nil]
  have hbN : b ≤ N := by omega
  have hmb : m < b := by omega
  have hsd : (X ++ [x] ++ B ++ Z).toArray.size = N := by rw [List.size_toArray, hN]
  have HC : Aside _ := hcmp
  have mixed : Try.prog.follows .mixedOrders = true := by kernel_rfl
  obtain ⟨d, hd⟩ : ∃ d, d = (X ++ [x] ++ B ++ Z).toArray := ⟨_, rfl⟩
  rw [← hd] at S0 hsd
  have HX : Hid (d[a]! = x) := Lib.hid (by rw [at_A (A := [x]) hd ha a (Nat.le_refl _) (by simp), Nat.sub_self]; rfl)
  have HG : Hid (∀ t, a ≤ t → t < b → G d[t]!) := Lib.hid (fun t h1 h2 => at_good hd hG ha (by simp; omega) t h1 h2)
  have HB : Hid (∀ t, m ≤ t → t < b → d[t]! = B[t - m]!) := Lib.hid (fun t h1 h2 => at_B hd (by simp; omega) t h1 (by omega))
  have HD := Lib.hid hd
  have HSB := Lib.hid hsB
  have HLEN := Lib.hid (And.intro ha (And.intro hm hb))
  have hma : (m : Int) - (a : Int) = 1 := by omega
  have ham : a + 1 = m := by omega
  obtain ⟨Q, hQ⟩ : ∃ Q, Q = SymPost enc blk off w0 key X [x] B Z := ⟨_, rfl⟩
  rw [← hQ]
  have HQ := Lib.hid hQ
  clear S hlen hcmp hd hsB ha hm hb hN hB hG hQ
  go_enter Try.func74, Try.ntmps74
  go_wp2
  go_loopg [10, 11] (b - m) (fun kx s10 s11 wr => ∃ (i j : Nat), s10 = .int .i64 i ∧ s11 = .int .i64 j ∧ m ≤ i ∧ i ≤ j ∧ j ≤ b ∧ j - i ≤ kx ∧ Aside (SWK enc stK w0 blk off d wr) ∧ Hid ((m < i → key d[i - 1]! < key x) ∧ (j < b → key x ≤ key d[j]!)))
  case atStart => exact ⟨m, b, rfl, rfl, Nat.le_refl _, by omega, Nat.le_refl _, Nat.le_refl _, S0, Lib.hid ⟨fun h => absurd h (Nat.lt_irrefl _), fun h => absurd h (Nat.lt_irrefl _)⟩⟩
  case round =>
    clear S0
    obtain ⟨i, j, rfl, rfl, hmi, hij, hjb, hkx, S1, HI⟩ := hrel
    by_cases hlt : i < j
    · have hltz : (i : Int) < (j : Int) := by omega
      obtain ⟨h, hh⟩ : ∃ h, h = (i + j) / 2 := ⟨_, rfl⟩
      have eh : ((i : Int) + (j : Int)) / 2 = (h : Int) := by omega
      have hih : i ≤ h := by omega
      have hhj : h < j := by omega
      clear hh
      obtain ⟨x1, hx1⟩ : ∃ x1, d[h]! = x1 := ⟨_, rfl⟩
      obtain ⟨y1, hy1⟩ : ∃ y1, d[a]! = y1 := ⟨_, rfl⟩
      have hyx : y1 = x := by rw [← hy1]; exact HX.out
      have hgx : G x1 := by rw [← hx1]; exact HG.out h (by omega) (by omega)
      have hgy : G y1 := by rw [← hy1]; exact HG.out a (by omega) (by omega)
      have HKX : Hid (cf x1 y1 < 0 ↔ key d[h]! < key x) := Lib.hid (by rw [hx1, ← hyx]; exact K x1 y1 hgx hgy)
      clear hyx hgx hgy
      by_cases hv1 : cf x1 y1 < 0
      · have ea1 : ((h : Int)).toNat = h := by omega
        have pa1 : (0 : Int) ≤ (h : Int) := by omega
        have ba1 : (h : Int) < (N : Int) := by omega
        have ra1 : IntKind.i64.wrap ((h : Int)) = (h : Int) := by rw [IntKind.wrap_i64]; omega
        have ec1 : ((a : Int)).toNat = a := by omega
        have pc1 : (0 : Int) ≤ (a : Int) := by omega
        have bc1 : (a : Int) < (N : Int) := by omega
        have rc1 : IntKind.i64.wrap ((a : Int)) = (a : Int) := by rw [IntKind.wrap_i64]; omega
        have l1a := S1.out.ld R (by omega) Try.prog (h) (by omega)
        have l1b := S1.out.ld R (by omega) Try.prog (a) (by omega)
        rw [hx1] at l1a
        rw [hy1] at l1b
        have hc1 := S1.out.cmp HC.out (by omega) x1 y1
        have hd1 : decide (cf x1 y1 < 0) = true := decide_eq_true hv1
        clear hx1 hy1
        go_wp2_with fail
        go_quiet_grown (first | (go_at_fn g; refine Calls.grown_of (hc1 _ _)))
        have S2 : Aside (SWK enc stK w0 blk off d (grow (wr.drewN nq) osq)) := S1.out.grown nq osq
        clear l1a l1b hc1 S1
        generalize grow (wr.drewN nq) osq = w2 at S2 ⊢
        clear nq osq
        go_wp2
        go_roundg (j - (h + 1))
        case measure => omega
        case rel => exact ⟨h + 1, j, by go_num, rfl, by omega, by omega, hjb, Nat.le_refl _, S2, Lib.hid ⟨fun _ => by rw [Nat.add_sub_cancel]; exact HKX.out.1 hv1, HI.out.2⟩⟩
      · have ea1 : ((h : Int)).toNat = h := by omega
        have pa1 : (0 : Int) ≤ (h : Int) := by omega
        have ba1 : (h : Int) < (N : Int) := by omega
        have ra1 : IntKind.i64.wrap ((h : Int)) = (h : Int) := by rw [IntKind.wrap_i64]; omega
        have ec1 : ((a : Int)).toNat = a := by omega
        have pc1 : (0 : Int) ≤ (a : Int) := by omega
        have bc1 : (a : Int) < (N : Int) := by omega
        have rc1 : IntKind.i64.wrap ((a : Int)) = (a : Int) := by rw [IntKind.wrap_i64]; omega
        have l1a := S1.out.ld R (by omega) Try.prog (h) (by omega)
        have l1b := S1.out.ld R (by omega) Try.prog (a) (by omega)
        rw [hx1] at l1a
        rw [hy1] at l1b
        have hc1 := S1.out.cmp HC.out (by omega) x1 y1
        have hd1 : decide (cf x1 y1 < 0) = false := decide_eq_false hv1
        clear hx1 hy1
        go_wp2_with fail
        go_quiet_grown (first | (go_at_fn g; refine Calls.grown_of (hc1 _ _)))
        have S2 : Aside (SWK enc stK w0 blk off d (grow (wr.drewN nq) osq)) := S1.out.grown nq osq
        clear l1a l1b hc1 S1
        generalize grow (wr.drewN nq) osq = w2 at S2 ⊢
        clear nq osq
        go_wp2
        go_roundg (h - i)
        case measure => omega
        case rel => exact ⟨i, h, rfl, rfl, hmi, hih, by omega, Nat.le_refl _, S2, Lib.hid ⟨HI.out.1, fun _ => by have := mt HKX.out.2 (by omega); omega⟩⟩
    · have hji : j = i := by omega
      subst hji
      have hltz : ¬ (j : Int) < (j : Int) := by omega
      obtain ⟨q, hq⟩ : ∃ q, q = j - m := ⟨_, rfl⟩
      have hqB : q ≤ B.length := by have := HLEN.out.2.2; omega
      have HONE : Hid (Srt key (B.take q ++ x :: B.drop q) ∧ Stb key ([x] ++ B) (B.take q ++ x :: B.drop q)) := Lib.hid (one_ahead HSB.out hqB
        (fun h0 => by have h1 := HI.out.1 (by omega); rw [HB.out (j - 1) (by omega) (by omega), show j - 1 - m = q - 1 by omega] at h1; exact h1)
        (fun h0 => by have hb := HLEN.out.2.2; have h1 := HI.out.2 (by omega); rw [HB.out j (by omega) (by omega), ← hq] at h1; exact h1))
      have HBQ := Lib.hid hqB
      clear HI HG HB HX
      go_wp2
      go_loopg [13] q (fun kx s13 wr2 => ∃ (t : Nat) (dk : Array α), s13 = .int .i64 ((a + t : Nat) : Int) ∧ t ≤ q ∧ q - t ≤ kx ∧ dk.size = N ∧ Aside (SWK enc stK w0 blk off dk wr2) ∧ Hid (BubR X x B Z q t dk))
      case atStart => exact ⟨0, d, rfl, by omega, by omega, hsd, S1, Lib.hid (by rw [HD.out]; exact BubR.start X x B Z q)⟩
      case round =>
        clear S1
        obtain ⟨t, dk, rfl, htq, hkx2, hds, S1, HR⟩ := hrel
        obtain ⟨k, hk⟩ : ∃ k, k = a + t := ⟨_, rfl⟩
        rw [← hk]
        have hk1 : k ≤ a + t := by omega
        have hk2 : a + t ≤ k := by omega
        have HK := Lib.hid hk
        clear hk
        by_cases hlt2 : t < q
        · have hltz2 : (k : Int) < (j : Int) - 1 := by omega
          have ea2 : ((k : Int)).toNat = k := by omega
          have pa2 : (0 : Int) ≤ (k : Int) := by omega
          have ba2 : (k : Int) < (N : Int) := by omega
          have ra2 : IntKind.i64.wrap ((k : Int)) = (k : Int) := by rw [IntKind.wrap_i64]; omega
          have ec2 : ((k : Int) + 1).toNat = k + 1 := by omega
          have pc2 : (0 : Int) ≤ (k : Int) + 1 := by omega
          have bc2 : (k : Int) + 1 < (N : Int) := by omega
          have rc2 : IntKind.i64.wrap ((k : Int) + 1) = (k : Int) + 1 := by rw [IntKind.wrap_i64]; omega
          have S2 : Aside (SWK enc stK w0 blk off (swp dk (k) (k + 1)) ((wr.drew.setCells blk (off + (k) * stK) (enc dk[k + 1]!)).setCells blk (off + (k + 1) * stK) (enc dk[k]!))) := S1.out.swapped R (k) (k + 1) (by omega) (by omega)
          have l2a := S1.out.ld1 R (by omega) Try.prog (k) (by omega)
          have l2b := S1.out.ld1 R (by omega) Try.prog (k + 1) (by omega)
          have s2a := S1.out.st1 R (by omega) Try.prog (k) (by omega) dk[k + 1]!
          have s2b := S1.out.st2 R (by omega) Try.prog (k) (k + 1) (by omega) (by omega) dk[k + 1]! dk[k]!
          have n2a : (enc dk[k]!).length = stK := R.hk _
          have n2b : (enc dk[k + 1]!).length = stK := R.hk _
          generalize enc dk[k]! = cI2 at S2 l2a s2b n2a
          generalize enc dk[k + 1]! = cJ2 at S2 l2b s2a s2b n2b
          clear S1
          go_wp2_with fail
          go_big_region_o
          clear l2a l2b s2a s2b
          generalize (wr.drew.setCells blk (off + (k) * stK) cJ2).setCells blk (off + (k + 1) * stK) cI2 = w2 at S2 ⊢
          go_wp2
          go_roundg (q - (t + 1))
          case measure => omega
          case rel => exact ⟨t + 1, swp dk k (k + 1), by rw [show ((a + (t + 1) : Nat) : Int) = (k : Int) + 1 by omega], by omega, Nat.le_refl _, by rw [size_swp]; exact hds, S2, Lib.hid (by
            have := HR.out.step HBQ.out hlt2
            rw [← HLEN.out.1, ← HK.out] at this
            exact this)⟩
        · have hltz2 : ¬ (k : Int) < (j : Int) - 1 := by omega
          have htq2 : t = q := by omega
          subst htq2
          go_wp2
          (try simp only [Exit.inBlock, Exit.then]); refine bodyPost_ret (results_none rfl _ _ _) rfl ?_
          rw [HQ.out]
          exact ⟨rfl, _, HONE.out.1, HONE.out.2, by rw [← HR.out.done]; exact S1.out⟩

set_option maxHeartbeats 8000000 in
theorem sym_last (R : RowK enc stK w0 blk off d0) (eg : ∀ args w, (callFunc g args).run Try.prog w = .ok (.enter g args) w) (hcmp : CmpLays Try.prog g cb enc stK cf blk off d0.size w0) (K : KeyOn cf key G)
    (X A : List α) (y : α) (Z : List α) (a m b N cap : Nat) (hA : 1 < A.length) (ha : a = X.length) (hm : m = a + A.length) (hb : b = m + 1) (hN : N = (X ++ A ++ [y] ++ Z).length) (hsA : Srt key A) (hG : ∀ z ∈ A ++ [y], G z)
    (hs : d0.size = N) (hsz : N < 4611686018427387904) (w : World) (S : SWK enc stK w0 blk off (X ++ A ++ [y] ++ Z).toArray w) :
    Calls Try.prog 74 #[.slice (some ⟨blk, off, none⟩) N cap, .int .i64 a, .int .i64 m, .int .i64 b, .func (.func g) #[] cb] w (SymPost enc blk off w0 key X A [y] Z) := by
  have S0 : Aside (SWK enc stK w0 blk off (X ++ A ++ [y] ++ Z).toArray w) := S
  have hlen : N = X.length + A.length + 1 + Z.length := by rw [hN]; simp only [List.length_append, List.length_cons, List.length_nil]
  have hbN : b ≤ N := by omega
  have ham : a + 1 < m := by omega
  have hsd : (X ++ A ++ [y] ++ Z).toArray.size = N := by rw [List.size_toArray, hN]
  have HC : Aside _ := hcmp
  have mixed : Try.prog.follows .mixedOrders = true := by kernel_rfl
  obtain ⟨d, hd⟩ : ∃ d, d = (X ++ A ++ [y] ++ Z).toArray := ⟨_, rfl⟩
  rw [← hd] at S0 hsd
  have HX : Hid (d[m]! = y) := Lib.hid (by rw [at_B (B := [y]) hd (m := m) (by omega) m (Nat.le_refl _) (by simp), Nat.sub_self]; rfl)
  have HG : Hid (∀ t, a ≤ t → t < b → G d[t]!) := Lib.hid (fun t h1 h2 => at_good hd hG ha (by simp; omega) t h1 h2)
  have HB : Hid (∀ t, a ≤ t → t < m → d[t]! = A[t - a]!) := Lib.hid (fun t h1 h2 => at_A hd ha t h1 (by omega))
  have HD := Lib.hid hd
  have HSA := Lib.hid hsA
  have HLEN := Lib.hid (And.intro ha (And.intro hm hb))
  have hma : ((m : Int) - (a : Int) == 1) = false := by rw [beq_eq_false_iff_ne]; omega
  have hma2 : ¬ (m : Int) - (a : Int) = 1 := by omega
  have hbm : (b : Int) - (m : Int) = 1 := by omega
  have hmb : m + 1 = b := by omega
  obtain ⟨Q, hQ⟩ : ∃ Q, Q = SymPost enc blk off w0 key X A [y] Z := ⟨_, rfl⟩
  rw [← hQ]
  have HQ := Lib.hid hQ
  clear S hlen hcmp hd hsA ha hm hb hN hA hG hQ
  go_enter Try.func74, Try.ntmps74
  go_wp2
  go_loopg [14, 15] (m - a) (fun kx s14 s15 wr => ∃ (i j : Nat), s14 = .int .i64 i ∧ s15 = .int .i64 j ∧ a ≤ i ∧ i ≤ j ∧ j ≤ m ∧ j - i ≤ kx ∧ Aside (SWK enc stK w0 blk off d wr) ∧ Hid ((a < i → key d[i - 1]! ≤ key y) ∧ (j < m → key y < key d[j]!)))
  case atStart => exact ⟨a, m, rfl, rfl, Nat.le_refl _, by omega, Nat.le_refl _, Nat.le_refl _, S0, Lib.hid ⟨fun h => absurd h (Nat.lt_irrefl _), fun h => absurd h (Nat.lt_irrefl _)⟩⟩
  case round =>
    clear S0
    obtain ⟨i, j, rfl, rfl, hai, hij, hjm, hkx, S1, HI⟩ := hrel
    by_cases hlt : i < j
    · have hltz : (i : Int) < (j : Int) := by omega
      obtain ⟨h, hh⟩ : ∃ h, h = (i + j) / 2 := ⟨_, rfl⟩
      have eh : ((i : Int) + (j : Int)) / 2 = (h : Int) := by omega
      have hih : i ≤ h := by omega
      have hhj : h < j := by omega
      clear hh
      obtain ⟨x1, hx1⟩ : ∃ x1, d[m]! = x1 := ⟨_, rfl⟩
      obtain ⟨y1, hy1⟩ : ∃ y1, d[h]! = y1 := ⟨_, rfl⟩
      have hxy : x1 = y := by rw [← hx1]; exact HX.out
      have hgx : G x1 := by rw [← hx1]; exact HG.out m (by omega) (by omega)
      have hgy : G y1 := by rw [← hy1]; exact HG.out h (by omega) (by omega)
      have HKX : Hid (cf x1 y1 < 0 ↔ key y < key d[h]!) := Lib.hid (by rw [hy1, ← hxy]; exact K x1 y1 hgx hgy)
      clear hxy hgx hgy
      by_cases hv1 : cf x1 y1 < 0
      · have ea1 : ((m : Int)).toNat = m := by omega
        have pa1 : (0 : Int) ≤ (m : Int) := by omega
        have ba1 : (m : Int) < (N : Int) := by omega
        have ra1 : IntKind.i64.wrap ((m : Int)) = (m : Int) := by rw [IntKind.wrap_i64]; omega
        have ec1 : ((h : Int)).toNat = h := by omega
        have pc1 : (0 : Int) ≤ (h : Int) := by omega
        have bc1 : (h : Int) < (N : Int) := by omega
        have rc1 : IntKind.i64.wrap ((h : Int)) = (h : Int) := by rw [IntKind.wrap_i64]; omega
        have l1a := S1.out.ld R (by omega) Try.prog (m) (by omega)
        have l1b := S1.out.ld R (by omega) Try.prog (h) (by omega)
        rw [hx1] at l1a
        rw [hy1] at l1b
        have hc1 := S1.out.cmp HC.out (by omega) x1 y1
        have hd1 : decide (cf x1 y1 < 0) = true := decide_eq_true hv1
        clear hx1 hy1
        go_wp2_with fail
        go_quiet_grown (first | (go_at_fn g; refine Calls.grown_of (hc1 _ _)))
        have S2 : Aside (SWK enc stK w0 blk off d (grow (wr.drewN nq) osq)) := S1.out.grown nq osq
        clear l1a l1b hc1 S1
        generalize grow (wr.drewN nq) osq = w2 at S2 ⊢
        clear nq osq
        go_wp2
        go_roundg (h - i)
        case measure => omega
        case rel => exact ⟨i, h, rfl, rfl, hai, hih, by omega, Nat.le_refl _, S2, Lib.hid ⟨HI.out.1, fun _ => HKX.out.1 hv1⟩⟩
      · have ea1 : ((m : Int)).toNat = m := by omega
        have pa1 : (0 : Int) ≤ (m : Int) := by omega
        have ba1 : (m : Int) < (N : Int) := by omega
        have ra1 : IntKind.i64.wrap ((m : Int)) = (m : Int) := by rw [IntKind.wrap_i64]; omega
        have ec1 : ((h : Int)).toNat = h := by omega
        have pc1 : (0 : Int) ≤ (h : Int) := by omega
        have bc1 : (h : Int) < (N : Int) := by omega
        have rc1 : IntKind.i64.wrap ((h : Int)) = (h : Int) := by rw [IntKind.wrap_i64]; omega
        have l1a := S1.out.ld R (by omega) Try.prog (m) (by omega)
        have l1b := S1.out.ld R (by omega) Try.prog (h) (by omega)
        rw [hx1] at l1a
        rw [hy1] at l1b
        have hc1 := S1.out.cmp HC.out (by omega) x1 y1
        have hd1 : decide (cf x1 y1 < 0) = false := decide_eq_false hv1
        clear hx1 hy1
        go_wp2_with fail
        go_quiet_grown (first | (go_at_fn g; refine Calls.grown_of (hc1 _ _)))
        have S2 : Aside (SWK enc stK w0 blk off d (grow (wr.drewN nq) osq)) := S1.out.grown nq osq
        clear l1a l1b hc1 S1
        generalize grow (wr.drewN nq) osq = w2 at S2 ⊢
        clear nq osq
        go_wp2
        go_roundg (j - (h + 1))
        case measure => omega
        case rel => exact ⟨h + 1, j, by go_num, rfl, by omega, by omega, hjm, Nat.le_refl _, S2, Lib.hid ⟨fun _ => by rw [Nat.add_sub_cancel]; have := mt HKX.out.2 (by omega); omega, HI.out.2⟩⟩
    · have hji : j = i := by omega
      subst hji
      have hltz : ¬ (j : Int) < (j : Int) := by omega
      obtain ⟨p, hp⟩ : ∃ p, p = j - a := ⟨_, rfl⟩
      have hpA : p ≤ A.length := by have := HLEN.out.2.1; omega
      have HONE : Hid (Srt key (A.take p ++ y :: A.drop p) ∧ Stb key (A ++ [y]) (A.take p ++ y :: A.drop p)) := Lib.hid (one_behind HSA.out hpA
        (fun h0 => by have h1 := HI.out.1 (by omega); rw [HB.out (j - 1) (by omega) (by omega), show j - 1 - a = p - 1 by omega] at h1; exact h1)
        (fun h0 => by have hb := HLEN.out.2.1; have h1 := HI.out.2 (by omega); rw [HB.out j (by omega) (by omega), ← hp] at h1; exact h1))
      have HBP := Lib.hid hpA
      have hpm : p + a = j := by omega
      have HAL : Hid (A.length = m - a) := Lib.hid (by have := HLEN.out.2.1; omega)
      clear HI HG HB HX
      go_wp2
      go_loopg [17] (m - j) (fun kx s17 wr2 => ∃ (t : Nat) (dk : Array α), s17 = .int .i64 ((j + t : Nat) : Int) ∧ j + t ≤ m ∧ t ≤ kx ∧ dk.size = N ∧ Aside (SWK enc stK w0 blk off dk wr2) ∧ Hid (BubL X y A Z p t dk))
      case atStart => exact ⟨m - j, d, by rw [show ((j + (m - j) : Nat) : Int) = (m : Int) by omega], by omega, by omega, hsd, S1, Lib.hid (by
          have := BubL.start X y A Z p
          rw [HAL.out, show m - a - p = m - j by omega] at this
          rw [HD.out]; exact this)⟩
      case round =>
        clear S1
        obtain ⟨t, dk, rfl, htm, hkx2, hds, S1, HR⟩ := hrel
        cases t with
        | succ t =>
          obtain ⟨k, hk⟩ : ∃ k, k = j + t := ⟨_, rfl⟩
          have ek : ((j + (t + 1) : Nat) : Int) = (k : Int) + 1 := by omega
          rw [ek]
          have hk1 : k ≤ j + t := by omega
          have hk2 : j + t ≤ k := by omega
          clear hk ek
          have hltz2 : (j : Int) < (k : Int) + 1 := by omega
          have hkN : k + 1 < N := by omega
          have ea2 : ((k : Int) + 1).toNat = k + 1 := by omega
          have pa2 : (0 : Int) ≤ (k : Int) + 1 := by omega
          have ba2 : (k : Int) + 1 < (N : Int) := by omega
          have ra2 : IntKind.i64.wrap ((k : Int) + 1) = (k : Int) + 1 := by rw [IntKind.wrap_i64]; omega
          have ec2 : ((k : Int)).toNat = k := by omega
          have pc2 : (0 : Int) ≤ (k : Int) := by omega
          have bc2 : (k : Int) < (N : Int) := by omega
          have rc2 : IntKind.i64.wrap ((k : Int)) = (k : Int) := by rw [IntKind.wrap_i64]; omega
          have S2 : Aside (SWK enc stK w0 blk off (swp dk (k + 1) (k)) ((wr.drew.setCells blk (off + (k + 1) * stK) (enc dk[k]!)).setCells blk (off + (k) * stK) (enc dk[k + 1]!))) := S1.out.swapped R (k + 1) (k) (by omega) (by omega)
          have l2a := S1.out.ld1 R (by omega) Try.prog (k + 1) (by omega)
          have l2b := S1.out.ld1 R (by omega) Try.prog (k) (by omega)
          have s2a := S1.out.st1 R (by omega) Try.prog (k + 1) (by omega) dk[k]!
          have s2b := S1.out.st2 R (by omega) Try.prog (k + 1) (k) (by omega) (by omega) dk[k]! dk[k + 1]!
          have n2a : (enc dk[k + 1]!).length = stK := R.hk _
          have n2b : (enc dk[k]!).length = stK := R.hk _
          generalize enc dk[k + 1]! = cI2 at S2 l2a s2b n2a
          generalize enc dk[k]! = cJ2 at S2 l2b s2a s2b n2b
          clear S1
          go_wp2_with fail
          go_big_region_o
          clear l2a l2b s2a s2b
          generalize (wr.drew.setCells blk (off + (k + 1) * stK) cJ2).setCells blk (off + (k) * stK) cI2 = w2 at S2 ⊢
          go_wp2
          go_roundg t
          case measure => omega
          case rel => exact ⟨t, swp dk (k + 1) k, by first | rfl | (rw [show ((j + t : Nat) : Int) = (k : Int) by omega]) | (rw [show ((j + t : Nat) : Int) = (k : Int) by omega]; go_num), by omega, Nat.le_refl _, by rw [size_swp]; exact hds, S2, Lib.hid (by
            have := HR.out.step HBP.out (by have := HAL.out; omega)
            rw [← HLEN.out.1, show a + p + t = k by omega] at this
            exact this)⟩
        | zero =>
          have hltz2 : ¬ (j : Int) < (j : Int) := by omega
          have e0 : ((j + 0 : Nat) : Int) = (j : Int) := by omega
          rw [e0]
          clear e0
          go_wp2
          (try simp only [Exit.inBlock, Exit.then]); refine bodyPost_ret (results_none rfl _ _ _) rfl ?_
          rw [HQ.out]
          exact ⟨rfl, _, HONE.out.1, HONE.out.2, by rw [← HR.out.done]; exact S1.out⟩
end Go.Proofs.Yticchchcobjpdaa
