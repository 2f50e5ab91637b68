/- slices.SortStableFunc at structs: symMerge in general. No condition beyond what each lemma says. -/
import Derived.Test.YticchchcobjpdaaSuD
import Derived.Sort.WalkB2
import Derived.Sort.WalkB12
import Derived.Deep.RegionHeld3
import Derived.Deep.DeepCutAuto
import Derived.Deep.CutRange
import Derived.Deep.DrawnRows
import Derived.Deep.LoopGhost
namespace Go.Proofs.Yticchchcobjpdaa
set_option linter.unusedVariables false
set_option linter.unusedSimpArgs false
set_option linter.unusedSectionVars false
set_option maxRecDepth 100000
open Go.RowKit Go.Proofs Go.Shelf Go.Lib Go.Sort
attribute [local go_sem ↓] Go.wp_at_zero Go.wp_at_succ
attribute [local go_sem ↓] zStK zStE
attribute [local irreducible] stK
variable {α : Type} [Inhabited α] {enc : α → List Value} {cf : α → α → Int} {g : Nat} {cb : Array Value} {blk off : Nat} {d0 : Array α} {w0 : World}

variable {key : α → Int} {G : α → Prop}
theorem split4 (X A B Z : List α) (p q : Nat) : X ++ A ++ B ++ Z = (X ++ A.take p) ++ A.drop p ++ B.take q ++ (B.drop q ++ Z) := by
  have hA := List.take_append_drop p A
  have hB := List.take_append_drop q B
  conv => lhs; rw [← hA, ← hB]
  simp only [List.append_assoc]
/-- symMerge merges, at so many elements -/
def SymOK (α : Type) [Inhabited α] (enc : α → List Value) (g : Nat) (cb : Array Value) (blk off : Nat) (w0 : World) (key : α → Int) (G : α → Prop) (N cap n : Nat) : Prop :=
  ∀ (X A B Z : List α) (a m b : Nat) (w : World), A.length + B.length ≤ n → 0 < A.length → 0 < B.length → a = X.length → m = a + A.length → b = m + B.length → N = (X ++ A ++ B ++ Z).length → Srt key A → Srt key B → (∀ y ∈ A ++ B, G y) →
    SWK enc stK w0 blk off (X ++ A ++ B ++ Z).toArray w →
    Calls Try.prog 74 #[.slice (some ⟨blk, off, none⟩) N cap, .int .i64 a, .int .i64 m, .int .i64 b, .func (.func g) #[] cb] w (SymPost enc blk off w0 key X A B Z)

set_option maxHeartbeats 8000000 in
theorem sym_gen (R : RowK enc stK w0 blk off d0) (eg : ∀ args w, (callFunc g args).run Try.prog w = .ok (.enter g args) w) (hcmp : CmpLays Try.prog g cb enc stK cf blk off d0.size w0) (K : KeyOn cf key G)
    (X A B Z : List α) (a m b N cap : Nat) (hA : 1 < A.length) (hB : 1 < B.length) (ha : a = X.length) (hm : m = a + A.length) (hb : b = m + B.length) (hN : N = (X ++ A ++ B ++ Z).length) (hsA : Srt key A) (hsB : Srt key B) (hG : ∀ y ∈ A ++ B, G y)
    (hs : d0.size = N) (hsz : N < 4611686018427387904) (IH : SymOK α enc g cb blk off w0 key G N cap (A.length + B.length - 1)) (w : World) (S : SWK enc stK w0 blk off (X ++ A ++ B ++ Z).toArray w) :
    Calls Try.prog 74 #[.slice (some ⟨blk, off, none⟩) N cap, .int .i64 a, .int .i64 m, .int .i64 b, .func (.func g) #[] cb] w (SymPost enc blk off w0 key X A B Z) := by
  have S0 : Aside (SWK enc stK w0 blk off (X ++ A ++ B ++ Z).toArray w) := S
  have hlen : N = X.length + A.length + B.length + Z.length := by rw [hN]; simp only [List.length_append]
  have hbN : b ≤ N := by omega
  have ham : a + 1 < m := by omega
  have hmb : m + 1 < b := by omega
  have hsd : (X ++ A ++ B ++ Z).toArray.size = N := by rw [List.size_toArray, hN]
  have HC : Aside _ := hcmp
  have mixed : Try.prog.follows .mixedOrders = true := by kernel_rfl
  obtain ⟨d, hd⟩ : ∃ d, d = (X ++ A ++ B ++ Z).toArray := ⟨_, rfl⟩
  rw [← hd] at S0 hsd
  have HG : Hid (∀ t, a ≤ t → t < b → G d[t]!) := Lib.hid (fun t h1 h2 => at_good hd hG ha (by omega) t h1 h2)
  have HA : Hid (∀ t, a ≤ t → t < m → d[t]! = A[t - a]!) := Lib.hid (fun t h1 h2 => at_A hd ha t h1 (by omega))
  have HB : Hid (∀ t, m ≤ t → t < b → d[t]! = B[t - m]!) := Lib.hid (fun t h1 h2 => at_B hd (by omega) t h1 (by omega))
  have HD := Lib.hid hd
  have HSS := Lib.hid (And.intro hsA hsB)
  have HGG := Lib.hid hG
  have HLEN := Lib.hid (And.intro ha (And.intro hm (And.intro hb hN)))
  -- what each of the three calls does, of a cut at p, q
  have HROT : Hid (∀ p q s e w', p ≤ A.length → q ≤ B.length → s = a + p → e = m + q → p < A.length → 0 < q → SWK enc stK w0 blk off d w' →
      Calls Try.prog 75 #[.slice (some ⟨blk, off, none⟩) N cap, .int .i64 (s : Nat), .int .i64 m, .int .i64 (e : Nat), .func (.func g) #[] cb] w' fun r w2 => r = .returned (.tuple #[]) ∧ SWK enc stK w0 blk off (X ++ A.take p ++ B.take q ++ (A.drop p ++ B.drop q ++ Z)).toArray w2) := Lib.hid (fun p q s e w' hp hq hs1 he h1 h2 hw => by
    have e1 : X ++ A ++ B ++ Z = (X ++ A.take p) ++ A.drop p ++ B.take q ++ (B.drop q ++ Z) := split4 X A B Z p q
    have l1 : (A.take p).length = p := by rw [List.length_take]; omega
    have l2 : (A.drop p).length = A.length - p := List.length_drop
    have l3 : (B.take q).length = q := by rw [List.length_take]; omega
    have h := rotate_any (enc := enc) (g := g) (cb := cb) R (X ++ A.take p) (A.drop p) (B.take q) (B.drop q ++ Z) s m e N cap (by omega) (by omega) (by rw [List.length_append]; omega) (by rw [List.length_append]; omega) (by omega) (by rw [← e1]; exact hN) hs hsz w' (by rw [← e1, ← hd]; exact hw)
    refine h.mono ?_
    rintro r w2 ⟨rfl, h2⟩
    refine ⟨rfl, ?_⟩
    have e2 : X ++ A.take p ++ B.take q ++ (A.drop p ++ B.drop q ++ Z) = X ++ A.take p ++ B.take q ++ A.drop p ++ (B.drop q ++ Z) := by simp
    rw [e2]; exact h2)
  have HNOR : Hid (∀ p q, p ≤ A.length → q ≤ B.length → ¬ (p < A.length ∧ 0 < q) → d = (X ++ A.take p ++ B.take q ++ (A.drop p ++ B.drop q ++ Z)).toArray) := Lib.hid (fun p q hp hq h => by
    rw [hd]
    congr 1
    by_cases h1 : p < A.length
    · have : q = 0 := by omega
      subst this
      simp
      rw [← List.append_assoc (A.take p), List.take_append_drop]
    · rw [List.take_of_length_le (by omega), List.drop_eq_nil_of_le (by omega)]
      simp
      rw [← List.append_assoc (B.take q), List.take_append_drop])
  have HS1 : Hid (∀ p q s mid w', p ≤ A.length → q ≤ B.length → s = a + p → mid = a + p + q → 0 < p → 0 < q → p + q < A.length + B.length → SWK enc stK w0 blk off (X ++ A.take p ++ B.take q ++ (A.drop p ++ B.drop q ++ Z)).toArray w' →
      Calls Try.prog 74 #[.slice (some ⟨blk, off, none⟩) N cap, .int .i64 a, .int .i64 (s : Nat), .int .i64 (mid : Nat), .func (.func g) #[] cb] w' (SymPost enc blk off w0 key X (A.take p) (B.take q) (A.drop p ++ B.drop q ++ Z))) := Lib.hid (fun p q s mid w' hp hq hs1 hmid h1 h2 h3 hw => by
    have l1 : (A.take p).length = p := by rw [List.length_take]; omega
    have l3 : (B.take q).length = q := by rw [List.length_take]; omega
    exact IH X (A.take p) (B.take q) (A.drop p ++ B.drop q ++ Z) a s mid w' (by omega) (by omega) (by omega) ha (by omega) (by omega) (by rw [hlen]; simp only [List.length_append, List.length_take, List.length_drop]; omega) (hsA.take p) (hsB.take q)
      (fun y hy => hG y (by rcases List.mem_append.1 hy with h | h; exact List.mem_append_left _ (List.mem_of_mem_take h); exact List.mem_append_right _ (List.mem_of_mem_take h))) hw)
  have HS2 : Hid (∀ p q mid e w' M1, p ≤ A.length → q ≤ B.length → mid = a + p + q → e = m + q → p < A.length → q < B.length → 0 < p + q → M1.length = p + q → SWK enc stK w0 blk off (X ++ M1 ++ (A.drop p ++ B.drop q ++ Z)).toArray w' →
      Calls Try.prog 74 #[.slice (some ⟨blk, off, none⟩) N cap, .int .i64 (mid : Nat), .int .i64 (e : Nat), .int .i64 b, .func (.func g) #[] cb] w' (SymPost enc blk off w0 key (X ++ M1) (A.drop p) (B.drop q) Z)) := Lib.hid (fun p q mid e w' M1 hp hq hmid he h1 h2 h3 hM hw => by
    have l1 : (A.drop p).length = A.length - p := List.length_drop
    have l3 : (B.drop q).length = B.length - q := List.length_drop
    have e2 : X ++ M1 ++ (A.drop p ++ B.drop q ++ Z) = X ++ M1 ++ A.drop p ++ B.drop q ++ Z := by simp
    exact IH (X ++ M1) (A.drop p) (B.drop q) Z mid e b w' (by omega) (by omega) (by omega) (by rw [List.length_append]; omega) (by omega) (by omega) (by rw [hlen]; simp only [List.length_append, List.length_drop]; omega) (hsA.drop p) (hsB.drop q)
      (fun y hy => hG y (by rcases List.mem_append.1 hy with h | h; exact List.mem_append_left _ (List.mem_of_mem_drop h); exact List.mem_append_right _ (List.mem_of_mem_drop h))) (by rw [← e2]; exact hw))
  have hma : ((m : Int) - (a : Int) == 1) = false := by rw [beq_eq_false_iff_ne]; omega
  have hma2 : ¬ (m : Int) - (a : Int) = 1 := by omega
  have hbm : ((b : Int) - (m : Int) == 1) = false := by rw [beq_eq_false_iff_ne]; omega
  have hbm2 : ¬ (b : Int) - (m : Int) = 1 := by omega
  have HAB : Hid (A.length = m - a ∧ B.length = b - m) := Lib.hid ⟨by omega, by omega⟩
  obtain ⟨mid, hmid⟩ : ∃ mid, mid = (a + b) / 2 := ⟨_, rfl⟩
  have emid : ((a : Int) + (b : Int)) / 2 = (mid : Int) := by omega
  have hm1 : a < mid := by omega
  have hm2 : mid < b := by omega
  have hm3 : 2 * mid ≤ a + b := by omega
  have hm4 : a + b ≤ 2 * mid + 1 := by omega
  obtain ⟨nn, hnn⟩ : ∃ nn, nn = mid + m := ⟨_, rfl⟩
  have enn : (mid : Int) + (m : Int) = (nn : Int) := by omega
  have hn1 : nn ≤ mid + m := by omega
  have hn2 : mid + m ≤ nn := by omega
  obtain ⟨pp, hpp⟩ : ∃ pp, pp + 1 = nn := ⟨nn - 1, by omega⟩
  have epp : (nn : Int) - 1 = (pp : Int) := by omega
  have hp1 : pp + 1 ≤ nn := by omega
  have hp2 : nn ≤ pp + 1 := by omega
  obtain ⟨Q, hQ⟩ : ∃ Q, Q = SymPost enc blk off w0 key X A B Z := ⟨_, rfl⟩
  rw [← hQ]
  have HQ := Lib.hid hQ
  clear S hlen hcmp hd hsA hsB ha hm hb hN hA hB hG hQ IH hmid hnn hpp
  go_enter Try.func74, Try.ntmps74
  go_upto_if 140 with fail
  go_cut [20, 21] from 138 (fun s20 s21 wx => ∃ (s r : Nat), s20 = .int .i64 (s : Int) ∧ s21 = .int .i64 (r : Int) ∧ a ≤ s ∧ s ≤ r ∧ r ≤ m ∧ r ≤ mid ∧ nn ≤ s + b ∧ (s = a ∨ s + b = nn) ∧ (r = m ∨ r = mid) ∧ wx = w)
  case first =>
    by_cases hmm : mid < m
    · have hmz : (mid : Int) < (m : Int) := by omega
      have e1 : (nn : Int) - (b : Int) = ((nn - b : Nat) : Int) := by omega
      go_wp2_with fail
      go_meet
      exact ⟨nn - b, mid, rfl, rfl, by omega, by omega, by omega, by omega, by omega, Or.inr (by omega), Or.inr rfl, rfl⟩
    · have hmz : ¬ (mid : Int) < (m : Int) := by omega
      go_wp2_with fail
      go_meet
      exact ⟨a, m, rfl, rfl, by omega, by omega, by omega, by omega, by omega, Or.inl rfl, Or.inl rfl, rfl⟩
  case rest =>
    obtain ⟨s0, r0, rfl, rfl, c1, c2, c3, c4, c5, c6, c7, rfl⟩ := hcut
    have C6 := Lib.hid c6
    have C7 := Lib.hid c7
    clear c6 c7
    go_wp2
    go_loopg [20, 21] (r0 - s0) (fun kx s20 s21 wr => ∃ (s r : Nat), s20 = .int .i64 s ∧ s21 = .int .i64 r ∧ s0 ≤ s ∧ s ≤ r ∧ r ≤ r0 ∧ r - s ≤ kx ∧ Aside (SWK enc stK w0 blk off d wr) ∧ Hid ((s0 < s → key d[s - 1]! ≤ key d[pp - (s - 1)]!) ∧ (r < r0 → key d[pp - r]! < key d[r]!)))
    case atStart => exact ⟨s0, r0, rfl, rfl, Nat.le_refl _, c2, Nat.le_refl _, Nat.le_refl _, S0, Lib.hid ⟨fun h => absurd h (Nat.lt_irrefl _), fun h => absurd h (Nat.lt_irrefl _)⟩⟩
    case round =>
      clear S0
      obtain ⟨s, r, rfl, rfl, hs0, hsr, hr0, hkx, S1, HI⟩ := hrel
      by_cases hlt : s < r
      · have hltz : (s : Int) < (r : Int) := by omega
        obtain ⟨c, hc⟩ : ∃ c, c = (s + r) / 2 := ⟨_, rfl⟩
        have ec : ((s : Int) + (r : Int)) / 2 = (c : Int) := by omega
        have hsc : s ≤ c := by omega
        have hcr : c < r := by omega
        clear hc
        obtain ⟨u, hu⟩ : ∃ u, u = pp - c := ⟨_, rfl⟩
        have eu : (pp : Int) - (c : Int) = (u : Int) := by omega
        have HU := Lib.hid hu
        have hu1 : u ≤ pp - c := by omega
        have hu2 : pp - c ≤ u := by omega
        clear hu
        obtain ⟨x1, hx1⟩ : ∃ x1, d[u]! = x1 := ⟨_, rfl⟩
        obtain ⟨y1, hy1⟩ : ∃ y1, d[c]! = y1 := ⟨_, rfl⟩
        have hgx : G x1 := by rw [← hx1]; exact HG.out u (by omega) (by omega)
        have hgy : G y1 := by rw [← hy1]; exact HG.out c (by omega) (by omega)
        have HKX : Hid (cf x1 y1 < 0 ↔ key d[pp - c]! < key d[c]!) := Lib.hid (by rw [← HU.out, hx1, hy1]; exact K x1 y1 hgx hgy)
        clear hgx hgy
        by_cases hv1 : cf x1 y1 < 0
        · have ea1 : ((u : Int)).toNat = u := by omega
          have pa1 : (0 : Int) ≤ (u : Int) := by omega
          have ba1 : (u : Int) < (N : Int) := by omega
          have ra1 : IntKind.i64.wrap ((u : Int)) = (u : Int) := by rw [IntKind.wrap_i64]; omega
          have ec1 : ((c : Int)).toNat = c := by omega
          have pc1 : (0 : Int) ≤ (c : Int) := by omega
          have bc1 : (c : Int) < (N : Int) := by omega
          have rc1 : IntKind.i64.wrap ((c : Int)) = (c : Int) := by rw [IntKind.wrap_i64]; omega
          have l1a := S1.out.ld R (by omega) Try.prog (u) (by omega)
          have l1b := S1.out.ld R (by omega) Try.prog (c) (by omega)
          rw [hx1] at l1a
          rw [hy1] at l1b
          have hc1 := S1.out.cmp HC.out (by omega) x1 y1
          have hd1 : decide (cf x1 y1 < 0) = true := decide_eq_true hv1
          clear hx1 hy1
          go_wp2_with fail
          go_quiet_grown (first | (go_at_fn g; refine Calls.grown_of (hc1 _ _)))
          have S2 : Aside (SWK enc stK w0 blk off d (grow (wr.drewN nq) osq)) := S1.out.grown nq osq
          clear l1a l1b hc1 S1
          generalize grow (wr.drewN nq) osq = w2 at S2 ⊢
          clear nq osq
          go_wp2
          go_roundg (c - s)
          case measure => omega
          case rel => exact ⟨s, c, rfl, rfl, hs0, hsc, by omega, Nat.le_refl _, S2, Lib.hid ⟨HI.out.1, fun _ => HKX.out.1 hv1⟩⟩
        · have ea1 : ((u : Int)).toNat = u := by omega
          have pa1 : (0 : Int) ≤ (u : Int) := by omega
          have ba1 : (u : Int) < (N : Int) := by omega
          have ra1 : IntKind.i64.wrap ((u : Int)) = (u : Int) := by rw [IntKind.wrap_i64]; omega
          have ec1 : ((c : Int)).toNat = c := by omega
          have pc1 : (0 : Int) ≤ (c : Int) := by omega
          have bc1 : (c : Int) < (N : Int) := by omega
          have rc1 : IntKind.i64.wrap ((c : Int)) = (c : Int) := by rw [IntKind.wrap_i64]; omega
          have l1a := S1.out.ld R (by omega) Try.prog (u) (by omega)
          have l1b := S1.out.ld R (by omega) Try.prog (c) (by omega)
          rw [hx1] at l1a
          rw [hy1] at l1b
          have hc1 := S1.out.cmp HC.out (by omega) x1 y1
          have hd1 : decide (cf x1 y1 < 0) = false := decide_eq_false hv1
          clear hx1 hy1
          go_wp2_with fail
          go_quiet_grown (first | (go_at_fn g; refine Calls.grown_of (hc1 _ _)))
          have S2 : Aside (SWK enc stK w0 blk off d (grow (wr.drewN nq) osq)) := S1.out.grown nq osq
          clear l1a l1b hc1 S1
          generalize grow (wr.drewN nq) osq = w2 at S2 ⊢
          clear nq osq
          go_wp2
          go_roundg (r - (c + 1))
          case measure => omega
          case rel => exact ⟨c + 1, r, by go_num, rfl, by omega, by omega, hr0, Nat.le_refl _, S2, Lib.hid ⟨fun _ => by rw [Nat.add_sub_cancel]; have := mt HKX.out.2 (by omega); omega, HI.out.2⟩⟩
      · have hrs : r = s := by omega
        subst hrs
        have hltz : ¬ (r : Int) < (r : Int) := by omega
        obtain ⟨e, he⟩ : ∃ e, e = nn - r := ⟨_, rfl⟩
        have ee : (nn : Int) - (r : Int) = (e : Int) := by omega
        have he1 : e + r ≤ nn := by omega
        have he2 : nn ≤ e + r := by omega
        clear he
        have HCUT : Hid (Cut key A B (r - a) (e - m)) := Lib.hid (by
          obtain ⟨hA, hB⟩ := HAB.out
          refine ⟨by omega, by omega, ?_, ?_⟩
          · intro h1 h2
            have h3 := HI.out.2 (by rcases C7.out with h | h <;> omega)
            rw [HB.out (pp - r) (by omega) (by omega), HA.out r (by omega) (by omega)] at h3
            rw [show e - m - 1 = pp - r - m by omega]
            exact h3
          · intro h1 h2
            have h3 := HI.out.1 (by rcases C6.out with h | h <;> omega)
            rw [HA.out (r - 1) (by omega) (by omega), HB.out (pp - (r - 1)) (by omega) (by omega)] at h3
            rw [show r - a - 1 = r - 1 - a by omega, show e - m = pp - (r - 1) - m by omega]
            exact h3)
        have hra : a ≤ r := by omega
        have hem : m ≤ e := by omega
        have heb : e ≤ b := by omega
        have hrm : r ≤ m := by omega
        have hrmid : r ≤ mid := by omega
        have hmide : mid ≤ e := by omega
        clear HI HG HA HB C6 C7 c1 c2 c3 c4 c5
        go_upto_region 39 with fail
        go_cut [185] from 178 (fun v wx => v = .bool (decide (r < m ∧ m < e)) ∧ Aside (SWK enc stK w0 blk off d wx))
        case first =>
          by_cases g1 : r < m
          · have g1z : (r : Int) < (m : Int) := by omega
            by_cases g2 : m < e
            · have g2z : (m : Int) < (e : Int) := by omega
              go_wp2_with fail
              go_meet
              exact ⟨congrArg Value.bool (decide_eq_true (p := r < m ∧ m < e) ⟨g1, g2⟩).symm, S1⟩
            · have g2z : ¬ (m : Int) < (e : Int) := by omega
              go_wp2_with fail
              go_meet
              exact ⟨congrArg Value.bool (decide_eq_false (p := r < m ∧ m < e) (fun h => g2 h.2)).symm, S1⟩
          · have g1z : ¬ (r : Int) < (m : Int) := by omega
            go_wp2_with fail
            go_meet
            exact ⟨congrArg Value.bool (decide_eq_false (p := r < m ∧ m < e) (fun h => g1 h.1)).symm, S1⟩
        case rest =>
          clear S1
          obtain ⟨rfl, S1b⟩ := hcut
          obtain ⟨bb, hbb⟩ : ∃ bb, bb = decide (r < m ∧ m < e) := ⟨_, rfl⟩
          rw [← hbb]
          have HBB := Lib.hid hbb
          clear hbb
          go_upto_if 185 with fail
          go_cut [20] from 178 (fun u20 wx => u20 = .int .i64 (r : Int) ∧ Aside (SWK enc stK w0 blk off (X ++ A.take (r - a) ++ B.take (e - m) ++ (A.drop (r - a) ++ B.drop (e - m) ++ Z)).toArray wx))
          case first =>
            cases bb with
            | true =>
              obtain ⟨g1, g2⟩ := of_decide_eq_true HBB.out.symm
              have hc := HROT.out (r - a) (e - m) r e _ HCUT.out.hp HCUT.out.hq (by omega) (by omega) (by have := HAB.out.1; omega) (by omega) S1b.out
              go_wp2_with fail
              refine hc.mono ?_
              rintro e2 w2 ⟨rfl, S2⟩
              go_wp2_with fail
              go_meet
              exact ⟨rfl, S2⟩
            | false =>
              have g1 := of_decide_eq_false HBB.out.symm
              have HG1 := Lib.hid g1
              clear g1
              go_wp2_with fail
              go_meet
              exact ⟨rfl, by rw [← HNOR.out (r - a) (e - m) HCUT.out.hp HCUT.out.hq (by have := HG1.out; have := HAB.out.1; omega)]; exact S1b⟩
          case rest =>
            clear S1b HBB bb
            obtain ⟨rfl, S2⟩ := hcut
            go_upto_region 41 with fail
            go_cut [199] from 192 (fun v wx => v = .bool (decide (a < r ∧ r < mid)) ∧ Aside (SWK enc stK w0 blk off (X ++ A.take (r - a) ++ B.take (e - m) ++ (A.drop (r - a) ++ B.drop (e - m) ++ Z)).toArray wx))
            case first =>
              by_cases g1 : a < r
              · have g1z : (a : Int) < (r : Int) := by omega
                by_cases g2 : r < mid
                · have g2z : (r : Int) < (mid : Int) := by omega
                  go_wp2_with fail
                  go_meet
                  exact ⟨congrArg Value.bool (decide_eq_true (p := a < r ∧ r < mid) ⟨g1, g2⟩).symm, S2⟩
                · have g2z : ¬ (r : Int) < (mid : Int) := by omega
                  go_wp2_with fail
                  go_meet
                  exact ⟨congrArg Value.bool (decide_eq_false (p := a < r ∧ r < mid) (fun h => g2 h.2)).symm, S2⟩
              · have g1z : ¬ (a : Int) < (r : Int) := by omega
                go_wp2_with fail
                go_meet
                exact ⟨congrArg Value.bool (decide_eq_false (p := a < r ∧ r < mid) (fun h => g1 h.1)).symm, S2⟩
            case rest =>
              clear S2
              obtain ⟨rfl, S2b⟩ := hcut
              obtain ⟨bb, hbb⟩ : ∃ bb, bb = decide (a < r ∧ r < mid) := ⟨_, rfl⟩
              rw [← hbb]
              have HBB := Lib.hid hbb
              clear hbb
              go_upto_if 199 with fail
              go_cut [20] from 192 (fun u20 wx => u20 = .int .i64 (r : Int) ∧ Hid (∃ M1, Srt key M1 ∧ Stb key (A.take (r - a) ++ B.take (e - m)) M1 ∧ SWK enc stK w0 blk off (X ++ M1 ++ (A.drop (r - a) ++ B.drop (e - m) ++ Z)).toArray wx))
              case first =>
                cases bb with
                | true =>
                  obtain ⟨g1, g2⟩ := of_decide_eq_true HBB.out.symm
                  have hc := HS1.out (r - a) (e - m) r mid _ HCUT.out.hp HCUT.out.hq (by omega) (by omega) (by omega) (by omega) (by have := HAB.out.1; have := HAB.out.2; omega) S2b.out
                  go_wp2_with fail
                  refine hc.mono ?_
                  rintro e2 w2 ⟨rfl, S3⟩
                  have HS3 := Lib.hid S3
                  clear S3
                  go_wp2_with fail
                  go_meet
                  exact ⟨rfl, HS3⟩
                | false =>
                  have g1 := of_decide_eq_false HBB.out.symm
                  have hno : Hid (Srt key (A.take (r - a) ++ B.take (e - m))) := Lib.hid (by
                    by_cases h : r = a
                    · rw [h, Nat.sub_self, List.take_zero, List.nil_append]; exact HSS.out.2.take _
                    · rw [show e - m = 0 by omega, List.take_zero, List.append_nil]; exact HSS.out.1.take _)
                  clear g1
                  go_wp2_with fail
                  go_meet
                  exact ⟨rfl, Lib.hid ⟨_, hno.out, Stb.refl _ _, by
                    have := S2b.out
                    rw [List.append_assoc X] at this
                    exact this⟩⟩
              case rest =>
                clear S2b HBB bb
                obtain ⟨rfl, S3⟩ := hcut
                go_upto_region 43 with fail
                go_cut [213] from 206 (fun v wx => v = .bool (decide (mid < e ∧ e < b)) ∧ Hid (∃ M1, Srt key M1 ∧ Stb key (A.take (r - a) ++ B.take (e - m)) M1 ∧ SWK enc stK w0 blk off (X ++ M1 ++ (A.drop (r - a) ++ B.drop (e - m) ++ Z)).toArray wx))
                case first =>
                  by_cases g1 : mid < e
                  · have g1z : (mid : Int) < (e : Int) := by omega
                    by_cases g2 : e < b
                    · have g2z : (e : Int) < (b : Int) := by omega
                      go_wp2_with fail
                      go_meet
                      exact ⟨congrArg Value.bool (decide_eq_true (p := mid < e ∧ e < b) ⟨g1, g2⟩).symm, S3⟩
                    · have g2z : ¬ (e : Int) < (b : Int) := by omega
                      go_wp2_with fail
                      go_meet
                      exact ⟨congrArg Value.bool (decide_eq_false (p := mid < e ∧ e < b) (fun h => g2 h.2)).symm, S3⟩
                  · have g1z : ¬ (mid : Int) < (e : Int) := by omega
                    go_wp2_with fail
                    go_meet
                    exact ⟨congrArg Value.bool (decide_eq_false (p := mid < e ∧ e < b) (fun h => g1 h.1)).symm, S3⟩
                case rest =>
                  clear S3
                  obtain ⟨rfl, S3b⟩ := hcut
                  obtain ⟨bb, hbb⟩ : ∃ bb, bb = decide (mid < e ∧ e < b) := ⟨_, rfl⟩
                  rw [← hbb]
                  have HBB := Lib.hid hbb
                  clear hbb
                  obtain ⟨M1, t1, t2, S4⟩ := S3b.out
                  have HM1 := Lib.hid (And.intro t1 t2)
                  have HML : Hid (M1.length = (r - a) + (e - m)) := Lib.hid (by rw [t2.len, List.length_append, List.length_take, List.length_take]; have := HCUT.out.hp; have := HCUT.out.hq; omega)
                  have S5 : Aside _ := S4
                  clear S3b S4 t1 t2
                  cases bb with
                  | true =>
                    obtain ⟨g1, g2⟩ := of_decide_eq_true HBB.out.symm
                    have hc := HS2.out (r - a) (e - m) mid e _ M1 HCUT.out.hp HCUT.out.hq (by omega) (by omega) (by have := HAB.out.1; omega) (by have := HAB.out.2; omega) (by omega) HML.out S5.out
                    go_wp2_with fail
                    refine hc.mono ?_
                    rintro e2 w2 ⟨rfl, S3⟩
                    have HS3 := Lib.hid S3
                    clear S3
                    go_wp2
                    go_end0
                    obtain ⟨M2, u1, u2, S6⟩ := HS3.out
                    have hw := HCUT.out.whole HSS.out.1 HSS.out.2 HM1.out.1 u1 HM1.out.2 u2
                    rw [HQ.out]
                    refine ⟨rfl, M1 ++ M2, hw.1, hw.2, ?_⟩
                    rw [← List.append_assoc X]
                    exact S6
                  | false =>
                    have g1 := of_decide_eq_false HBB.out.symm
                    have hno : Hid (Srt key (A.drop (r - a) ++ B.drop (e - m))) := Lib.hid (by
                      by_cases h : e = b
                      · rw [show B.drop (e - m) = [] from List.drop_eq_nil_of_le (by have := HAB.out.2; omega), List.append_nil]; exact HSS.out.1.drop _
                      · rw [show A.drop (r - a) = [] from List.drop_eq_nil_of_le (by have := HAB.out.1; omega), List.nil_append]; exact HSS.out.2.drop _)
                    clear g1
                    go_wp2
                    go_end0
                    have hw := HCUT.out.whole HSS.out.1 HSS.out.2 HM1.out.1 hno.out HM1.out.2 (Stb.refl _ _)
                    rw [HQ.out]
                    refine ⟨rfl, _, hw.1, hw.2, ?_⟩
                    rw [← List.append_assoc X, List.append_assoc (X ++ M1)]
                    exact S5.out

/-- symMerge merges two sorted runs, stably -/
theorem sym_any (R : RowK enc stK w0 blk off d0) (eg : ∀ args w, (callFunc g args).run Try.prog w = .ok (.enter g args) w) (hcmp : CmpLays Try.prog g cb enc stK cf blk off d0.size w0) (K : KeyOn cf key G) (N cap : Nat) (hs : d0.size = N) (hsz : N < 4611686018427387904) :
    ∀ n, SymOK α enc g cb blk off w0 key G N cap n := by
  intro n
  induction n with
  | zero => intro X A B Z a m b w h1 h2 h3; omega
  | succ n ih =>
    intro X A B Z a m b w h1 h2 h3 ha hm hb hN hsA hsB hG hw
    by_cases hA1 : A.length = 1
    · obtain ⟨x, rfl⟩ := List.length_eq_one_iff.1 hA1
      exact sym_one R eg hcmp K X x B Z a m b N cap h3 ha (by simpa using hm) hb hN hsB hG hs hsz w hw
    · by_cases hB1 : B.length = 1
      · obtain ⟨y, rfl⟩ := List.length_eq_one_iff.1 hB1
        exact sym_last R eg hcmp K X A y Z a m b N cap (by omega) ha hm (by simpa using hb) hN hsA hG hs hsz w hw
      · exact sym_gen R eg hcmp K X A B Z a m b N cap (by omega) (by omega) ha hm hb hN hsA hsB hG hs hsz (fun X' A' B' Z' a' m' b' w' k => ih X' A' B' Z' a' m' b' w' (by omega)) w hw
end Go.Proofs.Yticchchcobjpdaa
