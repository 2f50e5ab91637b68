/- slices.SortStableFunc at structs: the sort itself. No condition beyond what each lemma says. -/
import Derived.Test.YticchchcobjpdaaSuE
import Derived.Test.YticchchcobjpdaaIns
import Derived.Sort.WalkB2
import Derived.Sort.WalkB12
import Derived.Deep.RegionHeld3
import Derived.Deep.DeepCutAuto
import Derived.Deep.CutRange
import Derived.Deep.DrawnRows
import Derived.Deep.LoopGhost
namespace Go.Proofs.Yticchchcobjpdaa
set_option linter.unusedVariables false
set_option linter.unusedSimpArgs false
set_option linter.unusedSectionVars false
set_option maxRecDepth 100000
open Go.RowKit Go.Proofs Go.Shelf Go.Lib Go.Sort
attribute [local go_sem ↓] Go.wp_at_zero Go.wp_at_succ
attribute [local go_sem ↓] zStK zStE
attribute [local irreducible] stK
variable {α : Type} [Inhabited α] {enc : α → List Value} {cf : α → α → Int} {g : Nat} {cb : Array Value} {blk off : Nat} {d0 : Array α} {w0 : World}

variable {key : α → Int} {G : α → Prop}
/-- a part of a list -/
def sl (l : List α) (x n : Nat) : List α := (l.drop x).take n
theorem sl_len (l : List α) (x n : Nat) (h : x + n ≤ l.length) : (sl l x n).length = n := by unfold sl; rw [List.length_take, List.length_drop]; omega
theorem sl_split (l : List α) (a c : Nat) (hac : a ≤ c) : l.take a ++ sl l a (c - a) ++ l.drop c = l := by
  unfold sl
  have e : l.drop c = (l.drop a).drop (c - a) := by rw [List.drop_drop]; congr 1; omega
  rw [e, List.append_assoc, List.take_append_drop, List.take_append_drop]
theorem sl_two (l : List α) (a m c : Nat) (ham : a ≤ m) (hmc : m ≤ c) : sl l a (m - a) ++ sl l m (c - m) = sl l a (c - a) := by
  unfold sl
  have e : l.drop m = (l.drop a).drop (m - a) := by rw [List.drop_drop]; congr 1; omega
  rw [e, show c - a = (m - a) + (c - m) by omega, List.take_add]
theorem sl_left (l R : List α) (a x n : Nat) (h : x + n ≤ a) (ha : a ≤ l.length) : sl (l.take a ++ R) x n = sl l x n := by
  unfold sl
  rw [List.drop_append_of_le_length (by rw [List.length_take]; omega), List.take_append_of_le_length (by rw [List.length_drop, List.length_take]; omega), List.drop_take, List.take_take, Nat.min_eq_left (by omega)]
theorem sl_after (l M : List α) (a c x n : Nat) (hM : M.length = c - a) (hac : a ≤ c) (hc : c ≤ l.length) (h : c ≤ x) : sl (l.take a ++ M ++ l.drop c) x n = sl l x n := by
  unfold sl
  have hl : (l.take a ++ M).length = c := by rw [List.length_append, List.length_take, hM]; omega
  rw [List.drop_append, hl, List.drop_eq_nil_of_le (by omega), List.nil_append, List.drop_drop]
  congr 2
  omega
theorem sl_mid (l M : List α) (a c : Nat) (hM : M.length = c - a) (hac : a ≤ c) (hc : c ≤ l.length) : sl (l.take a ++ M ++ l.drop c) a (c - a) = M := by
  unfold sl
  have hl : (l.take a).length = a := by rw [List.length_take]; omega
  rw [List.append_assoc, List.drop_append_of_le_length (by omega), List.drop_eq_nil_of_le (by omega), List.nil_append, List.take_append_of_le_length (by omega), List.take_of_length_le (by omega)]
theorem sl_past (l : List α) (x n m : Nat) (h1 : l.length ≤ x + n) (h2 : l.length ≤ x + m) : sl l x n = sl l x m := by
  unfold sl
  rw [List.take_of_length_le (by rw [List.length_drop]; omega), List.take_of_length_le (by rw [List.length_drop]; omega)]
theorem sl_none (l : List α) (x n : Nat) (h : l.length ≤ x) : sl l x n = [] := by
  unfold sl
  rw [List.drop_eq_nil_of_le h, List.take_nil]
/-- one part changed, stably -/
theorem seg_len (l M : List α) (a c : Nat) (hM : M.length = c - a) (hac : a ≤ c) (hc : c ≤ l.length) : (l.take a ++ M ++ l.drop c).length = l.length := by
  rw [List.length_append, List.length_append, List.length_take, List.length_drop, hM]; omega
theorem seg_stb {l M : List α} {a c : Nat} (hac : a ≤ c) (h : Stb key (sl l a (c - a)) M) : Stb key l (l.take a ++ M ++ l.drop c) := by
  have h2 := Stb.app (Stb.app (Stb.refl key (l.take a)) h) (Stb.refl key (l.drop c))
  rw [sl_split l a c hac] at h2
  exact h2
theorem seg_blk {l M : List α} {a c : Nat} (hc : c ≤ l.length) (hac : a ≤ c) (h : Stb key (sl l a (c - a)) M) : M.length = c - a := by rw [h.len, sl_len l a (c - a) (by omega)]

/-- while the blocks of 20 are sorted -/
structure P1 (key : α → Int) (l0 : List α) (N q a : Nat) (l : List α) : Prop where
  ha : a = 20 * q
  len : l.length = N
  stb : Stb key l0 l
  blk : ∀ i, i < q → Srt key (sl l (i * 20) 20)
theorem P1.step {l0 l M : List α} {N q a : Nat} (h : P1 key l0 N q a l) (hN : a + 20 ≤ N) (s : Srt key M) (t : Stb key (sl l a (a + 20 - a)) M) : P1 key l0 N (q + 1) (a + 20) (l.take a ++ M ++ l.drop (a + 20)) := by
  have hl := h.len
  have hM := seg_blk (c := a + 20) (by omega) (by omega) t
  refine ⟨by have := h.ha; omega, by rw [seg_len l M a (a + 20) hM (by omega) (by omega)]; exact hl, h.stb.trans (seg_stb (by omega) t), ?_⟩
  intro i hi
  have ha := h.ha
  by_cases hiq : i < q
  · rw [List.append_assoc, sl_left l _ a _ _ (by omega) (by omega)]
    exact h.blk i hiq
  · have e : i * 20 = a := by omega
    have := sl_mid l M a (a + 20) hM (by omega) (by omega)
    rw [show a + 20 - a = 20 by omega] at this
    rw [e, this]
    exact s
theorem P1.last {l0 l M : List α} {N q a : Nat} (h : P1 key l0 N q a l) (hN : N < a + 20) (haN : a ≤ N) (s : Srt key M) (t : Stb key (sl l a (N - a)) M) : (l.take a ++ M ++ l.drop N).length = N ∧ Stb key l0 (l.take a ++ M ++ l.drop N) ∧ ∀ i, Srt key (sl (l.take a ++ M ++ l.drop N) (i * 20) 20) := by
  have hl := h.len
  have ha := h.ha
  have hM := seg_blk (c := N) (by omega) (by omega) t
  have hlen := seg_len l M a N hM (by omega) (by omega)
  refine ⟨by rw [hlen]; exact hl, h.stb.trans (seg_stb (by omega) t), ?_⟩
  intro i
  by_cases hiq : i < q
  · rw [List.append_assoc, sl_left l _ a _ _ (by omega) (by omega)]
    exact h.blk i hiq
  · by_cases hi2 : i = q
    · have e : i * 20 = a := by omega
      have h2 := sl_mid l M a N hM (by omega) (by omega)
      rw [e, sl_past _ a 20 (N - a) (by omega) (by omega), h2]
      exact s
    · rw [sl_none _ _ _ (by omega)]
      exact Srt.nil _

/-- while blocks are merged -/
structure P2 (key : α → Int) (bs : Nat) (l0 : List α) (N q a : Nat) (l : List α) : Prop where
  ha : a = q * (2 * bs)
  len : l.length = N
  stb : Stb key l0 l
  pre : ∀ i, i < q → Srt key (sl l (i * (2 * bs)) (2 * bs))
  post : ∀ i, 2 * q ≤ i → Srt key (sl l (i * bs) bs)
theorem P2.runs {l0 l : List α} {bs N q a : Nat} (h : P2 key bs l0 N q a l) : Srt key (sl l a bs) ∧ Srt key (sl l (a + bs) bs) := by
  have e1 : a = 2 * q * bs := by rw [h.ha, Nat.mul_comm 2 bs, ← Nat.mul_assoc, Nat.mul_comm (q * bs) 2, Nat.mul_assoc]
  have e2 : a + bs = (2 * q + 1) * bs := by rw [Nat.add_mul, Nat.one_mul, ← e1]
  refine ⟨?_, ?_⟩
  · have := h.post (2 * q) (Nat.le_refl _); rw [← e1] at this; exact this
  · have := h.post (2 * q + 1) (by omega); rw [← e2] at this; exact this
theorem P2.step {l0 l M : List α} {bs N q a : Nat} (h : P2 key bs l0 N q a l) (hN : a + 2 * bs ≤ N) (s : Srt key M) (t : Stb key (sl l a (a + 2 * bs - a)) M) : P2 key bs l0 N (q + 1) (a + 2 * bs) (l.take a ++ M ++ l.drop (a + 2 * bs)) := by
  have hl := h.len
  have hM := seg_blk (c := a + 2 * bs) (by omega) (by omega) t
  refine ⟨by rw [Nat.add_mul, Nat.one_mul, ← h.ha], by rw [seg_len l M a _ hM (by omega) (by omega)]; exact hl, h.stb.trans (seg_stb (by omega) t), ?_, ?_⟩
  · intro i hi
    by_cases hiq : i < q
    · have h1 : i * (2 * bs) + 2 * bs ≤ a := by
        have := Nat.mul_le_mul_right (2 * bs) (show i + 1 ≤ q by omega)
        rw [Nat.add_mul, Nat.one_mul, ← h.ha] at this
        exact this
      rw [List.append_assoc, sl_left l _ a _ _ h1 (by omega)]
      exact h.pre i hiq
    · have e : i = q := by omega
      have h2 := sl_mid l M a (a + 2 * bs) hM (by omega) (by omega)
      rw [show a + 2 * bs - a = 2 * bs by omega] at h2
      rw [e, ← h.ha, h2]
      exact s
  · intro i hi
    have h1 : a + 2 * bs ≤ i * bs := by
      have := Nat.mul_le_mul_right bs (show 2 * q + 2 ≤ i by omega)
      rw [Nat.add_mul] at this
      have e1 : a = 2 * q * bs := by rw [h.ha, Nat.mul_comm 2 bs, ← Nat.mul_assoc, Nat.mul_comm (q * bs) 2, Nat.mul_assoc]
      omega
    rw [sl_after l M a (a + 2 * bs) _ _ hM (by omega) (by omega) h1]
    exact h.post i (by omega)
theorem P2.last {l0 l M : List α} {bs N q a : Nat} (h : P2 key bs l0 N q a l) (hN : N < a + 2 * bs) (haN : a ≤ N) (s : Srt key M) (t : Stb key (sl l a (N - a)) M) : (l.take a ++ M ++ l.drop N).length = N ∧ Stb key l0 (l.take a ++ M ++ l.drop N) ∧ ∀ i, Srt key (sl (l.take a ++ M ++ l.drop N) (i * (2 * bs)) (2 * bs)) := by
  have hl := h.len
  have hM := seg_blk (c := N) (by omega) (by omega) t
  have hlen := seg_len l M a N hM (by omega) (by omega)
  refine ⟨by rw [hlen]; exact hl, h.stb.trans (seg_stb (by omega) t), ?_⟩
  intro i
  by_cases hiq : i < q
  · have h1 : i * (2 * bs) + 2 * bs ≤ a := by
      have := Nat.mul_le_mul_right (2 * bs) (show i + 1 ≤ q by omega)
      rw [Nat.add_mul, Nat.one_mul, ← h.ha] at this
      exact this
    rw [List.append_assoc, sl_left l _ a _ _ h1 (by omega)]
    exact h.pre i hiq
  · by_cases hi2 : i = q
    · have h2 := sl_mid l M a N hM (by omega) (by omega)
      rw [hi2, ← h.ha, sl_past _ a (2 * bs) (N - a) (by omega) (by omega), h2]
      exact s
    · have h1 : N ≤ i * (2 * bs) := by
        have := Nat.mul_le_mul_right (2 * bs) (show q + 1 ≤ i by omega)
        rw [Nat.add_mul, Nat.one_mul, ← h.ha] at this
        omega
      rw [sl_none _ _ _ (by omega)]
      exact Srt.nil _
/-- .. and if the last block stands alone -/
theorem P2.alone {l0 l : List α} {bs N q a : Nat} (h : P2 key bs l0 N q a l) (hN : N ≤ a + bs) (haN : a ≤ N) : ∀ i, Srt key (sl l (i * (2 * bs)) (2 * bs)) := by
  have hl := h.len
  intro i
  by_cases hiq : i < q
  · exact h.pre i hiq
  · by_cases hi2 : i = q
    · rw [hi2, ← h.ha, sl_past l a (2 * bs) bs (by omega) (by omega)]
      exact h.runs.1
    · have h1 : N ≤ i * (2 * bs) := by
        have := Nat.mul_le_mul_right (2 * bs) (show q + 1 ≤ i by omega)
        rw [Nat.add_mul, Nat.one_mul, ← h.ha] at this
        omega
      rw [sl_none _ _ _ (by omega)]
      exact Srt.nil _

/-! ### the calls -/
theorem cmp_on {W : World} {dk : Array α} (hcmp : CmpLays Try.prog g cb enc stK cf blk off d0.size w0) (R : RowK enc stK w0 blk off d0) (S : SWK enc stK w0 blk off dk W) (hs : dk.size = d0.size) : CmpLays Try.prog g cb enc stK cf blk off dk.size W := by
  intro m os dk' hd x y
  obtain ⟨n, os', e⟩ := S.on R.hblk m dk' os hd
  rw [e]
  exact hcmp n os' dk' (by rw [hd, hs]) x y
theorem ins_seg (R : RowK enc stK w0 blk off d0) (eg : ∀ args w, (callFunc g args).run Try.prog w = .ok (.enter g args) w) (hcmp : CmpLays Try.prog g cb enc stK cf blk off d0.size w0) (K : KeyOn cf key G) (N cap : Nat) (hs : d0.size = N) (hsz : N < 4611686018427387904)
    (l : List α) (hl : l.length = N) (hG : ∀ y ∈ l, G y) (a c : Nat) (hac : a ≤ c) (hc : c ≤ N) (W : World) (S : SWK enc stK w0 blk off l.toArray W) :
    Calls Try.prog 73 #[.slice (some ⟨blk, off, none⟩) N cap, .int .i64 (a : Nat), .int .i64 (c : Nat), .func (.func g) #[] cb] W fun e w' => e = .returned (.tuple #[]) ∧ ∃ M, Srt key M ∧ Stb key (sl l a (c - a)) M ∧ SWK enc stK w0 blk off (l.take a ++ M ++ l.drop c).toArray w' := by
  have hsd : l.toArray.size = N := by rw [List.size_toArray, hl]
  have h := AnyQ.insertionSortCmpFunc sh_insl stK Try.isAgg25 zStK enc R.hk R.h1 cf g cb blk off cap a c l.toArray W eg (cmp_on hcmp R S (by rw [hsd, hs])) (S.holds R.hblk R.hH (by rw [hsd, hs])) (S.lt R.hblk) hac (by rw [hsd]; exact hc) (by rw [hsd]; exact hsz)
  rw [hsd] at h
  refine h.mono ?_
  rintro e w' ⟨rfl, n, os, rfl⟩
  refine ⟨rfl, ?_⟩
  have ht : (l.take a).length = a := by rw [List.length_take]; omega
  have hm : (sl l a (c - a)).length = c - a := sl_len l a (c - a) (by omega)
  obtain ⟨M, h1, h2, h3⟩ := ins_sort K (l.take a) (sl l a (c - a)) (l.drop c) (fun y hy => hG y (List.mem_of_mem_drop (List.mem_of_mem_take hy)))
  rw [sl_split l a c hac, ht, hm, show a + (c - a) = c by omega] at h3
  have hM : M.length = c - a := by rw [h2.len, hm]
  refine ⟨M, h1, h2, ?_⟩
  rw [h3]
  exact S.on R.hblk n _ os (by rw [List.size_toArray, List.size_toArray]; exact seg_len l M a c hM hac (by omega))
theorem sym_seg (R : RowK enc stK w0 blk off d0) (eg : ∀ args w, (callFunc g args).run Try.prog w = .ok (.enter g args) w) (hcmp : CmpLays Try.prog g cb enc stK cf blk off d0.size w0) (K : KeyOn cf key G) (N cap : Nat) (hs : d0.size = N) (hsz : N < 4611686018427387904)
    (l : List α) (hl : l.length = N) (hG : ∀ y ∈ l, G y) (a m c : Nat) (ham : a < m) (hmc : m < c) (hc : c ≤ N) (s1 : Srt key (sl l a (m - a))) (s2 : Srt key (sl l m (c - m))) (W : World) (S : SWK enc stK w0 blk off l.toArray W) :
    Calls Try.prog 74 #[.slice (some ⟨blk, off, none⟩) N cap, .int .i64 (a : Nat), .int .i64 (m : Nat), .int .i64 (c : Nat), .func (.func g) #[] cb] W fun e w' => e = .returned (.tuple #[]) ∧ ∃ M, Srt key M ∧ Stb key (sl l a (c - a)) M ∧ SWK enc stK w0 blk off (l.take a ++ M ++ l.drop c).toArray w' := by
  have ht : (l.take a).length = a := by rw [List.length_take]; omega
  have e : l.take a ++ sl l a (m - a) ++ sl l m (c - m) ++ l.drop c = l := by
    rw [List.append_assoc (l.take a), sl_two l a m c (by omega) (by omega)]; exact sl_split l a c (by omega)
  have hm1 : (sl l a (m - a)).length = m - a := sl_len l a (m - a) (by omega)
  have hm2 : (sl l m (c - m)).length = c - m := sl_len l m (c - m) (by omega)
  have h := sym_any (G := G) R eg hcmp K N cap hs hsz _ (l.take a) (sl l a (m - a)) (sl l m (c - m)) (l.drop c) a m c W (Nat.le_refl _) (by omega) (by omega) ht.symm (by omega) (by omega) (by rw [e, hl]) s1 s2
    (fun y hy => hG y (by rcases List.mem_append.1 hy with h | h <;> exact List.mem_of_mem_drop (List.mem_of_mem_take h))) (by rw [e]; exact S)
  refine h.mono ?_
  rintro r w' ⟨rfl, M, h1, h2, h3⟩
  rw [sl_two l a m c (by omega) (by omega)] at h2
  exact ⟨rfl, M, h1, h2, h3⟩

set_option maxHeartbeats 8000000 in
theorem stableCmpK_any (R : RowK enc stK w0 blk off d0) (eg : ∀ args w, (callFunc g args).run Try.prog w = .ok (.enter g args) w) (hcmp : CmpLays Try.prog g cb enc stK cf blk off d0.size w0) (K : KeyOn cf key G) (N cap : Nat) (hs : d0.size = N) (hsz : N < 1152921504606846976)
    (l0 : List α) (hl0 : l0.length = N) (hG : ∀ y ∈ l0, G y) (w : World) (S : SWK enc stK w0 blk off l0.toArray w) :
    Calls Try.prog 70 #[.slice (some ⟨blk, off, none⟩) N cap, .int .i64 (N : Nat), .func (.func g) #[] cb] w fun e w' => e = .returned (.tuple #[]) ∧ ∃ l, Srt key l ∧ Stb key l0 l ∧ SWK enc stK w0 blk off l.toArray w' := by
  have S0 : Aside _ := S
  have HINS : Hid (∀ (l : List α) (a c : Nat) (W : World), l.length = N → Stb key l0 l → a ≤ c → c ≤ N → SWK enc stK w0 blk off l.toArray W → Calls Try.prog 73 #[.slice (some ⟨blk, off, none⟩) N cap, .int .i64 (a : Nat), .int .i64 (c : Nat), .func (.func g) #[] cb] W fun e w' => e = .returned (.tuple #[]) ∧ ∃ M, Srt key M ∧ Stb key (sl l a (c - a)) M ∧ SWK enc stK w0 blk off (l.take a ++ M ++ l.drop c).toArray w') :=
    Lib.hid (fun l a c W hl hst hac hc hS => ins_seg R eg hcmp K N cap hs (by omega) l hl (hst.good hG) a c hac hc W hS)
  have HSYM : Hid (∀ (l : List α) (a m c : Nat) (W : World), l.length = N → Stb key l0 l → a < m → m < c → c ≤ N → Srt key (sl l a (m - a)) → Srt key (sl l m (c - m)) → SWK enc stK w0 blk off l.toArray W → Calls Try.prog 74 #[.slice (some ⟨blk, off, none⟩) N cap, .int .i64 (a : Nat), .int .i64 (m : Nat), .int .i64 (c : Nat), .func (.func g) #[] cb] W fun e w' => e = .returned (.tuple #[]) ∧ ∃ M, Srt key M ∧ Stb key (sl l a (c - a)) M ∧ SWK enc stK w0 blk off (l.take a ++ M ++ l.drop c).toArray w') :=
    Lib.hid (fun l a m c W hl hst ham hmc hc s1 s2 hS => sym_seg R eg hcmp K N cap hs (by omega) l hl (hst.good hG) a m c ham hmc hc s1 s2 W hS)
  have H0 : Hid (P1 key l0 N 0 0 l0) := Lib.hid ⟨rfl, hl0, Stb.refl _ _, fun i hi => by omega⟩
  clear S hcmp hG hs hl0 R
  go_enter Try.func70, Try.ntmps70
  go_wp2
  go_loopg [7, 8] N (fun kx s7 s8 wr => ∃ (q a b : Nat) (l : List α), s7 = .int .i64 a ∧ s8 = .int .i64 b ∧ a ≤ N ∧ b ≤ a + 20 ∧ a + 20 ≤ b ∧ N - a ≤ kx ∧ Aside (SWK enc stK w0 blk off l.toArray wr) ∧ Hid (P1 key l0 N q a l))
  case atStart => exact ⟨0, 0, 20, l0, rfl, rfl, Nat.zero_le _, Nat.le_refl _, Nat.le_refl _, by omega, S0, H0⟩
  case round =>
    clear S0 H0
    obtain ⟨q, a, b, l, rfl, rfl, haN, hb1, hb2, hkx, S1, HP⟩ := hrel
    by_cases hbN : b ≤ N
    · have hbz : (b : Int) ≤ (N : Int) := by omega
      have hc := Lib.hid (HINS.out l a b _ HP.out.len HP.out.stb (by omega) hbN S1.out)
      clear S1
      go_wp2_with fail
      refine hc.out.mono ?_
      rintro e w2 ⟨rfl, M, s1, t1, S2⟩
      have S3 : Aside _ := S2
      have HST : Hid (Srt key M ∧ Stb key (sl l a (b - a)) M) := Lib.hid ⟨s1, t1⟩
      clear S2 s1 t1 hc
      go_wp2
      go_roundg (N - b)
      case measure => omega
      case rel =>
        have hbe : b = a + 20 := by omega
        subst hbe
        exact ⟨q + 1, a + 20, a + 20 + 20, _, rfl, by go_num, hbN, Nat.le_refl _, Nat.le_refl _, Nat.le_refl _, S3, Lib.hid (HP.out.step hbN HST.out.1 HST.out.2)⟩
    · have hbz : ¬ (b : Int) ≤ (N : Int) := by omega
      have hc := Lib.hid (HINS.out l a N _ HP.out.len HP.out.stb haN (Nat.le_refl _) S1.out)
      clear S1
      go_wp2_with fail
      refine hc.out.mono ?_
      rintro e w2 ⟨rfl, M, s1, t1, S2⟩
      have S3 : Aside _ := S2
      have HST : Hid (_) := Lib.hid (HP.out.last (by omega) haN s1 t1)
      clear S2 s1 t1 hc HINS HP hb1 hb2 hbN hbz hkx
      generalize l.take a ++ M ++ l.drop N = l1 at S3 HST
      go_wp2
      go_loopg [6] N (fun kx s6 wr => ∃ (bs : Nat) (l : List α), s6 = .int .i64 bs ∧ 20 ≤ bs ∧ bs ≤ 2 * N + 20 ∧ N - bs ≤ kx ∧ Aside (SWK enc stK w0 blk off l.toArray wr) ∧ Hid (l.length = N ∧ Stb key l0 l ∧ ∀ i, Srt key (sl l (i * bs) bs)))
      case atStart => exact ⟨20, l1, rfl, Nat.le_refl _, by omega, by omega, S3, HST⟩
      case round =>
        clear S3 HST
        obtain ⟨bs, l2, rfl, hbs, hbs2, hkx, S1, HP⟩ := hrel
        by_cases hlt : bs < N
        · have hltz : (bs : Int) < (N : Int) := by omega
          have H2 : Hid (P2 key bs l0 N 0 0 l2) := Lib.hid ⟨by simp, HP.out.1, HP.out.2.1, fun i hi => by omega, fun i _ => HP.out.2.2 i⟩
          clear HP
          go_wp2
          go_loopg [7, 8] N (fun kx s7 s8 wr => ∃ (q a b : Nat) (l : List α), s7 = .int .i64 a ∧ s8 = .int .i64 b ∧ a ≤ N ∧ b ≤ a + 2 * bs ∧ a + 2 * bs ≤ b ∧ N - a ≤ kx ∧ Aside (SWK enc stK w0 blk off l.toArray wr) ∧ Hid (P2 key bs l0 N q a l))
          case atStart => exact ⟨0, 0, 2 * bs, l2, rfl, by go_num, Nat.zero_le _, by omega, by omega, by omega, S1, H2⟩
          case round =>
            clear S1 H2
            obtain ⟨q, a, b, l, rfl, rfl, haN, hb1, hb2, hkx2, S1, HP⟩ := hrel
            obtain ⟨m, hm⟩ : ∃ m, m = a + bs := ⟨_, rfl⟩
            have em : (a : Int) + (bs : Int) = (m : Int) := by omega
            have hm1 : m ≤ a + bs := by omega
            have hm2 : a + bs ≤ m := by omega
            have HM := Lib.hid hm
            clear hm
            by_cases hbN : b ≤ N
            · have hbz : (b : Int) ≤ (N : Int) := by omega
              have hc := Lib.hid (HSYM.out l a m b _ HP.out.len HP.out.stb (by omega) (by omega) hbN (by rw [show m - a = bs by omega]; exact HP.out.runs.1) (by rw [show b - m = bs by omega, HM.out]; exact HP.out.runs.2) S1.out)
              clear S1
              go_wp2_with fail
              refine hc.out.mono ?_
              rintro e w2 ⟨rfl, M, s1, t1, S2⟩
              have S3 : Aside _ := S2
              have HST : Hid (Srt key M ∧ Stb key (sl l a (b - a)) M) := Lib.hid ⟨s1, t1⟩
              clear S2 s1 t1 hc
              go_wp2
              go_roundg (N - b)
              case measure => omega
              case rel =>
                have hbe : b = a + 2 * bs := by omega
                subst hbe
                exact ⟨q + 1, a + 2 * bs, a + 2 * bs + 2 * bs, _, rfl, by go_num, hbN, Nat.le_refl _, Nat.le_refl _, Nat.le_refl _, S3, Lib.hid (HP.out.step hbN HST.out.1 HST.out.2)⟩
            · have hbz : ¬ (b : Int) ≤ (N : Int) := by omega
              by_cases hmN : m < N
              · have hmz : (m : Int) < (N : Int) := by omega
                have hc := Lib.hid (HSYM.out l a m N _ HP.out.len HP.out.stb (by omega) hmN (Nat.le_refl _) (by rw [show m - a = bs by omega]; exact HP.out.runs.1) (by rw [sl_past l m (N - m) bs (by rw [HP.out.len]; omega) (by rw [HP.out.len]; omega), HM.out]; exact HP.out.runs.2) S1.out)
                clear S1
                go_wp2_with fail
                refine hc.out.mono ?_
                rintro e w2 ⟨rfl, M, s1, t1, S2⟩
                have S3 : Aside _ := S2
                have HST : Hid (_) := Lib.hid (HP.out.last (by omega) haN s1 t1)
                clear S2 s1 t1 hc
                go_wp2
                go_roundg (N - 2 * bs)
                case measure => omega
                case rel => exact ⟨2 * bs, _, by first | go_num | (congr 1; omega), by omega, by omega, Nat.le_refl _, S3, HST⟩
              · have hmz : ¬ (m : Int) < (N : Int) := by omega
                have HST : Hid (_) := Lib.hid (HP.out.alone (by omega) haN)
                go_wp2
                go_roundg (N - 2 * bs)
                case measure => omega
                case rel => exact ⟨2 * bs, l, by first | go_num | (congr 1; omega), by omega, by omega, Nat.le_refl _, S1, Lib.hid ⟨HP.out.len, HP.out.stb, HST.out⟩⟩
        · have hltz : ¬ (bs : Int) < (N : Int) := by omega
          go_wp2
          go_end0
          refine ⟨rfl, l2, ?_, HP.out.2.1, S1.out⟩
          have h1 := HP.out.2.2 0
          rw [Nat.zero_mul] at h1
          unfold sl at h1
          rw [List.drop_zero, List.take_of_length_le (by rw [HP.out.1]; omega)] at h1
          exact h1

/-- slices.SortStableFunc: sorted, stably -/
theorem sortStable_any (R : RowK enc stK w0 blk off d0) (eg : ∀ args w, (callFunc g args).run Try.prog w = .ok (.enter g args) w) (hcmp : CmpLays Try.prog g cb enc stK cf blk off d0.size w0) (K : KeyOn cf key G) (N cap : Nat) (hs : d0.size = N) (hsz : N < 1152921504606846976)
    (l0 : List α) (hl0 : l0.length = N) (hG : ∀ y ∈ l0, G y) (w : World) (S : SWK enc stK w0 blk off l0.toArray w) :
    Calls Try.prog 61 #[.slice (some ⟨blk, off, none⟩) N cap, .func (.func g) #[] cb] w fun e w' => e = .returned (.tuple #[]) ∧ ∃ l, Srt key l ∧ Stb key l0 l ∧ SWK enc stK w0 blk off l.toArray w' := by
  have I := Lib.hid (stableCmpK_any R eg hcmp K N cap hs hsz l0 hl0 hG w S)
  clear hcmp hG hs hl0 R S
  go_enter Try.func61, Try.ntmps61
  go_wp2_with fail
  refine I.out.mono ?_
  rintro e w2 ⟨rfl, h⟩
  have H := Lib.hid h
  clear h I
  go_wp2
  go_end0
  exact ⟨rfl, H.out⟩
end Go.Proofs.Yticchchcobjpdaa
