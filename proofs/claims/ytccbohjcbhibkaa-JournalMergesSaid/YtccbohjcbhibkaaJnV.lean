/- The journal's records as plain data: the sort is a stable insertion; what is laid down whole is read. No walk is in sight. -/
import Derived.Test.YtccbohjcbhibkaaJnI
import Derived.Test.YtccbohjcbhibkaaJnL
namespace Go.Proofs.Ytccbohjcbhibkaa
set_option linter.unusedVariables false
set_option linter.unusedSimpArgs false
set_option maxRecDepth 100000
open Go.RowKit Go.Sort

/-- a record in its place, in a list that is turned about -/
def putR (r : Rc) : List Rc → List Rc
  | [] => [r]
  | x :: l => if r.sq < x.sq then x :: putR r l else r :: x :: l
/-- a record in its place: behind those whose Seq is not greater -/
def put (l : List Rc) (r : Rc) : List Rc := (putR r l.reverse).reverse
theorem putR_len (r : Rc) : ∀ l, (putR r l).length = l.length + 1
  | [] => rfl
  | x :: l => by rw [putR]; split <;> simp [putR_len r l]
theorem put_len (l : List Rc) (r : Rc) : (put l r).length = l.length + 1 := by rw [put, List.length_reverse, putR_len, List.length_reverse]
theorem put_nil (r : Rc) : put [] r = [r] := rfl
theorem put_gt (l : List Rc) (x r : Rc) (h : r.sq < x.sq) : put (l ++ [x]) r = put l r ++ [x] := by simp [put, putR, h]
theorem put_le (l : List Rc) (x r : Rc) (h : ¬ r.sq < x.sq) : put (l ++ [x]) r = l ++ [x, r] := by simp [put, putR, h]
theorem get_mid (l t : List Rc) (x : Rc) : (l ++ x :: t).toArray[l.length]! = x := by simp
theorem set_mid (l t : List Rc) (x y : Rc) : (l ++ x :: t).set l.length y = l ++ y :: t := by simp
theorem lt_cf (x y : Rc) : ltOf cfR x y = decide (x.sq < y.sq) := by
  unfold ltOf cfR cmpI
  by_cases h : x.sq < y.sq
  · simp [h]
  · by_cases h2 : y.sq < x.sq
    · simp [h, h2]
    · simp [h, h2]
theorem inner_put (r : Rc) : ∀ (m t : List Rc), insInner (ltOf cfR) 0 m.length (m.reverse ++ r :: t).toArray = ((putR r m).reverse ++ t).toArray
  | [], t => by simp [insInner, putR]
  | x :: m, t => by
    have e1 : (x :: m).reverse ++ r :: t = m.reverse ++ x :: r :: t := by simp
    have e2 : m.reverse ++ x :: r :: t = (m.reverse ++ [x]) ++ r :: t := by simp
    have g0 : (m.reverse ++ x :: r :: t).toArray[m.length]! = x := by
      have h := get_mid m.reverse (r :: t) x
      rwa [List.length_reverse] at h
    have g1 : (m.reverse ++ x :: r :: t).toArray[m.length + 1]! = r := by
      have h := get_mid (m.reverse ++ [x]) t r
      rw [List.length_append, List.length_reverse] at h
      rw [e2]
      exact h
    rw [e1, List.length_cons]
    by_cases h : r.sq < x.sq
    · rw [insInner_go (ltOf cfR) 0 (m.length + 1) _ (by omega) (by rw [Nat.add_sub_cancel, g0, g1, lt_cf]; exact decide_eq_true h), Nat.add_sub_cancel]
      have hsw : swp (m.reverse ++ x :: r :: t).toArray (m.length + 1) m.length = (m.reverse ++ r :: x :: t).toArray := by
        unfold swp
        rw [g0, g1, List.setIfInBounds_toArray, List.setIfInBounds_toArray]
        have s1 := set_mid (m.reverse ++ [x]) t r x
        rw [List.length_append, List.length_reverse] at s1
        have s2 := set_mid m.reverse (x :: t) x r
        rw [List.length_reverse] at s2
        rw [e2]
        rw [show m.length + 1 = m.length + [x].length from rfl, s1]
        have e3 : m.reverse ++ [x] ++ x :: t = m.reverse ++ x :: x :: t := by simp
        rw [e3, s2]
      rw [hsw, inner_put r m (x :: t), putR, if_pos h]
      simp
    · rw [insInner_stop (ltOf cfR) 0 (m.length + 1) _ (Or.inr (by rw [Nat.add_sub_cancel, g0, g1, lt_cf]; exact decide_eq_false h)), putR, if_neg h]
      simp
theorem outer_put (n : Nat) : ∀ (t s : List Rc), n = s.length + t.length → insOuter (ltOf cfR) 0 n s.length (s ++ t).toArray = (t.foldl put s).toArray
  | [], s, hn => by rw [insOuter_stop _ _ _ _ _ (by simp at hn; omega)]; simp
  | x :: t, s, hn => by
    rw [List.length_cons] at hn
    have hi := inner_put x s.reverse t
    rw [List.length_reverse, List.reverse_reverse] at hi
    rw [insOuter_go _ _ _ _ _ (by omega), hi]
    have hp : (putR x s.reverse).reverse = put s x := rfl
    rw [hp]
    have h := outer_put n t (put s x) (by rw [put_len]; omega)
    rw [put_len] at h
    rw [h]; rfl
theorem srt_put (L : List Rc) : (srt L.toArray).toList = L.foldl put [] := by
  unfold srt insertionSort
  rw [List.size_toArray]
  match L with
  | [] => rw [insOuter_stop _ _ _ _ _ (by simp)]; rfl
  | x :: t =>
    have h := outer_put (x :: t).length t [x] (by simp; omega)
    rw [show (0 : Nat) + 1 = [x].length from rfl]
    rw [show x :: t = [x] ++ t from rfl] at h ⊢
    rw [h]
    rfl
theorem put_front (r : Rc) : ∀ l : List Rc, (∀ x ∈ l, r.sq < x.sq) → putR r l = l ++ [r]
  | [], _ => rfl
  | x :: l, h => by
    rw [putR, if_pos (h x (List.mem_cons_self ..)), put_front r l (fun y hy => h y (List.mem_cons_of_mem _ hy))]
    rfl
theorem put_first (l : List Rc) (r : Rc) (h : ∀ x ∈ l, r.sq < x.sq) : put l r = r :: l := by
  unfold put
  rw [put_front r l.reverse (fun x hx => h x (List.mem_reverse.1 hx))]
  simp
/-- falling records are turned about -/
theorem fold_fall : ∀ (t s : List Rc), List.Pairwise (fun a b => b.sq < a.sq) t → (∀ x ∈ s, ∀ y ∈ t, y.sq < x.sq) → t.foldl put s = t.reverse ++ s
  | [], s, _, _ => rfl
  | r :: t, s, hp, hs => by
    rw [List.pairwise_cons] at hp
    rw [List.foldl_cons, put_first s r (fun x hx => hs x hx r (List.mem_cons_self ..)), fold_fall t (r :: s) hp.2 (fun x hx y hy => by
      rcases List.mem_cons.1 hx with h | h
      · subst h; exact hp.1 y hy
      · exact hs x h y (List.mem_cons_of_mem _ hy))]
    simp
theorem readV_put (arr ep : Int) (L : List (List UInt8)) : readV arr ep L = (recsK arr ep L 8).foldl put [] := srt_put _

/-! ### what a head holds -/
theorem nm4_bz (x : Int) (h0 : 0 ≤ x) (h1 : x < 4294967296) : ((nm4 (bz x 0) (bz x 1) (bz x 2) (bz x 3) : Nat) : Int) = x := by
  have e0 := bz_int x 0
  have e1 := bz_int x 1
  have e2 := bz_int x 2
  have e3 := bz_int x 3
  unfold nm4
  have p0 : (256 : Int) ^ 0 = 1 := rfl
  have p1 : (256 : Int) ^ 1 = 256 := rfl
  have p2 : (256 : Int) ^ 2 = 65536 := rfl
  have p3 : (256 : Int) ^ 3 = 16777216 := rfl
  rw [p0] at e0
  rw [p1] at e1
  rw [p2] at e2
  rw [p3] at e3
  omega
theorem sec_n1 (arr : Int) (r : Rc) : nmA (secV mgH arr r) 8 = nm4 (bz r.ep 0) (bz r.ep 1) (bz r.ep 2) (bz r.ep 3) := rfl
theorem sec_n2 (arr : Int) (r : Rc) : nmA (secV mgH arr r) 12 = nm4 (bz r.sq 0) (bz r.sq 1) (bz r.sq 2) (bz r.sq 3) := rfl
theorem sec_n3 (arr : Int) (r : Rc) : nmA (secV mgH arr r) 16 = nm4 (bz r.rw 0) (bz r.rw 1) (bz r.rw 2) (bz r.rw 3) := rfl
theorem sec_n4 (arr : Int) (r : Rc) : nmA (secV mgH arr r) 20 = nm4 (bz (maskR r : Int) 0) (bz (maskR r : Int) 1) (bz (maskR r : Int) 2) (bz (maskR r : Int) 3) := rfl
theorem secV_len (M : List UInt8) (hM : M.length = 4) (arr : Int) (r : Rc) : (secV M arr r).length = 64 := by
  unfold secV
  rw [List.length_append, secL_len, hM]
  rfl
structure RcOk (r : Rc) : Prop where
  s : ∀ k, k < 4 → okS (dk r k) = true
  e : 1 ≤ r.ep ∧ r.ep ≤ 2147483647
  q : 1 ≤ r.sq ∧ r.sq ≤ 2147483647
  w : 0 ≤ r.rw ∧ r.rw < 64
  m : ¬ maskR r = 0
theorem ok_of {r : Rc} (h : rightB r = true) : RcOk r := by
  unfold rightB cntB at h
  simp only [Bool.and_eq_true, decide_eq_true_eq, bne_iff_ne] at h
  obtain ⟨⟨h0, h1, h2, h3⟩, ⟨a1, a2⟩, ⟨b1, b2⟩, ⟨c1, c2⟩, m⟩ := h
  refine ⟨fun k hk => ?_, ⟨a1, a2⟩, ⟨b1, b2⟩, ⟨c1, c2⟩, m⟩
  obtain rfl | rfl | rfl | rfl : k = 0 ∨ k = 1 ∨ k = 2 ∨ k = 3 := by omega
  · exact h0
  · exact h1
  · exact h2
  · exact h3
theorem of_ok {r : Rc} (h : RcOk r) : rightB r = true := by
  have h0 := h.s 0 (by decide)
  have h1 := h.s 1 (by decide)
  have h2 := h.s 2 (by decide)
  have h3 := h.s 3 (by decide)
  simp only [dk] at h0 h1 h2 h3
  unfold rightB cntB
  rw [h0, h1, h2, h3, decide_eq_true h.e.1, decide_eq_true h.e.2, decide_eq_true h.q.1, decide_eq_true h.q.2, decide_eq_true h.w.1, decide_eq_true h.w.2]
  have := h.m
  simp [this]
theorem em_len {s : List UInt8} (h : s.length = 64) : em s = false := em_ne (fun e => by rw [e] at h; cases h)
def sel (e : Bool) (p : List UInt8) : List UInt8 := if e then [] else p
theorem em_sel (e : Bool) (p : List UInt8) (h : p.length = 64) : em (sel e p) = e := by
  cases e
  · exact em_len h
  · rfl
theorem okS_sel (e : Bool) (p : List UInt8) (h : p.length = 64) : okS (sel e p) = true := by
  cases e
  · simp [sel, okS, h]
  · rfl
theorem mask_bit (a b c d : Bool) : (maskN a b c d).testBit 0 = !a ∧ (maskN a b c d).testBit 1 = !b ∧ (maskN a b c d).testBit 2 = !c ∧ (maskN a b c d).testBit 3 = !d := by
  cases a <;> cases b <;> cases c <;> cases d <;> decide
/-- what is read of a slot whose head is a record's -/
def rdR (a : Rc) (P : Nat → List UInt8) : Rc := ⟨a.ep, a.sq, a.rw, sel (em a.d0) (P 1), sel (em a.d1) (P 2), sel (em a.d2) (P 3), sel (em a.d3) (P 4)⟩
theorem slR_head {a : Rc} (ha : RcOk a) (arr : Int) (P : Nat → List UInt8) (h0 : P 0 = secV mgH arr a) : slR P = rdR a P := by
  have hM : slM P = maskR a := by
    unfold slM
    rw [h0, sec_n4]
    have := maskR_lt a
    have := nm4_bz (maskR a : Int) (by omega) (by omega)
    omega
  obtain ⟨b0, b1, b2, b3⟩ := mask_bit (em a.d0) (em a.d1) (em a.d2) (em a.d3)
  have hs : ∀ j, j < 4 → (e : Bool) → (maskR a).testBit j = !e → selD P 4 j = sel e (P (1 + j)) := by
    intro j hj e he
    unfold selD sel
    rw [hM, he]
    cases e
    · simp [hj]
    · simp
  have e1 := hs 0 (by decide) (em a.d0) b0
  have e2 := hs 1 (by decide) (em a.d1) b1
  have e3 := hs 2 (by decide) (em a.d2) b2
  have e4 := hs 3 (by decide) (em a.d3) b3
  unfold slR slK rdR
  rw [e1, e2, e3, e4, h0, sec_n1, sec_n2, sec_n3, nm4_bz a.ep (by have := ha.e; omega) (by have := ha.e; omega), nm4_bz a.sq (by have := ha.q; omega) (by have := ha.q; omega), nm4_bz a.rw (by have := ha.w; omega) (by have := ha.w; omega)]
theorem rd_mask (a : Rc) (P : Nat → List UInt8) (h64 : ∀ j, j < 6 → (P j).length = 64) : maskR (rdR a P) = maskR a := by
  unfold maskR rdR
  simp only
  rw [em_sel _ _ (h64 1 (by decide)), em_sel _ _ (h64 2 (by decide)), em_sel _ _ (h64 3 (by decide)), em_sel _ _ (h64 4 (by decide))]
theorem secV_eq (M : List UInt8) (arr : Int) (a b : Rc) (h1 : a.ep = b.ep) (h2 : a.sq = b.sq) (h3 : a.rw = b.rw) (h4 : maskR a = maskR b) : secV M arr a = secV M arr b := by
  unfold secV secL secL secL secL secL secL nk
  rw [h1, h2, h3, h4]
theorem rd_ok {a : Rc} (ha : RcOk a) (P : Nat → List UInt8) (h64 : ∀ j, j < 6 → (P j).length = 64) : RcOk (rdR a P) := by
  refine ⟨fun k hk => ?_, ha.e, ha.q, ha.w, by rw [rd_mask a P h64]; exact ha.m⟩
  obtain rfl | rfl | rfl | rfl : k = 0 ∨ k = 1 ∨ k = 2 ∨ k = 3 := by omega
  · exact okS_sel _ _ (h64 1 (by decide))
  · exact okS_sel _ _ (h64 2 (by decide))
  · exact okS_sel _ _ (h64 3 (by decide))
  · exact okS_sel _ _ (h64 4 (by decide))
theorem slOk_head {a : Rc} (ha : RcOk a) (arr ar2 ep : Int) (P : Nat → List UInt8) (h64 : ∀ j, j < 6 → (P j).length = 64) (h0 : P 0 = secV mgH arr a) :
    slOk ar2 ep P = (okA ar2 && ((secV mgH ar2 a == secV mgH arr a) && ((P 5 == secV mgC ar2 a) && (a.ep == ep)))) := by
  unfold slOk
  rw [slR_head ha arr P h0, of_ok (rd_ok ha P h64), secV_eq mgH ar2 (rdR a P) a rfl rfl rfl (rd_mask a P h64), secV_eq mgC ar2 (rdR a P) a rfl rfl rfl (rd_mask a P h64), h0]
  rfl
theorem sec_first (M : List UInt8) (arr : Int) (r : Rc) : (secV mgH arr r).getD 0 0 = 74 ∧ (secV mgC arr r).getD 0 0 = 74 := ⟨rfl, rfl⟩
/-- where no head stands, there is no record -/
theorem slOk_none (arr ep : Int) (P : Nat → List UInt8) (h : P 0 = z64) : slOk arr ep P = false := by
  unfold slOk
  have e : (secV mgH arr (slR P) == P 0) = false := by
    rw [beq_eq_false_iff_ne, h]
    intro e
    have h1 := (sec_first [] arr (slR P)).1
    rw [e] at h1
    exact absurd h1 (by decide)
  rw [e]; simp
theorem bz_arr : secV mgH 6 = secV mgH 6 := rfl
theorem sec_arr (a : Rc) : (secV mgH 6 a == secV mgH 5 a) = false := by
  rw [beq_eq_false_iff_ne]
  intro e
  have h1 : (secV mgH 6 a).getD 4 0 = bz 6 0 := rfl
  have h2 : (secV mgH 5 a).getD 4 0 = bz 5 0 := rfl
  rw [e, h2] at h1
  exact absurd h1 (by decide +kernel)
/-- behind the sectors there is nothing -/
theorem slot_out (arr ep : Int) (L : List (List UInt8)) (s : Nat) (h : L.length ≤ s * 6) : slOk arr ep (slotP L s) = false :=
  slOk_none arr ep _ (secAt_out L (s * 6 + 0) (by omega))
theorem recs_out (arr ep : Int) (L : List (List UInt8)) (n : Nat) (h : L.length ≤ n * 6) : ∀ k, recsK arr ep L (n + k) = recsK arr ep L n
  | 0 => rfl
  | k + 1 => by
    rw [← Nat.add_assoc, recs_no (slot_out arr ep L (n + k) (by omega)), recs_out arr ep L n h k]
end Go.Proofs.Ytccbohjcbhibkaa
