/- What the reference's Read of a segment computes: the same as package seg's. Condition: at most 1000000 bytes. -/
import Derived.Test.YtccbgiapabkjbaaSgD
import Derived.Test.YtccbgiapabkjbaaSgR
namespace Go.Proofs.Ytccbgiapabkjbaa
set_option linter.unusedVariables false
set_option linter.unusedSimpArgs false
set_option maxRecDepth 100000
open Go.RowKit
attribute [local go_sem ↓] Go.wp_at_zero Go.wp_at_succ
attribute [local go_sem ↓] ld_sg ld_ip st_sg

set_option maxHeartbeats 1000000 in
theorem number_any (l : List UInt8) (a n : Nat) (hl : l.length ≤ 1000000) (h4 : n ≤ 4) (h : a + n ≤ l.length) (w : World) :
    Calls Try.prog 26 #[.string ⟨l.toArray⟩, .int .i64 (a : Int), .int .i64 (n : Int)] w fun e w' => e = .returned (.int .u32 (num l a n : Nat)) ∧ w' = w := by
  obtain ⟨p, hp⟩ : ∃ p, p = (l.drop a).take n := ⟨_, rfl⟩
  have hpl : p.length = n := by rw [hp, List.length_take, List.length_drop]; omega
  have hV : num l a n = bigv p := by rw [num, hp]
  rw [hV]
  have HP : RowKit.Hid (∀ k (hk : k < n), p[k]'(by omega) = bat ⟨l.toArray⟩ (a + k)) := by
    intro k hk
    rw [← bat_get ⟨l.toArray⟩ (a + k) (by show a + k < l.length; omega)]
    subst hp
    rw [List.getElem_take, List.getElem_drop]
    rfl
  have HL := Lib.hid hpl
  have H := Lib.hid h
  clear hV hp
  go_enter Try.func26, Try.ntmps26
  go_wp2
  go_loop [7, 8] (fun x i => ∃ k : Nat, k ≤ n ∧ i = .int .i64 k ∧ x = .int .u32 (bigv (p.take k) : Nat)) (fun _ i => n - (intOf i).toNat)
  case atStart => exact ⟨0, by omega, rfl, rfl⟩
  case round =>
    obtain ⟨k, hk, rfl, rfl⟩ := hrel
    by_cases hlt : k < n
    · have hlt' : (k : Int) < (n : Int) := by omega
      have hst := bigv_step p k (by rw [HL.out]; exact hlt)
      rw [HP.out k hlt] at hst
      have hb := (bat ⟨l.toArray⟩ (a + k)).toNat_lt
      have hx := bigv_lt (p.take k)
      have hkl : (p.take k).length ≤ 3 := by rw [List.length_take]; omega
      have hx3 : bigv (p.take k) < 16777216 := Nat.lt_of_lt_of_le hx (Nat.le_trans (Nat.pow_le_pow_right (n := 256) (by decide) hkl) (by decide))
      obtain ⟨X, hX⟩ : ∃ X, X = bigv (p.take k) := ⟨_, rfl⟩
      obtain ⟨Y, hY⟩ : ∃ Y, Y = bigv (p.take (k + 1)) := ⟨_, rfl⟩
      rw [← hX] at hst hx3
      rw [← hY] at hst
      have HX := Lib.hid hX
      have HY := Lib.hid hY
      have g := bat_get ⟨l.toArray⟩ (a + k) (by show a + k < l.length; clear hx; have := H.out; omega)
      have hak : IntKind.i64.wrap ((a : Int) + (k : Int)) = (a : Int) + (k : Int) := IntWalk.i64_in _ (by have := H.out; omega)
      have hakt : ((a : Int) + (k : Int)).toNat = a + k := by omega
      have haki : (a : Int) + (k : Int) < (l.length : Int) := by have := H.out; omega
      rw [← hX]
      clear hX hY hx hkl
      generalize bat ⟨l.toArray⟩ (a + k) = u at hst hb g
      have m1 : IntKind.u32.wrap ((X : Int) * 256) = (X : Int) * 256 := by simp [IntKind.wrap, IntKind.bits, IntKind.signed]; omega
      have m2 : IntKind.u32.wrap ((u.toNat : Nat) : Int) = ((u.toNat : Nat) : Int) := by simp [IntKind.wrap, IntKind.bits, IntKind.signed]; omega
      have m3 : IntKind.u32.wrap ((X : Int) * 256 + ((u.toNat : Nat) : Int)) = (Y : Int) := by simp [IntKind.wrap, IntKind.bits, IntKind.signed]; omega
      have hqn : (0 : Int) ≤ (a : Int) + (k : Int) := by omega
      clear hst
      go_wp2
      go_round
      case rel => exact ⟨k + 1, by omega, by go_num, by rw [HY.out]⟩
      case measure => simp [intOf]; omega
    · have hkp : p.take k = p := List.take_of_length_le (by rw [HL.out]; omega)
      have hlt' : (n : Int) ≤ (k : Int) := by omega
      rw [hkp]
      clear hkp
      go_wp2
      go_ret
      exact ⟨rfl, rfl⟩

theorem has_any (fr tp sq ak wi ms : Int) (fl : Nat) (hfl : fl ≤ 65535) (d : List UInt8) (w : World) :
    Calls Try.prog 27 #[.agg (sgC fr tp sq ak fl wi ms d), .int .i64 2] w fun e w' => e = .returned (.bool (fl / 2 % 2 == 1)) ∧ Below w.heap.size w w' := by
  have hK := Blk.new w 29 (sgC fr tp sq ak fl wi ms d) 0 0 (Or.inl (Nat.le_refl _))
  have c4 := (sg_at hK).fl
  have HB := Lib.hid ((Below.refl _ w).alloc (Nat.le_refl _) (.cells (sgC fr tp sq ak fl wi ms d) 29))
  obtain ⟨q, hq⟩ : ∃ q, q = fl / 2 := ⟨_, rfl⟩
  obtain ⟨r, hr⟩ : ∃ r, r = q % 2 := ⟨_, rfl⟩
  rw [← hq, ← hr]
  have hw1 : IntKind.i64.wrap ((fl : Int) / 2) = (q : Int) := by rw [IntWalk.i64_in _ (by omega)]; omega
  have hw2 : (q : Int).tmod 2 = (r : Int) := by rw [Int.tmod_eq_emod_of_nonneg (by omega)]; omega
  have hb : ((r : Int) == 1) = (r == 1) := by
    rw [Bool.eq_iff_iff, beq_iff_eq, beq_iff_eq]; omega
  clear hK hq hr
  go_enter Try.func27, Try.ntmps27
  go_wp2
  go_ret
  exact ⟨by first | rfl | exact congrArg (fun b => Ending.returned (.bool b)) hb | simp, HB.out⟩

/-- what stays while a segment is read, by the reference -/
structure SrT (w0 : World) (f t : List UInt8) (w : World) : Prop where
  f : Blk w w0.heap.size 23 (f.map ubv).toArray
  t : Blk w (w0.heap.size + 1) 23 (t.map ubv).toArray
  res : Blk w (w0.heap.size + 1 + 1) 29 sg0
  none : Blk w (w0.heap.size + 1 + 1 + 1) 29 sg0
  bel : Below w0.heap.size w0 w
section
variable {w0 w w' : World} {f t : List UInt8}
theorem SrT.drew (h : SrT w0 f t w) : SrT w0 f t w.drew := ⟨h.f.drew, h.t.drew, h.res.drew, h.none.drew, h.bel.drew⟩
theorem SrT.step (h : SrT w0 f t w) (k : Below w.heap.size w w') : SrT w0 f t w' := ⟨h.f.step k, h.t.step k, h.res.step k, h.none.step k, Below.step h.bel k⟩
theorem SrT.alloc (h : SrT w0 f t w) (o : Obj) : SrT w0 f t (w.alloc o) := ⟨h.f.alloc o, h.t.alloc o, h.res.alloc o, h.none.alloc o, h.bel.alloc h.bel.size o⟩
theorem SrT.allocD (h : SrT w0 f t w.drew) (o : Obj) : SrT w0 f t (w.alloc o).drew := ⟨h.f.alloc o, h.t.alloc o, h.res.alloc o, h.none.alloc o, h.bel.alloc h.bel.size o⟩
theorem SrT.set1 (h : SrT w0 f t w) {g : Nat} (hg : w0.heap.size + 1 + 1 + 1 < g) (o : Nat) (v : Value) : SrT w0 f t (w.setCell ⟨g, o, Option.none⟩ v) :=
  ⟨h.f.set_other _ _ (by show _ ≠ g; omega), h.t.set_other _ _ (by show _ ≠ g; omega), h.res.set_other _ _ (by show _ ≠ g; omega), h.none.set_other _ _ (by show _ ≠ g; omega), Below.setCell (p := ⟨g, o, Option.none⟩) h.bel (by show _ ≤ g; omega) v⟩
end
theorem srt_new (w : World) (f t : List UInt8) : SrT w f t ((((w.alloc (.cells (f.map ubv).toArray 23)).alloc (.cells (t.map ubv).toArray 23)).alloc (.cells sg0 29)).alloc (.cells sg0 29)) := by
  have b0 := ip_new w f t
  obtain ⟨w1, hw1⟩ : ∃ w1, w1 = (w.alloc (.cells (f.map ubv).toArray 23)).alloc (.cells (t.map ubv).toArray 23) := ⟨_, rfl⟩
  have e1 : w1.heap.size = w.heap.size + 1 + 1 := by rw [hw1, size_alloc, size_alloc]
  rw [← hw1] at b0 ⊢
  have b2 := Blk.new w1 29 sg0 0 0 (Or.inl (Nat.le_refl _))
  have l1 := b0.bel.alloc b0.bel.size (.cells sg0 29)
  obtain ⟨w2, hw2⟩ : ∃ w2, w2 = w1.alloc (.cells sg0 29) := ⟨_, rfl⟩
  have e2 : w2.heap.size = w.heap.size + 1 + 1 + 1 := by rw [hw2, size_alloc, e1]
  have x0 := b0.f.alloc (.cells sg0 29)
  have x1 := b0.t.alloc (.cells sg0 29)
  rw [← hw2] at x0 x1 b2 l1 ⊢
  have b3 := Blk.new w2 29 sg0 0 0 (Or.inl (Nat.le_refl _))
  rw [e1] at b2
  rw [e2] at b3
  exact ⟨x0.alloc _, x1.alloc _, b2.alloc _, b3, l1.alloc l1.size _⟩
theorem st_newD (w : World) (fr tp sq ak fl wi ms : Int) (d : List UInt8) : (St 29 (.pointer (some ⟨w.heap.size, 0, none⟩)) (.agg (sgRow fr tp sq ak fl wi ms d).toArray)).run Try.prog (w.alloc (.cells sg0 29)).drew = .ok () (w.alloc (.cells (sgRow fr tp sq ak fl wi ms d).toArray 29)).drew := st_new w.drew fr tp sq ak fl wi ms d

theorem rest_o0 (l : List UInt8) (n a : Nat) (hn : n ≤ l.length) (h : a < n) : o0 ((l.take n).drop a) = (bat ⟨l.toArray⟩ a).toNat := by
  unfold o0 bat
  congr 1
  simp only [List.getD_eq_getElem?_getD]
  rw [List.getElem?_drop, List.getElem?_take, if_pos (by omega), Nat.add_zero]
theorem rest_o1 (l : List UInt8) (n a : Nat) (hn : n ≤ l.length) (h : a + 1 < n) : o1 ((l.take n).drop a) = (bat ⟨l.toArray⟩ (a + 1)).toNat := by
  unfold o1 bat
  congr 1
  simp only [List.getD_eq_getElem?_getD]
  rw [List.getElem?_drop, List.getElem?_take, if_pos (by omega)]
theorem rest_num (l : List UInt8) (n a : Nat) (hn : n ≤ l.length) (h : a + 4 ≤ n) : num ((l.take n).drop a) 2 2 = num l (a + 2) 2 := by
  unfold num
  congr 1
  rw [List.drop_drop, List.drop_take, List.take_take]
  congr 1
  omega

set_option maxHeartbeats 4000000 in
theorem refRead_any (l f t : List UInt8) (hL : IpL f t) (w : World) (hs : l.length ≤ 1000000) :
    Calls Try.prog 12 #[.string ⟨l.toArray⟩, arrV f, arrV t] w fun e w' => e = .returned (.tuple #[.agg (srV f t l), .int .i64 (srE f t l)]) ∧ Below w.heap.size w w' := by
  obtain ⟨W, hW⟩ : ∃ W, W = (((w.alloc (.cells (f.map ubv).toArray 23)).alloc (.cells (t.map ubv).toArray 23)).alloc (.cells sg0 29)).alloc (.cells sg0 29) := ⟨_, rfl⟩
  have hS := srt_new w f t
  rw [← hW] at hS
  have HS := Lib.hid hS
  have HL := Lib.hid hL
  have hst0 : (St 29 (.pointer (some ⟨w.heap.size + 1 + 1 + 1, 0, none⟩)) (.agg sg0)).run Try.prog W = .ok () W := by
    have := st_new (((w.alloc (.cells (f.map ubv).toArray 23)).alloc (.cells (t.map ubv).toArray 23)).alloc (.cells sg0 29)) 0 0 0 0 0 0 0 []
    rw [size_alloc, size_alloc, size_alloc] at this
    rw [hW]
    exact this
  rw [hW] at hst0
  rw [sg0_lit] at hW hst0
  have dn := hS.none.ld_sg
  clear hS hL
  by_cases h1 : (l.length : Int) < 20
  · go_enter Try.func12, Try.ntmps12
    go_upto_region 2 with fail
    rw [← hW]
    clear hW hst0
    have hE : srE f t l = 7 := by rw [srE, if_pos (by omega)]
    have hV : srV f t l = sg0 := by rw [srV, hE]; rfl
    go_wp2_with (refine wpList_store_blk rfl 29 _ _ rfl (w.heap.size + 1 + 1) sg0 rfl rfl sg0 29 HS.out.res rfl size_sg rfl ?_)
    exact bodyPost_ret (results_blk Try.results12 _ _ (w.heap.size + 1 + 1) _ _ _ rfl (HS.out.res.setAll rfl) Try.underlying29 rfl size_sg) rfl ⟨by first | rfl | (rw [hV, hE]; rfl), Below.setCells HS.out.bel (by omega) _ _⟩
  have h20 : 20 ≤ (l.length : Int) := by omega
  have H1 := Lib.hid (show ¬ l.length < 20 by omega)
  have l12 : (12 : Int) < (l.length : Int) := by omega
  have l13 : (13 : Int) < (l.length : Int) := by omega
  have g12 := bat_get ⟨l.toArray⟩ 12 (by show 12 < l.length; clear h1; omega)
  have hu12 := (bat ⟨l.toArray⟩ 12).toNat_lt
  obtain ⟨q, hq⟩ : ∃ q, q = s12 l / 16 := ⟨_, rfl⟩
  obtain ⟨n, hn⟩ : ∃ n, n = 4 * q := ⟨_, rfl⟩
  have hn60 : n ≤ 60 := by unfold s12 at hq; omega
  have hw0 : IntKind.i64.wrap ((bat ⟨l.toArray⟩ 12).toNat : Int) = ((bat ⟨l.toArray⟩ 12).toNat : Int) := IntWalk.i64_in _ (by omega)
  have hw1 : IntKind.i64.wrap (((bat ⟨l.toArray⟩ 12).toNat : Int) / 16) = (q : Int) := by rw [IntWalk.i64_in _ (by omega), hq]; unfold s12; omega
  have hw4 : IntKind.i64.wrap (4 * (q : Int)) = (n : Int) := by rw [IntWalk.i64_in _ (by omega)]; omega
  have HZ := Lib.hid (show shz l = n by rw [shz, hn, hq])
  clear hq h1 hn
  generalize bat ⟨l.toArray⟩ 12 = u12 at g12 hu12 hw0 hw1
  by_cases h3 : (n : Int) < 20
  · go_enter Try.func12, Try.ntmps12
    go_upto_region 2 with fail
    rw [← hW]
    clear hW hst0
    have hE : srE f t l = 8 := by rw [srE, if_neg H1.out, if_pos (by rw [HZ.out]; omega)]
    have hV : srV f t l = sg0 := by rw [srV, hE]; rfl
    go_wp2_with (refine wpList_store_blk rfl 29 _ _ rfl (w.heap.size + 1 + 1) sg0 rfl rfl sg0 29 HS.out.res rfl size_sg rfl ?_)
    exact bodyPost_ret (results_blk Try.results12 _ _ (w.heap.size + 1 + 1) _ _ _ rfl (HS.out.res.setAll rfl) Try.underlying29 rfl size_sg) rfl ⟨by first | rfl | (rw [hV, hE]; rfl), Below.setCells HS.out.bel (by omega) _ _⟩
  have h3' : 20 ≤ (n : Int) := by omega
  have H2 := Lib.hid (show ¬ shz l < 20 by rw [HZ.out]; omega)
  clear h3
  by_cases h4 : (l.length : Int) < (n : Int)
  · go_enter Try.func12, Try.ntmps12
    go_upto_region 2 with fail
    rw [← hW]
    clear hW hst0
    have hE : srE f t l = 7 := by rw [srE, if_neg H1.out, if_neg H2.out, if_pos (by rw [HZ.out]; omega)]
    have hV : srV f t l = sg0 := by rw [srV, hE]; rfl
    go_wp2_with (refine wpList_store_blk rfl 29 _ _ rfl (w.heap.size + 1 + 1) sg0 rfl rfl sg0 29 HS.out.res rfl size_sg rfl ?_)
    exact bodyPost_ret (results_blk Try.results12 _ _ (w.heap.size + 1 + 1) _ _ _ rfl (HS.out.res.setAll rfl) Try.underlying29 rfl size_sg) rfl ⟨by first | rfl | (rw [hV, hE]; rfl), Below.setCells HS.out.bel (by omega) _ _⟩
  have h4' : (n : Int) ≤ (l.length : Int) := by omega
  have H3 := Lib.hid (show ¬ l.length < shz l by rw [HZ.out]; omega)
  clear h4
  by_cases h5 : 566 < (l.length : Int)
  · go_enter Try.func12, Try.ntmps12
    go_upto_region 2 with fail
    rw [← hW]
    clear hW hst0
    have hE : srE f t l = 3 := by rw [srE, if_neg H1.out, if_neg H2.out, if_neg H3.out, if_pos (by omega)]
    have hV : srV f t l = sg0 := by rw [srV, hE]; rfl
    go_wp2_with (refine wpList_store_blk rfl 29 _ _ rfl (w.heap.size + 1 + 1) sg0 rfl rfl sg0 29 HS.out.res rfl size_sg rfl ?_)
    exact bodyPost_ret (results_blk Try.results12 _ _ (w.heap.size + 1 + 1) _ _ _ rfl (HS.out.res.setAll rfl) Try.underlying29 rfl size_sg) rfl ⟨by first | rfl | (rw [hV, hE]; rfl), Below.setCells HS.out.bel (by omega) _ _⟩
  have h5' : (l.length : Int) ≤ 566 := by omega
  have H4 := Lib.hid (show ¬ 566 < l.length by omega)
  clear h5
  have hsum := fun w => refSgSum_any l f t HL.out (by omega) w
  obtain ⟨M, hM⟩ : ∃ M, M = sgS f t l := ⟨_, rfl⟩
  rw [← hM] at hsum
  have HMS := Lib.hid hM
  have HSUM := Lib.hid hsum
  have df := HS.out.f.ld_ip HL.out.f
  have dt := HS.out.t.ld_ip HL.out.t
  clear hM hsum
  go_enter Try.func12, Try.ntmps12
  go_upto_region 2 with fail
  rw [← hW]
  clear hW hst0
  go_wp2_with fail
  refine (HSUM.out _).mono ?_
  rintro e w1 ⟨rfl, hb1⟩
  have HS1 := Lib.hid (HS.out.step hb1)
  clear hb1 dn df dt
  have dn := HS1.out.none.ld_sg
  by_cases h6 : ¬ M = 0
  · have h6' : (M != 0) = true := by simpa using h6
    have hE : srE f t l = 9 := by rw [srE, if_neg H1.out, if_neg H2.out, if_neg H3.out, if_neg H4.out, if_pos (by rw [← HMS.out]; exact h6)]
    have hV : srV f t l = sg0 := by rw [srV, hE]; rfl
    go_wp2_with (refine wpList_store_blk rfl 29 _ _ rfl (w.heap.size + 1 + 1) sg0 rfl rfl sg0 29 HS1.out.res rfl size_sg rfl ?_)
    exact bodyPost_ret (results_blk Try.results12 _ _ (w.heap.size + 1 + 1) _ _ _ rfl (HS1.out.res.setAll rfl) Try.underlying29 rfl size_sg) rfl ⟨by first | rfl | (rw [hV, hE]; rfl), Below.setCells HS1.out.bel (by omega) _ _⟩
  have h6' : M = 0 := by simpa using h6
  have H5 := Lib.hid (show ¬ ¬ sgS f t l = 0 by rw [← HMS.out]; exact h6)
  rw [h6']
  clear h6 h6' HMS HSUM
  obtain ⟨r, hr⟩ : ∃ r, r = opts (sgOp l).length (sgOp l) 0 := ⟨_, rfl⟩
  have HR := Lib.hid (show sgMss l = r from hr.symm)
  have HR0 := Lib.hid hr
  have hop : sgOp l = (l.take n).drop 20 := by rw [sgOp, HZ.out]
  have HOP := Lib.hid hop
  clear hr hop
  obtain ⟨wo, rfl⟩ : ∃ wo : World, wo = w1 := ⟨_, rfl⟩
  go_wp2
  go_loopw [10, 11] (fun ms at' wr => ∃ (k m a : Nat), at' = .int .i64 a ∧ ms = .int .i64 m ∧ m ≤ 65535 ∧ 20 ≤ a ∧ a ≤ n ∧ ((l.take n).drop a).length ≤ k ∧ opts k ((l.take n).drop a) m = r ∧ wr = wo) (fun _ at' _ => n - (intOf at').toNat)
  case atStart => exact ⟨(sgOp l).length, 0, 20, rfl, rfl, by omega, by omega, by omega, by rw [HOP.out]; exact Nat.le_refl _, by rw [← HOP.out]; exact HR0.out.symm, rfl⟩
  case round =>
    obtain ⟨k, m, a, rfl, rfl, hm, ha20, han, hk, ho, rfl⟩ := hrel
    have hlen : ((l.take n).drop a).length = n - a := by rw [List.length_drop, List.length_take]; omega
    by_cases hend : a < n ∧ (bat ⟨l.toArray⟩ a).toNat ≠ 0
    · obtain ⟨hlt, hu0⟩ := hend
      have hlt' : (a : Int) < (n : Int) := by omega
      obtain ⟨k, rfl⟩ : ∃ k', k = k' + 1 := ⟨k - 1, by omega⟩
      have HO := Lib.hid ho
      have g0 := bat_get ⟨l.toArray⟩ a (by show a < l.length; omega)
      have hal : (a : Int) < (l.length : Int) := by omega
      have HX := Lib.hid (rest_o0 l n a (by omega) hlt)
      generalize bat ⟨l.toArray⟩ a = u0 at g0 HX hu0
      have d0 : (((u0.toNat : Nat) : Int) != 0) = true := by simpa using hu0
      have HN0 : RowKit.Hid (¬ (((l.take n).drop a).length = 0 ∨ o0 ((l.take n).drop a) = 0)) := by
        show ¬ (((l.take n).drop a).length = 0 ∨ o0 ((l.take n).drop a) = 0)
        rw [HX.out, hlen]
        omega
      have HLEN := Lib.hid hlen
      have HK := Lib.hid hk
      have ha1 : IntKind.i64.wrap ((a : Int) + 1) = (a : Int) + 1 := IntWalk.i64_in _ (by omega)
      have ha1n : (0 : Int) ≤ (a : Int) + 1 := by omega
      have ha1t : ((a : Int) + 1).toNat = a + 1 := by omega
      clear ho hlen hk hu0
      by_cases c1 : u0.toNat = 1
      · have d1 : ((u0.toNat : Nat) : Int) = 1 := by omega
        have ho := HO.out
        rw [opts, if_neg HN0.out, if_pos (HX.out.trans c1), List.drop_drop] at ho
        have HO2 := Lib.hid ho
        clear ho c1
        go_wp2
        go_roundw
        case rel => exact ⟨k, m, a + 1, by go_num, rfl, hm, by omega, by omega, by have := HK.out; have := HLEN.out; rw [List.length_drop, List.length_take]; omega, HO2.out, by first | rfl | trivial⟩
        case measure => simp [intOf]; omega
      have d1 : (((u0.toNat : Nat) : Int) == 1) = false := by
        rw [beq_eq_false_iff_ne]; omega
      have HN1 : RowKit.Hid (¬ o0 ((l.take n).drop a) = 1) := by
        show ¬ o0 ((l.take n).drop a) = 1
        rw [HX.out]
        exact c1
      clear c1
      by_cases c2 : n ≤ a + 1
      · have c2' : (n : Int) ≤ (a : Int) + 1 := by omega
        have hR : r = none := by rw [← HO.out, opts, if_neg HN0.out, if_neg HN1.out, if_pos (Or.inl (by rw [HLEN.out]; omega))]
        have hE : srE f t l = 8 := by rw [srE, if_neg H1.out, if_neg H2.out, if_neg H3.out, if_neg H4.out, if_neg H5.out, if_pos (by rw [HR.out, hR])]
        have hV : srV f t l = sg0 := by rw [srV, hE]; rfl
        go_wp2_with (refine wpList_store_blk rfl 29 _ _ rfl (w.heap.size + 1 + 1) sg0 rfl rfl sg0 29 HS1.out.res rfl size_sg rfl ?_)
        exact bodyPost_ret (results_blk Try.results12 _ _ (w.heap.size + 1 + 1) _ _ _ rfl (HS1.out.res.setAll rfl) Try.underlying29 rfl size_sg) rfl ⟨by first | rfl | (rw [hV, hE]; rfl), Below.setCells HS1.out.bel (by omega) _ _⟩
      have c2' : (a : Int) + 1 < (n : Int) := by omega
      have g1 := bat_get ⟨l.toArray⟩ (a + 1) (by show a + 1 < l.length; clear c2; omega)
      have ha1l : (a : Int) + 1 < (l.length : Int) := by omega
      have HY := Lib.hid (rest_o1 l n a (by omega) (by omega))
      generalize bat ⟨l.toArray⟩ (a + 1) = u1 at g1 HY
      have hul := u1.toNat_lt
      by_cases c3 : u1.toNat < 2
      · have c3' : ((u1.toNat : Nat) : Int) < 2 := by omega
        have hR : r = none := by rw [← HO.out, opts, if_neg HN0.out, if_neg HN1.out, if_pos (Or.inr (Or.inl (by rw [HY.out]; exact c3)))]
        have hE : srE f t l = 8 := by rw [srE, if_neg H1.out, if_neg H2.out, if_neg H3.out, if_neg H4.out, if_neg H5.out, if_pos (by rw [HR.out, hR])]
        have hV : srV f t l = sg0 := by rw [srV, hE]; rfl
        go_wp2_with (refine wpList_store_blk rfl 29 _ _ rfl (w.heap.size + 1 + 1) sg0 rfl rfl sg0 29 HS1.out.res rfl size_sg rfl ?_)
        exact bodyPost_ret (results_blk Try.results12 _ _ (w.heap.size + 1 + 1) _ _ _ rfl (HS1.out.res.setAll rfl) Try.underlying29 rfl size_sg) rfl ⟨by first | rfl | (rw [hV, hE]; rfl), Below.setCells HS1.out.bel (by omega) _ _⟩
      have c3' : 2 ≤ ((u1.toNat : Nat) : Int) := by omega
      have hw5 : IntKind.i64.wrap ((u1.toNat : Nat) : Int) = ((u1.toNat : Nat) : Int) := IntWalk.i64_in _ (by omega)
      obtain ⟨b, hbd⟩ : ∃ b, b = a + u1.toNat := ⟨_, rfl⟩
      have hw6 : IntKind.i64.wrap ((a : Int) + ((u1.toNat : Nat) : Int)) = (a : Int) + ((u1.toNat : Nat) : Int) := IntWalk.i64_in _ (by omega)
      by_cases c4 : n < b
      · have c4' : (n : Int) < (a : Int) + ((u1.toNat : Nat) : Int) := by omega
        have hR : r = none := by rw [← HO.out, opts, if_neg HN0.out, if_neg HN1.out, if_pos (Or.inr (Or.inr (by rw [HY.out, HLEN.out]; omega)))]
        have hE : srE f t l = 8 := by rw [srE, if_neg H1.out, if_neg H2.out, if_neg H3.out, if_neg H4.out, if_neg H5.out, if_pos (by rw [HR.out, hR])]
        have hV : srV f t l = sg0 := by rw [srV, hE]; rfl
        go_wp2_with (refine wpList_store_blk rfl 29 _ _ rfl (w.heap.size + 1 + 1) sg0 rfl rfl sg0 29 HS1.out.res rfl size_sg rfl ?_)
        exact bodyPost_ret (results_blk Try.results12 _ _ (w.heap.size + 1 + 1) _ _ _ rfl (HS1.out.res.setAll rfl) Try.underlying29 rfl size_sg) rfl ⟨by first | rfl | (rw [hV, hE]; rfl), Below.setCells HS1.out.bel (by omega) _ _⟩
      have c4' : (a : Int) + ((u1.toNat : Nat) : Int) ≤ (n : Int) := by omega
      have HN2 : RowKit.Hid (¬ (((l.take n).drop a).length < 2 ∨ o1 ((l.take n).drop a) < 2 ∨ ((l.take n).drop a).length < o1 ((l.take n).drop a))) := by
        show ¬ (((l.take n).drop a).length < 2 ∨ o1 ((l.take n).drop a) < 2 ∨ ((l.take n).drop a).length < o1 ((l.take n).drop a))
        rw [HY.out, HLEN.out]
        omega
      clear c2 c3 c4
      by_cases c5 : u0.toNat = 2
      · have d5 : ((u0.toNat : Nat) : Int) = 2 := by omega
        have HC5 := Lib.hid c5
        clear c5 d0 d1
        by_cases c6 : u1.toNat = 4
        · have d6 : ((u1.toNat : Nat) : Int) = 4 := by omega
          have ho := HO.out
          rw [opts, if_neg HN0.out, if_neg HN1.out, if_neg HN2.out, if_pos (HX.out.trans HC5.out), if_pos (HY.out.trans c6), List.drop_drop, rest_num l n a (by omega) (by omega)] at ho
          have hB := fun w => number_any l (a + 2) 2 hs (by omega) (by omega) w
          have hnl := num_two_lt l (a + 2)
          generalize num l (a + 2) 2 = x at ho hB hnl
          have hwq : IntKind.i64.wrap (x : Int) = (x : Int) := IntWalk.i64_in _ (by omega)
          have hb4 : b = a + 4 := by omega
          have ha2 : IntKind.i64.wrap ((a : Int) + 2) = (a : Int) + 2 := IntWalk.i64_in _ (by omega)
          rw [show ((a + 2 : Nat) : Int) = (a : Int) + 2 by omega] at hB
          have hw6' : IntKind.i64.wrap ((a : Int) + 4) = (a : Int) + 4 := IntWalk.i64_in _ (by omega)
          have hw5' : IntKind.i64.wrap 4 = 4 := by decide
          have HO2 := Lib.hid ho
          have HBG := Lib.hid hB
          clear ho c6 hB
          go_wp2_with fail
          refine (HBG.out _).mono ?_
          rintro e w3 ⟨rfl, rfl⟩
          go_wp2
          go_roundw
          case rel => exact ⟨k, x, b, by (try subst hb4); go_num, rfl, hnl, by omega, by omega, by have := HK.out; have := HLEN.out; rw [List.length_drop, List.length_take]; omega, by rw [hb4]; exact HO2.out, by first | rfl | trivial⟩
          case measure => simp [intOf]; omega
        · have d6 : (((u1.toNat : Nat) : Int) != 4) = true := by
            rw [bne_iff_ne]; omega
          have hR : r = none := by rw [← HO.out, opts, if_neg HN0.out, if_neg HN1.out, if_neg HN2.out, if_pos (HX.out.trans HC5.out), if_neg (by rw [HY.out]; exact c6)]
          have hE : srE f t l = 8 := by rw [srE, if_neg H1.out, if_neg H2.out, if_neg H3.out, if_neg H4.out, if_neg H5.out, if_pos (by rw [HR.out, hR])]
          have hV : srV f t l = sg0 := by rw [srV, hE]; rfl
          go_wp2_with (refine wpList_store_blk rfl 29 _ _ rfl (w.heap.size + 1 + 1) sg0 rfl rfl sg0 29 HS1.out.res rfl size_sg rfl ?_)
          exact bodyPost_ret (results_blk Try.results12 _ _ (w.heap.size + 1 + 1) _ _ _ rfl (HS1.out.res.setAll rfl) Try.underlying29 rfl size_sg) rfl ⟨by first | rfl | (rw [hV, hE]; rfl), Below.setCells HS1.out.bel (by omega) _ _⟩
      · have d5 : (((u0.toNat : Nat) : Int) == 2) = false := by
          rw [beq_eq_false_iff_ne]; omega
        have ho := HO.out
        rw [opts, if_neg HN0.out, if_neg HN1.out, if_neg HN2.out, if_neg (by rw [HX.out]; exact c5), HY.out, List.drop_drop, ← hbd] at ho
        have HO2 := Lib.hid ho
        clear ho c5
        go_wp2
        go_roundw
        case rel => exact ⟨k, m, b, by (try subst hbd); go_num, rfl, hm, by omega, by omega, by have := HK.out; have := HLEN.out; rw [List.length_drop, List.length_take]; omega, HO2.out, by first | rfl | trivial⟩
        case measure => simp [intOf]; omega
    · have hR : r = some m := by
        rw [← ho]
        cases k with
        | zero => rfl
        | succ k =>
          rw [opts, if_pos]
          by_cases hlt : a < n
          · right
            rw [rest_o0 l n a (by omega) hlt]
            exact Classical.byContradiction fun h => hend ⟨hlt, h⟩
          · left
            rw [hlen]
            omega
      have hE : srE f t l = 0 := by rw [srE, if_neg H1.out, if_neg H2.out, if_neg H3.out, if_neg H4.out, if_neg H5.out, if_neg (by rw [HR.out, hR]; simp)]
      have HE := Lib.hid hE
      have HRR := Lib.hid hR
      have HOO := Lib.hid ho
      have HEND := Lib.hid hend
      clear hE hR ho hend hlen hk
      have HT1 := Lib.hid (fun w' => number_any l 0 2 hs (by omega) (by omega) w')
      have HT2 := Lib.hid (fun w' => number_any l 2 2 hs (by omega) (by omega) w')
      have HT3 := Lib.hid (fun w' => number_any l 4 4 hs (by omega) (by omega) w')
      have HT4 := Lib.hid (fun w' => number_any l 8 4 hs (by omega) (by omega) w')
      have HT5 := Lib.hid (fun w' => number_any l 14 2 hs (by omega) (by omega) w')
      have b1 := num_two_lt l 0
      have b2 := num_two_lt l 2
      have b3 := num_four_lt l 4
      have b4 := num_four_lt l 8
      have b5 := num_two_lt l 14
      have hVV : srV f t l = sgC (num l 0 2 : Nat) (num l 2 2 : Nat) (num l 4 4 : Nat) (num l 8 4 : Nat) (sgFl l : Nat) (num l 14 2 : Nat) (sgMs l : Nat) (l.drop (shz l)) := by rw [srV, if_pos HE.out]
      have hms : sgMs l = if sgFl l / 2 % 2 = 1 then m else 0 := by rw [sgMs, HR.out, HRR.out]; rfl
      rw [hms] at hVV
      generalize num l 0 2 = n1 at HT1 b1 hVV
      generalize num l 2 2 = n2 at HT2 b2 hVV
      generalize num l 4 4 = n3 at HT3 b3 hVV
      generalize num l 8 4 = n4 at HT4 b4 hVV
      generalize num l 14 2 = n5 at HT5 b5 hVV
      have g13 := bat_get ⟨l.toArray⟩ 13 (by show 13 < l.length; omega)
      have hu13 := (bat ⟨l.toArray⟩ 13).toNat_lt
      have kw0 : IntKind.i64.wrap (((bat ⟨l.toArray⟩ 13).toNat : Nat) : Int) = (((bat ⟨l.toArray⟩ 13).toNat : Nat) : Int) := IntWalk.i64_in _ (by omega)
      have hand : (((bat ⟨l.toArray⟩ 13).toNat : Nat) : Int).tmod 32 = ((sgFl l : Nat) : Int) := by rw [Int.tmod_eq_emod_of_nonneg (by omega), sgFl]; omega
      have hfl : sgFl l ≤ 31 := by unfold sgFl; omega
      generalize bat ⟨l.toArray⟩ 13 = u13 at g13 hand kw0 hu13
      generalize sgFl l = fl at hand hfl hVV
      obtain ⟨d, hd⟩ : ∃ d, d = l.drop (shz l) := ⟨_, rfl⟩
      have hexd : (⟨l.toArray⟩ : ByteArray).extract n l.length = ⟨d.toArray⟩ := by rw [ext_tail, hd, HZ.out]
      rw [← hd] at hVV
      clear hd hms
      have kw1 : IntKind.i64.wrap (n1 : Int) = (n1 : Int) := IntWalk.i64_in _ (by omega)
      have kw2 : IntKind.i64.wrap (n2 : Int) = (n2 : Int) := IntWalk.i64_in _ (by omega)
      have kw5 : IntKind.i64.wrap (n5 : Int) = (n5 : Int) := IntWalk.i64_in _ (by omega)
      have HV := Lib.hid hVV
      have HSZ : RowKit.Hid (w.heap.size + 1 + 1 + 1 < wr.heap.size) := Lib.hid HS1.out.none.lt
      clear hVV
      by_cases hlt : a < n
      · have hlt' : (a : Int) < (n : Int) := by omega
        have g0 := bat_get ⟨l.toArray⟩ a (by show a < l.length; omega)
        have hal : (a : Int) < (l.length : Int) := by omega
        have d0 : ((((bat ⟨l.toArray⟩ a).toNat : Nat) : Int) != 0) = false := by
          have : (bat ⟨l.toArray⟩ a).toNat = 0 := Classical.byContradiction fun h => HEND.out ⟨hlt, h⟩
          rw [this]; rfl
        go_upto_region 25 with fail
        clear d0 g0
        go_cut [12] from 101 to 121 (fun x wx => ∃ g, x = .pointer (some ⟨g, 0, none⟩) ∧ Blk wx g 29 (sgC n1 n2 n3 n4 fl n5 0 d) ∧ SrT w f t wx ∧ w.heap.size + 1 + 1 + 1 < g)
        case first =>
          refine wp_region_noPanic ?_
          refine wp_region_held_drew (S := SrT w f t) (by kernel_rfl) (by first | exact HS1.out.drew) (fun hHeld => ?_)
          refine wpAnyH_take (i := 0) (oi := _) (v := ?vr1n0_1) rfl (by kernel_rfl) (by kernel_rfl) (by kernel_rfl) (fun _ _ _ h => h) (Or.inl ⟨by kernel_rfl, ?hr1n0_1⟩) hHeld ?_
          case hr1n0_1 => (intro w hSw; (try dsimp only at hSw); go_simp; try (with_reducible rfl))
          try simp only [List.getElem_toArray, List.getElem_cons_zero, List.getElem_cons_succ, Act.put, List.setIfInBounds_toArray, List.set_cons_zero, List.set_cons_succ]
          refine wpAnyH_take (i := 3) (oi := _) (v := ?vr1n3_2) rfl (by kernel_rfl) (by kernel_rfl) (by kernel_rfl) (fun _ _ _ h => h) (Or.inl ⟨by kernel_rfl, ?hr1n3_2⟩) hHeld ?_
          case hr1n3_2 => (intro w hSw; (try dsimp only at hSw); go_simp; try (with_reducible rfl))
          try simp only [List.getElem_toArray, List.getElem_cons_zero, List.getElem_cons_succ, Act.put, List.setIfInBounds_toArray, List.set_cons_zero, List.set_cons_succ]
          refine wpAnyH_take (i := 6) (oi := _) (v := ?vr1n6_3) rfl (by kernel_rfl) (by kernel_rfl) (by kernel_rfl) (fun _ _ _ h => h) (Or.inl ⟨by kernel_rfl, ?hr1n6_3⟩) hHeld ?_
          case hr1n6_3 => (intro w hSw; (try dsimp only at hSw); go_simp; try (with_reducible rfl))
          try simp only [List.getElem_toArray, List.getElem_cons_zero, List.getElem_cons_succ, Act.put, List.setIfInBounds_toArray, List.set_cons_zero, List.set_cons_succ]
          refine wpAnyH_take (i := 8) (oi := _) (v := ?vr1n8_4) rfl (by kernel_rfl) (by kernel_rfl) (by kernel_rfl) (fun _ _ _ h => h) (Or.inl ⟨by kernel_rfl, ?hr1n8_4⟩) hHeld ?_
          case hr1n8_4 => (intro w hSw; (try dsimp only at hSw); go_simp; try (with_reducible rfl))
          try simp only [List.getElem_toArray, List.getElem_cons_zero, List.getElem_cons_succ, Act.put, List.setIfInBounds_toArray, List.set_cons_zero, List.set_cons_succ]
          refine wpAnyH_take (i := 10) (oi := _) (v := ?vr1n10_5) rfl (by kernel_rfl) (by kernel_rfl) (by kernel_rfl) (fun _ _ _ h => h) (Or.inl ⟨by kernel_rfl, ?hr1n10_5⟩) hHeld ?_
          case hr1n10_5 => (intro w hSw; (try dsimp only at hSw); go_simp; try (with_reducible rfl))
          try simp only [List.getElem_toArray, List.getElem_cons_zero, List.getElem_cons_succ, Act.put, List.setIfInBounds_toArray, List.set_cons_zero, List.set_cons_succ]
          refine wpAnyH_take (i := 11) (oi := _) (v := ?vr1n11_6) rfl (by kernel_rfl) (by kernel_rfl) (by kernel_rfl) (fun _ _ _ h => h) (Or.inl ⟨by kernel_rfl, ?hr1n11_6⟩) hHeld ?_
          case hr1n11_6 => (intro w hSw; (try dsimp only at hSw); go_simp; try (with_reducible rfl))
          try simp only [List.getElem_toArray, List.getElem_cons_zero, List.getElem_cons_succ, Act.put, List.setIfInBounds_toArray, List.set_cons_zero, List.set_cons_succ]
          refine wpAnyH_take (i := 12) (oi := _) (v := ?vr1n12_7) rfl (by kernel_rfl) (by kernel_rfl) (by kernel_rfl) (fun _ _ _ h => h) (Or.inl ⟨by kernel_rfl, ?hr1n12_7⟩) hHeld ?_
          case hr1n12_7 => (intro w hSw; (try dsimp only at hSw); go_simp; try (with_reducible rfl))
          try simp only [List.getElem_toArray, List.getElem_cons_zero, List.getElem_cons_succ, Act.put, List.setIfInBounds_toArray, List.set_cons_zero, List.set_cons_succ]
          refine wpAnyH_take (i := 13) (oi := _) (v := ?vr1n13_8) rfl (by kernel_rfl) (by kernel_rfl) (by kernel_rfl) (fun _ _ _ h => h) (Or.inl ⟨by kernel_rfl, ?hr1n13_8⟩) hHeld ?_
          case hr1n13_8 => (intro w hSw; (try dsimp only at hSw); go_simp; try (with_reducible rfl))
          try simp only [List.getElem_toArray, List.getElem_cons_zero, List.getElem_cons_succ, Act.put, List.setIfInBounds_toArray, List.set_cons_zero, List.set_cons_succ]
          refine wpAnyH_take (i := 14) (oi := _) (v := ?vr1n14_9) rfl (by kernel_rfl) (by kernel_rfl) (by kernel_rfl) (fun _ _ _ h => h) (Or.inl ⟨by kernel_rfl, ?hr1n14_9⟩) hHeld ?_
          case hr1n14_9 => (intro w hSw; (try dsimp only at hSw); go_simp; try (with_reducible rfl))
          try simp only [List.getElem_toArray, List.getElem_cons_zero, List.getElem_cons_succ, Act.put, List.setIfInBounds_toArray, List.set_cons_zero, List.set_cons_succ]
          refine wpAnyH_take (i := 17) (oi := _) (v := ?vr1n17_10) rfl (by kernel_rfl) (by kernel_rfl) (by kernel_rfl) (fun _ _ _ h => h) (Or.inl ⟨by kernel_rfl, ?hr1n17_10⟩) hHeld ?_
          case hr1n17_10 => (intro w hSw; (try dsimp only at hSw); go_simp; try (with_reducible rfl))
          try simp only [List.getElem_toArray, List.getElem_cons_zero, List.getElem_cons_succ, Act.put, List.setIfInBounds_toArray, List.set_cons_zero, List.set_cons_succ]
          refine wpAnyH_take (i := 18) (oi := _) (v := ?vr1n18_11) rfl (by kernel_rfl) (by kernel_rfl) (by kernel_rfl) (fun _ _ _ h => h) (Or.inl ⟨by kernel_rfl, ?hr1n18_11⟩) hHeld ?_
          case hr1n18_11 => (intro w hSw; (try dsimp only at hSw); go_simp; try (with_reducible rfl))
          try simp only [List.getElem_toArray, List.getElem_cons_zero, List.getElem_cons_succ, Act.put, List.setIfInBounds_toArray, List.set_cons_zero, List.set_cons_succ]
          refine wpAnyH_take (i := 19) (oi := _) (v := ?vr1n19_12) rfl (by kernel_rfl) (by kernel_rfl) (by kernel_rfl) (fun _ _ _ h => h) (Or.inl ⟨by kernel_rfl, ?hr1n19_12⟩) hHeld ?_
          case hr1n19_12 => (intro w hSw; (try dsimp only at hSw); go_simp; try (with_reducible rfl))
          try simp only [List.getElem_toArray, List.getElem_cons_zero, List.getElem_cons_succ, Act.put, List.setIfInBounds_toArray, List.set_cons_zero, List.set_cons_succ]
          refine wpAnyH_ready (rs := [1, 21]) (by kernel_rfl) (by simp) ?_
          refine AllReadyH.cons (o := _) rfl (fun K hK => ?_) ?_
          · skip
            go_simp
            (go_at_call 26; refine (HT1.out _).mono ?_; rintro e v2 ⟨rfl, rfl⟩)
            refine hK.out _ _ ?_ (fun hHeld1 => ?_)
            · (first | exact hHeld)
            clear hHeld hK K
            try simp only [List.getElem_toArray, List.getElem_cons_zero, List.getElem_cons_succ, Act.put, List.setIfInBounds_toArray, List.set_cons_zero, List.set_cons_succ]
            refine wpAnyH_take (i := 2) (oi := _) (v := ?vr1n2_13) rfl (by kernel_rfl) (by kernel_rfl) (by kernel_rfl) (fun _ _ _ h => h) (Or.inl ⟨by kernel_rfl, ?hr1n2_13⟩) hHeld1 ?_
            case hr1n2_13 => (intro w hSw; (try dsimp only at hSw); go_simp; try (with_reducible rfl))
            try simp only [List.getElem_toArray, List.getElem_cons_zero, List.getElem_cons_succ, Act.put, List.setIfInBounds_toArray, List.set_cons_zero, List.set_cons_succ]
            refine wpAnyH_ready (rs := [4, 21]) (by kernel_rfl) (by simp) ?_
            refine AllReadyH.cons (o := _) rfl (fun K hK => ?_) ?_
            · skip
              go_simp
              (go_at_call 26; refine (HT2.out _).mono ?_; rintro e v3 ⟨rfl, rfl⟩)
              refine hK.out _ _ ?_ (fun hHeld2 => ?_)
              · (first | exact hHeld1)
              clear hHeld1 hK K
              try simp only [List.getElem_toArray, List.getElem_cons_zero, List.getElem_cons_succ, Act.put, List.setIfInBounds_toArray, List.set_cons_zero, List.set_cons_succ]
              refine wpAnyH_take (i := 5) (oi := _) (v := ?vr1n5_14) rfl (by kernel_rfl) (by kernel_rfl) (by kernel_rfl) (fun _ _ _ h => h) (Or.inl ⟨by kernel_rfl, ?hr1n5_14⟩) hHeld2 ?_
              case hr1n5_14 => (intro w hSw; (try dsimp only at hSw); go_simp; try (with_reducible rfl))
              try simp only [List.getElem_toArray, List.getElem_cons_zero, List.getElem_cons_succ, Act.put, List.setIfInBounds_toArray, List.set_cons_zero, List.set_cons_succ]
              refine wpAnyH_ready (rs := [7, 21]) (by kernel_rfl) (by simp) ?_
              refine AllReadyH.cons (o := _) rfl (fun K hK => ?_) ?_
              · skip
                go_simp
                (go_at_call 26; refine (HT3.out _).mono ?_; rintro e v4 ⟨rfl, rfl⟩)
                refine hK.out _ _ ?_ (fun hHeld3 => ?_)
                · (first | exact hHeld2)
                clear hHeld2 hK K
                try simp only [List.getElem_toArray, List.getElem_cons_zero, List.getElem_cons_succ, Act.put, List.setIfInBounds_toArray, List.set_cons_zero, List.set_cons_succ]
                refine wpAnyH_ready (rs := [9, 21]) (by kernel_rfl) (by simp) ?_
                refine AllReadyH.cons (o := _) rfl (fun K hK => ?_) ?_
                · skip
                  go_simp
                  (go_at_call 26; refine (HT4.out _).mono ?_; rintro e v5 ⟨rfl, rfl⟩)
                  refine hK.out _ _ ?_ (fun hHeld4 => ?_)
                  · (first | exact hHeld3)
                  clear hHeld3 hK K
                  try simp only [List.getElem_toArray, List.getElem_cons_zero, List.getElem_cons_succ, Act.put, List.setIfInBounds_toArray, List.set_cons_zero, List.set_cons_succ]
                  refine wpAnyH_ready (rs := [15, 21]) (by kernel_rfl) (by simp) ?_
                  refine AllReadyH.cons (o := _) rfl (fun K hK => ?_) ?_
                  · skip
                    go_simp
                    (go_at_call 26; refine (HT5.out _).mono ?_; rintro e v6 ⟨rfl, rfl⟩)
                    refine hK.out _ _ ?_ (fun hHeld5 => ?_)
                    · (first | exact hHeld4)
                    clear hHeld4 hK K
                    try simp only [List.getElem_toArray, List.getElem_cons_zero, List.getElem_cons_succ, Act.put, List.setIfInBounds_toArray, List.set_cons_zero, List.set_cons_succ]
                    refine wpAnyH_take (i := 16) (oi := _) (v := ?vr1n16_15) rfl (by kernel_rfl) (by kernel_rfl) (by kernel_rfl) (fun _ _ _ h => h) (Or.inl ⟨by kernel_rfl, ?hr1n16_15⟩) hHeld5 ?_
                    case hr1n16_15 => (intro w hSw; (try dsimp only at hSw); go_simp; try (with_reducible rfl))
                    try simp only [List.getElem_toArray, List.getElem_cons_zero, List.getElem_cons_succ, Act.put, List.setIfInBounds_toArray, List.set_cons_zero, List.set_cons_succ]
                    refine wpAnyH_take (i := 20) (oi := _) (v := ?vr1n20_16) rfl (by kernel_rfl) (by kernel_rfl) (by kernel_rfl) (fun _ _ _ h => h) (Or.inl ⟨by kernel_rfl, ?hr1n20_16⟩) hHeld5 ?_
                    case hr1n20_16 => (intro w hSw; (try dsimp only at hSw); go_simp; try (with_reducible rfl))
                    try simp only [List.getElem_toArray, List.getElem_cons_zero, List.getElem_cons_succ, Act.put, List.setIfInBounds_toArray, List.set_cons_zero, List.set_cons_succ]
                    refine wpAnyH_ready (rs := [21]) (by kernel_rfl) (by simp) ?_
                    refine AllReadyH.cons (o := _) rfl (fun K hK => ?_) AllReadyH.nil
                    go_simp
                    refine hK.out _ _ ?_ (fun hHeld6 => ?_)
                    · (first | exact SrT.allocD hHeld5 _)
                    clear hHeld5 hK K
                    try simp only [List.getElem_toArray, List.getElem_cons_zero, List.getElem_cons_succ, Act.put, List.setIfInBounds_toArray, List.set_cons_zero, List.set_cons_succ]
                    refine wpAnyH_ready (rs := [22]) (by kernel_rfl) (by simp) ?_
                    refine AllReadyH.cons (o := _) rfl (fun K hK => ?_) AllReadyH.nil
                    (have hst := st_newD wr (n1 : Int) (n2 : Int) (n3 : Int) (n4 : Int) (fl : Int) (n5 : Int) 0 d; rw [sg0_lit] at hst)
                    go_simp
                    refine hK.out _ _ ?_ (fun hHeld7 => ?_)
                    · (first | exact SrT.allocD HS1.out.drew _)
                    clear hHeld6 hK K
                    try simp only [List.getElem_toArray, List.getElem_cons_zero, List.getElem_cons_succ, Act.put, List.setIfInBounds_toArray, List.set_cons_zero, List.set_cons_succ]
                    refine wpAnyH_done (by kernel_rfl) ?_ _
                    refine NoPanic.normal ?_
                    go_wp2_with fail
                    go_meet
                    exact ⟨wr.heap.size, rfl, (Blk.new wr 29 _ 0 0 (Or.inl (Nat.le_refl _))).drew, hHeld7, HSZ.out⟩
                  refine AllReadyH.cons (o := _) rfl (fun K hK => ?_) AllReadyH.nil
                  go_simp
                  refine hK.out _ _ ?_ (fun hHeld8 => ?_)
                  · (first | exact SrT.allocD hHeld4 _)
                  clear hHeld4 hK K
                  try simp only [List.getElem_toArray, List.getElem_cons_zero, List.getElem_cons_succ, Act.put, List.setIfInBounds_toArray, List.set_cons_zero, List.set_cons_succ]
                  refine wpAnyH_ready (rs := [15]) (by kernel_rfl) (by simp) ?_
                  refine AllReadyH.cons (o := _) rfl (fun K hK => ?_) AllReadyH.nil
                  go_simp
                  (go_at_call 26; refine (HT5.out _).mono ?_; rintro e v7 ⟨rfl, rfl⟩)
                  refine hK.out _ _ ?_ (fun hHeld9 => ?_)
                  · (first | exact hHeld8)
                  clear hHeld8 hK K
                  try simp only [List.getElem_toArray, List.getElem_cons_zero, List.getElem_cons_succ, Act.put, List.setIfInBounds_toArray, List.set_cons_zero, List.set_cons_succ]
                  refine wpAnyH_take (i := 16) (oi := _) (v := ?vr1n16_17) rfl (by kernel_rfl) (by kernel_rfl) (by kernel_rfl) (fun _ _ _ h => h) (Or.inl ⟨by kernel_rfl, ?hr1n16_17⟩) hHeld9 ?_
                  case hr1n16_17 => (intro w hSw; (try dsimp only at hSw); go_simp; try (with_reducible rfl))
                  try simp only [List.getElem_toArray, List.getElem_cons_zero, List.getElem_cons_succ, Act.put, List.setIfInBounds_toArray, List.set_cons_zero, List.set_cons_succ]
                  refine wpAnyH_take (i := 20) (oi := _) (v := ?vr1n20_18) rfl (by kernel_rfl) (by kernel_rfl) (by kernel_rfl) (fun _ _ _ h => h) (Or.inl ⟨by kernel_rfl, ?hr1n20_18⟩) hHeld9 ?_
                  case hr1n20_18 => (intro w hSw; (try dsimp only at hSw); go_simp; try (with_reducible rfl))
                  try simp only [List.getElem_toArray, List.getElem_cons_zero, List.getElem_cons_succ, Act.put, List.setIfInBounds_toArray, List.set_cons_zero, List.set_cons_succ]
                  refine wpAnyH_ready (rs := [22]) (by kernel_rfl) (by simp) ?_
                  refine AllReadyH.cons (o := _) rfl (fun K hK => ?_) AllReadyH.nil
                  (have hst := st_newD wr (n1 : Int) (n2 : Int) (n3 : Int) (n4 : Int) (fl : Int) (n5 : Int) 0 d; rw [sg0_lit] at hst)
                  go_simp
                  refine hK.out _ _ ?_ (fun hHeld10 => ?_)
                  · (first | exact SrT.allocD HS1.out.drew _)
                  clear hHeld9 hK K
                  try simp only [List.getElem_toArray, List.getElem_cons_zero, List.getElem_cons_succ, Act.put, List.setIfInBounds_toArray, List.set_cons_zero, List.set_cons_succ]
                  refine wpAnyH_done (by kernel_rfl) ?_ _
                  refine NoPanic.normal ?_
                  go_wp2_with fail
                  go_meet
                  exact ⟨wr.heap.size, rfl, (Blk.new wr 29 _ 0 0 (Or.inl (Nat.le_refl _))).drew, hHeld10, HSZ.out⟩
                refine AllReadyH.cons (o := _) rfl (fun K hK => ?_) AllReadyH.nil
                go_simp
                refine hK.out _ _ ?_ (fun hHeld11 => ?_)
                · (first | exact SrT.allocD hHeld3 _)
                clear hHeld3 hK K
                try simp only [List.getElem_toArray, List.getElem_cons_zero, List.getElem_cons_succ, Act.put, List.setIfInBounds_toArray, List.set_cons_zero, List.set_cons_succ]
                refine wpAnyH_ready (rs := [9]) (by kernel_rfl) (by simp) ?_
                refine AllReadyH.cons (o := _) rfl (fun K hK => ?_) AllReadyH.nil
                go_simp
                (go_at_call 26; refine (HT4.out _).mono ?_; rintro e v6 ⟨rfl, rfl⟩)
                refine hK.out _ _ ?_ (fun hHeld12 => ?_)
                · (first | exact hHeld11)
                clear hHeld11 hK K
                try simp only [List.getElem_toArray, List.getElem_cons_zero, List.getElem_cons_succ, Act.put, List.setIfInBounds_toArray, List.set_cons_zero, List.set_cons_succ]
                refine wpAnyH_ready (rs := [15]) (by kernel_rfl) (by simp) ?_
                refine AllReadyH.cons (o := _) rfl (fun K hK => ?_) AllReadyH.nil
                go_simp
                (go_at_call 26; refine (HT5.out _).mono ?_; rintro e v7 ⟨rfl, rfl⟩)
                refine hK.out _ _ ?_ (fun hHeld13 => ?_)
                · (first | exact hHeld12)
                clear hHeld12 hK K
                try simp only [List.getElem_toArray, List.getElem_cons_zero, List.getElem_cons_succ, Act.put, List.setIfInBounds_toArray, List.set_cons_zero, List.set_cons_succ]
                refine wpAnyH_take (i := 16) (oi := _) (v := ?vr1n16_19) rfl (by kernel_rfl) (by kernel_rfl) (by kernel_rfl) (fun _ _ _ h => h) (Or.inl ⟨by kernel_rfl, ?hr1n16_19⟩) hHeld13 ?_
                case hr1n16_19 => (intro w hSw; (try dsimp only at hSw); go_simp; try (with_reducible rfl))
                try simp only [List.getElem_toArray, List.getElem_cons_zero, List.getElem_cons_succ, Act.put, List.setIfInBounds_toArray, List.set_cons_zero, List.set_cons_succ]
                refine wpAnyH_take (i := 20) (oi := _) (v := ?vr1n20_20) rfl (by kernel_rfl) (by kernel_rfl) (by kernel_rfl) (fun _ _ _ h => h) (Or.inl ⟨by kernel_rfl, ?hr1n20_20⟩) hHeld13 ?_
                case hr1n20_20 => (intro w hSw; (try dsimp only at hSw); go_simp; try (with_reducible rfl))
                try simp only [List.getElem_toArray, List.getElem_cons_zero, List.getElem_cons_succ, Act.put, List.setIfInBounds_toArray, List.set_cons_zero, List.set_cons_succ]
                refine wpAnyH_ready (rs := [22]) (by kernel_rfl) (by simp) ?_
                refine AllReadyH.cons (o := _) rfl (fun K hK => ?_) AllReadyH.nil
                (have hst := st_newD wr (n1 : Int) (n2 : Int) (n3 : Int) (n4 : Int) (fl : Int) (n5 : Int) 0 d; rw [sg0_lit] at hst)
                go_simp
                refine hK.out _ _ ?_ (fun hHeld14 => ?_)
                · (first | exact SrT.allocD HS1.out.drew _)
                clear hHeld13 hK K
                try simp only [List.getElem_toArray, List.getElem_cons_zero, List.getElem_cons_succ, Act.put, List.setIfInBounds_toArray, List.set_cons_zero, List.set_cons_succ]
                refine wpAnyH_done (by kernel_rfl) ?_ _
                refine NoPanic.normal ?_
                go_wp2_with fail
                go_meet
                exact ⟨wr.heap.size, rfl, (Blk.new wr 29 _ 0 0 (Or.inl (Nat.le_refl _))).drew, hHeld14, HSZ.out⟩
              refine AllReadyH.cons (o := _) rfl (fun K hK => ?_) AllReadyH.nil
              go_simp
              refine hK.out _ _ ?_ (fun hHeld15 => ?_)
              · (first | exact SrT.allocD hHeld2 _)
              clear hHeld2 hK K
              try simp only [List.getElem_toArray, List.getElem_cons_zero, List.getElem_cons_succ, Act.put, List.setIfInBounds_toArray, List.set_cons_zero, List.set_cons_succ]
              refine wpAnyH_ready (rs := [7]) (by kernel_rfl) (by simp) ?_
              refine AllReadyH.cons (o := _) rfl (fun K hK => ?_) AllReadyH.nil
              go_simp
              (go_at_call 26; refine (HT3.out _).mono ?_; rintro e v5 ⟨rfl, rfl⟩)
              refine hK.out _ _ ?_ (fun hHeld16 => ?_)
              · (first | exact hHeld15)
              clear hHeld15 hK K
              try simp only [List.getElem_toArray, List.getElem_cons_zero, List.getElem_cons_succ, Act.put, List.setIfInBounds_toArray, List.set_cons_zero, List.set_cons_succ]
              refine wpAnyH_ready (rs := [9]) (by kernel_rfl) (by simp) ?_
              refine AllReadyH.cons (o := _) rfl (fun K hK => ?_) AllReadyH.nil
              go_simp
              (go_at_call 26; refine (HT4.out _).mono ?_; rintro e v6 ⟨rfl, rfl⟩)
              refine hK.out _ _ ?_ (fun hHeld17 => ?_)
              · (first | exact hHeld16)
              clear hHeld16 hK K
              try simp only [List.getElem_toArray, List.getElem_cons_zero, List.getElem_cons_succ, Act.put, List.setIfInBounds_toArray, List.set_cons_zero, List.set_cons_succ]
              refine wpAnyH_ready (rs := [15]) (by kernel_rfl) (by simp) ?_
              refine AllReadyH.cons (o := _) rfl (fun K hK => ?_) AllReadyH.nil
              go_simp
              (go_at_call 26; refine (HT5.out _).mono ?_; rintro e v7 ⟨rfl, rfl⟩)
              refine hK.out _ _ ?_ (fun hHeld18 => ?_)
              · (first | exact hHeld17)
              clear hHeld17 hK K
              try simp only [List.getElem_toArray, List.getElem_cons_zero, List.getElem_cons_succ, Act.put, List.setIfInBounds_toArray, List.set_cons_zero, List.set_cons_succ]
              refine wpAnyH_take (i := 16) (oi := _) (v := ?vr1n16_21) rfl (by kernel_rfl) (by kernel_rfl) (by kernel_rfl) (fun _ _ _ h => h) (Or.inl ⟨by kernel_rfl, ?hr1n16_21⟩) hHeld18 ?_
              case hr1n16_21 => (intro w hSw; (try dsimp only at hSw); go_simp; try (with_reducible rfl))
              try simp only [List.getElem_toArray, List.getElem_cons_zero, List.getElem_cons_succ, Act.put, List.setIfInBounds_toArray, List.set_cons_zero, List.set_cons_succ]
              refine wpAnyH_take (i := 20) (oi := _) (v := ?vr1n20_22) rfl (by kernel_rfl) (by kernel_rfl) (by kernel_rfl) (fun _ _ _ h => h) (Or.inl ⟨by kernel_rfl, ?hr1n20_22⟩) hHeld18 ?_
              case hr1n20_22 => (intro w hSw; (try dsimp only at hSw); go_simp; try (with_reducible rfl))
              try simp only [List.getElem_toArray, List.getElem_cons_zero, List.getElem_cons_succ, Act.put, List.setIfInBounds_toArray, List.set_cons_zero, List.set_cons_succ]
              refine wpAnyH_ready (rs := [22]) (by kernel_rfl) (by simp) ?_
              refine AllReadyH.cons (o := _) rfl (fun K hK => ?_) AllReadyH.nil
              (have hst := st_newD wr (n1 : Int) (n2 : Int) (n3 : Int) (n4 : Int) (fl : Int) (n5 : Int) 0 d; rw [sg0_lit] at hst)
              go_simp
              refine hK.out _ _ ?_ (fun hHeld19 => ?_)
              · (first | exact SrT.allocD HS1.out.drew _)
              clear hHeld18 hK K
              try simp only [List.getElem_toArray, List.getElem_cons_zero, List.getElem_cons_succ, Act.put, List.setIfInBounds_toArray, List.set_cons_zero, List.set_cons_succ]
              refine wpAnyH_done (by kernel_rfl) ?_ _
              refine NoPanic.normal ?_
              go_wp2_with fail
              go_meet
              exact ⟨wr.heap.size, rfl, (Blk.new wr 29 _ 0 0 (Or.inl (Nat.le_refl _))).drew, hHeld19, HSZ.out⟩
            refine AllReadyH.cons (o := _) rfl (fun K hK => ?_) AllReadyH.nil
            go_simp
            refine hK.out _ _ ?_ (fun hHeld20 => ?_)
            · (first | exact SrT.allocD hHeld1 _)
            clear hHeld1 hK K
            try simp only [List.getElem_toArray, List.getElem_cons_zero, List.getElem_cons_succ, Act.put, List.setIfInBounds_toArray, List.set_cons_zero, List.set_cons_succ]
            refine wpAnyH_ready (rs := [4]) (by kernel_rfl) (by simp) ?_
            refine AllReadyH.cons (o := _) rfl (fun K hK => ?_) AllReadyH.nil
            go_simp
            (go_at_call 26; refine (HT2.out _).mono ?_; rintro e v4 ⟨rfl, rfl⟩)
            refine hK.out _ _ ?_ (fun hHeld21 => ?_)
            · (first | exact hHeld20)
            clear hHeld20 hK K
            try simp only [List.getElem_toArray, List.getElem_cons_zero, List.getElem_cons_succ, Act.put, List.setIfInBounds_toArray, List.set_cons_zero, List.set_cons_succ]
            refine wpAnyH_take (i := 5) (oi := _) (v := ?vr1n5_23) rfl (by kernel_rfl) (by kernel_rfl) (by kernel_rfl) (fun _ _ _ h => h) (Or.inl ⟨by kernel_rfl, ?hr1n5_23⟩) hHeld21 ?_
            case hr1n5_23 => (intro w hSw; (try dsimp only at hSw); go_simp; try (with_reducible rfl))
            try simp only [List.getElem_toArray, List.getElem_cons_zero, List.getElem_cons_succ, Act.put, List.setIfInBounds_toArray, List.set_cons_zero, List.set_cons_succ]
            refine wpAnyH_ready (rs := [7]) (by kernel_rfl) (by simp) ?_
            refine AllReadyH.cons (o := _) rfl (fun K hK => ?_) AllReadyH.nil
            go_simp
            (go_at_call 26; refine (HT3.out _).mono ?_; rintro e v5 ⟨rfl, rfl⟩)
            refine hK.out _ _ ?_ (fun hHeld22 => ?_)
            · (first | exact hHeld21)
            clear hHeld21 hK K
            try simp only [List.getElem_toArray, List.getElem_cons_zero, List.getElem_cons_succ, Act.put, List.setIfInBounds_toArray, List.set_cons_zero, List.set_cons_succ]
            refine wpAnyH_ready (rs := [9]) (by kernel_rfl) (by simp) ?_
            refine AllReadyH.cons (o := _) rfl (fun K hK => ?_) AllReadyH.nil
            go_simp
            (go_at_call 26; refine (HT4.out _).mono ?_; rintro e v6 ⟨rfl, rfl⟩)
            refine hK.out _ _ ?_ (fun hHeld23 => ?_)
            · (first | exact hHeld22)
            clear hHeld22 hK K
            try simp only [List.getElem_toArray, List.getElem_cons_zero, List.getElem_cons_succ, Act.put, List.setIfInBounds_toArray, List.set_cons_zero, List.set_cons_succ]
            refine wpAnyH_ready (rs := [15]) (by kernel_rfl) (by simp) ?_
            refine AllReadyH.cons (o := _) rfl (fun K hK => ?_) AllReadyH.nil
            go_simp
            (go_at_call 26; refine (HT5.out _).mono ?_; rintro e v7 ⟨rfl, rfl⟩)
            refine hK.out _ _ ?_ (fun hHeld24 => ?_)
            · (first | exact hHeld23)
            clear hHeld23 hK K
            try simp only [List.getElem_toArray, List.getElem_cons_zero, List.getElem_cons_succ, Act.put, List.setIfInBounds_toArray, List.set_cons_zero, List.set_cons_succ]
            refine wpAnyH_take (i := 16) (oi := _) (v := ?vr1n16_24) rfl (by kernel_rfl) (by kernel_rfl) (by kernel_rfl) (fun _ _ _ h => h) (Or.inl ⟨by kernel_rfl, ?hr1n16_24⟩) hHeld24 ?_
            case hr1n16_24 => (intro w hSw; (try dsimp only at hSw); go_simp; try (with_reducible rfl))
            try simp only [List.getElem_toArray, List.getElem_cons_zero, List.getElem_cons_succ, Act.put, List.setIfInBounds_toArray, List.set_cons_zero, List.set_cons_succ]
            refine wpAnyH_take (i := 20) (oi := _) (v := ?vr1n20_25) rfl (by kernel_rfl) (by kernel_rfl) (by kernel_rfl) (fun _ _ _ h => h) (Or.inl ⟨by kernel_rfl, ?hr1n20_25⟩) hHeld24 ?_
            case hr1n20_25 => (intro w hSw; (try dsimp only at hSw); go_simp; try (with_reducible rfl))
            try simp only [List.getElem_toArray, List.getElem_cons_zero, List.getElem_cons_succ, Act.put, List.setIfInBounds_toArray, List.set_cons_zero, List.set_cons_succ]
            refine wpAnyH_ready (rs := [22]) (by kernel_rfl) (by simp) ?_
            refine AllReadyH.cons (o := _) rfl (fun K hK => ?_) AllReadyH.nil
            (have hst := st_newD wr (n1 : Int) (n2 : Int) (n3 : Int) (n4 : Int) (fl : Int) (n5 : Int) 0 d; rw [sg0_lit] at hst)
            go_simp
            refine hK.out _ _ ?_ (fun hHeld25 => ?_)
            · (first | exact SrT.allocD HS1.out.drew _)
            clear hHeld24 hK K
            try simp only [List.getElem_toArray, List.getElem_cons_zero, List.getElem_cons_succ, Act.put, List.setIfInBounds_toArray, List.set_cons_zero, List.set_cons_succ]
            refine wpAnyH_done (by kernel_rfl) ?_ _
            refine NoPanic.normal ?_
            go_wp2_with fail
            go_meet
            exact ⟨wr.heap.size, rfl, (Blk.new wr 29 _ 0 0 (Or.inl (Nat.le_refl _))).drew, hHeld25, HSZ.out⟩
          refine AllReadyH.cons (o := _) rfl (fun K hK => ?_) AllReadyH.nil
          go_simp
          refine hK.out _ _ ?_ (fun hHeld26 => ?_)
          · (first | exact SrT.allocD hHeld _)
          clear hHeld hK K
          try simp only [List.getElem_toArray, List.getElem_cons_zero, List.getElem_cons_succ, Act.put, List.setIfInBounds_toArray, List.set_cons_zero, List.set_cons_succ]
          refine wpAnyH_ready (rs := [1]) (by kernel_rfl) (by simp) ?_
          refine AllReadyH.cons (o := _) rfl (fun K hK => ?_) AllReadyH.nil
          go_simp
          (go_at_call 26; refine (HT1.out _).mono ?_; rintro e v3 ⟨rfl, rfl⟩)
          refine hK.out _ _ ?_ (fun hHeld27 => ?_)
          · (first | exact hHeld26)
          clear hHeld26 hK K
          try simp only [List.getElem_toArray, List.getElem_cons_zero, List.getElem_cons_succ, Act.put, List.setIfInBounds_toArray, List.set_cons_zero, List.set_cons_succ]
          refine wpAnyH_take (i := 2) (oi := _) (v := ?vr1n2_26) rfl (by kernel_rfl) (by kernel_rfl) (by kernel_rfl) (fun _ _ _ h => h) (Or.inl ⟨by kernel_rfl, ?hr1n2_26⟩) hHeld27 ?_
          case hr1n2_26 => (intro w hSw; (try dsimp only at hSw); go_simp; try (with_reducible rfl))
          try simp only [List.getElem_toArray, List.getElem_cons_zero, List.getElem_cons_succ, Act.put, List.setIfInBounds_toArray, List.set_cons_zero, List.set_cons_succ]
          refine wpAnyH_ready (rs := [4]) (by kernel_rfl) (by simp) ?_
          refine AllReadyH.cons (o := _) rfl (fun K hK => ?_) AllReadyH.nil
          go_simp
          (go_at_call 26; refine (HT2.out _).mono ?_; rintro e v4 ⟨rfl, rfl⟩)
          refine hK.out _ _ ?_ (fun hHeld28 => ?_)
          · (first | exact hHeld27)
          clear hHeld27 hK K
          try simp only [List.getElem_toArray, List.getElem_cons_zero, List.getElem_cons_succ, Act.put, List.setIfInBounds_toArray, List.set_cons_zero, List.set_cons_succ]
          refine wpAnyH_take (i := 5) (oi := _) (v := ?vr1n5_27) rfl (by kernel_rfl) (by kernel_rfl) (by kernel_rfl) (fun _ _ _ h => h) (Or.inl ⟨by kernel_rfl, ?hr1n5_27⟩) hHeld28 ?_
          case hr1n5_27 => (intro w hSw; (try dsimp only at hSw); go_simp; try (with_reducible rfl))
          try simp only [List.getElem_toArray, List.getElem_cons_zero, List.getElem_cons_succ, Act.put, List.setIfInBounds_toArray, List.set_cons_zero, List.set_cons_succ]
          refine wpAnyH_ready (rs := [7]) (by kernel_rfl) (by simp) ?_
          refine AllReadyH.cons (o := _) rfl (fun K hK => ?_) AllReadyH.nil
          go_simp
          (go_at_call 26; refine (HT3.out _).mono ?_; rintro e v5 ⟨rfl, rfl⟩)
          refine hK.out _ _ ?_ (fun hHeld29 => ?_)
          · (first | exact hHeld28)
          clear hHeld28 hK K
          try simp only [List.getElem_toArray, List.getElem_cons_zero, List.getElem_cons_succ, Act.put, List.setIfInBounds_toArray, List.set_cons_zero, List.set_cons_succ]
          refine wpAnyH_ready (rs := [9]) (by kernel_rfl) (by simp) ?_
          refine AllReadyH.cons (o := _) rfl (fun K hK => ?_) AllReadyH.nil
          go_simp
          (go_at_call 26; refine (HT4.out _).mono ?_; rintro e v6 ⟨rfl, rfl⟩)
          refine hK.out _ _ ?_ (fun hHeld30 => ?_)
          · (first | exact hHeld29)
          clear hHeld29 hK K
          try simp only [List.getElem_toArray, List.getElem_cons_zero, List.getElem_cons_succ, Act.put, List.setIfInBounds_toArray, List.set_cons_zero, List.set_cons_succ]
          refine wpAnyH_ready (rs := [15]) (by kernel_rfl) (by simp) ?_
          refine AllReadyH.cons (o := _) rfl (fun K hK => ?_) AllReadyH.nil
          go_simp
          (go_at_call 26; refine (HT5.out _).mono ?_; rintro e v7 ⟨rfl, rfl⟩)
          refine hK.out _ _ ?_ (fun hHeld31 => ?_)
          · (first | exact hHeld30)
          clear hHeld30 hK K
          try simp only [List.getElem_toArray, List.getElem_cons_zero, List.getElem_cons_succ, Act.put, List.setIfInBounds_toArray, List.set_cons_zero, List.set_cons_succ]
          refine wpAnyH_take (i := 16) (oi := _) (v := ?vr1n16_28) rfl (by kernel_rfl) (by kernel_rfl) (by kernel_rfl) (fun _ _ _ h => h) (Or.inl ⟨by kernel_rfl, ?hr1n16_28⟩) hHeld31 ?_
          case hr1n16_28 => (intro w hSw; (try dsimp only at hSw); go_simp; try (with_reducible rfl))
          try simp only [List.getElem_toArray, List.getElem_cons_zero, List.getElem_cons_succ, Act.put, List.setIfInBounds_toArray, List.set_cons_zero, List.set_cons_succ]
          refine wpAnyH_take (i := 20) (oi := _) (v := ?vr1n20_29) rfl (by kernel_rfl) (by kernel_rfl) (by kernel_rfl) (fun _ _ _ h => h) (Or.inl ⟨by kernel_rfl, ?hr1n20_29⟩) hHeld31 ?_
          case hr1n20_29 => (intro w hSw; (try dsimp only at hSw); go_simp; try (with_reducible rfl))
          try simp only [List.getElem_toArray, List.getElem_cons_zero, List.getElem_cons_succ, Act.put, List.setIfInBounds_toArray, List.set_cons_zero, List.set_cons_succ]
          refine wpAnyH_ready (rs := [22]) (by kernel_rfl) (by simp) ?_
          refine AllReadyH.cons (o := _) rfl (fun K hK => ?_) AllReadyH.nil
          (have hst := st_newD wr (n1 : Int) (n2 : Int) (n3 : Int) (n4 : Int) (fl : Int) (n5 : Int) 0 d; rw [sg0_lit] at hst)
          go_simp
          refine hK.out _ _ ?_ (fun hHeld32 => ?_)
          · (first | exact SrT.allocD HS1.out.drew _)
          clear hHeld31 hK K
          try simp only [List.getElem_toArray, List.getElem_cons_zero, List.getElem_cons_succ, Act.put, List.setIfInBounds_toArray, List.set_cons_zero, List.set_cons_succ]
          refine wpAnyH_done (by kernel_rfl) ?_ _
          refine NoPanic.normal ?_
          go_wp2_with fail
          go_meet
          exact ⟨wr.heap.size, rfl, (Blk.new wr 29 _ 0 0 (Or.inl (Nat.le_refl _))).drew, hHeld32, HSZ.out⟩
        case rest =>
          obtain ⟨g, rfl, hK, hS, hgt⟩ := hcut
          have HS3 := Lib.hid hS
          have HK := Lib.hid hK
          have HG := Lib.hid hgt
          have dk := hK.ld_sg
          have hHas := Lib.hid (fun w => has_any n1 n2 n3 n4 n5 0 fl (by omega) d w)
          clear hK hS hgt
          go_wp2_with fail
          refine (hHas.out _).mono ?_
          rintro e w5 ⟨rfl, hb5⟩
          have HS5 := Lib.hid (HS3.out.step hb5)
          have HK5 := Lib.hid (HK.out.step hb5)
          have c6 := (sg_at HK5.out).ms
          have f6 := HK5.out.free 6 (by show 6 < 8; decide)
          have dk5 := HK5.out.ld_sg
          clear hb5 dk
          by_cases hc : fl / 2 % 2 = 1
          · have hc' : (fl / 2 % 2 == 1) = true := by rw [hc]; rfl
            rw [hc']
            have HK6 : RowKit.Hid (Blk (w5.setCell ⟨g, 6, none⟩ (.int .i64 (m : Int))) g 29 (sgC n1 n2 n3 n4 fl n5 m d)) := HK5.out.set 6 (.int .i64 (m : Int))
            have HS6 := Lib.hid (HS5.out.set1 HG.out 6 (.int .i64 (m : Int)))
            clear dk5
            go_upto_region 28 with fail
            generalize World.setCell _ _ _ = W6 at HK6 HS6 ⊢
            have dk := HK6.out.ld_sg
            go_wp2_with (refine wpList_store_blk rfl 29 _ _ rfl (w.heap.size + 1 + 1) (sgC n1 n2 n3 n4 fl n5 m d) rfl rfl sg0 29 HS6.out.res rfl size_sg rfl ?_)
            exact bodyPost_ret (results_blk Try.results12 _ _ (w.heap.size + 1 + 1) _ _ _ rfl (HS6.out.res.setAll rfl) Try.underlying29 rfl size_sg) rfl ⟨by rw [HV.out, HE.out, if_pos hc]; rfl, Below.setCells HS6.out.bel (by omega) _ _⟩
          · have hc' : (fl / 2 % 2 == 1) = false := by simpa using hc
            rw [hc']
            go_wp2_with (refine wpList_store_blk rfl 29 _ _ rfl (w.heap.size + 1 + 1) (sgC n1 n2 n3 n4 fl n5 0 d) rfl rfl sg0 29 HS5.out.res rfl size_sg rfl ?_)
            exact bodyPost_ret (results_blk Try.results12 _ _ (w.heap.size + 1 + 1) _ _ _ rfl (HS5.out.res.setAll rfl) Try.underlying29 rfl size_sg) rfl ⟨by rw [HV.out, HE.out, if_neg hc]; rfl, Below.setCells HS5.out.bel (by omega) _ _⟩
      · have hlt' : (n : Int) ≤ (a : Int) := by omega
        go_upto_region 25 with fail
        go_cut [12] from 101 to 121 (fun x wx => ∃ g, x = .pointer (some ⟨g, 0, none⟩) ∧ Blk wx g 29 (sgC n1 n2 n3 n4 fl n5 0 d) ∧ SrT w f t wx ∧ w.heap.size + 1 + 1 + 1 < g)
        case first =>
          refine wp_region_noPanic ?_
          refine wp_region_held_drew (S := SrT w f t) (by kernel_rfl) (by first | exact HS1.out.drew) (fun hHeld => ?_)
          refine wpAnyH_take (i := 0) (oi := _) (v := ?vr2n0_30) rfl (by kernel_rfl) (by kernel_rfl) (by kernel_rfl) (fun _ _ _ h => h) (Or.inl ⟨by kernel_rfl, ?hr2n0_30⟩) hHeld ?_
          case hr2n0_30 => (intro w hSw; (try dsimp only at hSw); go_simp; try (with_reducible rfl))
          try simp only [List.getElem_toArray, List.getElem_cons_zero, List.getElem_cons_succ, Act.put, List.setIfInBounds_toArray, List.set_cons_zero, List.set_cons_succ]
          refine wpAnyH_take (i := 3) (oi := _) (v := ?vr2n3_31) rfl (by kernel_rfl) (by kernel_rfl) (by kernel_rfl) (fun _ _ _ h => h) (Or.inl ⟨by kernel_rfl, ?hr2n3_31⟩) hHeld ?_
          case hr2n3_31 => (intro w hSw; (try dsimp only at hSw); go_simp; try (with_reducible rfl))
          try simp only [List.getElem_toArray, List.getElem_cons_zero, List.getElem_cons_succ, Act.put, List.setIfInBounds_toArray, List.set_cons_zero, List.set_cons_succ]
          refine wpAnyH_take (i := 6) (oi := _) (v := ?vr2n6_32) rfl (by kernel_rfl) (by kernel_rfl) (by kernel_rfl) (fun _ _ _ h => h) (Or.inl ⟨by kernel_rfl, ?hr2n6_32⟩) hHeld ?_
          case hr2n6_32 => (intro w hSw; (try dsimp only at hSw); go_simp; try (with_reducible rfl))
          try simp only [List.getElem_toArray, List.getElem_cons_zero, List.getElem_cons_succ, Act.put, List.setIfInBounds_toArray, List.set_cons_zero, List.set_cons_succ]
          refine wpAnyH_take (i := 8) (oi := _) (v := ?vr2n8_33) rfl (by kernel_rfl) (by kernel_rfl) (by kernel_rfl) (fun _ _ _ h => h) (Or.inl ⟨by kernel_rfl, ?hr2n8_33⟩) hHeld ?_
          case hr2n8_33 => (intro w hSw; (try dsimp only at hSw); go_simp; try (with_reducible rfl))
          try simp only [List.getElem_toArray, List.getElem_cons_zero, List.getElem_cons_succ, Act.put, List.setIfInBounds_toArray, List.set_cons_zero, List.set_cons_succ]
          refine wpAnyH_take (i := 10) (oi := _) (v := ?vr2n10_34) rfl (by kernel_rfl) (by kernel_rfl) (by kernel_rfl) (fun _ _ _ h => h) (Or.inl ⟨by kernel_rfl, ?hr2n10_34⟩) hHeld ?_
          case hr2n10_34 => (intro w hSw; (try dsimp only at hSw); go_simp; try (with_reducible rfl))
          try simp only [List.getElem_toArray, List.getElem_cons_zero, List.getElem_cons_succ, Act.put, List.setIfInBounds_toArray, List.set_cons_zero, List.set_cons_succ]
          refine wpAnyH_take (i := 11) (oi := _) (v := ?vr2n11_35) rfl (by kernel_rfl) (by kernel_rfl) (by kernel_rfl) (fun _ _ _ h => h) (Or.inl ⟨by kernel_rfl, ?hr2n11_35⟩) hHeld ?_
          case hr2n11_35 => (intro w hSw; (try dsimp only at hSw); go_simp; try (with_reducible rfl))
          try simp only [List.getElem_toArray, List.getElem_cons_zero, List.getElem_cons_succ, Act.put, List.setIfInBounds_toArray, List.set_cons_zero, List.set_cons_succ]
          refine wpAnyH_take (i := 12) (oi := _) (v := ?vr2n12_36) rfl (by kernel_rfl) (by kernel_rfl) (by kernel_rfl) (fun _ _ _ h => h) (Or.inl ⟨by kernel_rfl, ?hr2n12_36⟩) hHeld ?_
          case hr2n12_36 => (intro w hSw; (try dsimp only at hSw); go_simp; try (with_reducible rfl))
          try simp only [List.getElem_toArray, List.getElem_cons_zero, List.getElem_cons_succ, Act.put, List.setIfInBounds_toArray, List.set_cons_zero, List.set_cons_succ]
          refine wpAnyH_take (i := 13) (oi := _) (v := ?vr2n13_37) rfl (by kernel_rfl) (by kernel_rfl) (by kernel_rfl) (fun _ _ _ h => h) (Or.inl ⟨by kernel_rfl, ?hr2n13_37⟩) hHeld ?_
          case hr2n13_37 => (intro w hSw; (try dsimp only at hSw); go_simp; try (with_reducible rfl))
          try simp only [List.getElem_toArray, List.getElem_cons_zero, List.getElem_cons_succ, Act.put, List.setIfInBounds_toArray, List.set_cons_zero, List.set_cons_succ]
          refine wpAnyH_take (i := 14) (oi := _) (v := ?vr2n14_38) rfl (by kernel_rfl) (by kernel_rfl) (by kernel_rfl) (fun _ _ _ h => h) (Or.inl ⟨by kernel_rfl, ?hr2n14_38⟩) hHeld ?_
          case hr2n14_38 => (intro w hSw; (try dsimp only at hSw); go_simp; try (with_reducible rfl))
          try simp only [List.getElem_toArray, List.getElem_cons_zero, List.getElem_cons_succ, Act.put, List.setIfInBounds_toArray, List.set_cons_zero, List.set_cons_succ]
          refine wpAnyH_take (i := 17) (oi := _) (v := ?vr2n17_39) rfl (by kernel_rfl) (by kernel_rfl) (by kernel_rfl) (fun _ _ _ h => h) (Or.inl ⟨by kernel_rfl, ?hr2n17_39⟩) hHeld ?_
          case hr2n17_39 => (intro w hSw; (try dsimp only at hSw); go_simp; try (with_reducible rfl))
          try simp only [List.getElem_toArray, List.getElem_cons_zero, List.getElem_cons_succ, Act.put, List.setIfInBounds_toArray, List.set_cons_zero, List.set_cons_succ]
          refine wpAnyH_take (i := 18) (oi := _) (v := ?vr2n18_40) rfl (by kernel_rfl) (by kernel_rfl) (by kernel_rfl) (fun _ _ _ h => h) (Or.inl ⟨by kernel_rfl, ?hr2n18_40⟩) hHeld ?_
          case hr2n18_40 => (intro w hSw; (try dsimp only at hSw); go_simp; try (with_reducible rfl))
          try simp only [List.getElem_toArray, List.getElem_cons_zero, List.getElem_cons_succ, Act.put, List.setIfInBounds_toArray, List.set_cons_zero, List.set_cons_succ]
          refine wpAnyH_take (i := 19) (oi := _) (v := ?vr2n19_41) rfl (by kernel_rfl) (by kernel_rfl) (by kernel_rfl) (fun _ _ _ h => h) (Or.inl ⟨by kernel_rfl, ?hr2n19_41⟩) hHeld ?_
          case hr2n19_41 => (intro w hSw; (try dsimp only at hSw); go_simp; try (with_reducible rfl))
          try simp only [List.getElem_toArray, List.getElem_cons_zero, List.getElem_cons_succ, Act.put, List.setIfInBounds_toArray, List.set_cons_zero, List.set_cons_succ]
          refine wpAnyH_ready (rs := [1, 21]) (by kernel_rfl) (by simp) ?_
          refine AllReadyH.cons (o := _) rfl (fun K hK => ?_) ?_
          · skip
            go_simp
            (go_at_call 26; refine (HT1.out _).mono ?_; rintro e v2 ⟨rfl, rfl⟩)
            refine hK.out _ _ ?_ (fun hHeld1 => ?_)
            · (first | exact hHeld)
            clear hHeld hK K
            try simp only [List.getElem_toArray, List.getElem_cons_zero, List.getElem_cons_succ, Act.put, List.setIfInBounds_toArray, List.set_cons_zero, List.set_cons_succ]
            refine wpAnyH_take (i := 2) (oi := _) (v := ?vr2n2_42) rfl (by kernel_rfl) (by kernel_rfl) (by kernel_rfl) (fun _ _ _ h => h) (Or.inl ⟨by kernel_rfl, ?hr2n2_42⟩) hHeld1 ?_
            case hr2n2_42 => (intro w hSw; (try dsimp only at hSw); go_simp; try (with_reducible rfl))
            try simp only [List.getElem_toArray, List.getElem_cons_zero, List.getElem_cons_succ, Act.put, List.setIfInBounds_toArray, List.set_cons_zero, List.set_cons_succ]
            refine wpAnyH_ready (rs := [4, 21]) (by kernel_rfl) (by simp) ?_
            refine AllReadyH.cons (o := _) rfl (fun K hK => ?_) ?_
            · skip
              go_simp
              (go_at_call 26; refine (HT2.out _).mono ?_; rintro e v3 ⟨rfl, rfl⟩)
              refine hK.out _ _ ?_ (fun hHeld2 => ?_)
              · (first | exact hHeld1)
              clear hHeld1 hK K
              try simp only [List.getElem_toArray, List.getElem_cons_zero, List.getElem_cons_succ, Act.put, List.setIfInBounds_toArray, List.set_cons_zero, List.set_cons_succ]
              refine wpAnyH_take (i := 5) (oi := _) (v := ?vr2n5_43) rfl (by kernel_rfl) (by kernel_rfl) (by kernel_rfl) (fun _ _ _ h => h) (Or.inl ⟨by kernel_rfl, ?hr2n5_43⟩) hHeld2 ?_
              case hr2n5_43 => (intro w hSw; (try dsimp only at hSw); go_simp; try (with_reducible rfl))
              try simp only [List.getElem_toArray, List.getElem_cons_zero, List.getElem_cons_succ, Act.put, List.setIfInBounds_toArray, List.set_cons_zero, List.set_cons_succ]
              refine wpAnyH_ready (rs := [7, 21]) (by kernel_rfl) (by simp) ?_
              refine AllReadyH.cons (o := _) rfl (fun K hK => ?_) ?_
              · skip
                go_simp
                (go_at_call 26; refine (HT3.out _).mono ?_; rintro e v4 ⟨rfl, rfl⟩)
                refine hK.out _ _ ?_ (fun hHeld3 => ?_)
                · (first | exact hHeld2)
                clear hHeld2 hK K
                try simp only [List.getElem_toArray, List.getElem_cons_zero, List.getElem_cons_succ, Act.put, List.setIfInBounds_toArray, List.set_cons_zero, List.set_cons_succ]
                refine wpAnyH_ready (rs := [9, 21]) (by kernel_rfl) (by simp) ?_
                refine AllReadyH.cons (o := _) rfl (fun K hK => ?_) ?_
                · skip
                  go_simp
                  (go_at_call 26; refine (HT4.out _).mono ?_; rintro e v5 ⟨rfl, rfl⟩)
                  refine hK.out _ _ ?_ (fun hHeld4 => ?_)
                  · (first | exact hHeld3)
                  clear hHeld3 hK K
                  try simp only [List.getElem_toArray, List.getElem_cons_zero, List.getElem_cons_succ, Act.put, List.setIfInBounds_toArray, List.set_cons_zero, List.set_cons_succ]
                  refine wpAnyH_ready (rs := [15, 21]) (by kernel_rfl) (by simp) ?_
                  refine AllReadyH.cons (o := _) rfl (fun K hK => ?_) ?_
                  · skip
                    go_simp
                    (go_at_call 26; refine (HT5.out _).mono ?_; rintro e v6 ⟨rfl, rfl⟩)
                    refine hK.out _ _ ?_ (fun hHeld5 => ?_)
                    · (first | exact hHeld4)
                    clear hHeld4 hK K
                    try simp only [List.getElem_toArray, List.getElem_cons_zero, List.getElem_cons_succ, Act.put, List.setIfInBounds_toArray, List.set_cons_zero, List.set_cons_succ]
                    refine wpAnyH_take (i := 16) (oi := _) (v := ?vr2n16_44) rfl (by kernel_rfl) (by kernel_rfl) (by kernel_rfl) (fun _ _ _ h => h) (Or.inl ⟨by kernel_rfl, ?hr2n16_44⟩) hHeld5 ?_
                    case hr2n16_44 => (intro w hSw; (try dsimp only at hSw); go_simp; try (with_reducible rfl))
                    try simp only [List.getElem_toArray, List.getElem_cons_zero, List.getElem_cons_succ, Act.put, List.setIfInBounds_toArray, List.set_cons_zero, List.set_cons_succ]
                    refine wpAnyH_take (i := 20) (oi := _) (v := ?vr2n20_45) rfl (by kernel_rfl) (by kernel_rfl) (by kernel_rfl) (fun _ _ _ h => h) (Or.inl ⟨by kernel_rfl, ?hr2n20_45⟩) hHeld5 ?_
                    case hr2n20_45 => (intro w hSw; (try dsimp only at hSw); go_simp; try (with_reducible rfl))
                    try simp only [List.getElem_toArray, List.getElem_cons_zero, List.getElem_cons_succ, Act.put, List.setIfInBounds_toArray, List.set_cons_zero, List.set_cons_succ]
                    refine wpAnyH_ready (rs := [21]) (by kernel_rfl) (by simp) ?_
                    refine AllReadyH.cons (o := _) rfl (fun K hK => ?_) AllReadyH.nil
                    go_simp
                    refine hK.out _ _ ?_ (fun hHeld6 => ?_)
                    · (first | exact SrT.allocD hHeld5 _)
                    clear hHeld5 hK K
                    try simp only [List.getElem_toArray, List.getElem_cons_zero, List.getElem_cons_succ, Act.put, List.setIfInBounds_toArray, List.set_cons_zero, List.set_cons_succ]
                    refine wpAnyH_ready (rs := [22]) (by kernel_rfl) (by simp) ?_
                    refine AllReadyH.cons (o := _) rfl (fun K hK => ?_) AllReadyH.nil
                    (have hst := st_newD wr (n1 : Int) (n2 : Int) (n3 : Int) (n4 : Int) (fl : Int) (n5 : Int) 0 d; rw [sg0_lit] at hst)
                    go_simp
                    refine hK.out _ _ ?_ (fun hHeld7 => ?_)
                    · (first | exact SrT.allocD HS1.out.drew _)
                    clear hHeld6 hK K
                    try simp only [List.getElem_toArray, List.getElem_cons_zero, List.getElem_cons_succ, Act.put, List.setIfInBounds_toArray, List.set_cons_zero, List.set_cons_succ]
                    refine wpAnyH_done (by kernel_rfl) ?_ _
                    refine NoPanic.normal ?_
                    go_wp2_with fail
                    go_meet
                    exact ⟨wr.heap.size, rfl, (Blk.new wr 29 _ 0 0 (Or.inl (Nat.le_refl _))).drew, hHeld7, HSZ.out⟩
                  refine AllReadyH.cons (o := _) rfl (fun K hK => ?_) AllReadyH.nil
                  go_simp
                  refine hK.out _ _ ?_ (fun hHeld8 => ?_)
                  · (first | exact SrT.allocD hHeld4 _)
                  clear hHeld4 hK K
                  try simp only [List.getElem_toArray, List.getElem_cons_zero, List.getElem_cons_succ, Act.put, List.setIfInBounds_toArray, List.set_cons_zero, List.set_cons_succ]
                  refine wpAnyH_ready (rs := [15]) (by kernel_rfl) (by simp) ?_
                  refine AllReadyH.cons (o := _) rfl (fun K hK => ?_) AllReadyH.nil
                  go_simp
                  (go_at_call 26; refine (HT5.out _).mono ?_; rintro e v7 ⟨rfl, rfl⟩)
                  refine hK.out _ _ ?_ (fun hHeld9 => ?_)
                  · (first | exact hHeld8)
                  clear hHeld8 hK K
                  try simp only [List.getElem_toArray, List.getElem_cons_zero, List.getElem_cons_succ, Act.put, List.setIfInBounds_toArray, List.set_cons_zero, List.set_cons_succ]
                  refine wpAnyH_take (i := 16) (oi := _) (v := ?vr2n16_46) rfl (by kernel_rfl) (by kernel_rfl) (by kernel_rfl) (fun _ _ _ h => h) (Or.inl ⟨by kernel_rfl, ?hr2n16_46⟩) hHeld9 ?_
                  case hr2n16_46 => (intro w hSw; (try dsimp only at hSw); go_simp; try (with_reducible rfl))
                  try simp only [List.getElem_toArray, List.getElem_cons_zero, List.getElem_cons_succ, Act.put, List.setIfInBounds_toArray, List.set_cons_zero, List.set_cons_succ]
                  refine wpAnyH_take (i := 20) (oi := _) (v := ?vr2n20_47) rfl (by kernel_rfl) (by kernel_rfl) (by kernel_rfl) (fun _ _ _ h => h) (Or.inl ⟨by kernel_rfl, ?hr2n20_47⟩) hHeld9 ?_
                  case hr2n20_47 => (intro w hSw; (try dsimp only at hSw); go_simp; try (with_reducible rfl))
                  try simp only [List.getElem_toArray, List.getElem_cons_zero, List.getElem_cons_succ, Act.put, List.setIfInBounds_toArray, List.set_cons_zero, List.set_cons_succ]
                  refine wpAnyH_ready (rs := [22]) (by kernel_rfl) (by simp) ?_
                  refine AllReadyH.cons (o := _) rfl (fun K hK => ?_) AllReadyH.nil
                  (have hst := st_newD wr (n1 : Int) (n2 : Int) (n3 : Int) (n4 : Int) (fl : Int) (n5 : Int) 0 d; rw [sg0_lit] at hst)
                  go_simp
                  refine hK.out _ _ ?_ (fun hHeld10 => ?_)
                  · (first | exact SrT.allocD HS1.out.drew _)
                  clear hHeld9 hK K
                  try simp only [List.getElem_toArray, List.getElem_cons_zero, List.getElem_cons_succ, Act.put, List.setIfInBounds_toArray, List.set_cons_zero, List.set_cons_succ]
                  refine wpAnyH_done (by kernel_rfl) ?_ _
                  refine NoPanic.normal ?_
                  go_wp2_with fail
                  go_meet
                  exact ⟨wr.heap.size, rfl, (Blk.new wr 29 _ 0 0 (Or.inl (Nat.le_refl _))).drew, hHeld10, HSZ.out⟩
                refine AllReadyH.cons (o := _) rfl (fun K hK => ?_) AllReadyH.nil
                go_simp
                refine hK.out _ _ ?_ (fun hHeld11 => ?_)
                · (first | exact SrT.allocD hHeld3 _)
                clear hHeld3 hK K
                try simp only [List.getElem_toArray, List.getElem_cons_zero, List.getElem_cons_succ, Act.put, List.setIfInBounds_toArray, List.set_cons_zero, List.set_cons_succ]
                refine wpAnyH_ready (rs := [9]) (by kernel_rfl) (by simp) ?_
                refine AllReadyH.cons (o := _) rfl (fun K hK => ?_) AllReadyH.nil
                go_simp
                (go_at_call 26; refine (HT4.out _).mono ?_; rintro e v6 ⟨rfl, rfl⟩)
                refine hK.out _ _ ?_ (fun hHeld12 => ?_)
                · (first | exact hHeld11)
                clear hHeld11 hK K
                try simp only [List.getElem_toArray, List.getElem_cons_zero, List.getElem_cons_succ, Act.put, List.setIfInBounds_toArray, List.set_cons_zero, List.set_cons_succ]
                refine wpAnyH_ready (rs := [15]) (by kernel_rfl) (by simp) ?_
                refine AllReadyH.cons (o := _) rfl (fun K hK => ?_) AllReadyH.nil
                go_simp
                (go_at_call 26; refine (HT5.out _).mono ?_; rintro e v7 ⟨rfl, rfl⟩)
                refine hK.out _ _ ?_ (fun hHeld13 => ?_)
                · (first | exact hHeld12)
                clear hHeld12 hK K
                try simp only [List.getElem_toArray, List.getElem_cons_zero, List.getElem_cons_succ, Act.put, List.setIfInBounds_toArray, List.set_cons_zero, List.set_cons_succ]
                refine wpAnyH_take (i := 16) (oi := _) (v := ?vr2n16_48) rfl (by kernel_rfl) (by kernel_rfl) (by kernel_rfl) (fun _ _ _ h => h) (Or.inl ⟨by kernel_rfl, ?hr2n16_48⟩) hHeld13 ?_
                case hr2n16_48 => (intro w hSw; (try dsimp only at hSw); go_simp; try (with_reducible rfl))
                try simp only [List.getElem_toArray, List.getElem_cons_zero, List.getElem_cons_succ, Act.put, List.setIfInBounds_toArray, List.set_cons_zero, List.set_cons_succ]
                refine wpAnyH_take (i := 20) (oi := _) (v := ?vr2n20_49) rfl (by kernel_rfl) (by kernel_rfl) (by kernel_rfl) (fun _ _ _ h => h) (Or.inl ⟨by kernel_rfl, ?hr2n20_49⟩) hHeld13 ?_
                case hr2n20_49 => (intro w hSw; (try dsimp only at hSw); go_simp; try (with_reducible rfl))
                try simp only [List.getElem_toArray, List.getElem_cons_zero, List.getElem_cons_succ, Act.put, List.setIfInBounds_toArray, List.set_cons_zero, List.set_cons_succ]
                refine wpAnyH_ready (rs := [22]) (by kernel_rfl) (by simp) ?_
                refine AllReadyH.cons (o := _) rfl (fun K hK => ?_) AllReadyH.nil
                (have hst := st_newD wr (n1 : Int) (n2 : Int) (n3 : Int) (n4 : Int) (fl : Int) (n5 : Int) 0 d; rw [sg0_lit] at hst)
                go_simp
                refine hK.out _ _ ?_ (fun hHeld14 => ?_)
                · (first | exact SrT.allocD HS1.out.drew _)
                clear hHeld13 hK K
                try simp only [List.getElem_toArray, List.getElem_cons_zero, List.getElem_cons_succ, Act.put, List.setIfInBounds_toArray, List.set_cons_zero, List.set_cons_succ]
                refine wpAnyH_done (by kernel_rfl) ?_ _
                refine NoPanic.normal ?_
                go_wp2_with fail
                go_meet
                exact ⟨wr.heap.size, rfl, (Blk.new wr 29 _ 0 0 (Or.inl (Nat.le_refl _))).drew, hHeld14, HSZ.out⟩
              refine AllReadyH.cons (o := _) rfl (fun K hK => ?_) AllReadyH.nil
              go_simp
              refine hK.out _ _ ?_ (fun hHeld15 => ?_)
              · (first | exact SrT.allocD hHeld2 _)
              clear hHeld2 hK K
              try simp only [List.getElem_toArray, List.getElem_cons_zero, List.getElem_cons_succ, Act.put, List.setIfInBounds_toArray, List.set_cons_zero, List.set_cons_succ]
              refine wpAnyH_ready (rs := [7]) (by kernel_rfl) (by simp) ?_
              refine AllReadyH.cons (o := _) rfl (fun K hK => ?_) AllReadyH.nil
              go_simp
              (go_at_call 26; refine (HT3.out _).mono ?_; rintro e v5 ⟨rfl, rfl⟩)
              refine hK.out _ _ ?_ (fun hHeld16 => ?_)
              · (first | exact hHeld15)
              clear hHeld15 hK K
              try simp only [List.getElem_toArray, List.getElem_cons_zero, List.getElem_cons_succ, Act.put, List.setIfInBounds_toArray, List.set_cons_zero, List.set_cons_succ]
              refine wpAnyH_ready (rs := [9]) (by kernel_rfl) (by simp) ?_
              refine AllReadyH.cons (o := _) rfl (fun K hK => ?_) AllReadyH.nil
              go_simp
              (go_at_call 26; refine (HT4.out _).mono ?_; rintro e v6 ⟨rfl, rfl⟩)
              refine hK.out _ _ ?_ (fun hHeld17 => ?_)
              · (first | exact hHeld16)
              clear hHeld16 hK K
              try simp only [List.getElem_toArray, List.getElem_cons_zero, List.getElem_cons_succ, Act.put, List.setIfInBounds_toArray, List.set_cons_zero, List.set_cons_succ]
              refine wpAnyH_ready (rs := [15]) (by kernel_rfl) (by simp) ?_
              refine AllReadyH.cons (o := _) rfl (fun K hK => ?_) AllReadyH.nil
              go_simp
              (go_at_call 26; refine (HT5.out _).mono ?_; rintro e v7 ⟨rfl, rfl⟩)
              refine hK.out _ _ ?_ (fun hHeld18 => ?_)
              · (first | exact hHeld17)
              clear hHeld17 hK K
              try simp only [List.getElem_toArray, List.getElem_cons_zero, List.getElem_cons_succ, Act.put, List.setIfInBounds_toArray, List.set_cons_zero, List.set_cons_succ]
              refine wpAnyH_take (i := 16) (oi := _) (v := ?vr2n16_50) rfl (by kernel_rfl) (by kernel_rfl) (by kernel_rfl) (fun _ _ _ h => h) (Or.inl ⟨by kernel_rfl, ?hr2n16_50⟩) hHeld18 ?_
              case hr2n16_50 => (intro w hSw; (try dsimp only at hSw); go_simp; try (with_reducible rfl))
              try simp only [List.getElem_toArray, List.getElem_cons_zero, List.getElem_cons_succ, Act.put, List.setIfInBounds_toArray, List.set_cons_zero, List.set_cons_succ]
              refine wpAnyH_take (i := 20) (oi := _) (v := ?vr2n20_51) rfl (by kernel_rfl) (by kernel_rfl) (by kernel_rfl) (fun _ _ _ h => h) (Or.inl ⟨by kernel_rfl, ?hr2n20_51⟩) hHeld18 ?_
              case hr2n20_51 => (intro w hSw; (try dsimp only at hSw); go_simp; try (with_reducible rfl))
              try simp only [List.getElem_toArray, List.getElem_cons_zero, List.getElem_cons_succ, Act.put, List.setIfInBounds_toArray, List.set_cons_zero, List.set_cons_succ]
              refine wpAnyH_ready (rs := [22]) (by kernel_rfl) (by simp) ?_
              refine AllReadyH.cons (o := _) rfl (fun K hK => ?_) AllReadyH.nil
              (have hst := st_newD wr (n1 : Int) (n2 : Int) (n3 : Int) (n4 : Int) (fl : Int) (n5 : Int) 0 d; rw [sg0_lit] at hst)
              go_simp
              refine hK.out _ _ ?_ (fun hHeld19 => ?_)
              · (first | exact SrT.allocD HS1.out.drew _)
              clear hHeld18 hK K
              try simp only [List.getElem_toArray, List.getElem_cons_zero, List.getElem_cons_succ, Act.put, List.setIfInBounds_toArray, List.set_cons_zero, List.set_cons_succ]
              refine wpAnyH_done (by kernel_rfl) ?_ _
              refine NoPanic.normal ?_
              go_wp2_with fail
              go_meet
              exact ⟨wr.heap.size, rfl, (Blk.new wr 29 _ 0 0 (Or.inl (Nat.le_refl _))).drew, hHeld19, HSZ.out⟩
            refine AllReadyH.cons (o := _) rfl (fun K hK => ?_) AllReadyH.nil
            go_simp
            refine hK.out _ _ ?_ (fun hHeld20 => ?_)
            · (first | exact SrT.allocD hHeld1 _)
            clear hHeld1 hK K
            try simp only [List.getElem_toArray, List.getElem_cons_zero, List.getElem_cons_succ, Act.put, List.setIfInBounds_toArray, List.set_cons_zero, List.set_cons_succ]
            refine wpAnyH_ready (rs := [4]) (by kernel_rfl) (by simp) ?_
            refine AllReadyH.cons (o := _) rfl (fun K hK => ?_) AllReadyH.nil
            go_simp
            (go_at_call 26; refine (HT2.out _).mono ?_; rintro e v4 ⟨rfl, rfl⟩)
            refine hK.out _ _ ?_ (fun hHeld21 => ?_)
            · (first | exact hHeld20)
            clear hHeld20 hK K
            try simp only [List.getElem_toArray, List.getElem_cons_zero, List.getElem_cons_succ, Act.put, List.setIfInBounds_toArray, List.set_cons_zero, List.set_cons_succ]
            refine wpAnyH_take (i := 5) (oi := _) (v := ?vr2n5_52) rfl (by kernel_rfl) (by kernel_rfl) (by kernel_rfl) (fun _ _ _ h => h) (Or.inl ⟨by kernel_rfl, ?hr2n5_52⟩) hHeld21 ?_
            case hr2n5_52 => (intro w hSw; (try dsimp only at hSw); go_simp; try (with_reducible rfl))
            try simp only [List.getElem_toArray, List.getElem_cons_zero, List.getElem_cons_succ, Act.put, List.setIfInBounds_toArray, List.set_cons_zero, List.set_cons_succ]
            refine wpAnyH_ready (rs := [7]) (by kernel_rfl) (by simp) ?_
            refine AllReadyH.cons (o := _) rfl (fun K hK => ?_) AllReadyH.nil
            go_simp
            (go_at_call 26; refine (HT3.out _).mono ?_; rintro e v5 ⟨rfl, rfl⟩)
            refine hK.out _ _ ?_ (fun hHeld22 => ?_)
            · (first | exact hHeld21)
            clear hHeld21 hK K
            try simp only [List.getElem_toArray, List.getElem_cons_zero, List.getElem_cons_succ, Act.put, List.setIfInBounds_toArray, List.set_cons_zero, List.set_cons_succ]
            refine wpAnyH_ready (rs := [9]) (by kernel_rfl) (by simp) ?_
            refine AllReadyH.cons (o := _) rfl (fun K hK => ?_) AllReadyH.nil
            go_simp
            (go_at_call 26; refine (HT4.out _).mono ?_; rintro e v6 ⟨rfl, rfl⟩)
            refine hK.out _ _ ?_ (fun hHeld23 => ?_)
            · (first | exact hHeld22)
            clear hHeld22 hK K
            try simp only [List.getElem_toArray, List.getElem_cons_zero, List.getElem_cons_succ, Act.put, List.setIfInBounds_toArray, List.set_cons_zero, List.set_cons_succ]
            refine wpAnyH_ready (rs := [15]) (by kernel_rfl) (by simp) ?_
            refine AllReadyH.cons (o := _) rfl (fun K hK => ?_) AllReadyH.nil
            go_simp
            (go_at_call 26; refine (HT5.out _).mono ?_; rintro e v7 ⟨rfl, rfl⟩)
            refine hK.out _ _ ?_ (fun hHeld24 => ?_)
            · (first | exact hHeld23)
            clear hHeld23 hK K
            try simp only [List.getElem_toArray, List.getElem_cons_zero, List.getElem_cons_succ, Act.put, List.setIfInBounds_toArray, List.set_cons_zero, List.set_cons_succ]
            refine wpAnyH_take (i := 16) (oi := _) (v := ?vr2n16_53) rfl (by kernel_rfl) (by kernel_rfl) (by kernel_rfl) (fun _ _ _ h => h) (Or.inl ⟨by kernel_rfl, ?hr2n16_53⟩) hHeld24 ?_
            case hr2n16_53 => (intro w hSw; (try dsimp only at hSw); go_simp; try (with_reducible rfl))
            try simp only [List.getElem_toArray, List.getElem_cons_zero, List.getElem_cons_succ, Act.put, List.setIfInBounds_toArray, List.set_cons_zero, List.set_cons_succ]
            refine wpAnyH_take (i := 20) (oi := _) (v := ?vr2n20_54) rfl (by kernel_rfl) (by kernel_rfl) (by kernel_rfl) (fun _ _ _ h => h) (Or.inl ⟨by kernel_rfl, ?hr2n20_54⟩) hHeld24 ?_
            case hr2n20_54 => (intro w hSw; (try dsimp only at hSw); go_simp; try (with_reducible rfl))
            try simp only [List.getElem_toArray, List.getElem_cons_zero, List.getElem_cons_succ, Act.put, List.setIfInBounds_toArray, List.set_cons_zero, List.set_cons_succ]
            refine wpAnyH_ready (rs := [22]) (by kernel_rfl) (by simp) ?_
            refine AllReadyH.cons (o := _) rfl (fun K hK => ?_) AllReadyH.nil
            (have hst := st_newD wr (n1 : Int) (n2 : Int) (n3 : Int) (n4 : Int) (fl : Int) (n5 : Int) 0 d; rw [sg0_lit] at hst)
            go_simp
            refine hK.out _ _ ?_ (fun hHeld25 => ?_)
            · (first | exact SrT.allocD HS1.out.drew _)
            clear hHeld24 hK K
            try simp only [List.getElem_toArray, List.getElem_cons_zero, List.getElem_cons_succ, Act.put, List.setIfInBounds_toArray, List.set_cons_zero, List.set_cons_succ]
            refine wpAnyH_done (by kernel_rfl) ?_ _
            refine NoPanic.normal ?_
            go_wp2_with fail
            go_meet
            exact ⟨wr.heap.size, rfl, (Blk.new wr 29 _ 0 0 (Or.inl (Nat.le_refl _))).drew, hHeld25, HSZ.out⟩
          refine AllReadyH.cons (o := _) rfl (fun K hK => ?_) AllReadyH.nil
          go_simp
          refine hK.out _ _ ?_ (fun hHeld26 => ?_)
          · (first | exact SrT.allocD hHeld _)
          clear hHeld hK K
          try simp only [List.getElem_toArray, List.getElem_cons_zero, List.getElem_cons_succ, Act.put, List.setIfInBounds_toArray, List.set_cons_zero, List.set_cons_succ]
          refine wpAnyH_ready (rs := [1]) (by kernel_rfl) (by simp) ?_
          refine AllReadyH.cons (o := _) rfl (fun K hK => ?_) AllReadyH.nil
          go_simp
          (go_at_call 26; refine (HT1.out _).mono ?_; rintro e v3 ⟨rfl, rfl⟩)
          refine hK.out _ _ ?_ (fun hHeld27 => ?_)
          · (first | exact hHeld26)
          clear hHeld26 hK K
          try simp only [List.getElem_toArray, List.getElem_cons_zero, List.getElem_cons_succ, Act.put, List.setIfInBounds_toArray, List.set_cons_zero, List.set_cons_succ]
          refine wpAnyH_take (i := 2) (oi := _) (v := ?vr2n2_55) rfl (by kernel_rfl) (by kernel_rfl) (by kernel_rfl) (fun _ _ _ h => h) (Or.inl ⟨by kernel_rfl, ?hr2n2_55⟩) hHeld27 ?_
          case hr2n2_55 => (intro w hSw; (try dsimp only at hSw); go_simp; try (with_reducible rfl))
          try simp only [List.getElem_toArray, List.getElem_cons_zero, List.getElem_cons_succ, Act.put, List.setIfInBounds_toArray, List.set_cons_zero, List.set_cons_succ]
          refine wpAnyH_ready (rs := [4]) (by kernel_rfl) (by simp) ?_
          refine AllReadyH.cons (o := _) rfl (fun K hK => ?_) AllReadyH.nil
          go_simp
          (go_at_call 26; refine (HT2.out _).mono ?_; rintro e v4 ⟨rfl, rfl⟩)
          refine hK.out _ _ ?_ (fun hHeld28 => ?_)
          · (first | exact hHeld27)
          clear hHeld27 hK K
          try simp only [List.getElem_toArray, List.getElem_cons_zero, List.getElem_cons_succ, Act.put, List.setIfInBounds_toArray, List.set_cons_zero, List.set_cons_succ]
          refine wpAnyH_take (i := 5) (oi := _) (v := ?vr2n5_56) rfl (by kernel_rfl) (by kernel_rfl) (by kernel_rfl) (fun _ _ _ h => h) (Or.inl ⟨by kernel_rfl, ?hr2n5_56⟩) hHeld28 ?_
          case hr2n5_56 => (intro w hSw; (try dsimp only at hSw); go_simp; try (with_reducible rfl))
          try simp only [List.getElem_toArray, List.getElem_cons_zero, List.getElem_cons_succ, Act.put, List.setIfInBounds_toArray, List.set_cons_zero, List.set_cons_succ]
          refine wpAnyH_ready (rs := [7]) (by kernel_rfl) (by simp) ?_
          refine AllReadyH.cons (o := _) rfl (fun K hK => ?_) AllReadyH.nil
          go_simp
          (go_at_call 26; refine (HT3.out _).mono ?_; rintro e v5 ⟨rfl, rfl⟩)
          refine hK.out _ _ ?_ (fun hHeld29 => ?_)
          · (first | exact hHeld28)
          clear hHeld28 hK K
          try simp only [List.getElem_toArray, List.getElem_cons_zero, List.getElem_cons_succ, Act.put, List.setIfInBounds_toArray, List.set_cons_zero, List.set_cons_succ]
          refine wpAnyH_ready (rs := [9]) (by kernel_rfl) (by simp) ?_
          refine AllReadyH.cons (o := _) rfl (fun K hK => ?_) AllReadyH.nil
          go_simp
          (go_at_call 26; refine (HT4.out _).mono ?_; rintro e v6 ⟨rfl, rfl⟩)
          refine hK.out _ _ ?_ (fun hHeld30 => ?_)
          · (first | exact hHeld29)
          clear hHeld29 hK K
          try simp only [List.getElem_toArray, List.getElem_cons_zero, List.getElem_cons_succ, Act.put, List.setIfInBounds_toArray, List.set_cons_zero, List.set_cons_succ]
          refine wpAnyH_ready (rs := [15]) (by kernel_rfl) (by simp) ?_
          refine AllReadyH.cons (o := _) rfl (fun K hK => ?_) AllReadyH.nil
          go_simp
          (go_at_call 26; refine (HT5.out _).mono ?_; rintro e v7 ⟨rfl, rfl⟩)
          refine hK.out _ _ ?_ (fun hHeld31 => ?_)
          · (first | exact hHeld30)
          clear hHeld30 hK K
          try simp only [List.getElem_toArray, List.getElem_cons_zero, List.getElem_cons_succ, Act.put, List.setIfInBounds_toArray, List.set_cons_zero, List.set_cons_succ]
          refine wpAnyH_take (i := 16) (oi := _) (v := ?vr2n16_57) rfl (by kernel_rfl) (by kernel_rfl) (by kernel_rfl) (fun _ _ _ h => h) (Or.inl ⟨by kernel_rfl, ?hr2n16_57⟩) hHeld31 ?_
          case hr2n16_57 => (intro w hSw; (try dsimp only at hSw); go_simp; try (with_reducible rfl))
          try simp only [List.getElem_toArray, List.getElem_cons_zero, List.getElem_cons_succ, Act.put, List.setIfInBounds_toArray, List.set_cons_zero, List.set_cons_succ]
          refine wpAnyH_take (i := 20) (oi := _) (v := ?vr2n20_58) rfl (by kernel_rfl) (by kernel_rfl) (by kernel_rfl) (fun _ _ _ h => h) (Or.inl ⟨by kernel_rfl, ?hr2n20_58⟩) hHeld31 ?_
          case hr2n20_58 => (intro w hSw; (try dsimp only at hSw); go_simp; try (with_reducible rfl))
          try simp only [List.getElem_toArray, List.getElem_cons_zero, List.getElem_cons_succ, Act.put, List.setIfInBounds_toArray, List.set_cons_zero, List.set_cons_succ]
          refine wpAnyH_ready (rs := [22]) (by kernel_rfl) (by simp) ?_
          refine AllReadyH.cons (o := _) rfl (fun K hK => ?_) AllReadyH.nil
          (have hst := st_newD wr (n1 : Int) (n2 : Int) (n3 : Int) (n4 : Int) (fl : Int) (n5 : Int) 0 d; rw [sg0_lit] at hst)
          go_simp
          refine hK.out _ _ ?_ (fun hHeld32 => ?_)
          · (first | exact SrT.allocD HS1.out.drew _)
          clear hHeld31 hK K
          try simp only [List.getElem_toArray, List.getElem_cons_zero, List.getElem_cons_succ, Act.put, List.setIfInBounds_toArray, List.set_cons_zero, List.set_cons_succ]
          refine wpAnyH_done (by kernel_rfl) ?_ _
          refine NoPanic.normal ?_
          go_wp2_with fail
          go_meet
          exact ⟨wr.heap.size, rfl, (Blk.new wr 29 _ 0 0 (Or.inl (Nat.le_refl _))).drew, hHeld32, HSZ.out⟩
        case rest =>
          obtain ⟨g, rfl, hK, hS, hgt⟩ := hcut
          have HS3 := Lib.hid hS
          have HK := Lib.hid hK
          have HG := Lib.hid hgt
          have dk := hK.ld_sg
          have hHas := Lib.hid (fun w => has_any n1 n2 n3 n4 n5 0 fl (by omega) d w)
          clear hK hS hgt
          go_wp2_with fail
          refine (hHas.out _).mono ?_
          rintro e w5 ⟨rfl, hb5⟩
          have HS5 := Lib.hid (HS3.out.step hb5)
          have HK5 := Lib.hid (HK.out.step hb5)
          have c6 := (sg_at HK5.out).ms
          have f6 := HK5.out.free 6 (by show 6 < 8; decide)
          have dk5 := HK5.out.ld_sg
          clear hb5 dk
          by_cases hc : fl / 2 % 2 = 1
          · have hc' : (fl / 2 % 2 == 1) = true := by rw [hc]; rfl
            rw [hc']
            have HK6 : RowKit.Hid (Blk (w5.setCell ⟨g, 6, none⟩ (.int .i64 (m : Int))) g 29 (sgC n1 n2 n3 n4 fl n5 m d)) := HK5.out.set 6 (.int .i64 (m : Int))
            have HS6 := Lib.hid (HS5.out.set1 HG.out 6 (.int .i64 (m : Int)))
            clear dk5
            go_upto_region 28 with fail
            generalize World.setCell _ _ _ = W6 at HK6 HS6 ⊢
            have dk := HK6.out.ld_sg
            go_wp2_with (refine wpList_store_blk rfl 29 _ _ rfl (w.heap.size + 1 + 1) (sgC n1 n2 n3 n4 fl n5 m d) rfl rfl sg0 29 HS6.out.res rfl size_sg rfl ?_)
            exact bodyPost_ret (results_blk Try.results12 _ _ (w.heap.size + 1 + 1) _ _ _ rfl (HS6.out.res.setAll rfl) Try.underlying29 rfl size_sg) rfl ⟨by rw [HV.out, HE.out, if_pos hc]; rfl, Below.setCells HS6.out.bel (by omega) _ _⟩
          · have hc' : (fl / 2 % 2 == 1) = false := by simpa using hc
            rw [hc']
            go_wp2_with (refine wpList_store_blk rfl 29 _ _ rfl (w.heap.size + 1 + 1) (sgC n1 n2 n3 n4 fl n5 0 d) rfl rfl sg0 29 HS5.out.res rfl size_sg rfl ?_)
            exact bodyPost_ret (results_blk Try.results12 _ _ (w.heap.size + 1 + 1) _ _ _ rfl (HS5.out.res.setAll rfl) Try.underlying29 rfl size_sg) rfl ⟨by rw [HV.out, HE.out, if_neg hc]; rfl, Below.setCells HS5.out.bel (by omega) _ _⟩
end Go.Proofs.Ytccbgiapabkjbaa
