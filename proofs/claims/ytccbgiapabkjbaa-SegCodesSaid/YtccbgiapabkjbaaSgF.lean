/- What the reference's Bytes of a segment computes: the same as package seg's. -/
import Derived.Test.YtccbgiapabkjbaaSgB
import Derived.Test.YtccbgiapabkjbaaSgE
namespace Go.Proofs.Ytccbgiapabkjbaa
set_option linter.unusedVariables false
set_option linter.unusedSimpArgs false
set_option maxRecDepth 100000
open Go.RowKit
attribute [local go_sem ↓] Go.wp_at_zero Go.wp_at_succ
attribute [local go_sem ↓] ld_sg ld_ip

theorem row_step {w w' : World} {B : Nat} {e : TypeId} {v : Value} {n : Nat} {xs : List Value} (h : w.ownsRow B e 1 v n xs) (hb : Below w.heap.size w w') : w'.ownsRow B e 1 v n xs := by
  obtain ⟨hl, h⟩ := h
  refine ⟨hl, ?_⟩
  rcases h with h | ⟨g, cap, cur, hv, hb0, hh, hc, hm, hs, ht⟩
  · exact Or.inl h
  · have hlt : g < w.heap.size := (Array.getElem?_eq_some_iff.1 hh).1
    exact Or.inr ⟨g, cap, cur, hv, hb0, (hb.block g hlt).trans hh, hc, hm, hs, ht⟩
theorem byt_news {w : World} {e : TypeId} {b : Nat} {l : List UInt8} (h : Byt w e b l) : ∀ j u, (l.map ubv)[j]? = some u → w.cell? ((⟨b, 0, none⟩ : Addr).add j) = some u := by
  intro j u hj
  rw [List.getElem?_map] at hj
  by_cases hl : j < l.length
  · rw [List.getElem?_eq_getElem hl] at hj
    rw [h.at j hl]
    simpa using hj
  · rw [List.getElem?_eq_none (by omega)] at hj
    cases hj
theorem ubv_one (l : List UInt8) : ∀ u ∈ l.map ubv, u.oneCell' = true := by
  intro u hu
  rw [List.mem_map] at hu
  obtain ⟨x, _, rfl⟩ := hu
  rfl
theorem SgQ.grown {w0 w w' : World} {f t : List UInt8} {C : Array Value} {B : Nat} {e : TypeId} {v : Value} {n : Nat} {xs : List Value} (h : SgQ w0 f t C w) (ho : w.ownsRow B e 1 v n xs) (hB : w0.heap.size + 1 + 1 < B) (hg : w.grownBy w' v.ownBlock) : SgQ w0 f t C w' :=
  ⟨h.s.grown hg (row_ne (t := e) ho (by omega)), h.f.grown hg (row_ne (t := e) ho (by omega)), h.t.grown hg (row_ne (t := e) ho (by omega)), h.bel.grown hg h.bel.size (fun q hq => by have := (ho.lt q hq).1; omega)⟩

set_option maxHeartbeats 1000000 in
theorem four_any (S : Nat) (hS : S ≤ 4294967295) (w : World) :
    Calls Try.prog 32 #[.int .u32 (S : Int)] w fun e w' => e = .returned (.slice (some ⟨w.heap.size, 0, none⟩) 4 4) ∧ Byt w' 5 w.heap.size (bq S) ∧ Below w.heap.size w w' := by
  have e : bq (S : Int) = [UInt8.ofNat (S / 16777216), UInt8.ofNat (S / 65536), UInt8.ofNat (S / 256), UInt8.ofNat S] := be4 (S : Int)
  rw [e]
  clear e
  have a1 : (S : Int) / 16777216 = ((S / 16777216 : Nat) : Int) := by omega
  have a2 : (S : Int) / 65536 = ((S / 65536 : Nat) : Int) := by omega
  have a3 : (S : Int) / 256 = ((S / 256 : Nat) : Int) := by omega
  have b1 : IntKind.u8.wrap ((S / 16777216 : Nat) : Int) = ((UInt8.ofNat (S / 16777216)).toNat : Int) := by rw [UInt8.toNat_ofNat']; simp [IntKind.wrap, IntKind.bits, IntKind.signed]
  have b2 : IntKind.u8.wrap ((S / 65536 : Nat) : Int) = ((UInt8.ofNat (S / 65536)).toNat : Int) := by rw [UInt8.toNat_ofNat']; simp [IntKind.wrap, IntKind.bits, IntKind.signed]
  have b3 : IntKind.u8.wrap ((S / 256 : Nat) : Int) = ((UInt8.ofNat (S / 256)).toNat : Int) := by rw [UInt8.toNat_ofNat']; simp [IntKind.wrap, IntKind.bits, IntKind.signed]
  have b4 : IntKind.u8.wrap (S : Int) = ((UInt8.ofNat S).toNat : Int) := by rw [UInt8.toNat_ofNat']; simp [IntKind.wrap, IntKind.bits, IntKind.signed]
  generalize UInt8.ofNat (S / 16777216) = x1 at b1 ⊢
  generalize UInt8.ofNat (S / 65536) = x2 at b2 ⊢
  generalize UInt8.ofNat (S / 256) = x3 at b3 ⊢
  generalize UInt8.ofNat S = x4 at b4 ⊢
  generalize S / 16777216 = s1 at a1 b1
  generalize S / 65536 = s2 at a2 b2
  generalize S / 256 = s3 at a3 b3
  go_enter Try.func32, Try.ntmps32
  go_wp2
  go_ret
  exact ⟨rfl, byt_lit w 5 [x1, x2, x3, x4] _ rfl, (Below.refl _ w).alloc (Nat.le_refl _) _⟩

/-- a number's two bytes, as the reference makes them -/
structure Two (F : Nat) (hi lo : UInt8) (F1 F2 : Nat) : Prop where
  q : IntKind.i64.wrap ((F : Int) / 256) = (F1 : Int)
  qu : IntKind.u8.wrap (F1 : Int) = (F1 : Int)
  r : (F : Int).tmod 256 = (F2 : Int)
  ru : IntKind.u8.wrap (F2 : Int) = (F2 : Int)
  h : (F1 : Int) = (hi.toNat : Int)
  l : (F2 : Int) = (lo.toNat : Int)
theorem two_of (F : Nat) (h : F ≤ 65535) : ∃ hi lo F1 F2, be F = [hi, lo] ∧ Two F hi lo F1 F2 := by
  refine ⟨_, _, F / 256, F % 256, rfl, ?_, ?_, ?_, ?_, ?_, ?_⟩
  · rw [IntWalk.i64_in _ (by omega)]; omega
  · exact u8in' _ (by omega)
  · rw [Int.tmod_eq_emod_of_nonneg (by omega)]; omega
  · exact u8in' _ (by omega)
  · rw [ofNat_toNat _ (by omega)]
  · rw [UInt8.toNat_ofNat']

set_option maxHeartbeats 4000000 in
theorem refBytes_no (f t : List UInt8) (hL : IpL f t) (fr tp sq ak fl wi ms : Int) (d : List UInt8) (hM : sgMay fr tp fl wi ms = false) (w : World) :
    Calls Try.prog 14 #[.agg (sgC fr tp sq ak fl wi ms d), arrV f, arrV t] w fun e w' => e = .returned (.tuple #[.string ⟨([] : List UInt8).toArray⟩, .int .i64 1]) ∧ Below w.heap.size w w' := by
  have HQ := Lib.hid (sgq_new w f t (sgC fr tp sq ak fl wi ms d))
  unfold sgMay at hM
  have HM := Lib.hid hM
  clear hM
  go_enter Try.func14, Try.ntmps14
  go_upto_region 1 with fail
  generalize World.alloc _ _ = w1 at HQ ⊢
  obtain ⟨c0, c1, -, -, c4, c5, c6, -⟩ := sg_at HQ.out.s
  cases e0 : sgTwo fr
  · go_wp2_with (go_at_call 31; refine (small_v (by assumption)).mono ?_; rintro e wv ⟨rfl, rfl⟩)
    go_ret2
    exact ⟨rfl, HQ.out.bel⟩
  cases e1 : sgTwo tp
  · go_wp2_with (go_at_call 31; refine (small_v (by assumption)).mono ?_; rintro e wv ⟨rfl, rfl⟩)
    go_ret2
    exact ⟨rfl, HQ.out.bel⟩
  cases e2 : sgTwo wi
  · go_wp2_with (go_at_call 31; refine (small_v (by assumption)).mono ?_; rintro e wv ⟨rfl, rfl⟩)
    go_ret2
    exact ⟨rfl, HQ.out.bel⟩
  cases e3 : sgTwo ms
  · go_wp2_with (go_at_call 31; refine (small_v (by assumption)).mono ?_; rintro e wv ⟨rfl, rfl⟩)
    go_ret2
    exact ⟨rfl, HQ.out.bel⟩
  by_cases e4 : fl < 0
  · go_wp2_with (go_at_call 31; refine (small_v (by assumption)).mono ?_; rintro e wv ⟨rfl, rfl⟩)
    go_ret2
    exact ⟨rfl, HQ.out.bel⟩
  obtain ⟨FL, rfl⟩ := Int.eq_ofNat_of_zero_le (show 0 ≤ fl by omega)
  by_cases e5 : (31 : Int) < FL
  · go_wp2_with (go_at_call 31; refine (small_v (by assumption)).mono ?_; rintro e wv ⟨rfl, rfl⟩)
    go_ret2
    exact ⟨rfl, HQ.out.bel⟩
  have hm := sgTwo_yes e3
  have hm0 : ¬ ms = 0 := by
    intro h0
    have h31 : (FL : Int) ≤ 31 := by omega
    have h00 : (0 : Int) ≤ (FL : Int) := by omega
    have h := HM.out
    rw [e0, e1, e2, e3, decide_eq_true h00, decide_eq_true h31, decide_eq_true h0] at h
    simp at h
  have hms : 0 < ms := by omega
  have hfl : (FL / 2 % 2 == 1) = false := by
    have hb := sg_bit1 FL (by omega)
    have h2 := HM.out
    rw [Bool.eq_false_iff]
    intro h
    rw [beq_iff_eq] at h
    rw [if_pos h] at hb
    have e6 : (FL : Int) ≤ 31 := by omega
    simp [e0, e1, e2, e3, e6, hm0, sgF, hb] at h2
  have hHas := Lib.hid (fun w => has_any fr tp sq ak wi ms FL (by omega) d w)
  have dl := HQ.out.s.ld_sg
  clear hm hm0
  go_wp2_with (first | (go_at_call 31; refine (small_v (by assumption)).mono ?_; rintro e wv ⟨rfl, rfl⟩) | (go_at_call 27; refine (hHas.out _).mono ?_; rintro e w5 ⟨rfl, hb5⟩; rw [hfl]; have HQ5 := Lib.hid (HQ.out.step hb5); clear hb5))
  go_ret2
  exact ⟨rfl, HQ5.out.bel⟩
theorem sgAhead_len16 (fr tp sq ak fl wi : Int) (n : Nat) : (sgAhead fr tp sq ak fl wi n).length = 16 := by
  simp only [sgAhead, be, List.length_append, bq_len, List.length_cons, List.length_nil]
theorem strCells_list (l : List UInt8) : Lib.strCells ⟨l.toArray⟩ = l.map ubv := by simp [Lib.strCells]

set_option maxHeartbeats 4000000 in
theorem refBytes_ok0 (f t : List UInt8) (hL : IpL f t) (fr tp S K FL wi : Nat) (ms : Int) (d : List UInt8) (hd : d.length ≤ 9223372036854775000) (h1 : fr ≤ 65535) (h2 : tp ≤ 65535) (h3 : wi ≤ 65535) (h4 : FL ≤ 31) (hS : S ≤ 4294967295) (hK : K ≤ 4294967295) (hms : ms = 0) (w : World) :
    Calls Try.prog 14 #[.agg (sgC fr tp S K FL wi ms d), arrV f, arrV t] w fun e w' => e = .returned (.tuple #[.string ⟨(if 546 < 0 + d.length then ([], 3) else (sgOut f t fr tp S K FL wi ms d, 0) : List UInt8 × Int).1.toArray⟩, .int .i64 (if 546 < 0 + d.length then ([], 3) else (sgOut f t fr tp S K FL wi ms d, 0) : List UInt8 × Int).2]) ∧ Below w.heap.size w w' := by
  subst hms
  have HQ := Lib.hid (sgq_new w f t (sgC fr tp S K FL wi (0 : Int) d))
  have HL := Lib.hid hL
  have e0 : sgTwo (fr : Int) = true := decide_eq_true (by omega)
  have e1 : sgTwo (tp : Int) = true := decide_eq_true (by omega)
  have e2 : sgTwo (wi : Int) = true := decide_eq_true (by omega)
  have e3 : sgTwo (0 : Int) = true := decide_eq_true (by omega)
  have e4 : ¬ (FL : Int) < 0 := by omega
  have e5 : ¬ (31 : Int) < FL := by omega
  have lw1 : IntKind.i64.wrap (d.length : Int) = (d.length : Int) := IntWalk.i64_in _ (by omega)
  have lw2 : IntKind.i64.wrap ((d.length : Int) + 4) = (d.length : Int) + 4 := IntWalk.i64_in _ (by omega)
  by_cases h5 : 546 < 0 + d.length
  · rw [if_pos h5]
    have h5' : (546 : Int) < (d.length : Int) := by omega
    go_enter Try.func14, Try.ntmps14
    go_upto_region 1 with fail
    generalize World.alloc _ _ = w1 at HQ ⊢
    obtain ⟨c0, c1, -, -, c4, c5, c6, c7⟩ := sg_at HQ.out.s
    have dl := HQ.out.s.ld_sg
    go_wp2_with (go_at_call 31; refine (small_v (by assumption)).mono ?_; rintro e wv ⟨rfl, rfl⟩)
    go_ret2
    exact ⟨rfl, HQ.out.bel⟩
  rw [if_neg h5]
  have h5' : (d.length : Int) ≤ 546 := by omega
  have hd' : d.length ≤ 546 := by omega
  obtain ⟨fh, fl', F1, F2, hbF, hF⟩ := two_of fr h1
  obtain ⟨th, tl, T1, T2, hbT, hT⟩ := two_of tp h2
  obtain ⟨wh, wl, W1, W2, hbW, hW⟩ := two_of wi h3
  obtain ⟨i0, hi, hz0, hz1, hz2⟩ := info_parts info_u8
  have u1 : IntKind.u8.wrap (FL : Int) = (FL : Int) := u8in' _ (by omega)
  have u2 : (FL : Int) = ((UInt8.ofNat FL).toNat : Int) := by rw [ofNat_toNat _ (by omega)]
  have k0 : IntKind.i64.wrap 0 = 0 := by decide
  have k1 : IntKind.i64.wrap 0 = 0 := by decide
  have k2 : IntKind.i64.wrap 80 = 80 := by decide
  have k3 : IntKind.u8.wrap 80 = 80 := by decide
  have HC0 : RowKit.Hid ((#[.int .u8 (F1 : Int), .int .u8 (F2 : Int), .int .u8 (T1 : Int), .int .u8 (T2 : Int)] : Array Value) = (([fh, fl', th, tl] : List UInt8).map ubv).toArray) := by
    show (#[.int .u8 (F1 : Int), .int .u8 (F2 : Int), .int .u8 (T1 : Int), .int .u8 (T2 : Int)] : Array Value) = #[.int .u8 (fh.toNat : Int), .int .u8 (fl'.toNat : Int), .int .u8 (th.toNat : Int), .int .u8 (tl.toNat : Int)]
    rw [hF.h, hF.l, hT.h, hT.l]
  obtain ⟨yf, hyf⟩ : ∃ y, y = UInt8.ofNat FL := ⟨_, rfl⟩
  rw [← hyf] at u2
  have HC1 : RowKit.Hid ((#[.int .u8 80, .int .u8 (FL : Int), .int .u8 (W1 : Int), .int .u8 (W2 : Int), .int .u8 0, .int .u8 0, .int .u8 0, .int .u8 0] : Array Value) = (([80, yf, wh, wl, 0, 0, 0, 0] : List UInt8).map ubv).toArray) := by
    show (#[.int .u8 80, .int .u8 (FL : Int), .int .u8 (W1 : Int), .int .u8 (W2 : Int), .int .u8 0, .int .u8 0, .int .u8 0, .int .u8 0] : Array Value) = #[.int .u8 80, .int .u8 (yf.toNat : Int), .int .u8 (wh.toNat : Int), .int .u8 (wl.toNat : Int), .int .u8 0, .int .u8 0, .int .u8 0, .int .u8 0]
    rw [← u2, hW.h, hW.l]
  obtain ⟨hFq, hFqu, hFr, hFru, -, -⟩ := hF
  obtain ⟨hTq, hTqu, hTr, hTru, -, -⟩ := hT
  obtain ⟨hWq, hWqu, hWr, hWru, -, -⟩ := hW
  obtain ⟨LL, hLL⟩ : ∃ LL, LL = [fh, fl', th, tl] ++ bq S ++ bq K ++ [80, yf, wh, wl, 0, 0, 0, 0] ++ d := ⟨_, rfl⟩
  have hlq1 := bq_len S
  have hlq2 := bq_len K
  have hahd : sgAhead fr tp S K FL wi 0 = [fh, fl', th, tl] ++ bq S ++ bq K ++ [80, yf, wh, wl] := by
    rw [sgAhead, Int.toNat_natCast, Int.toNat_natCast, Int.toNat_natCast, Int.toNat_natCast, hbF, hbT, hbW, hyf]
    simp only [List.append_assoc]
    rfl
  have hopt : sgOpt (0 : Int) = [] := by rw [sgOpt, if_pos rfl]
  have hLA : LL = sgAhead fr tp S K FL wi 0 ++ [0, 0] ++ sgBehind (0 : Int) d := by
    rw [hLL, hahd, sgBehind, hopt]
    simp only [List.append_assoc, List.cons_append, List.nil_append]
  have hlLL : LL.length = 20 + 0 + d.length := by
    rw [hLL]
    simp only [List.length_append, List.length_cons, List.length_nil, hlq1, hlq2]
  have hsum := fun w => refSgSum_any LL f t hL (by omega) w
  have hsin : 0 ≤ sgS f t LL ∧ sgS f t LL ≤ 65535 := sumE_in _
  obtain ⟨N, hN⟩ : ∃ N : Nat, sgS f t LL = (N : Int) := ⟨_, (Int.toNat_of_nonneg hsin.1).symm⟩
  have hOut : sgOut f t fr tp S K FL wi (0 : Int) d = (LL.set 16 (UInt8.ofNat (N / 256))).set 17 (UInt8.ofNat N) := by
    have e : (sgOpt (0 : Int)).length = 0 := by rw [hopt]; rfl
    have hla : (sgAhead fr tp S K FL wi 0).length = 16 := sgAhead_len16 _ _ _ _ _ _ _
    rw [sgOut, e, ← hLA, hN, Int.toNat_natCast, hLA]
    generalize sgAhead fr tp S K FL wi 0 = A at hla ⊢
    generalize sgBehind (0 : Int) d = Bh
    have e1 : A ++ [0, 0] ++ Bh = A ++ 0 :: 0 :: Bh := by simp
    rw [e1, List.set_append_right _ _ (by omega), List.set_append_right _ _ (by omega), hla]
    simp [be]
  rw [hN] at hsum hsin
  obtain ⟨sh, sl, S1, S2, hbS, hSs⟩ := two_of N (by omega)
  have hbS' : UInt8.ofNat (N / 256) = sh ∧ UInt8.ofNat N = sl := by
    unfold be at hbS
    simp only [List.cons.injEq, and_true] at hbS
    exact hbS
  rw [hbS'.1, hbS'.2] at hOut
  obtain ⟨hSq, hSqu, hSr, hSru, hSh, hSl⟩ := hSs
  have HSH := Lib.hid hSh
  have HSL := Lib.hid hSl
  have HOUT := Lib.hid hOut
  have HSUM := Lib.hid hsum
  have HLL := Lib.hid hLL
  have HLLn := Lib.hid hlLL
  have H4S := Lib.hid (fun w => four_any S hS w)
  have H4K := Lib.hid (fun w => four_any K hK w)
  have HQ1 := Lib.hid hlq1
  have HQ2 := Lib.hid hlq2
  clear hbF hbT hbW hyf u2 hahd hopt hLA hsin hN hbS hbS' hOut hsum hSh hSl hLL hlLL hlq1 hlq2 hL
  go_enter Try.func14, Try.ntmps14
  go_upto_region 1 with fail
  generalize World.alloc _ _ = w1 at HQ ⊢
  obtain ⟨c0, c1, -, -, c4, c5, c6, c7⟩ := sg_at HQ.out.s
  have dl := HQ.out.s.ld_sg
  go_upto_region 9 with (go_at_call 31; refine (small_v (by assumption)).mono ?_; rintro e wv ⟨rfl, rfl⟩)
  have HO : RowKit.Hid ((wv.alloc (.cells #[.int .u8 (F1 : Int), .int .u8 (F2 : Int), .int .u8 (T1 : Int), .int .u8 (T2 : Int)] 5)).ownsRow wv.heap.size 5 1 (.slice (some ⟨wv.heap.size, 0, none⟩) 4 4) 4 (([fh, fl', th, tl] : List UInt8).map ubv)) := row_new wv 5 [fh, fl', th, tl] _ HC0.out (by show 4 ≤ maxLen; decide)
  have Q0 := Lib.hid (HQ.out.alloc (.cells #[.int .u8 (F1 : Int), .int .u8 (F2 : Int), .int .u8 (T1 : Int), .int .u8 (T2 : Int)] 5))
  have hBl := HQ.out.t.lt
  have hBz : wv.heap.size ≤ (wv.alloc (.cells #[.int .u8 (F1 : Int), .int .u8 (F2 : Int), .int .u8 (T1 : Int), .int .u8 (T2 : Int)] 5)).heap.size := by rw [size_alloc]; omega
  generalize World.alloc _ _ = wA at HO Q0 hBz ⊢
  generalize wv.heap.size = B at HO hBl hBz ⊢
  clear c0 c1 c4 c5 c6 c7 dl
  have c2 := (sg_at Q0.out.s).sq
  go_wp2_with fail
  refine (H4S.out _).mono ?_
  rintro e wB ⟨rfl, hby, hb⟩
  have HY1 := Lib.hid hby
  have HO1 := Lib.hid (row_step HO.out hb)
  have Q1 := Lib.hid (Q0.out.step hb)
  have hz1' := hb.size
  clear hb hby c2 HO Q0
  have tokA : True := trivial
  go_wp2_with (have _t := tokA; clear tokA; at_builtin; refine wpList_append_own _ rfl (.tmp 79) (.tmp 82) 26 rfl B 5 i0 (.int .u8 0) 1 1 Try.underlying26 hi hz0 hz1 hz2 rfl (by decide) _ _ _ rfl HO1.out ⟨wA.heap.size, 0, none⟩ 4 4 ((bq S).map ubv) rfl (by simp [HQ1.out]) (byt_news HY1.out) (ubv_one _) (by unfold maxLen; simp) (by simp) (by omega) ?_; intro v1 wC hown hg _; rw [← List.map_append] at hown; have HO2 := Lib.hid hown; have Q2 := Lib.hid (Q1.out.grown HO1.out hBl hg); have hz2' := hg.size; clear hown hg HY1 HO1 Q1; have c3 := (sg_at Q2.out.s).ak)
  refine (H4K.out _).mono ?_
  rintro e wD ⟨rfl, hby, hb⟩
  have HY3 := Lib.hid hby
  have HO3 := Lib.hid (row_step HO2.out hb)
  have Q3 := Lib.hid (Q2.out.step hb)
  have hz3' := hb.size
  clear hb hby c3 HO2 Q2
  have tokB : True := trivial
  go_upto_region 11 with (have _t := tokB; clear tokB; at_builtin; refine wpList_append_own _ rfl (.tmp 84) (.tmp 87) 26 rfl B 5 i0 (.int .u8 0) 1 1 Try.underlying26 hi hz0 hz1 hz2 rfl (by decide) _ _ _ rfl HO3.out ⟨wC.heap.size, 0, none⟩ 4 4 ((bq K).map ubv) rfl (by simp [HQ2.out]) (byt_news HY3.out) (ubv_one _) (by unfold maxLen; simp) (by simp) (by omega) ?_; intro v2 wE hown hg _; rw [← List.map_append] at hown; have HO4 := Lib.hid hown; have Q4 := Lib.hid (Q3.out.grown HO3.out hBl hg); have hz4' := hg.size; clear hown hg HY3 HO3 Q3)
  have c4 := (sg_at Q4.out.s).fl
  have c5 := (sg_at Q4.out.s).wi
  have HY5 := Lib.hid (byt_lit wE 5 [80, yf, wh, wl, 0, 0, 0, 0] _ HC1.out)
  have HO5 := Lib.hid (HO4.out.alloc (.cells #[.int .u8 80, .int .u8 (FL : Int), .int .u8 (W1 : Int), .int .u8 (W2 : Int), .int .u8 0, .int .u8 0, .int .u8 0, .int .u8 0] 5))
  have Q5 := Lib.hid (Q4.out.alloc (.cells #[.int .u8 80, .int .u8 (FL : Int), .int .u8 (W1 : Int), .int .u8 (W2 : Int), .int .u8 0, .int .u8 0, .int .u8 0, .int .u8 0] 5))
  have tokC : True := trivial
  go_upto_region 14 with (have _t := tokC; clear tokC; at_builtin; refine wpList_append_own _ rfl (.tmp 89) (.tmp 105) 26 rfl B 5 i0 (.int .u8 0) 1 1 Try.underlying26 hi hz0 hz1 hz2 rfl (by decide) _ _ _ rfl HO5.out ⟨wE.heap.size, 0, none⟩ 8 8 (([80, yf, wh, wl, 0, 0, 0, 0] : List UInt8).map ubv) rfl (by simp) (byt_news HY5.out) (ubv_one _) (by unfold maxLen; simp) (by simp) (by rw [size_alloc]; omega) ?_; intro v3 wF hown hg _; rw [← List.map_append] at hown; have HO6 := Lib.hid hown; have Q6 := Lib.hid (Q5.out.grown HO5.out hBl hg); have hz6' := hg.size; rw [size_alloc] at hz6'; clear hown hg HY5 HO5 Q5 HO4 Q4 c4 c5)
  have c7 := (sg_at Q6.out.s).d
  have tokE : True := trivial
  go_upto_region 15 with (have _t := tokE; clear tokE; at_builtin; refine Lib.wpList_append_own_string _ rfl (.tmp 120) (.tmp 122) 26 9 rfl B 5 i0 Try.underlying26 Try.underlying9 hi hz0 hz1 hz2 _ (4 + 4 + 4 + 8) _ rfl HO6.out ⟨d.toArray⟩ rfl (by unfold maxLen; show 4 + 4 + 4 + 8 + d.length ≤ _; omega) (by show 4 + 4 + 4 + 8 + d.length ≤ _; omega) (by omega) ?_; intro v5 wH hown hg _; rw [strCells_list, ← List.map_append, ← HLL.out] at hown; have HO9 := Lib.hid hown; have Q9 := Lib.hid (Q6.out.grown HO6.out hBl hg); clear hown hg HO6 Q6 c7)
  obtain ⟨g, cap, rfl, hge, hy, hln⟩ := Byt.of_row HO9.out (by omega)
  rw [← hln]
  have HY9 := Lib.hid hy
  have hcv := byt_conv hy rfl cap
  have df := Q9.out.f.ld_ip HL.out.f
  have dt := Q9.out.t.ld_ip HL.out.t
  clear hy HO9 hln
  go_wp2_with fail
  refine (HSUM.out _).mono ?_
  rintro e wI ⟨rfl, hb⟩
  have HYA := Lib.hid (HY9.out.step hb)
  have QA := Lib.hid (Q9.out.step hb)
  clear hb hcv df dt HY9 Q9
  have l16 : (16 : Int) < (LL.length : Int) := by have := HLLn.out; omega
  have l17 : (17 : Int) < (LL.length : Int) := by have := HLLn.out; omega
  have d16 := HYA.out.cell 16 (by have := HLLn.out; omega)
  have d17 := HYA.out.cell 17 (by have := HLLn.out; omega)
  have z16 := HYA.out.free 16 (by have := HLLn.out; omega)
  have z17 := HYA.out.free 17 (by have := HLLn.out; omega)
  have hys := (HYA.out.set 16 (by have := HLLn.out; omega) sh).set 17 (by rw [List.length_set]; have := HLLn.out; omega) sl
  have hbk := byt_conv hys (n := LL.length) (by rw [List.length_set, List.length_set]) cap
  rw [← HSH.out, ← HSL.out, ← HOUT.out] at hbk
  have hgw : w.heap.size ≤ g := by omega
  clear hys
  go_wp2
  go_ret2
  exact ⟨rfl, ((QA.out.bel.setCell (p := ⟨g, 16, none⟩) hgw _).setCell (p := ⟨g, 17, none⟩) hgw _)⟩

set_option maxHeartbeats 4000000 in
theorem refBytes_ok4 (f t : List UInt8) (hL : IpL f t) (fr tp S K FL wi : Nat) (ms : Nat) (d : List UInt8) (hd : d.length ≤ 9223372036854775000) (h1 : fr ≤ 65535) (h2 : tp ≤ 65535) (h3 : wi ≤ 65535) (h4 : FL ≤ 31) (hS : S ≤ 4294967295) (hK : K ≤ 4294967295) (hms1 : 0 < ms) (hms2 : ms ≤ 65535) (hflag : FL / 2 % 2 = 1) (w : World) :
    Calls Try.prog 14 #[.agg (sgC fr tp S K FL wi ms d), arrV f, arrV t] w fun e w' => e = .returned (.tuple #[.string ⟨(if 546 < 4 + d.length then ([], 3) else (sgOut f t fr tp S K FL wi ms d, 0) : List UInt8 × Int).1.toArray⟩, .int .i64 (if 546 < 4 + d.length then ([], 3) else (sgOut f t fr tp S K FL wi ms d, 0) : List UInt8 × Int).2]) ∧ Below w.heap.size w w' := by
  have HQ := Lib.hid (sgq_new w f t (sgC fr tp S K FL wi ms d))
  have HL := Lib.hid hL
  have e0 : sgTwo (fr : Int) = true := decide_eq_true (by omega)
  have e1 : sgTwo (tp : Int) = true := decide_eq_true (by omega)
  have e2 : sgTwo (wi : Int) = true := decide_eq_true (by omega)
  have e3 : sgTwo (ms : Int) = true := decide_eq_true (by omega)
  have e4 : ¬ (FL : Int) < 0 := by omega
  have e5 : ¬ (31 : Int) < FL := by omega
  have lw1 : IntKind.i64.wrap (d.length : Int) = (d.length : Int) := IntWalk.i64_in _ (by omega)
  have lw2 : IntKind.i64.wrap ((d.length : Int) + 4) = (d.length : Int) + 4 := IntWalk.i64_in _ (by omega)
  have hfl : (FL / 2 % 2 == 1) = true := by rw [hflag]; rfl
  have hHas := Lib.hid (fun w => has_any fr tp S K wi ms FL (by omega) d w)
  have hms' : (0 : Int) < (ms : Int) := by omega
  by_cases h5 : 546 < 4 + d.length
  · rw [if_pos h5]
    have h5' : (546 : Int) < (d.length : Int) + 4 := by omega
    go_enter Try.func14, Try.ntmps14
    go_upto_region 1 with fail
    generalize World.alloc _ _ = w1 at HQ ⊢
    obtain ⟨c0, c1, -, -, c4, c5, c6, c7⟩ := sg_at HQ.out.s
    have dl := HQ.out.s.ld_sg
    go_wp2_with (first | (go_at_call 31; refine (small_v (by assumption)).mono ?_; rintro e wv ⟨rfl, rfl⟩) | (go_at_call 27; refine (hHas.out _).mono ?_; rintro e w5 ⟨rfl, hb5⟩; rw [hfl]; have HQ5 := Lib.hid (HQ.out.step hb5); clear hb5; have c0 := (sg_at HQ5.out.s).fr; have c1 := (sg_at HQ5.out.s).tp; have c4 := (sg_at HQ5.out.s).fl; have c6 := (sg_at HQ5.out.s).ms; have c7 := (sg_at HQ5.out.s).d))
    go_ret2
    exact ⟨rfl, HQ5.out.bel⟩
  rw [if_neg h5]
  have h5' : (d.length : Int) + 4 ≤ 546 := by omega
  have hd' : d.length ≤ 546 := by omega
  obtain ⟨fh, fl', F1, F2, hbF, hF⟩ := two_of fr h1
  obtain ⟨th, tl, T1, T2, hbT, hT⟩ := two_of tp h2
  obtain ⟨wh, wl, W1, W2, hbW, hW⟩ := two_of wi h3
  obtain ⟨i0, hi, hz0, hz1, hz2⟩ := info_parts info_u8
  have u1 : IntKind.u8.wrap (FL : Int) = (FL : Int) := u8in' _ (by omega)
  have u2 : (FL : Int) = ((UInt8.ofNat FL).toNat : Int) := by rw [ofNat_toNat _ (by omega)]
  have k0 : IntKind.i64.wrap 0 = 0 := by decide
  have k1 : IntKind.i64.wrap 16 = 16 := by decide
  have k2 : IntKind.i64.wrap 96 = 96 := by decide
  have k3 : IntKind.u8.wrap 96 = 96 := by decide
  have HC0 : RowKit.Hid ((#[.int .u8 (F1 : Int), .int .u8 (F2 : Int), .int .u8 (T1 : Int), .int .u8 (T2 : Int)] : Array Value) = (([fh, fl', th, tl] : List UInt8).map ubv).toArray) := by
    show (#[.int .u8 (F1 : Int), .int .u8 (F2 : Int), .int .u8 (T1 : Int), .int .u8 (T2 : Int)] : Array Value) = #[.int .u8 (fh.toNat : Int), .int .u8 (fl'.toNat : Int), .int .u8 (th.toNat : Int), .int .u8 (tl.toNat : Int)]
    rw [hF.h, hF.l, hT.h, hT.l]
  obtain ⟨yf, hyf⟩ : ∃ y, y = UInt8.ofNat FL := ⟨_, rfl⟩
  rw [← hyf] at u2
  have HC1 : RowKit.Hid ((#[.int .u8 96, .int .u8 (FL : Int), .int .u8 (W1 : Int), .int .u8 (W2 : Int), .int .u8 0, .int .u8 0, .int .u8 0, .int .u8 0] : Array Value) = (([96, yf, wh, wl, 0, 0, 0, 0] : List UInt8).map ubv).toArray) := by
    show (#[.int .u8 96, .int .u8 (FL : Int), .int .u8 (W1 : Int), .int .u8 (W2 : Int), .int .u8 0, .int .u8 0, .int .u8 0, .int .u8 0] : Array Value) = #[.int .u8 96, .int .u8 (yf.toNat : Int), .int .u8 (wh.toNat : Int), .int .u8 (wl.toNat : Int), .int .u8 0, .int .u8 0, .int .u8 0, .int .u8 0]
    rw [← u2, hW.h, hW.l]
  obtain ⟨hFq, hFqu, hFr, hFru, -, -⟩ := hF
  obtain ⟨hTq, hTqu, hTr, hTru, -, -⟩ := hT
  obtain ⟨hWq, hWqu, hWr, hWru, -, -⟩ := hW
  obtain ⟨mh, ml, M1, M2, hbM, hMs⟩ := two_of ms hms2
  have HC2 : RowKit.Hid ((#[.int .u8 2, .int .u8 4, .int .u8 (M1 : Int), .int .u8 (M2 : Int)] : Array Value) = (([2, 4, mh, ml] : List UInt8).map ubv).toArray) := by
    show (#[.int .u8 2, .int .u8 4, .int .u8 (M1 : Int), .int .u8 (M2 : Int)] : Array Value) = #[.int .u8 2, .int .u8 4, .int .u8 (mh.toNat : Int), .int .u8 (ml.toNat : Int)]
    rw [hMs.h, hMs.l]
  obtain ⟨hMq, hMqu, hMr, hMru, -, -⟩ := hMs
  obtain ⟨LL, hLL⟩ : ∃ LL, LL = [fh, fl', th, tl] ++ bq S ++ bq K ++ [96, yf, wh, wl, 0, 0, 0, 0] ++ [2, 4, mh, ml] ++ d := ⟨_, rfl⟩
  have hlq1 := bq_len S
  have hlq2 := bq_len K
  have hahd : sgAhead fr tp S K FL wi 4 = [fh, fl', th, tl] ++ bq S ++ bq K ++ [96, yf, wh, wl] := by
    rw [sgAhead, Int.toNat_natCast, Int.toNat_natCast, Int.toNat_natCast, Int.toNat_natCast, hbF, hbT, hbW, hyf]
    simp only [List.append_assoc]
    rfl
  have hopt : sgOpt ms = [2, 4, mh, ml] := by rw [sgOpt, if_neg (by omega), Int.toNat_natCast, hbM]; rfl
  have hLA : LL = sgAhead fr tp S K FL wi 4 ++ [0, 0] ++ sgBehind ms d := by
    rw [hLL, hahd, sgBehind, hopt]
    simp only [List.append_assoc, List.cons_append, List.nil_append]
  have hlLL : LL.length = 20 + 4 + d.length := by
    rw [hLL]
    simp only [List.length_append, List.length_cons, List.length_nil, hlq1, hlq2]
  have hsum := fun w => refSgSum_any LL f t hL (by omega) w
  have hsin : 0 ≤ sgS f t LL ∧ sgS f t LL ≤ 65535 := sumE_in _
  obtain ⟨N, hN⟩ : ∃ N : Nat, sgS f t LL = (N : Int) := ⟨_, (Int.toNat_of_nonneg hsin.1).symm⟩
  have hOut : sgOut f t fr tp S K FL wi ms d = (LL.set 16 (UInt8.ofNat (N / 256))).set 17 (UInt8.ofNat N) := by
    have e : (sgOpt ms).length = 4 := by rw [hopt]; rfl
    have hla : (sgAhead fr tp S K FL wi 4).length = 16 := sgAhead_len16 _ _ _ _ _ _ _
    rw [sgOut, e, ← hLA, hN, Int.toNat_natCast, hLA]
    generalize sgAhead fr tp S K FL wi 4 = A at hla ⊢
    generalize sgBehind ms d = Bh
    have e1 : A ++ [0, 0] ++ Bh = A ++ 0 :: 0 :: Bh := by simp
    rw [e1, List.set_append_right _ _ (by omega), List.set_append_right _ _ (by omega), hla]
    simp [be]
  rw [hN] at hsum hsin
  obtain ⟨sh, sl, S1, S2, hbS, hSs⟩ := two_of N (by omega)
  have hbS' : UInt8.ofNat (N / 256) = sh ∧ UInt8.ofNat N = sl := by
    unfold be at hbS
    simp only [List.cons.injEq, and_true] at hbS
    exact hbS
  rw [hbS'.1, hbS'.2] at hOut
  obtain ⟨hSq, hSqu, hSr, hSru, hSh, hSl⟩ := hSs
  have HSH := Lib.hid hSh
  have HSL := Lib.hid hSl
  have HOUT := Lib.hid hOut
  have HSUM := Lib.hid hsum
  have HLL := Lib.hid hLL
  have HLLn := Lib.hid hlLL
  have H4S := Lib.hid (fun w => four_any S hS w)
  have H4K := Lib.hid (fun w => four_any K hK w)
  have HQ1 := Lib.hid hlq1
  have HQ2 := Lib.hid hlq2
  clear hbF hbT hbW hyf u2 hahd hopt hLA hsin hN hbS hbS' hOut hsum hSh hSl hLL hlLL hlq1 hlq2 hL hbM
  go_enter Try.func14, Try.ntmps14
  go_upto_region 1 with fail
  generalize World.alloc _ _ = w1 at HQ ⊢
  obtain ⟨c0, c1, -, -, c4, c5, c6, c7⟩ := sg_at HQ.out.s
  have dl := HQ.out.s.ld_sg
  go_upto_region 9 with (first | (go_at_call 31; refine (small_v (by assumption)).mono ?_; rintro e wv ⟨rfl, rfl⟩) | (go_at_call 27; refine (hHas.out _).mono ?_; rintro e w5 ⟨rfl, hb5⟩; rw [hfl]; have HQ5 := Lib.hid (HQ.out.step hb5); clear hb5; have c0 := (sg_at HQ5.out.s).fr; have c1 := (sg_at HQ5.out.s).tp; have c4 := (sg_at HQ5.out.s).fl; have c6 := (sg_at HQ5.out.s).ms; have c7 := (sg_at HQ5.out.s).d))
  have HO : RowKit.Hid ((w5.alloc (.cells #[.int .u8 (F1 : Int), .int .u8 (F2 : Int), .int .u8 (T1 : Int), .int .u8 (T2 : Int)] 5)).ownsRow w5.heap.size 5 1 (.slice (some ⟨w5.heap.size, 0, none⟩) 4 4) 4 (([fh, fl', th, tl] : List UInt8).map ubv)) := row_new w5 5 [fh, fl', th, tl] _ HC0.out (by show 4 ≤ maxLen; decide)
  have Q0 := Lib.hid (HQ5.out.alloc (.cells #[.int .u8 (F1 : Int), .int .u8 (F2 : Int), .int .u8 (T1 : Int), .int .u8 (T2 : Int)] 5))
  have hBl := HQ5.out.t.lt
  have hBz : w5.heap.size ≤ (w5.alloc (.cells #[.int .u8 (F1 : Int), .int .u8 (F2 : Int), .int .u8 (T1 : Int), .int .u8 (T2 : Int)] 5)).heap.size := by rw [size_alloc]; omega
  generalize World.alloc _ _ = wA at HO Q0 hBz ⊢
  generalize w5.heap.size = B at HO hBl hBz ⊢
  clear c0 c1 c4 c5 c6 c7 dl
  have c2 := (sg_at Q0.out.s).sq
  go_wp2_with fail
  refine (H4S.out _).mono ?_
  rintro e wB ⟨rfl, hby, hb⟩
  have HY1 := Lib.hid hby
  have HO1 := Lib.hid (row_step HO.out hb)
  have Q1 := Lib.hid (Q0.out.step hb)
  have hz1' := hb.size
  clear hb hby c2 HO Q0
  have tokA : True := trivial
  go_wp2_with (have _t := tokA; clear tokA; at_builtin; refine wpList_append_own _ rfl (.tmp 79) (.tmp 82) 26 rfl B 5 i0 (.int .u8 0) 1 1 Try.underlying26 hi hz0 hz1 hz2 rfl (by decide) _ _ _ rfl HO1.out ⟨wA.heap.size, 0, none⟩ 4 4 ((bq S).map ubv) rfl (by simp [HQ1.out]) (byt_news HY1.out) (ubv_one _) (by unfold maxLen; simp) (by simp) (by omega) ?_; intro v1 wC hown hg _; rw [← List.map_append] at hown; have HO2 := Lib.hid hown; have Q2 := Lib.hid (Q1.out.grown HO1.out hBl hg); have hz2' := hg.size; clear hown hg HY1 HO1 Q1; have c3 := (sg_at Q2.out.s).ak)
  refine (H4K.out _).mono ?_
  rintro e wD ⟨rfl, hby, hb⟩
  have HY3 := Lib.hid hby
  have HO3 := Lib.hid (row_step HO2.out hb)
  have Q3 := Lib.hid (Q2.out.step hb)
  have hz3' := hb.size
  clear hb hby c3 HO2 Q2
  have tokB : True := trivial
  go_upto_region 11 with (have _t := tokB; clear tokB; at_builtin; refine wpList_append_own _ rfl (.tmp 84) (.tmp 87) 26 rfl B 5 i0 (.int .u8 0) 1 1 Try.underlying26 hi hz0 hz1 hz2 rfl (by decide) _ _ _ rfl HO3.out ⟨wC.heap.size, 0, none⟩ 4 4 ((bq K).map ubv) rfl (by simp [HQ2.out]) (byt_news HY3.out) (ubv_one _) (by unfold maxLen; simp) (by simp) (by omega) ?_; intro v2 wE hown hg _; rw [← List.map_append] at hown; have HO4 := Lib.hid hown; have Q4 := Lib.hid (Q3.out.grown HO3.out hBl hg); have hz4' := hg.size; clear hown hg HY3 HO3 Q3)
  have c4 := (sg_at Q4.out.s).fl
  have c5 := (sg_at Q4.out.s).wi
  have HY5 := Lib.hid (byt_lit wE 5 [96, yf, wh, wl, 0, 0, 0, 0] _ HC1.out)
  have HO5 := Lib.hid (HO4.out.alloc (.cells #[.int .u8 96, .int .u8 (FL : Int), .int .u8 (W1 : Int), .int .u8 (W2 : Int), .int .u8 0, .int .u8 0, .int .u8 0, .int .u8 0] 5))
  have Q5 := Lib.hid (Q4.out.alloc (.cells #[.int .u8 96, .int .u8 (FL : Int), .int .u8 (W1 : Int), .int .u8 (W2 : Int), .int .u8 0, .int .u8 0, .int .u8 0, .int .u8 0] 5))
  have tokC : True := trivial
  go_upto_region 13 with (have _t := tokC; clear tokC; at_builtin; refine wpList_append_own _ rfl (.tmp 89) (.tmp 105) 26 rfl B 5 i0 (.int .u8 0) 1 1 Try.underlying26 hi hz0 hz1 hz2 rfl (by decide) _ _ _ rfl HO5.out ⟨wE.heap.size, 0, none⟩ 8 8 (([96, yf, wh, wl, 0, 0, 0, 0] : List UInt8).map ubv) rfl (by simp) (byt_news HY5.out) (ubv_one _) (by unfold maxLen; simp) (by simp) (by rw [size_alloc]; omega) ?_; intro v3 wF hown hg _; rw [← List.map_append] at hown; have HO6 := Lib.hid hown; have Q6 := Lib.hid (Q5.out.grown HO5.out hBl hg); have hz6' := hg.size; rw [size_alloc] at hz6'; clear hown hg HY5 HO5 Q5 HO4 Q4 c4 c5)
  have c6 := (sg_at Q6.out.s).ms
  have HY7 := Lib.hid (byt_lit wF 5 [2, 4, mh, ml] _ HC2.out)
  have HO7 := Lib.hid (HO6.out.alloc (.cells #[.int .u8 2, .int .u8 4, .int .u8 (M1 : Int), .int .u8 (M2 : Int)] 5))
  have Q7 := Lib.hid (Q6.out.alloc (.cells #[.int .u8 2, .int .u8 4, .int .u8 (M1 : Int), .int .u8 (M2 : Int)] 5))
  have tokD : True := trivial
  go_upto_region 14 with (have _t := tokD; clear tokD; at_builtin; refine wpList_append_own _ rfl (.tmp 109) (.tmp 118) 26 rfl B 5 i0 (.int .u8 0) 1 1 Try.underlying26 hi hz0 hz1 hz2 rfl (by decide) _ _ _ rfl HO7.out ⟨wF.heap.size, 0, none⟩ 4 4 (([2, 4, mh, ml] : List UInt8).map ubv) rfl (by simp) (byt_news HY7.out) (ubv_one _) (by unfold maxLen; simp) (by simp) (by rw [size_alloc]; omega) ?_; intro v4 wG hown hg _; rw [← List.map_append] at hown; have HO8 := Lib.hid hown; have Q8 := Lib.hid (Q7.out.grown HO7.out hBl hg); have hz8' := hg.size; rw [size_alloc] at hz8'; clear hown hg HY7 HO7 Q7 HO6 Q6 c6)
  have c7 := (sg_at Q8.out.s).d
  have tokE : True := trivial
  go_upto_region 15 with (have _t := tokE; clear tokE; at_builtin; refine Lib.wpList_append_own_string _ rfl (.tmp 120) (.tmp 122) 26 9 rfl B 5 i0 Try.underlying26 Try.underlying9 hi hz0 hz1 hz2 _ (4 + 4 + 4 + 8 + 4) _ rfl HO8.out ⟨d.toArray⟩ rfl (by unfold maxLen; show 4 + 4 + 4 + 8 + 4 + d.length ≤ _; omega) (by show 4 + 4 + 4 + 8 + 4 + d.length ≤ _; omega) (by omega) ?_; intro v5 wH hown hg _; rw [strCells_list, ← List.map_append, ← HLL.out] at hown; have HO9 := Lib.hid hown; have Q9 := Lib.hid (Q8.out.grown HO8.out hBl hg); clear hown hg HO8 Q8 c7)
  obtain ⟨g, cap, rfl, hge, hy, hln⟩ := Byt.of_row HO9.out (by omega)
  rw [← hln]
  have HY9 := Lib.hid hy
  have hcv := byt_conv hy rfl cap
  have df := Q9.out.f.ld_ip HL.out.f
  have dt := Q9.out.t.ld_ip HL.out.t
  clear hy HO9 hln
  go_wp2_with fail
  refine (HSUM.out _).mono ?_
  rintro e wI ⟨rfl, hb⟩
  have HYA := Lib.hid (HY9.out.step hb)
  have QA := Lib.hid (Q9.out.step hb)
  clear hb hcv df dt HY9 Q9
  have l16 : (16 : Int) < (LL.length : Int) := by have := HLLn.out; omega
  have l17 : (17 : Int) < (LL.length : Int) := by have := HLLn.out; omega
  have d16 := HYA.out.cell 16 (by have := HLLn.out; omega)
  have d17 := HYA.out.cell 17 (by have := HLLn.out; omega)
  have z16 := HYA.out.free 16 (by have := HLLn.out; omega)
  have z17 := HYA.out.free 17 (by have := HLLn.out; omega)
  have hys := (HYA.out.set 16 (by have := HLLn.out; omega) sh).set 17 (by rw [List.length_set]; have := HLLn.out; omega) sl
  have hbk := byt_conv hys (n := LL.length) (by rw [List.length_set, List.length_set]) cap
  rw [← HSH.out, ← HSL.out, ← HOUT.out] at hbk
  have hgw : w.heap.size ≤ g := by omega
  clear hys
  go_wp2
  go_ret2
  exact ⟨rfl, ((QA.out.bel.setCell (p := ⟨g, 16, none⟩) hgw _).setCell (p := ⟨g, 17, none⟩) hgw _)⟩
end Go.Proofs.Ytccbgiapabkjbaa
