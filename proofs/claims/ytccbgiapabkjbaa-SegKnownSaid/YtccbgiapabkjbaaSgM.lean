/- The walk through the law SegAddressed: it answers true. -/
import Derived.Test.YtccbgiapabkjbaaSgK
namespace Go.Proofs.Ytccbgiapabkjbaa
set_option linter.unusedVariables false
set_option linter.unusedSimpArgs false
set_option maxRecDepth 100000
open Go.RowKit
attribute [local go_sem ↓] Go.wp_at_zero Go.wp_at_succ
attribute [local go_sem ↓] ld_sg ld_ip

theorem srV_form (f t l : List UInt8) : ∃ (fr tp sq ak fl wi ms : Int) (d : List UInt8), srV f t l = sgC fr tp sq ak fl wi ms d := by
  unfold srV
  split
  · exact ⟨_, _, _, _, _, _, _, _, rfl⟩
  · exact ⟨_, _, _, _, _, _, _, _, rfl⟩
theorem arr_set (l : List UInt8) (k : Nat) (z : UInt8) : (l.map ubv).toArray.setIfInBounds k (.int .u8 (z.toNat : Int)) = ((l.set k z).map ubv).toArray := by
  rw [List.setIfInBounds_toArray, List.map_set]
theorem run_ip_eql (w : World) (m m' : List UInt8) (h : m.length = 4) (h' : m'.length = 4) :
    (binOp .eql 23 (arrV m) (arrV m')).run Try.prog w = .ok (.bool (m == m')) w := by
  have e := run_eq_arr w 9998 23 4 Try.underlying23 m m' h h'
  rw [run_eql_struct, e]
  rfl

set_option maxHeartbeats 2000000 in
theorem segAddressed_walk (f t : List UInt8) (hL : IpL f t) (fr tp sq ak fl wi ms : Int) (d : List UInt8) (hms : -9223372036854775808 ≤ ms ∧ ms ≤ 9223372036854775807) (hsq : 0 ≤ sq ∧ sq ≤ 4294967295) (hak : 0 ≤ ak ∧ ak ≤ 4294967295) (hd : d.length ≤ 9223372036854775807) (at' : Nat) (hat : at' ≤ 255) (bit : Nat) (hbit : bit ≤ 255) (w : World) :
    Calls Try.prog 5 #[.agg (sgC fr tp sq ak fl wi ms d), arrV f, arrV t, .int .u8 at', .int .u8 bit] w fun e w' => e = .returned (.bool true) ∧ Below w.heap.size w w' := by
  have HQ := Lib.hid (sgq_new w f t (sgC fr tp sq ak fl wi ms d))
  have HL := Lib.hid hL
  by_cases h1 : 2000 < (d.length : Int)
  · clear hms hsq hak hd
    go_enter Try.func5, Try.ntmps5
    go_upto_region 1 with fail
    generalize World.alloc _ _ = w1 at HQ ⊢
    go_wp2_with fail
    refine (sgawake_any _).mono ?_
    rintro e w2 ⟨rfl, hb1⟩
    have HQ1 := Lib.hid (HQ.out.step hb1)
    have c7 := (sg_at HQ1.out.s).d
    clear hb1
    go_wp2
    go_ret
    exact ⟨rfl, HQ1.out.bel⟩
  have h1' : (d.length : Int) ≤ 2000 := by omega
  have hA := fun w => sgBytes_any f t hL fr tp sq ak fl wi ms d hms hsq hak (by omega) w
  by_cases h3 : ¬ (sgBytes f t fr tp sq ak fl wi ms d).2 = 0
  · rw [sgBytes_err h3] at hA
    generalize (sgBytes f t fr tp sq ak fl wi ms d).2 = E at hA h3
    have h3' : (E != 0) = true := by simpa using h3
    have HA := Lib.hid hA
    clear hA hms hsq hak hd h3
    go_enter Try.func5, Try.ntmps5
    go_upto_region 1 with fail
    generalize World.alloc _ _ = w1 at HQ ⊢
    go_wp2_with fail
    refine (sgawake_any _).mono ?_
    rintro e w2 ⟨rfl, hb1⟩
    have HQ1 := Lib.hid (HQ.out.step hb1)
    have c7 := (sg_at HQ1.out.s).d
    have ds := HQ1.out.s.ld_sg
    have df := HQ1.out.f.ld_ip HL.out.f
    have dt := HQ1.out.t.ld_ip HL.out.t
    clear hb1
    go_wp2_with fail
    refine (HA.out _).mono ?_
    rintro e w3 ⟨rfl, hb3⟩
    have HQ3 := Lib.hid (HQ1.out.step hb3)
    clear hb3 ds df dt c7
    go_wp2
    go_ret
    exact ⟨rfl, HQ3.out.bel⟩
  have h3' : (sgBytes f t fr tp sq ak fl wi ms d).2 = 0 := by simpa using h3
  obtain ⟨hM, hn, hX⟩ := sgBytes_ok h3'
  rw [h3', hX] at hA
  have hrd := sg_reads hL hsq hak hM hn
  generalize sgOut f t fr tp sq ak fl wi ms d = X at hA hrd
  obtain ⟨hX20, hX566, hbad, hgood⟩ := hrd
  have hr1 := fun w => sgRead_any X f t hL w (by omega)
  rw [(hgood f t rfl).1, (hgood f t rfl).2] at hr1
  have hs0 := srE_zero (hgood f t rfl).1
  have ht4 := hL.t
  obtain ⟨K, hK⟩ : ∃ K, K = at' % 4 := ⟨_, rfl⟩
  have hK4 : K < 4 := by omega
  have hKl : K < t.length := by rw [ht4]; exact hK4
  have hat2 : (at' : Int).tmod 4 = (K : Int) := by rw [Int.tmod_eq_emod_of_nonneg (by omega)]; omega
  have hKi : (K : Int) < 4 := by omega
  obtain ⟨v, hv⟩ : ∃ v, v = t[K] := ⟨_, rfl⟩
  obtain ⟨j, hj⟩ : ∃ j, j = bit % 8 := ⟨_, rfl⟩
  have hj8 : j < 8 := by omega
  have hjt : (bit : Int).tmod 8 = (j : Int) := by rw [Int.tmod_eq_emod_of_nonneg (by omega)]; omega
  have hjl : (j : Int) ≤ 8 := by omega
  obtain ⟨z, hz1, hz2⟩ := xor_bit v j hj8
  have hP1 : 1 ≤ 2 ^ j := Nat.one_le_two_pow
  have hP2 : 2 ^ j ≤ 128 := Nat.pow_le_pow_right (n := 2) (by decide) (show j ≤ 7 by omega)
  have hsh : IntKind.u8.wrap ((2 : Int) ^ j) = ((2 ^ j : Nat) : Int) := by
    have : (2 : Int) ^ j = ((2 ^ j : Nat) : Int) := by simp
    rw [this]; exact u8in' _ ⟨by omega, by omega⟩
  have hne := sgS_flip_t f t X K hKl z (2 ^ j) ⟨hP1, hP2⟩ (by rw [← hv]; exact hz2)
  generalize 2 ^ j = P at hz1 hsh hne hP1 hP2 hz2
  rw [hs0] at hne
  have hCO := fun (w : World) (e : TypeId) (b : Nat) (h : Blk w b e (t.map ubv).toArray) => h.set K (.int .u8 (z.toNat : Int))
  simp only [arr_set] at hCO
  have hCELL := fun (w : World) (e : TypeId) (b : Nat) (h : Blk w b e (t.map ubv).toArray) => And.intro (show w.cell? ⟨b, K, none⟩ = some (.int .u8 (v.toNat : Int)) by rw [hv, h.cell]; simp [List.getElem?_eq_getElem hKl]) (h.free K (by simpa using hKl))
  have ho4 : (t.set K z).length = 4 := by rw [List.length_set]; exact ht4
  generalize t.set K z = O at hne hCO ho4
  have hE9 := hbad O hne
  have hr2 := fun w => sgRead_any X f O ⟨hL.f, ho4⟩ w (by omega)
  have hV9 : srV f O X = sgC 0 0 0 0 0 0 0 [] := by rw [srV, hE9]; rfl
  rw [hE9, hV9] at hr2
  have hr3 := fun w => sgRead_any X O t ⟨ho4, hL.t⟩ w (by omega)
  obtain ⟨a0, a1, a2, a3, a4, a5, a6, a7, hVa⟩ := srV_form O t X
  rw [hVa] at hr3
  have hsame : O = f → srE O t X = 0 := fun h => by rw [h]; exact (hgood f t rfl).1
  generalize srE O t X = E3 at hr3 hsame
  have heq := fun w => run_ip_eql w O f ho4 hL.f
  have HA := Lib.hid hA
  have HR1 := Lib.hid hr1
  have HR2 := Lib.hid hr2
  have HR3 := Lib.hid hr3
  have HCO := Lib.hid hCO
  have HCELL := Lib.hid hCELL
  have HO4 := Lib.hid ho4
  have HSAME := Lib.hid hsame
  have HT1 : RowKit.Hid ((t.map ubv).toArray.toList.all (·.oneCell') = true) := by
    show (t.map ubv).all (·.oneCell') = true
    rw [List.all_map, List.all_eq_true]
    intro x _
    rfl
  have HT2 : RowKit.Hid ((t.map ubv).toArray.size = 4) := by
    show (t.map ubv).toArray.size = 4
    simp [ht4]
  clear hA hr1 hr2 hr3 hms hsq hak hd h1 h3 h3' hM hn hX hbad hgood hs0 hne hE9 hV9 hVa hj hz2 hP1 hP2 hj8 hK hv hX20 hX566 hat hbit hCO hCELL ho4 hsame ht4 hKl
  go_enter Try.func5, Try.ntmps5
  go_upto_region 1 with fail
  generalize World.alloc _ _ = w1 at HQ ⊢
  go_wp2_with fail
  refine (sgawake_any _).mono ?_
  rintro e w2 ⟨rfl, hb1⟩
  have HQ1 := Lib.hid (HQ.out.step hb1)
  have c7 := (sg_at HQ1.out.s).d
  have ds := HQ1.out.s.ld_sg
  have df := HQ1.out.f.ld_ip HL.out.f
  have dt := HQ1.out.t.ld_ip HL.out.t
  clear hb1
  go_wp2_with fail
  refine (HA.out _).mono ?_
  rintro e w3 ⟨rfl, hb3⟩
  have HQ3 := Lib.hid (HQ1.out.step hb3)
  clear hb3 ds df dt c7 HQ1 HQ
  have df := HQ3.out.f.ld_ip HL.out.f
  have dt := HQ3.out.t.ld_ip HL.out.t
  have hlt3 := HQ3.out.lt
  have HN4 := Lib.hid (Blk.new w3 23 ip0one 0 0 (Or.inl (Nat.le_refl _)))
  have HO4B : RowKit.Hid (Blk ((w3.alloc (.cells ip0one 23)).setCells w3.heap.size 0 (t.map ubv).toArray.toList) w3.heap.size 23 (t.map ubv).toArray) := HN4.out.setAll (by rw [HT2.out]; rfl)
  have Q4 := Lib.hid ((HQ3.out.alloc (.cells ip0one 23)).setC hlt3 0 (t.map ubv).toArray.toList)
  have tok4 : True := trivial
  go_upto_region 9 with (have _t := tok4; refine wpList_store_blk rfl 23 _ _ rfl w3.heap.size (t.map ubv).toArray rfl rfl ip0one 23 HN4.out (by rw [HT2.out]; rfl) (by rw [HT2.out]; exact size_ip) HT1.out ?_; clear tok4 HN4 df dt; generalize World.setCells _ _ _ _ = W4 at HO4B Q4 ⊢)
  generalize w3.heap.size = g at HO4B hlt3 ⊢
  obtain ⟨c, fz⟩ := HCELL.out _ _ _ HO4B.out
  have HO_4 := Lib.hid (HCO.out _ _ _ HO4B.out)
  have Q5 := Lib.hid (Q4.out.set1 hlt3 K (.int .u8 (z.toNat : Int)))
  go_upto_region 10 with fail
  generalize World.setCell _ _ _ = W5 at HO_4 Q5 ⊢
  clear c fz Q4 HO4B HQ3
  have do0 := HO_4.out.ld_ip HO4.out
  have df := Q5.out.f.ld_ip HL.out.f
  have dt := Q5.out.t.ld_ip HL.out.t
  go_wp2_with fail
  refine (HR2.out _).mono ?_
  rintro e v6 ⟨rfl, hb⟩
  have QA6 := Lib.hid (Q5.out.step hb)
  have hlt := QA6.out.lt
  have HN6 := Lib.hid (Blk.new v6 29 sg0 0 0 (Or.inl (Nat.le_refl _)))
  have HX6 := Lib.hid (HN6.out.put_sg (fr := 0) (tp := 0) (sq := 0) (ak := 0) (fl := 0) (wi := 0) (ms := 0) (d := []))
  have Q6 := Lib.hid ((QA6.out.alloc (.cells sg0 29)).setC hlt 0 (sgC 0 0 0 0 0 0 0 []).toList)
  have hx := HO_4.out.step hb
  have hxl := hx.lt
  have HO_6 := Lib.hid ((hx.alloc (.cells sg0 29)).setCells_other v6.heap.size 0 (sgC 0 0 0 0 0 0 0 []).toList (by omega))
  clear hx hxl
  rw [sg0_lit] at HX6 Q6 HO_6
  have tok6 : True := trivial
  clear hb df dt hlt do0
  go_wp2_with (have _t := tok6; refine wp_st_sg rfl _ _ rfl v6.heap.size 0 0 0 0 0 0 0 [] HN6 rfl rfl ?_; clear tok6 HN6; generalize World.setCells _ _ _ _ = W6 at HX6 Q6 HO_6 ⊢; have dt := Q6.out.t.ld_ip HL.out.t; have do0 := HO_6.out.ld_ip HO4.out)
  refine (HR3.out _).mono ?_
  rintro e v7 ⟨rfl, hb⟩
  have QA7 := Lib.hid (Q6.out.step hb)
  have hlt := QA7.out.lt
  have HN7 := Lib.hid (Blk.new v7 29 sg0 0 0 (Or.inl (Nat.le_refl _)))
  have HX7 := Lib.hid (HN7.out.put_sg (fr := a0) (tp := a1) (sq := a2) (ak := a3) (fl := a4) (wi := a5) (ms := a6) (d := a7))
  have Q7 := Lib.hid ((QA7.out.alloc (.cells sg0 29)).setC hlt 0 (sgC a0 a1 a2 a3 a4 a5 a6 a7).toList)
  have hx := HO_6.out.step hb
  have hxl := hx.lt
  have HO_7 := Lib.hid ((hx.alloc (.cells sg0 29)).setCells_other v7.heap.size 0 (sgC a0 a1 a2 a3 a4 a5 a6 a7).toList (by omega))
  clear hx hxl
  rw [sg0_lit] at HX7 Q7 HO_7
  have tok7 : True := trivial
  clear hb dt hlt do0
  go_wp2_with (have _t := tok7; refine wp_st_sg rfl _ _ rfl v7.heap.size a0 a1 a2 a3 a4 a5 a6 a7 HN7 rfl rfl ?_; clear tok7 HN7; generalize World.setCells _ _ _ _ = W7 at HX7 Q7 HO_7 ⊢; have df := Q7.out.f.ld_ip HL.out.f; have dt := Q7.out.t.ld_ip HL.out.t)
  refine (HR1.out _).mono ?_
  rintro e v8 ⟨rfl, hb⟩
  have QA8 := Lib.hid (Q7.out.step hb)
  have hlt := QA8.out.lt
  have HN8 := Lib.hid (Blk.new v8 29 sg0 0 0 (Or.inl (Nat.le_refl _)))
  have HX8 := Lib.hid (HN8.out.put_sg (fr := fr) (tp := tp) (sq := sq) (ak := ak) (fl := fl) (wi := wi) (ms := ms) (d := d))
  have Q8 := Lib.hid ((QA8.out.alloc (.cells sg0 29)).setC hlt 0 (sgC fr tp sq ak fl wi ms d).toList)
  have hx := HO_7.out.step hb
  have hxl := hx.lt
  have HO_8 := Lib.hid ((hx.alloc (.cells sg0 29)).setCells_other v8.heap.size 0 (sgC fr tp sq ak fl wi ms d).toList (by omega))
  clear hx hxl
  rw [sg0_lit] at HX8 Q8 HO_8
  have tok8 : True := trivial
  clear hb df dt hlt
  go_upto_region 14 with (have _t := tok8; refine wp_st_sg rfl _ _ rfl v8.heap.size fr tp sq ak fl wi ms d HN8 rfl rfl ?_; clear tok8 HN8; generalize World.setCells _ _ _ _ = W8 at HX8 Q8 HO_8 ⊢; have df := Q8.out.f.ld_ip HL.out.f; have do0 := HO_8.out.ld_ip HO4.out)
  by_cases hs : O = f
  · have hs' : (O == f) = true := by rw [hs]; exact beq_self_eq_true f
    have hE3 := HSAME.out hs
    rw [hs', hE3]
    clear hs hs' heq
    go_wp2
    go_ret
    exact ⟨rfl, Q8.out.bel⟩
  · have hs' : (O == f) = false := by simpa using hs
    rw [hs']
    clear hs hs' heq
    go_wp2
    go_ret
    exact ⟨rfl, Q8.out.bel⟩
end Go.Proofs.Ytccbgiapabkjbaa
