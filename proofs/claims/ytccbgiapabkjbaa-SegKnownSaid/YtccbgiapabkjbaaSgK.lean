/- The walk through the law SegBack: it answers true. -/
import Derived.Test.YtccbgiapabkjbaaSgP
import Derived.Test.YtccbgiapabkjbaaSgA
namespace Go.Proofs.Ytccbgiapabkjbaa
set_option linter.unusedVariables false
set_option linter.unusedSimpArgs false
set_option maxRecDepth 100000
open Go.RowKit
attribute [local go_sem ↓] Go.wp_at_zero Go.wp_at_succ
attribute [local go_sem ↓] ld_sg ld_ip

theorem SgQ.setC {w0 w : World} {f t : List UInt8} {C : Array Value} (h : SgQ w0 f t C w) {g : Nat} (hg : w0.heap.size + 1 + 1 < g) (o : Nat) (vs : List Value) : SgQ w0 f t C (w.setCells g o vs) :=
  ⟨h.s.setCells_other g o vs (by omega), h.f.setCells_other g o vs (by omega), h.t.setCells_other g o vs (by omega), Below.setCells h.bel (by omega) o vs⟩
theorem SgQ.set1 {w0 w : World} {f t : List UInt8} {C : Array Value} (h : SgQ w0 f t C w) {g : Nat} (hg : w0.heap.size + 1 + 1 < g) (o : Nat) (v : Value) : SgQ w0 f t C (w.setCell ⟨g, o, none⟩ v) :=
  ⟨h.s.set_other _ _ (by show _ ≠ g; omega), h.f.set_other _ _ (by show _ ≠ g; omega), h.t.set_other _ _ (by show _ ≠ g; omega), Below.setCell (p := ⟨g, o, none⟩) h.bel (by show _ ≤ g; omega) v⟩
theorem SgQ.lt {w0 w : World} {f t : List UInt8} {C : Array Value} (h : SgQ w0 f t C w) : w0.heap.size + 1 + 1 < w.heap.size := h.t.lt

set_option maxHeartbeats 2000000 in
theorem segBack_walk (f t : List UInt8) (hL : IpL f t) (fr tp sq ak fl wi ms : Int) (d : List UInt8) (hms : -9223372036854775808 ≤ ms ∧ ms ≤ 9223372036854775807) (hsq : 0 ≤ sq ∧ sq ≤ 4294967295) (hak : 0 ≤ ak ∧ ak ≤ 4294967295) (hd : d.length ≤ 9223372036854775807) (at' : Nat) (hat : at' ≤ 65535) (bit : Nat) (hbit : bit ≤ 255) (w : World) :
    Calls Try.prog 4 #[.agg (sgC fr tp sq ak fl wi ms d), arrV f, arrV t, .int .u16 at', .int .u8 bit] w fun e w' => e = .returned (.bool true) ∧ Below w.heap.size w w' := by
  have HQ := Lib.hid (sgq_new w f t (sgC fr tp sq ak fl wi ms d))
  have HL := Lib.hid hL
  by_cases h1 : 2000 < (d.length : Int)
  · clear hms hsq hak hd
    go_enter Try.func4, Try.ntmps4
    go_upto_region 1 with fail
    generalize World.alloc _ _ = w1 at HQ ⊢
    go_wp2_with fail
    refine (sgawake_any _).mono ?_
    rintro e w2 ⟨rfl, hb1⟩
    have HQ1 := Lib.hid (HQ.out.step hb1)
    have c7 := (sg_at HQ1.out.s).d
    clear hb1
    go_wp2
    go_ret
    exact ⟨rfl, HQ1.out.bel⟩
  have h1' : (d.length : Int) ≤ 2000 := by omega
  have hA := fun w => sgBytes_any f t hL fr tp sq ak fl wi ms d hms hsq hak (by omega) w
  by_cases h3 : ¬ (sgBytes f t fr tp sq ak fl wi ms d).2 = 0
  · rw [sgBytes_err h3] at hA
    generalize (sgBytes f t fr tp sq ak fl wi ms d).2 = E at hA h3
    have h3' : (E != 0) = true := by simpa using h3
    have HA := Lib.hid hA
    clear hA hms hsq hak hd h3
    go_enter Try.func4, Try.ntmps4
    go_upto_region 1 with fail
    generalize World.alloc _ _ = w1 at HQ ⊢
    go_wp2_with fail
    refine (sgawake_any _).mono ?_
    rintro e w2 ⟨rfl, hb1⟩
    have HQ1 := Lib.hid (HQ.out.step hb1)
    have c7 := (sg_at HQ1.out.s).d
    have ds := HQ1.out.s.ld_sg
    have df := HQ1.out.f.ld_ip HL.out.f
    have dt := HQ1.out.t.ld_ip HL.out.t
    clear hb1
    go_wp2_with fail
    refine (HA.out _).mono ?_
    rintro e w3 ⟨rfl, hb3⟩
    have HQ3 := Lib.hid (HQ1.out.step hb3)
    clear hb3 ds df dt c7
    go_wp2
    go_ret
    exact ⟨rfl, HQ3.out.bel⟩
  have h3' : (sgBytes f t fr tp sq ak fl wi ms d).2 = 0 := by simpa using h3
  obtain ⟨hM, hn, hX⟩ := sgBytes_ok h3'
  rw [h3', hX] at hA
  have hrd := sg_reads hL hsq hak hM hn
  generalize sgOut f t fr tp sq ak fl wi ms d = X at hA hrd
  obtain ⟨hX20, hX566, hbad, hgood⟩ := hrd
  have hr1 := fun w => sgRead_any X f t hL w (by omega)
  rw [(hgood f t rfl).1, (hgood f t rfl).2] at hr1
  have hcm := sgS_comm f t X hL
  have hr2 := fun w => sgRead_any X t f ⟨hL.t, hL.f⟩ w (by omega)
  rw [(hgood t f hcm).1, (hgood t f hcm).2] at hr2
  have hs0 := srE_zero (hgood f t rfl).1
  obtain ⟨K, hK⟩ : ∃ K, K = at' % X.length := ⟨_, rfl⟩
  have hKl : K < X.length := by rw [hK]; exact Nat.mod_lt _ (by omega)
  have hat1 : IntKind.i64.wrap (at' : Int) = (at' : Int) := IntWalk.i64_in _ (by omega)
  have hat2 : (at' : Int).tmod (X.length : Int) = (K : Int) := by rw [hK]; exact (Int.ofNat_tmod _ _).symm
  have hKi : (K : Int) < (X.length : Int) := by omega
  have lX : ¬ (X.length : Int) = 0 := by omega
  obtain ⟨v, hv⟩ : ∃ v, v = X[K] := ⟨_, rfl⟩
  obtain ⟨j, hj⟩ : ∃ j, j = bit % 8 := ⟨_, rfl⟩
  have hj8 : j < 8 := by omega
  have hjt : (bit : Int).tmod 8 = (j : Int) := by rw [Int.tmod_eq_emod_of_nonneg (by omega)]; omega
  have hjl : (j : Int) ≤ 8 := by omega
  obtain ⟨z, hz1, hz2⟩ := xor_bit v j hj8
  have hP1 : 1 ≤ 2 ^ j := Nat.one_le_two_pow
  have hP2 : 2 ^ j ≤ 128 := Nat.pow_le_pow_right (n := 2) (by decide) (show j ≤ 7 by omega)
  have hsh : IntKind.u8.wrap ((2 : Int) ^ j) = ((2 ^ j : Nat) : Int) := by
    have : (2 : Int) ^ j = ((2 ^ j : Nat) : Int) := by simp
    rw [this]; exact u8in' _ ⟨by omega, by omega⟩
  have hne := sgS_flip f t X K hKl z (2 ^ j) ⟨hP1, hP2⟩ (by rw [← hv]; exact hz2)
  generalize 2 ^ j = P at hz1 hsh hne hP1 hP2 hz2
  rw [hs0] at hne
  have hr3 := fun w => sgRead_any (X.set K z) f t hL w (by rw [List.length_set]; omega)
  have hE3 : ¬ srE f t (X.set K z) = 0 := fun h => hne (srE_zero h)
  have hV3 : srV f t (X.set K z) = sgC 0 0 0 0 0 0 0 [] := by rw [srV, if_neg hE3]; rfl
  rw [hV3] at hr3
  generalize srE f t (X.set K z) = E3 at hr3 hE3
  have hE3' : (E3 != 0) = true := by simpa using hE3
  have hlZ : (X.set K z).length = X.length := List.length_set
  have HZset := Lib.hid (fun (w : World) (e : TypeId) (b : Nat) (h : Byt w e b X) => h.set K hKl z)
  have HCELL : RowKit.Hid (∀ (w : World) (e : TypeId) (b : Nat), Byt w e b X → w.cell? ⟨b, K, none⟩ = some (.int .u8 (v.toNat : Int)) ∧ w.frozen? ⟨b, K, none⟩ = false) := Lib.hid (fun w e b h => ⟨by rw [hv]; exact h.cell K hKl, h.free K hKl⟩)
  generalize X.set K z = Z at hr3 hlZ HZset
  have HA := Lib.hid hA
  have HR1 := Lib.hid hr1
  have HR2 := Lib.hid hr2
  have HR3 := Lib.hid hr3
  have HZ := Lib.hid hlZ
  have HX566 := Lib.hid hX566
  have hselfn := fun w => run_sg_selfn w fr tp sq ak fl wi ms d
  have hself0 : ∀ w, (binOp .eql 29 (.agg (sgC 0 0 0 0 0 0 0 [])) (.agg #[.int .i64 0, .int .i64 0, .int .u32 0, .int .u32 0, .int .i64 0, .int .i64 0, .int .i64 0, .string ⟨#[]⟩])).run Try.prog w = .ok (.bool true) w := fun w => run_sg_self w 0 0 0 0 0 0 0 []
  clear hA hr1 hr2 hr3 hms hsq hak hd h1 h3 h3' hM hn hX hbad hgood hcm hs0 hne hE3 hV3 hlZ hj hz2 hP1 hP2 hj8 hK hv hKl hX20 hX566 hat hbit
  go_enter Try.func4, Try.ntmps4
  go_upto_region 1 with fail
  generalize World.alloc _ _ = w1 at HQ ⊢
  go_wp2_with fail
  refine (sgawake_any _).mono ?_
  rintro e w2 ⟨rfl, hb1⟩
  have HQ1 := Lib.hid (HQ.out.step hb1)
  have c7 := (sg_at HQ1.out.s).d
  have ds := HQ1.out.s.ld_sg
  have df := HQ1.out.f.ld_ip HL.out.f
  have dt := HQ1.out.t.ld_ip HL.out.t
  clear hb1
  go_wp2_with fail
  refine (HA.out _).mono ?_
  rintro e w3 ⟨rfl, hb3⟩
  have HQ3 := Lib.hid (HQ1.out.step hb3)
  clear hb3 ds df dt c7 HQ1 HQ
  have df := HQ3.out.f.ld_ip HL.out.f
  have dt := HQ3.out.t.ld_ip HL.out.t
  go_wp2_with fail
  refine (HR1.out _).mono ?_
  rintro e v5 ⟨rfl, hb⟩
  have QA5 := Lib.hid (HQ3.out.step hb)
  have hlt := QA5.out.lt
  have HN5 := Lib.hid (Blk.new v5 29 sg0 0 0 (Or.inl (Nat.le_refl _)))
  have HX5 := Lib.hid (HN5.out.put_sg (fr := fr) (tp := tp) (sq := sq) (ak := ak) (fl := fl) (wi := wi) (ms := ms) (d := d))
  have Q5 := Lib.hid ((QA5.out.alloc (.cells sg0 29)).setC hlt 0 (sgC fr tp sq ak fl wi ms d).toList)
  rw [sg0_lit] at HX5 Q5
  have tok5 : True := trivial
  clear hb df dt hlt
  go_wp2_with (have _t := tok5; refine wp_st_sg rfl _ _ rfl v5.heap.size fr tp sq ak fl wi ms d HN5 rfl rfl ?_; clear tok5 HN5; generalize World.setCells _ _ _ _ = W5 at HX5 Q5 ⊢; have df := Q5.out.f.ld_ip HL.out.f; have dt := Q5.out.t.ld_ip HL.out.t)
  refine (HR2.out _).mono ?_
  rintro e v6 ⟨rfl, hb⟩
  have QA6 := Lib.hid (Q5.out.step hb)
  have hlt := QA6.out.lt
  have HN6 := Lib.hid (Blk.new v6 29 sg0 0 0 (Or.inl (Nat.le_refl _)))
  have HX6 := Lib.hid (HN6.out.put_sg (fr := fr) (tp := tp) (sq := sq) (ak := ak) (fl := fl) (wi := wi) (ms := ms) (d := d))
  have Q6 := Lib.hid ((QA6.out.alloc (.cells sg0 29)).setC hlt 0 (sgC fr tp sq ak fl wi ms d).toList)
  have hx := HX5.out.step hb
  have hxl := hx.lt
  have HX5_6 := Lib.hid ((hx.alloc (.cells sg0 29)).setCells_other v6.heap.size 0 (sgC fr tp sq ak fl wi ms d).toList (by omega))
  clear hx hxl
  rw [sg0_lit] at HX6 Q6 HX5_6
  have tok6 : True := trivial
  clear hb df dt hlt
  go_upto_region 14 with (have _t := tok6; refine wp_st_sg rfl _ _ rfl v6.heap.size fr tp sq ak fl wi ms d HN6 rfl rfl ?_; clear tok6 HN6; generalize World.setCells _ _ _ _ = W6 at HX6 Q6 HX5_6 ⊢; have dx := HX6.out.ld_sg; have dy := HX5_6.out.ld_sg; have dz := Q6.out.s.ld_sg; have hcv := fun w s => run_bytes_of_string (P := Try.prog) w 9 26 5 s Try.underlying9 Try.underlying26 Try.underlying5)
  have HY := Lib.hid (Byt.new W6 5 ⟨X.toArray⟩ (grownCap W6 X.length 0 5) _ ((bytesRow ⟨X.toArray⟩ (grownCap W6 X.length 0 5)).size + 1) (Nat.le_refl _)).drew
  have Q7 := Lib.hid (Q6.out.alloc (.cells (bytesRow ⟨X.toArray⟩ (grownCap W6 X.length 0 5)) 5 ((bytesRow ⟨X.toArray⟩ (grownCap W6 X.length 0 5)).size, (bytesRow ⟨X.toArray⟩ (grownCap W6 X.length 0 5)).size + 1))).drew
  have hlt6 := Q6.out.lt
  generalize World.drew _ = W7 at HY Q7 ⊢
  generalize grownCap W6 X.length 0 5 = cap
  generalize W6.heap.size = g at HY hlt6 ⊢
  clear hcv Q6 HX6 HX5_6 dx dy dz
  have hy0 : Byt W7 5 g X := HY.out
  obtain ⟨c, fz⟩ := HCELL.out _ _ _ hy0
  have HY2 := Lib.hid (HZset.out _ _ _ hy0)
  have Q8 := Lib.hid (Q7.out.set1 hlt6 K (.int .u8 (z.toNat : Int)))
  clear hy0 HY
  go_upto_region 15 with fail
  generalize World.setCell _ _ _ = W8 at HY2 Q8 ⊢
  have hbk := run_back Try.prog W8 26 9 5 g 0 cap Z Try.underlying26 Try.underlying5 Try.underlying9 HY2.out.at
  rw [HZ.out] at hbk
  clear c fz
  have df := Q8.out.f.ld_ip HL.out.f
  have dt := Q8.out.t.ld_ip HL.out.t
  go_wp2_with fail
  refine (HR3.out _).mono ?_
  rintro e v9 ⟨rfl, hb⟩
  have QA9 := Lib.hid (Q8.out.step hb)
  have hlt := QA9.out.lt
  have HN9 := Lib.hid (Blk.new v9 29 sg0 0 0 (Or.inl (Nat.le_refl _)))
  have HX9 := Lib.hid (HN9.out.put_sg (fr := 0) (tp := 0) (sq := 0) (ak := 0) (fl := 0) (wi := 0) (ms := 0) (d := []))
  have Q9 := Lib.hid ((QA9.out.alloc (.cells sg0 29)).setC hlt 0 (sgC 0 0 0 0 0 0 0 []).toList)
  rw [sg0_lit] at HX9 Q9
  have tok9 : True := trivial
  clear hb df dt hlt
  go_wp2_with (have _t := tok9; refine wp_st_sg rfl _ _ rfl v9.heap.size 0 0 0 0 0 0 0 [] HN9 rfl rfl ?_; clear tok9 HN9; generalize World.setCells _ _ _ _ = W9 at HX9 Q9 ⊢; have dx := HX9.out.ld_sg)
  go_ret
  exact ⟨rfl, Q9.out.bel⟩
end Go.Proofs.Ytccbgiapabkjbaa
