/- The walk through the law Ipv4Known: it answers true. -/
import Derived.Test.YticchchcobjpdaaJiQ
import Derived.Test.YticchchcobjpdaaRep
import Derived.Test.YticchchcobjpdaaPkU
namespace Go.Proofs.Yticchchcobjpdaa
set_option linter.unusedVariables false
set_option linter.unusedSimpArgs false
set_option maxRecDepth 100000
open Go.RowKit Go.Proofs Go.Shelf Go.Lib Go.Sort
attribute [local go_sem ↓] Go.wp_at_zero Go.wp_at_succ
attribute [local go_sem ↓] ld_pk ld_ip ld_wh
def rx (c : Nat) : List UInt8 := Lib.repeatL [120] c
theorem rep_x (c : Nat) (hc : c ≤ 1000) (w : World) : Calls Try.prog 20 #[.string ⟨#[120]⟩, .int .i64 (c : Int)] w fun e w' => e = .returned (.string ⟨(rx c).toArray⟩) ∧ Below w.heap.size w w' :=
  repeat_any ⟨#[120]⟩ c w (by omega) (by show 1 * c ≤ _; omega)
theorem k_bytes (p : Pkt) (hp : Pin p) (E : Int) (h : (pkBytes p.id p.f p.t p.pr p.tt p.a p.mo p.d).2 = E) (w : World) :
    Calls Try.prog 13 #[.agg p.c] w fun e w' => (∃ X : List UInt8, e = .returned (.tuple #[.string ⟨X.toArray⟩, .int .i64 E])) ∧ Below w.heap.size w w' :=
  (pk_any p.id p.f p.t p.pr p.tt p.a p.mo p.d p.L hp.id hp.pr hp.tt hp.a hp.d w).mono fun e w' ⟨h1, hb⟩ => ⟨⟨(pkBytes p.id p.f p.t p.pr p.tt p.a p.mo p.d).1, by rw [h1, h]⟩, hb⟩
theorem sum_k (l : List UInt8) (v : Int) (h : l.length ≤ 1000000) (hv : sumE ⟨l.toArray⟩ = v) (w : World) :
    Calls Try.prog 15 #[.string ⟨l.toArray⟩] w fun e w' => e = .returned (.int .i64 v) ∧ w' = w := sum_q l h v hv w
theorem pin_of (p : Pkt) (h1 : -9223372036854775808 ≤ p.id ∧ p.id ≤ 9223372036854775807 ∧ -9223372036854775808 ≤ p.pr ∧ p.pr ≤ 9223372036854775807 ∧ -9223372036854775808 ≤ p.tt ∧ p.tt ≤ 9223372036854775807 ∧ -9223372036854775808 ≤ p.a ∧ p.a ≤ 9223372036854775807 ∧ p.d.length ≤ 9223372036854775807) : Pin p :=
  ⟨⟨h1.1, h1.2.1⟩, ⟨h1.2.2.1, h1.2.2.2.1⟩, ⟨h1.2.2.2.2.1, h1.2.2.2.2.2.1⟩, ⟨h1.2.2.2.2.2.2.1, h1.2.2.2.2.2.2.2.1⟩, h1.2.2.2.2.2.2.2.2⟩
set_option maxHeartbeats 8000000 in
theorem ipv4Known_walk (w : World) : Calls Try.prog 4 #[] w fun e w' => e = .returned (.bool true) ∧ Below w.heap.size w w' := by
  have r567 := Lib.hid (fun w => rep_x 567 (by decide) w)
  have r566 := Lib.hid (fun w => rep_x 566 (by decide) w)
  have s1 := Lib.hid (fun w => sum_k [69, 0, 0, 28] 47843 (by decide) (by decide +kernel) w)
  have s2 := Lib.hid (fun w => sum_k [1] 65279 (by decide) (by decide +kernel) w)
  have s3 := Lib.hid (fun w => sum_k [] 65535 (by decide) (by decide +kernel) w)
  have hex0 : ∀ w, Calls Try.prog 18 #[] w fun e w' => e = .returned (.agg exP.c) ∧ Below w.heap.size w w' := fun w => pkex_any w
  obtain ⟨P, hP⟩ : ∃ P, P = exP := ⟨_, rfl⟩
  rw [← hP] at hex0
  have HEX := Lib.hid hex0
  have HP := Lib.hid hP
  clear hex0 hP
  go_enter Try.func4, Try.ntmps4
  go_wp2_with fail
  refine (newJ_any 5 (by decide) (by decide) w).mono ?_
  rintro e w1 ⟨rfl, hj1, hb1⟩
  go_wp2_with fail
  refine (HEX.out _).mono ?_
  rintro e w2 ⟨rfl, hb2⟩
  go_wp2_with fail
  refine (HEX.out _).mono ?_
  rintro e w3 ⟨rfl, hb3⟩
  have hB3 := Below.step (Below.step hb1 hb2) hb3
  have hJ3 := (hj1.below hb2).below hb3
  have hal := ((Below.refl w3.heap.size w3).alloc (Nat.le_refl _) (.cells pk0 25)).alloc (by rw [size_alloc]; omega) (.cells pk0 25)
  have HA := Lib.hid ((Blk.new w3 25 pk0 0 0 (Or.inl (Nat.le_refl _))).alloc (.cells pk0 25))
  have hBk : Blk ((w3.alloc (.cells pk0 25)).alloc (.cells pk0 25)) (w3.heap.size + 1) 25 pk0 := by
    have := Blk.new (w3.alloc (.cells pk0 25)) 25 pk0 0 0 (Or.inl (Nat.le_refl _))
    rw [size_alloc] at this
    exact this
  have HBk := Lib.hid hBk
  have HJ := Lib.hid (hJ3.below hal)
  have HB := Lib.hid (hB3.trans (hal.mono hB3.size))
  have hNA : ¬ ownJ w.heap.size none [] w3.heap.size ∧ ¬ ownJ w.heap.size none [] (w3.heap.size + 1) := ⟨fun h => by have := (hJ3.own_lt h).2; omega, fun h => by have := (hJ3.own_lt h).2; omega⟩
  have HNA := Lib.hid hNA
  have HSZ := Lib.hid hB3.size
  rw [pk0_lit] at HA HBk HJ HB
  clear hb1 hb2 hb3 hj1 hB3 hJ3 hal hBk hNA
  have tokA : True := trivial
  go_upto_region 3 with (first
    | (have _t := tokA; generalize World.alloc _ _ = w4 at HA HBk HJ HB ⊢; rw [← pk0_lit] at HA HBk; refine wp_st_pkt rfl _ _ rfl w3.heap.size P HA rfl rfl ?_; clear tokA; have tokB : True := trivial; have HA2 : Hid (Blk (w4.setCells w3.heap.size 0 P.c.toList) w3.heap.size 25 P.c) := Lib.hid (HA.out.setAll P.c_size); have HBk2 : Hid (Blk (w4.setCells w3.heap.size 0 P.c.toList) (w3.heap.size + 1) 25 pk0) := Lib.hid (HBk.out.setCells_other w3.heap.size 0 P.c.toList (by omega)); have HJ2 := Lib.hid (HJ.out.setCells w3.heap.size 0 P.c.toList HNA.out.1); have HB2 := Lib.hid (Below.setCells HB.out HSZ.out 0 P.c.toList); clear HA HBk HJ HB; generalize World.setCells _ _ _ _ = w5 at HA2 HBk2 HJ2 HB2 ⊢)
    | (have _t := tokB; refine wp_st_pkt rfl _ _ rfl (w3.heap.size + 1) P HBk2 rfl rfl ?_; clear tokB; have HA := Lib.hid (HA2.out.setCells_other (w3.heap.size + 1) 0 P.c.toList (by omega)); have HBk : Hid (Blk (w5.setCells (w3.heap.size + 1) 0 P.c.toList) (w3.heap.size + 1) 25 P.c) := Lib.hid (HBk2.out.setAll P.c_size); have HJ := Lib.hid (HJ2.out.setCells (w3.heap.size + 1) 0 P.c.toList HNA.out.2); have HB := Lib.hid (Below.setCells (b := w3.heap.size + 1) HB2.out (by have := HSZ.out; omega) 0 P.c.toList); clear HA2 HBk2 HJ2 HB2; generalize World.setCells _ _ _ _ = w6 at HA HBk HJ HB ⊢))
  obtain ⟨ab, hab⟩ : ∃ q, q = w3.heap.size := ⟨_, rfl⟩
  rw [← hab] at HA HBk HNA HSZ ⊢
  clear hab
  have cS := (pk_c5 HA.out).1
  have fS := HA.out.free 11 (by rw [Pkt.c_size]; decide)
  go_upto_region 4 with fail
  have hS : Blk (World.setCell w6 ⟨ab, 11, none⟩ (.int .i64 8)) ab 25 (withA P 8).c := by
    have h := HA.out.set 11 (.int .i64 8)
    rw [c_set11] at h
    exact h
  have HHAS := Lib.hid hS
  have HHJS := Lib.hid (HJ.out.setCell (ab) 11 (.int .i64 8) HNA.out.1)
  have HHBkS := Lib.hid (HBk.out.set_other ⟨ab, 11, none⟩ (.int .i64 8) (show ab + 1 ≠ ab by omega))
  have HHBS := Lib.hid (Below.setCell (p := ⟨ab, 11, none⟩) HB.out (show w.heap.size ≤ ab by have := HSZ.out; omega) (.int .i64 8))
  clear cS fS hS HA HJ HBk HB
  generalize World.setCell _ _ _ = z1 at HHAS HHJS HHBkS HHBS ⊢
  have HA := HHAS
  have HJ := HHJS
  have HBk := HHBkS
  have HB := HHBS
  clear HHAS HHJS HHBkS HHBS
  have cS := (pk_c5 HA.out).2.2
  have fS := HA.out.free 13 (by rw [Pkt.c_size]; decide)
  go_upto_region 5 with fail
  have hS : Blk (World.setCell z1 ⟨ab, 13, none⟩ (.string ⟨#[98, 101, 104, 105, 110, 100, 32, 56]⟩)) ab 25 (withD (withA P 8) P.mo dA).c := by
    have h := HA.out.set 13 (.string ⟨#[98, 101, 104, 105, 110, 100, 32, 56]⟩)
    rw [show (.string ⟨#[98, 101, 104, 105, 110, 100, 32, 56]⟩ : Value) = .string ⟨(dA).toArray⟩ from rfl, c_set13 (withA P 8) dA] at h
    exact h
  have HHAS := Lib.hid hS
  have HHJS := Lib.hid (HJ.out.setCell (ab) 13 (.string ⟨#[98, 101, 104, 105, 110, 100, 32, 56]⟩) HNA.out.1)
  have HHBkS := Lib.hid (HBk.out.set_other ⟨ab, 13, none⟩ (.string ⟨#[98, 101, 104, 105, 110, 100, 32, 56]⟩) (show ab + 1 ≠ ab by omega))
  have HHBS := Lib.hid (Below.setCell (p := ⟨ab, 13, none⟩) HB.out (show w.heap.size ≤ ab by have := HSZ.out; omega) (.string ⟨#[98, 101, 104, 105, 110, 100, 32, 56]⟩))
  clear cS fS hS HA HJ HBk HB
  generalize World.setCell _ _ _ = z2 at HHAS HHJS HHBkS HHBS ⊢
  have HA := HHAS
  have HJ := HHJS
  have HBk := HHBkS
  have HB := HHBS
  clear HHAS HHJS HHBkS HHBS
  have cS := (pk_c5 HBk.out).2.1
  have fS := HBk.out.free 12 (by rw [Pkt.c_size]; decide)
  go_upto_region 6 with fail
  have hS : Blk (World.setCell z2 ⟨ab + 1, 12, none⟩ (.bool true)) (ab + 1) 25 (withD P true P.d).c := by
    have h := HBk.out.set 12 (.bool true)
    rw [c_set12] at h
    exact h
  have HHBkS := Lib.hid hS
  have HHJS := Lib.hid (HJ.out.setCell (ab + 1) 12 (.bool true) HNA.out.2)
  have HHAS := Lib.hid (HA.out.set_other ⟨ab + 1, 12, none⟩ (.bool true) (show ab ≠ ab + 1 by omega))
  have HHBS := Lib.hid (Below.setCell (p := ⟨ab + 1, 12, none⟩) HB.out (show w.heap.size ≤ ab + 1 by have := HSZ.out; omega) (.bool true))
  clear cS fS hS HBk HJ HA HB
  generalize World.setCell _ _ _ = z3 at HHBkS HHJS HHAS HHBS ⊢
  have HBk := HHBkS
  have HJ := HHJS
  have HA := HHAS
  have HB := HHBS
  clear HHBkS HHJS HHAS HHBS
  have cS := (pk_c5 HBk.out).2.2
  have fS := HBk.out.free 13 (by rw [Pkt.c_size]; decide)
  go_upto_region 7 with fail
  have hS : Blk (World.setCell z3 ⟨ab + 1, 13, none⟩ (.string ⟨#[97, 104, 101, 97, 100, 32, 56, 46]⟩)) (ab + 1) 25 (withD (withD P true P.d) true dB).c := by
    have h := HBk.out.set 13 (.string ⟨#[97, 104, 101, 97, 100, 32, 56, 46]⟩)
    rw [show (.string ⟨#[97, 104, 101, 97, 100, 32, 56, 46]⟩ : Value) = .string ⟨(dB).toArray⟩ from rfl, c_set13 (withD P true P.d) dB] at h
    exact h
  have HHBkS := Lib.hid hS
  have HHJS := Lib.hid (HJ.out.setCell (ab + 1) 13 (.string ⟨#[97, 104, 101, 97, 100, 32, 56, 46]⟩) HNA.out.2)
  have HHAS := Lib.hid (HA.out.set_other ⟨ab + 1, 13, none⟩ (.string ⟨#[97, 104, 101, 97, 100, 32, 56, 46]⟩) (show ab ≠ ab + 1 by omega))
  have HHBS := Lib.hid (Below.setCell (p := ⟨ab + 1, 13, none⟩) HB.out (show w.heap.size ≤ ab + 1 by have := HSZ.out; omega) (.string ⟨#[97, 104, 101, 97, 100, 32, 56, 46]⟩))
  clear cS fS hS HBk HJ HA HB
  generalize World.setCell _ _ _ = z4 at HHBkS HHJS HHAS HHBS ⊢
  have HBk := HHBkS
  have HJ := HHJS
  have HA := HHAS
  have HB := HHBS
  clear HHBkS HHJS HHAS HHBS
  have HPP := HP
  have HAP : Hid (withD (withA P 8) P.mo dA = aP) := Lib.hid (by rw [HP.out]; rfl)
  have HBP : Hid (withD (withD P true P.d) true dB = bP) := Lib.hid (by rw [HP.out]; rfl)
  generalize withD (withA P 8) P.mo dA = pa at HA HAP
  generalize withD (withD P true P.d) true dB = pb' at HBk HBP
  have la := HA.out.ld_pkt
  have HPUT := Lib.hid (put_any HJ.out (N := 0) ⟨by decide, fun d hd => (by cases hd)⟩ (by decide) (by decide) pa (by rw [HAP.out]; exact pin_of aP (by decide)))
  go_wp2_with fail
  refine HPUT.out.mono ?_
  rintro e v1 ⟨out, ok, o1, c1, D1, rfl, hJ, hR, hF, hO⟩
  rw [HAP.out] at hR
  obtain ⟨rfl, rfl, d, rfl, hdL, hdN⟩ := known_put1 hR
  have hBlt := HBk.out.lt
  have HBk1 : Hid (Blk v1 (ab + 1) 25 pb'.c) := Lib.hid (HBk.out.of_heap (hF.block _ hBlt HNA.out.2))
  have HB1 := Lib.hid (HB.out.trans (hF.toBelow (fun k hk => (HJ.out.own_lt hk).1) HJ.out.size))
  have HNA1 : Hid (¬ ownJ w.heap.size o1 [d] (ab + 1)) := Lib.hid (fun h => (hO _ h).elim HNA.out.2 (fun h => by omega))
  have HJ1 := Lib.hid hJ
  have HD := Lib.hid (And.intro hdL hdN)
  have hal := (Below.refl v1.heap.size v1).alloc (Nat.le_refl _) (.cells pk0 25)
  have HM := Lib.hid (Blk.new v1 25 pk0 0 0 (Or.inl (Nat.le_refl _)))
  have HJ2 := Lib.hid (HJ1.out.below hal)
  have HBk2 := Lib.hid (HBk1.out.step hal)
  have HB2 := Lib.hid (HB1.out.trans (hal.mono HB1.out.size))
  have HX : Hid (¬ ownJ w.heap.size o1 [d] v1.heap.size ∧ ab + 1 ≠ v1.heap.size ∧ w.heap.size ≤ v1.heap.size) := Lib.hid ⟨fun h => by have := (HJ1.out.own_lt h).2; omega, Nat.ne_of_lt HBk1.out.lt, HB1.out.size⟩
  rw [pk0_lit] at HM HJ2 HBk2 HB2
  clear la HPUT hJ hR hF hO hdL hdN hBlt hal HA HBk HJ HB HNA HAP HJ1 HBk1 HB1
  have tokC : True := trivial
  go_upto_region 8 with (have _t := tokC; generalize World.alloc _ _ = v2 at HM HJ2 HBk2 HB2 ⊢; rw [← pk0_lit] at HM; refine wp_st_over rfl _ _ rfl v1.heap.size pkt0 pkt0 (by rw [pkt0_c]; exact HM) rfl rfl ?_; clear tokC; have HJ := Lib.hid (HJ2.out.setCells v1.heap.size 0 pkt0.c.toList HX.out.1); have HBk := Lib.hid (HBk2.out.setCells_other v1.heap.size 0 pkt0.c.toList HX.out.2.1); have HB := Lib.hid (Below.setCells HB2.out HX.out.2.2 0 pkt0.c.toList); clear HM HJ2 HBk2 HB2 HX; generalize World.setCells _ _ _ _ = v3 at HJ HBk HB ⊢)
  have lb := HBk.out.ld_pkt
  have HPUT := Lib.hid (put_any HJ.out (N := 1) ⟨by simp, fun x hx => by rw [List.mem_singleton.1 hx]; exact ⟨⟨by rw [HD.out.1]; decide, fun y hy => by rw [HD.out.1] at hy; rw [List.mem_singleton.1 hy, HD.out.2]; exact ⟨may_a, sameW_self _⟩⟩, by rw [HD.out.1]; simp⟩⟩ (by decide) (by decide) pb' (by rw [HBP.out]; exact pin_of bP (by decide)))
  go_wp2_with fail
  refine HPUT.out.mono ?_
  rintro e v4 ⟨out, ok, o2, c2, D2, rfl, hJ, hR, hF, hO⟩
  rw [HBP.out] at hR
  obtain ⟨hout, rfl, rfl⟩ := known_put2 HD.out.1 HD.out.2 hR
  have HOUT := Lib.hid hout
  have HJ4 := Lib.hid hJ
  have HB4 := Lib.hid (HB.out.trans (hF.toBelow (fun k hk => (HJ.out.own_lt hk).1) HJ.out.size))
  clear lb HPUT hJ hR hF hO hout HJ HBk HB HBP HNA1 HD
  have hal := (Below.refl v4.heap.size v4).alloc (Nat.le_refl _) (.cells pk0 25)
  have HN := Lib.hid (Blk.new v4 25 pk0 0 0 (Or.inl (Nat.le_refl _)))
  have HJa := Lib.hid (HJ4.out.below hal)
  have HBa := Lib.hid (HB4.out.trans (hal.mono HB4.out.size))
  have HX : Hid (w.heap.size ≤ v4.heap.size ∧ ¬ ownJ w.heap.size o2 [] v4.heap.size) := Lib.hid ⟨HB4.out.size, fun h => Nat.lt_irrefl _ (HJ4.out.own_lt h).2⟩
  rw [pk0_lit] at HN HJa HBa
  clear hal HB4 HJ4 
  have tok5 : True := trivial
  go_upto_region 9 with (have _t := tok5; generalize World.alloc _ _ = y5 at HN HJa HBa ⊢; rw [← pk0_lit] at HN; refine wp_st_pkt rfl _ _ rfl v4.heap.size out HN rfl rfl ?_; clear tok5; have HNb : Hid (Blk (World.setCells y5 v4.heap.size 0 (out).c.toList) v4.heap.size 25 (out).c) := Lib.hid (HN.out.setAll (Pkt.c_size _)); have HJb := Lib.hid (HJa.out.setCells v4.heap.size 0 (out).c.toList HX.out.2); have HBb := Lib.hid (Below.setCells HBa.out HX.out.1 0 (out).c.toList); clear HN HJa HBa; generalize World.setCells _ _ _ _ = u5 at HNb HJb HBb ⊢)
  obtain ⟨mb, hmb⟩ : ∃ q, q = v4.heap.size := ⟨_, rfl⟩
  rw [← hmb] at HNb HX ⊢
  clear hmb
  have HJ6 := HJb
  have HB6 := HBb
  have HM6 := HNb
  have HSM : Hid (w.heap.size ≤ mb) := Lib.hid HX.out.1
  clear HJb HBb HNb HX
  go_wp2_with fail
  refine (HEX.out _).mono ?_
  rintro e v7 ⟨rfl, hb7⟩
  have HJ4 := Lib.hid (HJ6.out.below hb7)
  have HB4 := Lib.hid (HB6.out.trans (hb7.mono HB6.out.size))
  have HM := Lib.hid (HM6.out.step hb7)
  clear hb7 HJ6 HB6 HM6
  have hal := (Below.refl v7.heap.size v7).alloc (Nat.le_refl _) (.cells pk0 25)
  have HN := Lib.hid (Blk.new v7 25 pk0 0 0 (Or.inl (Nat.le_refl _)))
  have HJa := Lib.hid (HJ4.out.below hal)
  have HBa := Lib.hid (HB4.out.trans (hal.mono HB4.out.size))
  have HMa := Lib.hid (HM.out.step hal)
  have HX : Hid (w.heap.size ≤ v7.heap.size ∧ ¬ ownJ w.heap.size o2 [] v7.heap.size ∧ mb ≠ v7.heap.size) := Lib.hid ⟨HB4.out.size, fun h => Nat.lt_irrefl _ (HJ4.out.own_lt h).2, Nat.ne_of_lt HM.out.lt⟩
  rw [pk0_lit] at HN HJa HBa HMa
  clear hal HB4 HJ4 HM
  have tok6 : True := trivial
  go_upto_region 10 with (have _t := tok6; generalize World.alloc _ _ = y6 at HN HJa HBa HMa ⊢; rw [← pk0_lit] at HN; refine wp_st_pkt rfl _ _ rfl v7.heap.size P HN rfl rfl ?_; clear tok6; have HNb : Hid (Blk (World.setCells y6 v7.heap.size 0 (P).c.toList) v7.heap.size 25 (P).c) := Lib.hid (HN.out.setAll (Pkt.c_size _)); have HJb := Lib.hid (HJa.out.setCells v7.heap.size 0 (P).c.toList HX.out.2.1); have HBb := Lib.hid (Below.setCells HBa.out HX.out.1 0 (P).c.toList); have HMb := Lib.hid (HMa.out.setCells_other v7.heap.size 0 (P).c.toList HX.out.2.2); clear HN HJa HBa HMa; generalize World.setCells _ _ _ _ = u6 at HNb HJb HBb HMb ⊢)
  obtain ⟨wb, hwb⟩ : ∃ q, q = v7.heap.size := ⟨_, rfl⟩
  rw [← hwb] at HNb HX ⊢
  clear hwb
  have HJ := HJb
  have HB := HBb
  have HW := HNb
  have HM := HMb
  have HXW := HX
  clear HJb HBb HNb HMb HX
  have cS := (pk_c5 HW.out).2.2
  have fS := HW.out.free 13 (by rw [Pkt.c_size]; decide)
  go_upto_region 11 with fail
  have hS : Blk (World.setCell u6 ⟨wb, 13, none⟩ (.string ⟨#[97, 104, 101, 97, 100, 32, 56, 46, 98, 101, 104, 105, 110, 100, 32, 56]⟩)) wb 25 (withD P P.mo dW).c := by
    have h := HW.out.set 13 (.string ⟨#[97, 104, 101, 97, 100, 32, 56, 46, 98, 101, 104, 105, 110, 100, 32, 56]⟩)
    rw [show (.string ⟨#[97, 104, 101, 97, 100, 32, 56, 46, 98, 101, 104, 105, 110, 100, 32, 56]⟩ : Value) = .string ⟨(dW).toArray⟩ from rfl, c_set13 P dW] at h
    exact h
  have HHWS := Lib.hid hS
  have HHJS := Lib.hid (HJ.out.setCell wb 13 (.string ⟨#[97, 104, 101, 97, 100, 32, 56, 46, 98, 101, 104, 105, 110, 100, 32, 56]⟩) HXW.out.2.1)
  have HHMS := Lib.hid (HM.out.set_other ⟨wb, 13, none⟩ (.string ⟨#[97, 104, 101, 97, 100, 32, 56, 46, 98, 101, 104, 105, 110, 100, 32, 56]⟩) HXW.out.2.2)
  have HHBS := Lib.hid (Below.setCell (p := ⟨wb, 13, none⟩) HB.out HXW.out.1 (.string ⟨#[97, 104, 101, 97, 100, 32, 56, 46, 98, 101, 104, 105, 110, 100, 32, 56]⟩))
  clear cS fS hS HW HJ HM HB
  generalize World.setCell _ _ _ = z7 at HHWS HHJS HHMS HHBS ⊢
  have HW := HHWS
  have HJ := HHJS
  have HM := HHMS
  have HB := HHBS
  clear HHWS HHJS HHMS HHBS
  have HWP : Hid (out = withD P P.mo dW) := Lib.hid (by rw [HOUT.out, HP.out]; rfl)
  rw [← HWP.out] at HW
  clear HWP
  go_wp2_with fail
  refine (HEX.out _).mono ?_
  rintro e x1 ⟨rfl, hb7⟩
  have HJ4 := Lib.hid (HJ.out.below hb7)
  have HB4 := Lib.hid (HB.out.trans (hb7.mono HB.out.size))
  have HMq := Lib.hid (HM.out.step hb7)
  have HWq := Lib.hid (HW.out.step hb7)
  clear hb7 HJ HB HM HW HXW
  have hal := (Below.refl x1.heap.size x1).alloc (Nat.le_refl _) (.cells pk0 25)
  have HN := Lib.hid (Blk.new x1 25 pk0 0 0 (Or.inl (Nat.le_refl _)))
  have HJa := Lib.hid (HJ4.out.below hal)
  have HBa := Lib.hid (HB4.out.trans (hal.mono HB4.out.size))
  have HMqa := Lib.hid (HMq.out.step hal)
  have HWqa := Lib.hid (HWq.out.step hal)
  have HX : Hid (w.heap.size ≤ x1.heap.size ∧ ¬ ownJ w.heap.size o2 [] x1.heap.size ∧ mb ≠ x1.heap.size ∧ wb ≠ x1.heap.size) := Lib.hid ⟨HB4.out.size, fun h => Nat.lt_irrefl _ (HJ4.out.own_lt h).2, Nat.ne_of_lt HMq.out.lt, Nat.ne_of_lt HWq.out.lt⟩
  rw [pk0_lit] at HN HJa HBa HMqa HWqa
  clear hal HB4 HJ4 HMq HWq
  have tok8 : True := trivial
  go_upto_region 12 with (have _t := tok8; generalize World.alloc _ _ = y8 at HN HJa HBa HMqa HWqa ⊢; rw [← pk0_lit] at HN; refine wp_st_pkt rfl _ _ rfl x1.heap.size P HN rfl rfl ?_; clear tok8; have HNb : Hid (Blk (World.setCells y8 x1.heap.size 0 (P).c.toList) x1.heap.size 25 (P).c) := Lib.hid (HN.out.setAll (Pkt.c_size _)); have HJb := Lib.hid (HJa.out.setCells x1.heap.size 0 (P).c.toList HX.out.2.1); have HBb := Lib.hid (Below.setCells HBa.out HX.out.1 0 (P).c.toList); have HMqb := Lib.hid (HMqa.out.setCells_other x1.heap.size 0 (P).c.toList HX.out.2.2.1); have HWqb := Lib.hid (HWqa.out.setCells_other x1.heap.size 0 (P).c.toList HX.out.2.2.2); clear HN HJa HBa HMqa HWqa; generalize World.setCells _ _ _ _ = u8 at HNb HJb HBb HMqb HWqb ⊢)
  obtain ⟨lb, hlb⟩ : ∃ q, q = x1.heap.size := ⟨_, rfl⟩
  rw [← hlb] at HNb HX ⊢
  clear hlb
  have HJ := HJb
  have HB := HBb
  have HL := HNb
  have HM := HMqb
  have HW := HWqb
  have HXL := HX
  clear HJb HBb HNb HMqb HWqb HX
  go_wp2_with fail
  refine (r567.out _).mono ?_
  rintro e q1 ⟨rfl, hb7⟩
  have HJn := Lib.hid (HJ.out.below hb7)
  have HBn := Lib.hid (HB.out.trans (hb7.mono HB.out.size))
  have HMn := Lib.hid (HM.out.step hb7)
  have HWn := Lib.hid (HW.out.step hb7)
  have HLn := Lib.hid (HL.out.step hb7)
  clear hb7 HJ HB HM HW HL
  have HJ := HJn
  have HB := HBn
  have HM := HMn
  have HW := HWn
  have HL := HLn
  clear HJn HBn HMn HWn HLn
  have cS := (pk_c5 HL.out).2.2
  have fS := HL.out.free 13 (by rw [Pkt.c_size]; decide)
  go_upto_region 13 with fail
  have hS : Blk (World.setCell q1 ⟨lb, 13, none⟩ (.string ⟨(rx 567).toArray⟩)) lb 25 (withD P P.mo (rx 567)).c := by
    have h := HL.out.set 13 (.string ⟨(rx 567).toArray⟩)
    rw [c_set13 P (rx 567)] at h
    exact h
  have HHLS := Lib.hid hS
  have HHJS := Lib.hid (HJ.out.setCell lb 13 (.string ⟨(rx 567).toArray⟩) HXL.out.2.1)
  have HHMS := Lib.hid (HM.out.set_other ⟨lb, 13, none⟩ (.string ⟨(rx 567).toArray⟩) HXL.out.2.2.1)
  have HHWS := Lib.hid (HW.out.set_other ⟨lb, 13, none⟩ (.string ⟨(rx 567).toArray⟩) HXL.out.2.2.2)
  have HHBS := Lib.hid (Below.setCell (p := ⟨lb, 13, none⟩) HB.out HXL.out.1 (.string ⟨(rx 567).toArray⟩))
  clear cS fS hS HL HJ HM HW HB
  generalize World.setCell _ _ _ = z9 at HHLS HHJS HHMS HHWS HHBS ⊢
  have HL := HHLS
  have HJ := HHJS
  have HM := HHMS
  have HW := HHWS
  have HB := HHBS
  clear HHLS HHJS HHMS HHWS HHBS
  have HBY := Lib.hid (fun w => k_bytes (withD P P.mo (rx 567)) (by rw [HP.out]; exact pin_of _ (by decide +kernel)) 3 (by rw [HP.out]; decide +kernel) w)
  have ll := HL.out.ld_pkt
  go_wp2_with fail
  refine (HBY.out _).mono ?_
  rintro e q2 ⟨⟨X3, rfl⟩, hb7⟩
  have HJn := Lib.hid (HJ.out.below hb7)
  have HBn := Lib.hid (HB.out.trans (hb7.mono HB.out.size))
  have HMn := Lib.hid (HM.out.step hb7)
  have HWn := Lib.hid (HW.out.step hb7)
  have HLn := Lib.hid (HL.out.step hb7)
  clear hb7 HJ HB HM HW HL
  have HJ := HJn
  have HB := HBn
  have HM := HMn
  have HW := HWn
  have HL := HLn
  clear HJn HBn HMn HWn HLn
  clear ll HBY
  go_wp2_with fail
  refine (r566.out _).mono ?_
  rintro e q3 ⟨rfl, hb7⟩
  have HJn := Lib.hid (HJ.out.below hb7)
  have HBn := Lib.hid (HB.out.trans (hb7.mono HB.out.size))
  have HMn := Lib.hid (HM.out.step hb7)
  have HWn := Lib.hid (HW.out.step hb7)
  have HLn := Lib.hid (HL.out.step hb7)
  clear hb7 HJ HB HM HW HL
  have HJ := HJn
  have HB := HBn
  have HM := HMn
  have HW := HWn
  have HL := HLn
  clear HJn HBn HMn HWn HLn
  have cS := (pk_c5 HL.out).2.2
  have fS := HL.out.free 13 (by rw [Pkt.c_size]; decide)
  go_upto_region 15 with fail
  have hS : Blk (World.setCell q3 ⟨lb, 13, none⟩ (.string ⟨(rx 566).toArray⟩)) lb 25 (withD P P.mo (rx 566)).c := by
    have h := HL.out.set 13 (.string ⟨(rx 566).toArray⟩)
    rw [c_set13 (withD P P.mo (rx 567)) (rx 566)] at h
    exact h
  have HHLS := Lib.hid hS
  have HHJS := Lib.hid (HJ.out.setCell lb 13 (.string ⟨(rx 566).toArray⟩) HXL.out.2.1)
  have HHMS := Lib.hid (HM.out.set_other ⟨lb, 13, none⟩ (.string ⟨(rx 566).toArray⟩) HXL.out.2.2.1)
  have HHWS := Lib.hid (HW.out.set_other ⟨lb, 13, none⟩ (.string ⟨(rx 566).toArray⟩) HXL.out.2.2.2)
  have HHBS := Lib.hid (Below.setCell (p := ⟨lb, 13, none⟩) HB.out HXL.out.1 (.string ⟨(rx 566).toArray⟩))
  clear cS fS hS HL HJ HM HW HB
  generalize World.setCell _ _ _ = z10 at HHLS HHJS HHMS HHWS HHBS ⊢
  have HL := HHLS
  have HJ := HHJS
  have HM := HHMS
  have HW := HHWS
  have HB := HHBS
  clear HHLS HHJS HHMS HHWS HHBS
  have HBY := Lib.hid (fun w => k_bytes (withD P P.mo (rx 566)) (by rw [HP.out]; exact pin_of _ (by decide +kernel)) 0 (by rw [HP.out]; decide +kernel) w)
  have ll := HL.out.ld_pkt
  go_wp2_with fail
  refine (HBY.out _).mono ?_
  rintro e q4 ⟨⟨X0, rfl⟩, hb7⟩
  have HJn := Lib.hid (HJ.out.below hb7)
  have HBn := Lib.hid (HB.out.trans (hb7.mono HB.out.size))
  have HMn := Lib.hid (HM.out.step hb7)
  have HWn := Lib.hid (HW.out.step hb7)
  have HLn := Lib.hid (HL.out.step hb7)
  clear hb7 HJ HB HM HW HL
  have HJ := HJn
  have HB := HBn
  have HM := HMn
  have HW := HWn
  have HL := HLn
  clear HJn HBn HMn HWn HLn
  clear ll HBY
  have cS := (pk_c5 HL.out).1
  have fS := HL.out.free 11 (by rw [Pkt.c_size]; decide)
  go_upto_region 17 with fail
  have hS : Blk (World.setCell q4 ⟨lb, 11, none⟩ (.int .i64 65528)) lb 25 (withA (withD P P.mo (rx 566)) 65528).c := by
    have h := HL.out.set 11 (.int .i64 65528)
    rw [c_set11] at h
    exact h
  have HHLS := Lib.hid hS
  have HHJS := Lib.hid (HJ.out.setCell lb 11 (.int .i64 65528) HXL.out.2.1)
  have HHMS := Lib.hid (HM.out.set_other ⟨lb, 11, none⟩ (.int .i64 65528) HXL.out.2.2.1)
  have HHWS := Lib.hid (HW.out.set_other ⟨lb, 11, none⟩ (.int .i64 65528) HXL.out.2.2.2)
  have HHBS := Lib.hid (Below.setCell (p := ⟨lb, 11, none⟩) HB.out HXL.out.1 (.int .i64 65528))
  clear cS fS hS HL HJ HM HW HB
  generalize World.setCell _ _ _ = z11 at HHLS HHJS HHMS HHWS HHBS ⊢
  have HL := HHLS
  have HJ := HHJS
  have HM := HHMS
  have HW := HHWS
  have HB := HHBS
  clear HHLS HHJS HHMS HHWS HHBS
  have HBY := Lib.hid (fun w => k_bytes (withA (withD P P.mo (rx 566)) 65528) (by rw [HP.out]; exact pin_of _ (by decide +kernel)) 1 (by rw [HP.out]; decide +kernel) w)
  have ll := HL.out.ld_pkt
  go_wp2_with fail
  refine (HBY.out _).mono ?_
  rintro e q5 ⟨⟨X1, rfl⟩, hb7⟩
  have HJn := Lib.hid (HJ.out.below hb7)
  have HBn := Lib.hid (HB.out.trans (hb7.mono HB.out.size))
  have HMn := Lib.hid (HM.out.step hb7)
  have HWn := Lib.hid (HW.out.step hb7)
  have HLn := Lib.hid (HL.out.step hb7)
  clear hb7 HJ HB HM HW HL
  have HJ := HJn
  have HB := HBn
  have HM := HMn
  have HW := HWn
  have HL := HLn
  clear HJn HBn HMn HWn HLn
  clear ll HBY
  go_wp2_with fail
  refine (newJ_bad 0 (by decide) _).mono ?_
  rintro e q9 ⟨rfl, rfl⟩
  go_wp2_with fail
  refine (pkawake_any _).mono ?_
  rintro e q6 ⟨rfl, hb7⟩
  have HJn := Lib.hid (HJ.out.below hb7)
  have HBn := Lib.hid (HB.out.trans (hb7.mono HB.out.size))
  have HMn := Lib.hid (HM.out.step hb7)
  have HWn := Lib.hid (HW.out.step hb7)
  have HLn := Lib.hid (HL.out.step hb7)
  clear hb7 HJ HB HM HW HL
  have HJ := HJn
  have HB := HBn
  have HM := HMn
  have HW := HWn
  have HL := HLn
  clear HJn HBn HMn HWn HLn
  go_wp2_with fail
  refine (s1.out _).mono ?_
  rintro e q21 ⟨rfl, rfl⟩
  go_wp2_with fail
  refine (s2.out _).mono ?_
  rintro e q22 ⟨rfl, rfl⟩
  go_wp2_with fail
  refine (s3.out _).mono ?_
  rintro e q23 ⟨rfl, rfl⟩
  have lm := HM.out.ld_pkt
  have lw := HW.out.ld_pkt
  have heq := run_pkt_eql out out rfl
  have HLE := Lib.hid (lenJ_any 5 w.heap.size 0 c2 o2 (by decide) _ (jo_cell HJ.out) (by have := jo_cell1 HJ.out; exact this))
  go_wp2_with fail
  refine HLE.out.mono ?_
  rintro e q30 ⟨rfl, rfl⟩
  go_wp2
  go_ret
  exact ⟨rfl, HB.out⟩
end Go.Proofs.Yticchchcobjpdaa
