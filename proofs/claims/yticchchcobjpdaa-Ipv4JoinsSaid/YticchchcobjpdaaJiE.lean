/- The walk of done: the datagram, if all its bytes are there. Condition: packets that may be, at most 1000 of them. -/
import Derived.Test.YticchchcobjpdaaJiD
import Derived.Test.YticchchcobjpdaaPkN
namespace Go.Proofs.Yticchchcobjpdaa
set_option linter.unusedVariables false
set_option linter.unusedSimpArgs false
set_option maxRecDepth 100000
open Go.RowKit Go.Proofs Go.Shelf Go.Lib Go.Sort
attribute [local go_sem ↓] Go.wp_at_zero Go.wp_at_succ
attribute [local go_sem ↓] ld_pk ld_ip
theorem pkt0_c : pkt0.c = pk0 := by kernel_rfl
theorem c_set13 (p : Pkt) (d : List UInt8) : p.c.setIfInBounds 13 (.string ⟨d.toArray⟩) = (withD p p.mo d).c := by
  obtain ⟨id, f, t, pr, tt, a, mo, d0, hL⟩ := p
  obtain ⟨f0, f1, f2, f3, t0, t1, t2, t3, rfl, rfl⟩ := pk_explicit hL
  rfl
theorem ba_app (a b : List UInt8) : (⟨a.toArray⟩ : ByteArray) ++ (⟨b.toArray⟩ : ByteArray) = ⟨(a ++ b).toArray⟩ := by
  apply ByteArray.ext
  simp
theorem c_set12 (p : Pkt) (m : Bool) : p.c.setIfInBounds 12 (.bool m) = (withD p m p.d).c := by
  obtain ⟨id, f, t, pr, tt, a, mo, d0, hL⟩ := p
  obtain ⟨f0, f1, f2, f3, t0, t1, t2, t3, rfl, rfl⟩ := pk_explicit hL
  rfl
theorem withD_twice (p : Pkt) (m m' : Bool) (d d' : List UInt8) : withD (withD p m d) m' d' = withD p m' d' := rfl
theorem part_d {S : List Pkt} {k : Nat} {d : List UInt8} (h : chainD (S.take k) [] = some d) : (partP S k d).d = d := by
  unfold partP
  split
  · rename_i hk
    subst hk
    rw [List.take_zero] at h
    exact Option.some.inj h
  · rfl
theorem part_next (S : List Pkt) (k : Nat) (hk : k < S.length) (hk0 : k ≠ 0) (d d' : List UInt8) : withD (partP S k d) (partP S k d).mo d' = partP S (k + 1) d' := by
  unfold partP
  rw [if_neg hk0, if_neg (by omega)]
  rfl
theorem part_first (S : List Pkt) (h : 0 < S.length) (d' : List UInt8) : withD S[0] S[0].mo d' = partP S (0 + 1) d' := by
  unfold partP
  rw [if_neg (by omega)]
  cases S with
  | nil => simp at h
  | cons x l => rfl
theorem part_last (S : List Pkt) (d : List UInt8) (h : chainD (S.take S.length) [] = some d) : withD (partP S S.length d) false (partP S S.length d).d = withD (S.headD pkt0) false d := by
  rw [part_d h]
  unfold partP
  split
  · rename_i h0
    have : S = [] := List.length_eq_zero_iff.1 h0
    subst this
    rfl
  · rfl
theorem chain_len {S : List Pkt} {k : Nat} (hk : k < S.length) {d : List UInt8} (hM : May S[k]) (hx : S[k].a = (d.length : Int)) : d.length ≤ 65528 ∧ S[k].d.length ≤ 65515 := by
  have := hM.b
  omega
theorem wp_st_over {ops : Array Oper} {rest : List Oper} {o : Oper} {a : Act} {w : World} {Q : Exit → Act → World → Prop} (hgd : o.guard = none) (x y : Operand) (ho : o.op = .store 25 x y)
    (b : Nat) (p q : Pkt) (hK : Hid (Blk w b 25 q.c)) (hx : a.eval x = .pointer (some ⟨b, 0, none⟩)) (hy : a.eval y = .agg p.c)
    (h : wpList Try.prog ops Q rest (a.put o.dst undef) (w.setCells b 0 p.c.toList)) : wpList Try.prog ops Q (o :: rest) a w :=
  wpList_store_blk hgd 25 x y ho b p.c hx hy q.c 25 hK.out (by rw [p.c_size, q.c_size]) (by rw [p.c_size]; exact size_pk) p.c_one h
theorem blk_over {w : World} {b : Nat} {p q : Pkt} (h : Blk w b 25 q.c) : Blk (w.setCells b 0 p.c.toList) b 25 p.c := h.setAll (by rw [p.c_size, q.c_size])

set_option maxHeartbeats 2000000 in
theorem done_any (b g cap : Nat) (L : List Pkt) (hL : ∀ x ∈ L, May x) (h1000 : L.length ≤ 1000) (w : World) (hb : b < w.heap.size) (hd : w.cell? ⟨b, 10, none⟩ = some (.slice (some ⟨g, 0, none⟩) L.length cap)) (hbg : b ≠ g) (hr : PkRow w g cap L) :
    Calls Try.prog 38 #[.pointer (some ⟨b, 0, none⟩)] w fun e w' => ∃ S, Srt keyP S ∧ Stb keyP L S ∧ e = .returned (.tuple #[.agg (doneV S).1.c, .bool (doneV S).2]) ∧ PkRow w' g cap S ∧ w.grownBy w' (some g) := by
  have hal := (Below.refl w.heap.size w).alloc (Nat.le_refl _) (.cells pk0 25)
  have HR1 := Lib.hid (Blk.new w 25 pk0 0 0 (Or.inl (Nat.le_refl _)))
  have HRW := Lib.hid (hr.below hal)
  have hcd : (w.alloc (.cells pk0 25)).cell? ⟨b, 10, none⟩ = some (.slice (some ⟨g, 0, none⟩) L.length cap) := (hal.cell (p := ⟨b, 10, none⟩) hb).trans hd
  have HCD := Lib.hid hcd
  have HB1 := Lib.hid hal
  have HBG := Lib.hid hbg
  have HBL := Lib.hid (Nat.lt_of_lt_of_le hb hal.size)
  have HGR := Lib.hid hr.1
  have HML := Lib.hid hL
  rw [pk0_lit] at HR1 HRW HCD HB1 HBL
  clear hal hr hcd hd hb hbg hL
  go_enter Try.func38, Try.ntmps38
  go_upto_region 1 with fail
  generalize World.alloc _ _ = w1 at HR1 HRW HCD HB1 HBL ⊢
  rw [← pk0_lit] at HR1
  obtain ⟨rb, hrb⟩ : ∃ q, q = w.heap.size := ⟨_, rfl⟩
  rw [← hrb] at HR1 ⊢
  have HRB := Lib.hid hrb
  clear hrb
  have HSO := Lib.hid (sortP_any g cap L (fun x hx => (HML.out x hx).b |> fun h => ⟨h.1, h.2.1⟩) h1000 w1 HRW.out)
  have hcd := HCD.out
  go_wp2_with fail
  refine HSO.out.mono ?_
  rintro e w2 ⟨rfl, S, s1, s2, hrow, hg⟩
  have HS := Lib.hid (And.intro s1 s2)
  have HRW2 := Lib.hid hrow
  have HG2 := Lib.hid (below_grown HB1.out hg)
  have HLEN : Hid (S.length = L.length) := Lib.hid s2.len
  have HMS : Hid (∀ x ∈ S, May x) := Lib.hid (s2.good HML.out)
  have hR2 : Blk w2 rb 25 pk0 := HR1.out.of_heap (hg.block rb HR1.out.lt (fun h => by have h1 := HRB.out; have h2 := HGR.out; injection h with h; omega))
  have HR2 := Lib.hid hR2
  have hcd2 : w2.cell? ⟨b, 10, none⟩ = some (.slice (some ⟨g, 0, none⟩) L.length cap) := hg.cell HCD.out (fun h => HBG.out (by injection h))
  have HBL2 : Hid (b < w2.heap.size) := Lib.hid (Nat.lt_of_lt_of_le HBL.out hg.size)
  clear s1 s2 hrow hg HSO HRW HR1 HML hcd HB1 HCD hR2
  obtain ⟨n, hn⟩ : ∃ n, n = L.length := ⟨_, rfl⟩
  rw [← hn] at hcd2 h1000
  have HN : Hid (S.length = n) := Lib.hid (by rw [HLEN.out, hn])
  have hal := (Below.refl w2.heap.size w2).alloc (Nat.le_refl _) (.cells pk0 25)
  have HP3 := Lib.hid (Blk.new w2 25 pk0 0 0 (Or.inl (Nat.le_refl _)))
  have HB3 := Lib.hid hal
  have HCD3 := Lib.hid ((hal.cell (p := ⟨b, 10, none⟩) HBL2.out).trans hcd2)
  rw [pk0_lit] at HP3 HB3 HCD3
  clear hn hal hcd2
  go_upto_region 3 with fail
  generalize World.alloc _ _ = w3 at HP3 HB3 HCD3 ⊢
  rw [← pk0_lit] at HP3
  obtain ⟨pb, hpb⟩ : ∃ q, q = w2.heap.size := ⟨_, rfl⟩
  rw [← hpb] at HP3 ⊢
  have HPB := Lib.hid hpb
  clear hpb
  have hcd3 := HCD3.out
  go_wp2
  go_loopg [5, 19] n (fun kx s5 s19 wr => ∃ (k : Nat) (d : List UInt8) (cl : Bool), s5 = .bool cl ∧ s19 = .int .i64 k ∧ k ≤ n ∧ n - k ≤ kx ∧ Hid (cl = (S.take k).any (fun x => !x.mo)) ∧ Hid (chainD (S.take k) [] = some d) ∧ Hid (Blk wr pb 25 (partP S k d).c) ∧ Hid (Below w2.heap.size w2 wr))
  case atStart => exact ⟨0, [], false, rfl, rfl, Nat.zero_le _, by omega, Lib.hid rfl, Lib.hid rfl, Lib.hid (by rw [show partP S 0 [] = pkt0 from rfl, pkt0_c]; exact HP3.out), HB3⟩
  case round =>
    obtain ⟨k, d, cl, rfl, rfl, hk, hkx, HCLO, HCH, HPK, HB⟩ := hrel
    obtain ⟨w4, rfl⟩ : ∃ w4 : World, w4 = wr := ⟨_, rfl⟩
    by_cases hlt : k < n
    · have hltz : (k : Int) < (n : Int) := by omega
      have hkS : k < S.length := by rw [HN.out]; exact hlt
      obtain ⟨g', o', he, hgl, hc⟩ := (HRW2.out.ps.below HB.out).cells k hkS
      injection he with he
      injection he with he1 he2
      subst he1
      subst he2
      have hld := ps_ld hc k hkS
      rw [Nat.zero_add] at hld
      have HX := Lib.hid (HMS.out S[k] (List.getElem_mem _))
      have HCS := Lib.hid (chain_step S k hkS d HCH.out)
      have HNO : Hid (¬ S[k].a = (d.length : Int) → doneV S = (pkt0, false)) := Lib.hid (fun h => done_no S k hkS d HCH.out h)
      have HAN := Lib.hid (any_take S k hkS)
      have HFI : Hid (k = 0 → ∀ d', withD S[k] S[k].mo d' = partP S (k + 1) d') := Lib.hid (fun h d' => by subst h; exact part_first S hkS d')
      have HNX : Hid (k ≠ 0 → ∀ d', withD (partP S k d) (partP S k d).mo d' = partP S (k + 1) d') := Lib.hid (fun h d' => part_next S k hkS h d d')
      have HPD : Hid ((partP S k d).d = d) := Lib.hid (part_d HCH.out)
      generalize S[k] = x at hld HX HCS HNO HAN HFI HNX
      generalize partP S k d = P at HPK HNX HPD
      have hpl := HPK.out.lt
      have HNw := Lib.hid (Blk.new w4 25 pk0 0 0 (Or.inl (Nat.le_refl _)))
      have HBs := Lib.hid (Below.setCells ((Below.refl w4.heap.size w4).alloc (Nat.le_refl _) (.cells pk0 25)) (Nat.le_refl _) 0 x.c.toList)
      have HP4 := Lib.hid ((HPK.out.alloc (.cells pk0 25)).setCells_other w4.heap.size 0 x.c.toList (by omega))
      have HX4 : Hid (Blk ((w4.alloc (.cells pk0 25)).setCells w4.heap.size 0 x.c.toList) w4.heap.size 25 x.c) := Lib.hid (HNw.out.put_pk x.L)
      rw [pk0_lit] at HBs HP4 HX4
      have tokA : True := trivial
      clear hc
      go_upto_region 7 with (have _t := tokA; refine wp_st_pkt rfl _ _ rfl w4.heap.size x HNw rfl rfl ?_; clear tokA)
      generalize World.setCells _ _ _ _ = w5 at HBs HP4 HX4 ⊢
      obtain ⟨xb, hxb⟩ : ∃ q, q = w4.heap.size := ⟨_, rfl⟩
      rw [← hxb] at HX4 ⊢
      have HPX : Hid (pb ≠ xb) := Lib.hid (by omega)
      have HB5 := Lib.hid (HB.out.trans (HBs.out.mono HB.out.size))
      have HR5 := Lib.hid (HR2.out.below HB5.out HR2.out.lt)
      obtain ⟨cx1, cx2, cx3⟩ := pk_c5 HX4.out
      obtain ⟨cp1, cp2, cp3⟩ := pk_c5 HP4.out
      rw [HPD.out] at cp3
      clear hxb hpl HNw HBs HPK cp1 cp2
      (try simp only [Act.put, List.setIfInBounds_toArray, List.set_cons_succ, List.set_cons_zero])
      by_cases hx : x.a = (d.length : Int)
      · have hne : (x.a != (d.length : Int)) = false := by rw [bne_eq_false_iff_eq]; exact hx
        have hm := HX.out.b
        have HXA := Lib.hid hx
        have hz1 : ¬ (9223372036854775807 : Nat) < d.length + x.d.length := by omega
        have hz2 : ¬ (9223372036854775807 : Int) < (d.length : Int) + (x.d.length : Int) := by omega
        have HZ := Lib.hid hm
        clear hm hx
        by_cases hk0 : k = 0
        · have hk0b : ((k : Int) == 0) = true := by rw [beq_iff_eq]; omega
          have HQ := Lib.hid (HFI.out hk0)
          have hldx := HX4.out.ld_pkt
          have HP6 : Hid (Blk (w5.setCells pb 0 x.c.toList) pb 25 x.c) := Lib.hid (blk_over HP4.out)
          have HX6 := Lib.hid (HX4.out.setCells_other pb 0 x.c.toList (fun h => HPX.out h.symm))
          have HB6 := Lib.hid (Below.setCells HB5.out (Nat.le_of_eq HPB.out.symm) 0 x.c.toList)
          have tokC : True := trivial
          clear hk0
          go_upto_region 12 with (have _t := tokC; refine wp_st_over rfl _ _ rfl pb x P HP4 rfl rfl ?_; clear tokC)
          clear hldx HP4 HX4
          generalize World.setCells _ _ _ _ = w6 at HP6 HX6 HB6 ⊢
          obtain ⟨cy1, cy2, hc13⟩ := pk_c5 HP6.out
          have hf13 := HP6.out.free 13 (by rw [Pkt.c_size]; decide)
          clear cy1 cy2
          go_upto_region 13 with fail
          have HP7 : Hid (Blk (w6.setCell ⟨pb, 13, none⟩ (.string ((⟨d.toArray⟩ : ByteArray) ++ (⟨x.d.toArray⟩ : ByteArray)))) pb 25 (partP S (k + 1) (d ++ x.d)).c) := Lib.hid (by
            have h := HP6.out.set 13 (.string ((⟨d.toArray⟩ : ByteArray) ++ (⟨x.d.toArray⟩ : ByteArray)))
            rw [c_set13, HQ.out] at h
            exact h)
          have HX7 := Lib.hid (HX6.out.set_other ⟨pb, 13, none⟩ (.string ((⟨d.toArray⟩ : ByteArray) ++ (⟨x.d.toArray⟩ : ByteArray))) (fun h => HPX.out h.symm))
          have HB7 := Lib.hid (Below.setCell (p := ⟨pb, 13, none⟩) HB6.out (Nat.le_of_eq HPB.out.symm) (.string ((⟨d.toArray⟩ : ByteArray) ++ (⟨x.d.toArray⟩ : ByteArray))))
          have HCH7 : Hid (chainD (S.take (k + 1)) [] = some (d ++ x.d)) := Lib.hid (by rw [HCS.out, if_pos HXA.out])
          clear hc13 hf13 HP6 HX6
          generalize World.setCell _ _ _ = w7 at HP7 HX7 HB7 ⊢
          have cm := (pk_c5 HX7.out).2.1
          clear HX7
          cases cl with
          | true =>
            have HCN : Hid (true = (S.take (k + 1)).any (fun x => !x.mo)) := Lib.hid (by rw [HAN.out, ← HCLO.out]; rfl)
            go_wp2
            go_roundg (n - (k + 1))
            case measure => omega
            case rel => exact ⟨k + 1, d ++ x.d, true, rfl, by go_num, by omega, Nat.le_refl _, HCN, HCH7, HP7, HB7⟩
          | false =>
            have HCN : Hid ((!x.mo) = (S.take (k + 1)).any (fun x => !x.mo)) := Lib.hid (by rw [HAN.out, ← HCLO.out]; simp)
            generalize x.mo = xm at cm HCN
            cases xm
            · go_wp2
              go_roundg (n - (k + 1))
              case measure => omega
              case rel => exact ⟨k + 1, d ++ x.d, true, rfl, by go_num, by omega, Nat.le_refl _, HCN, HCH7, HP7, HB7⟩
            · go_wp2
              go_roundg (n - (k + 1))
              case measure => omega
              case rel => exact ⟨k + 1, d ++ x.d, false, rfl, by go_num, by omega, Nat.le_refl _, HCN, HCH7, HP7, HB7⟩
        · have hk0b : ((k : Int) == 0) = false := by rw [beq_eq_false_iff_ne]; omega
          have HQ := Lib.hid (HNX.out hk0)
          clear hk0
          go_upto_region 12 with fail
          obtain ⟨cy1, cy2, hc13⟩ := pk_c5 HP4.out
          have hf13 := HP4.out.free 13 (by rw [Pkt.c_size]; decide)
          clear cy1 cy2
          go_upto_region 13 with fail
          have HP7 : Hid (Blk (w5.setCell ⟨pb, 13, none⟩ (.string ((⟨d.toArray⟩ : ByteArray) ++ (⟨x.d.toArray⟩ : ByteArray)))) pb 25 (partP S (k + 1) (d ++ x.d)).c) := Lib.hid (by
            have h := HP4.out.set 13 (.string ((⟨d.toArray⟩ : ByteArray) ++ (⟨x.d.toArray⟩ : ByteArray)))
            rw [c_set13, HQ.out] at h
            exact h)
          have HX7 := Lib.hid (HX4.out.set_other ⟨pb, 13, none⟩ (.string ((⟨d.toArray⟩ : ByteArray) ++ (⟨x.d.toArray⟩ : ByteArray))) (fun h => HPX.out h.symm))
          have HB7 := Lib.hid (Below.setCell (p := ⟨pb, 13, none⟩) HB5.out (Nat.le_of_eq HPB.out.symm) (.string ((⟨d.toArray⟩ : ByteArray) ++ (⟨x.d.toArray⟩ : ByteArray))))
          have HCH7 : Hid (chainD (S.take (k + 1)) [] = some (d ++ x.d)) := Lib.hid (by rw [HCS.out, if_pos HXA.out])
          clear hc13 hf13 HP4 HX4
          generalize World.setCell _ _ _ = w7 at HP7 HX7 HB7 ⊢
          have cm := (pk_c5 HX7.out).2.1
          clear HX7
          cases cl with
          | true =>
            have HCN : Hid (true = (S.take (k + 1)).any (fun x => !x.mo)) := Lib.hid (by rw [HAN.out, ← HCLO.out]; rfl)
            go_wp2
            go_roundg (n - (k + 1))
            case measure => omega
            case rel => exact ⟨k + 1, d ++ x.d, true, rfl, by go_num, by omega, Nat.le_refl _, HCN, HCH7, HP7, HB7⟩
          | false =>
            have HCN : Hid ((!x.mo) = (S.take (k + 1)).any (fun x => !x.mo)) := Lib.hid (by rw [HAN.out, ← HCLO.out]; simp)
            generalize x.mo = xm at cm HCN
            cases xm
            · go_wp2
              go_roundg (n - (k + 1))
              case measure => omega
              case rel => exact ⟨k + 1, d ++ x.d, true, rfl, by go_num, by omega, Nat.le_refl _, HCN, HCH7, HP7, HB7⟩
            · go_wp2
              go_roundg (n - (k + 1))
              case measure => omega
              case rel => exact ⟨k + 1, d ++ x.d, false, rfl, by go_num, by omega, Nat.le_refl _, HCN, HCH7, HP7, HB7⟩
      · have hne : (x.a != (d.length : Int)) = true := by rw [bne_iff_ne]; exact hx
        have HE := Lib.hid (HNO.out hx)
        have tokB : True := trivial
        go_wp2_with (have _t := tokB; refine wpList_store_blk rfl 25 _ _ rfl rb pk0 rfl rfl pk0 25 HR5.out rfl size_pk rfl ?_; clear tokB)
        exact bodyPost_ret (results_blk Try.results38 _ _ rb _ _ _ rfl (HR5.out.setAll rfl) Try.underlying25 rfl size_pk) rfl ⟨S, HS.out.1, HS.out.2, by rw [HE.out, pkt0_c]; rfl, (HRW2.out.below HB5.out).below' (Below.setCells (Below.refl w.heap.size _) (Nat.le_of_eq HRB.out.symm) _ _) HGR.out, grown_trans (grown_trans HG2.out HB5.out HG2.out.size) (Below.setCells (Below.refl w.heap.size _) (Nat.le_of_eq HRB.out.symm) _ _) (Nat.le_refl _)⟩
    · have hltz : ¬ (k : Int) < (n : Int) := by omega
      have hkn : k = S.length := by rw [HN.out]; omega
      have HDV : Hid (doneV S = (withD (partP S k d) false (partP S k d).d, cl)) := Lib.hid (by
        have h := HCH.out
        rw [hkn] at h
        rw [done_yes S d h, hkn, part_last S d h, HCLO.out, hkn, List.take_length])
      generalize partP S k d = P at HPK HDV
      have HR4 := Lib.hid (HR2.out.below HB.out HR2.out.lt)
      have hc12 := (pk_c5 HPK.out).2.1
      have hf12 := HPK.out.free 12 (by rw [Pkt.c_size]; decide)
      have hpr : rb ≠ pb := by have := HR2.out.lt; have := HPB.out; omega
      clear hkn HCH
      go_upto_region 16 with fail
      have HP5 : Hid (Blk (w4.setCell ⟨pb, 12, none⟩ (.bool false)) pb 25 (withD P false P.d).c) := Lib.hid (by
        have h := HPK.out.set 12 (.bool false)
        rw [c_set12] at h
        exact h)
      have HR5 := Lib.hid (HR4.out.set_other ⟨pb, 12, none⟩ (.bool false) hpr)
      have HB5 := Lib.hid (Below.setCell (p := ⟨pb, 12, none⟩) HB.out (Nat.le_of_eq HPB.out.symm) (.bool false))
      clear hc12 hf12 HPK HR4
      generalize World.setCell _ _ _ = w5 at HP5 HR5 HB5 ⊢
      generalize withD P false P.d = Q at HP5 HDV
      have hld := HP5.out.ld_pkt
      have HR5b : Hid (Blk w5 rb 25 pkt0.c) := Lib.hid (by rw [pkt0_c]; exact HR5.out)
      have tokB : True := trivial
      go_wp2_with (have _t := tokB; refine wp_st_over rfl _ _ rfl rb Q pkt0 HR5b rfl rfl ?_; clear tokB)
      exact bodyPost_ret (results_blk Try.results38 _ _ rb _ _ _ rfl (blk_over HR5b.out) Try.underlying25 rfl (by rw [Q.c_size]; exact size_pk)) rfl ⟨S, HS.out.1, HS.out.2, by rw [HDV.out]; rfl, (HRW2.out.below HB5.out).below' (Below.setCells (Below.refl w.heap.size _) (Nat.le_of_eq HRB.out.symm) _ _) HGR.out, grown_trans (grown_trans HG2.out HB5.out HG2.out.size) (Below.setCells (Below.refl w.heap.size _) (Nat.le_of_eq HRB.out.symm) _ _) (Nat.le_refl _)⟩
end Go.Proofs.Yticchchcobjpdaa
