/- The walk through the law Ipv4Cuts: it answers true. -/
import Derived.Test.YticchchcobjpdaaJiT
import Derived.Deep.CutBlock
namespace Go.Proofs.Yticchchcobjpdaa
set_option linter.unusedVariables false
set_option linter.unusedSimpArgs false
set_option maxRecDepth 100000
open Go.RowKit Go.Proofs Go.Shelf Go.Lib Go.Sort Go.Maps
attribute [local go_sem ↓] Go.wp_at_zero Go.wp_at_succ
attribute [local go_sem ↓] ld_pk ld_ip ld_wh
theorem PkO.below {w w' : World} {o : Option Addr} {cap : Nat} {L : List Pkt} (h : PkO w o cap L) (hb : Below w.heap.size w w') : PkO w' o cap L := h.same (fun g e => hb.block g (h.lt e))
theorem PkO.belowB {w w' : World} {o : Option Addr} {cap B : Nat} {L : List Pkt} (h : PkO w o cap L) (hB : ∀ g, o = some ⟨g, 0, none⟩ → g < B) (hb : Below B w w') : PkO w' o cap L := h.same (fun g e => hb.block g (hB g e))
theorem own_at {w : World} {B b n : Nat} {D D' : DataW Unit} {P : Program} {k : TypeId} {R : Value → Option (DataW Unit × List MemPlace)} (h : w.ownsMap P k R b n D) {w' : World} (hs : w'.heap[b]? = w.heap[b]?) : w'.ownsMap P k R b n D := by
  obtain ⟨es, cl, h1, h2⟩ := h
  exact ⟨es, cl, hs.trans h1, h2⟩
theorem pin_full {id : Int} {data : List UInt8} {l : List Pkt} (h : Full id data l) (hid : 0 ≤ id ∧ id ≤ 65535) {k : Nat} (hk : k < l.length) : Pin l[k] := by
  obtain ⟨h1, h2, h3⟩ := h.form l[k] (List.getElem_mem hk)
  have hb := h2.b
  have e1 : l[k].id = id := by rw [h1]; rfl
  have e2 : l[k].pr = 6 := by rw [h1]; rfl
  have e3 : l[k].tt = 9 := by rw [h1]; rfl
  exact ⟨by rw [e1]; omega, by rw [e2]; decide, by rw [e3]; decide, by omega, by omega⟩
set_option maxHeartbeats 16000000 in
theorem ipv4Cuts_walk (idn : Int) (hid1 : 0 ≤ idn) (hid2 : idn ≤ 65535) (data : List UInt8) (hdl : data.length ≤ 9223372036854775807) (Ac Ao : Option Addr) (cc co : Nat) (Kc Ko : List Int) (hkc : Kc.length ≤ maxLen) (hko : Ko.length ≤ maxLen)
    (hcB : ∀ n ∈ Kc, 0 ≤ n ∧ n ≤ 255) (hoB : ∀ n ∈ Ko, 0 ≤ n ∧ n ≤ 255) (w : World) (hc : NumAt w w.heap.size Ac Kc) (ho : NumAt w w.heap.size Ao Ko) :
    Calls Try.prog 9 #[.int .u16 idn, .string ⟨data.toArray⟩, .slice Ac Kc.length cc, .slice Ao Ko.length co] w fun e w' => e = .returned (.bool true) ∧ Below w.heap.size w w' := by
  have HC := Lib.hid hc
  have HO := Lib.hid ho
  have HCB := Lib.hid hcB
  have HOB := Lib.hid hoB
  have hmm := @run_makeMap Try.prog
  unfold maxLen at hkc hko
  obtain ⟨nc, hnc⟩ : ∃ n, n = Kc.length := ⟨_, rfl⟩
  obtain ⟨no, hno⟩ : ∃ n, n = Ko.length := ⟨_, rfl⟩
  rw [← hnc] at hkc ⊢
  rw [← hno] at hko ⊢
  have HNC := Lib.hid hnc
  have HNO := Lib.hid hno
  clear hc ho hcB hoB hnc hno
  go_enter Try.func9, Try.ntmps9
  go_wp2_with fail
  refine (pkawake_any _).mono ?_
  rintro e w1 ⟨rfl, hb1⟩
  have HB1 := Lib.hid hb1
  clear hb1
  by_cases h1 : 1200 < (data.length : Int)
  · go_wp2
    go_ret
    exact ⟨rfl, HB1.out⟩
  have h1' : (data.length : Int) ≤ 1200 := by omega
  by_cases h2 : 100 < (nc : Int)
  · go_wp2
    go_ret
    exact ⟨rfl, HB1.out⟩
  have h2' : (nc : Int) ≤ 100 := by omega
  by_cases h3 : 300 < (no : Int)
  · go_wp2
    go_ret
    exact ⟨rfl, HB1.out⟩
  have h3' : (no : Int) ≤ 300 := by omega
  have hwid : IntKind.i64.wrap idn = idn := IntWalk.i64_in _ ⟨by omega, by omega⟩
  have hEQ : (Value.agg #[.int .i64 idn, .int .u8 1, .int .u8 0, .int .u8 0, .int .u8 0, .int .u8 2, .int .u8 0, .int .u8 0, .int .u8 0, .int .i64 6, .int .i64 9, .int .i64 0, .bool false, .string ⟨#[]⟩]) = .agg (pkB idn 0 false []).c := rfl
  obtain ⟨P0, hP0⟩ : ∃ P, P = pkB idn 0 false [] := ⟨_, rfl⟩
  rw [← hP0] at hEQ
  have HEQ := Lib.hid hEQ
  have HP0 := Lib.hid hP0
  have HN := Lib.hid (Blk.new w1 25 pk0 0 0 (Or.inl (Nat.le_refl _)))
  have HA := Lib.hid (HB1.out.alloc HB1.out.size (.cells pk0 25))
  rw [pk0_lit] at HN HA
  clear hEQ hP0
  have tokA : True := trivial
  go_upto_region 6 with (have _t := tokA; generalize World.alloc _ _ = w2 at HN HA ⊢; rw [← pk0_lit] at HN; refine wp_st_pkt rfl _ _ rfl w1.heap.size P0 HN rfl HEQ.out ?_; clear tokA; have HBb : Hid (Blk (World.setCells w2 w1.heap.size 0 P0.c.toList) w1.heap.size 25 P0.c) := Lib.hid (HN.out.setAll (Pkt.c_size _)); have HB3 := Lib.hid (Below.setCells HA.out HB1.out.size 0 P0.c.toList); clear HN HA; generalize World.setCells _ _ _ _ = w3 at HBb HB3 ⊢)
  have HW1 : Hid (w.heap.size ≤ w1.heap.size) := Lib.hid HB1.out.size
  obtain ⟨bb, hbb⟩ : ∃ q, q = w1.heap.size := ⟨_, rfl⟩
  rw [← hbb] at HBb HW1 ⊢
  clear hbb HB1
  go_upto_block 0 with fail
  go_cut [10, 11, 12, 13, 14] from 44 to 80 (fun v10 v11 v12 v13 v14 wx => ∃ (a : Nat) (l : List Pkt) (A : Option Addr) (c : Nat), v10 = .slice A l.length c ∧ v11 = .int .i64 (a : Int) ∧ PkO wx A c l ∧ (∀ g, A = some ⟨g, 0, none⟩ → bb + 1 ≤ g) ∧ Cut1 idn data l a ∧ l.length ≤ 100 ∧ Blk wx bb 25 P0.c ∧ Below w.heap.size w wx)
  case first =>
    go_wp2_with fail
    go_loopg [10, 11, 12] nc (fun kx s10 s11 s12 wr => ∃ (i a : Nat) (l : List Pkt) (A : Option Addr) (c : Nat), s10 = .slice A l.length c ∧ s11 = .int .i64 (a : Int) ∧ s12 = .int .i64 (i : Int) ∧ i ≤ nc ∧ nc - i ≤ kx ∧ l.length ≤ i ∧ a ≤ 1200 ∧ Hid (PkO wr A c l) ∧ Hid (∀ g, A = some ⟨g, 0, none⟩ → bb + 1 ≤ g) ∧ Hid (Cut1 idn data l a) ∧ Hid (Blk wr bb 25 P0.c) ∧ Hid (Below w.heap.size w wr))
    case atStart => exact ⟨0, 0, [], none, 0, rfl, rfl, rfl, Nat.zero_le _, by omega, Nat.le_refl _, by omega, Lib.hid (Or.inl ⟨rfl, rfl, rfl⟩), Lib.hid (fun g e => by cases e), Lib.hid (Cut1.start _ _), HBb, HB3⟩
    case round =>
      obtain ⟨i, a, l, A, c, rfl, rfl, rfl, hi, hkx, hli, ha, HR, HRg, HCU, HB, HBW⟩ := hrel
      by_cases hlt : i < nc
      · have hltz : (i : Int) < (nc : Int) := by omega
        have hiK : i < Kc.length := by have := HNC.out; omega
        have hcell : ∃ b o, Ac = some ⟨b, o, none⟩ ∧ wr.cell? ⟨b, o + i, none⟩ = some (.int .u8 Kc[i]) := by
          rcases HC.out.below HBW.out with h | ⟨b, o, e1, e2, e3⟩
          · rw [h] at hiK; simp at hiK
          · exact ⟨b, o, e1, e3 i hiK⟩
        obtain ⟨cb, coff, rfl, hcell⟩ := hcell
        have hbd := HCB.out Kc[i] (List.getElem_mem _)
        obtain ⟨kn, hkn⟩ : ∃ kn : Nat, Kc[i] = (kn : Int) := ⟨Kc[i].toNat, by omega⟩
        rw [hkn] at hcell hbd
        have hk255 : (kn : Int) ≤ 255 := hbd.2
        have hw1 : IntKind.i64.wrap (kn : Int) = kn := IntWalk.i64_in _ ⟨by omega, by omega⟩
        have hw2 : IntKind.i64.wrap (1 + (kn : Int)) = 1 + (kn : Int) := IntWalk.i64_in _ ⟨by omega, by omega⟩
        have hw3 : IntKind.i64.wrap (8 * (1 + (kn : Int))) = 8 * (1 + (kn : Int)) := IntWalk.i64_in _ ⟨by omega, by omega⟩
        have hw4 : IntKind.i64.wrap ((a : Int) + 8 * (1 + (kn : Int))) = (a : Int) + 8 * (1 + (kn : Int)) := IntWalk.i64_in _ ⟨by omega, by omega⟩
        clear hkn hbd
        by_cases hbr : (data.length : Int) ≤ (a : Int) + 8 * (1 + (kn : Int))
        · have hbr' : (a : Int) + 8 * (1 + (kn : Int)) ≥ (data.length : Int) := hbr
          go_wp2_with fail
          go_meet
          exact ⟨a, l, A, c, rfl, rfl, HR.out, HRg.out, HCU.out, by omega, HB.out, HBW.out⟩
        · have hbr' : ¬ (a : Int) + 8 * (1 + (kn : Int)) ≥ (data.length : Int) := hbr
          have hbr2 : (a : Int) + 8 * (1 + (kn : Int)) < (data.length : Int) := by omega
          have lb := HB.out.ld_pkt
          have hal := (Below.refl wr.heap.size wr).alloc (Nat.le_refl _) (.cells pk0 25)
          have HN := Lib.hid (Blk.new wr 25 pk0 0 0 (Or.inl (Nat.le_refl _)))
          have HA := Lib.hid hal
          rw [pk0_lit] at HN HA
          clear hal
          have tokP : True := trivial
          go_upto_region 14 with (have _t := tokP; generalize World.alloc _ _ = y0 at HN HA ⊢; rw [← pk0_lit] at HN; refine wp_st_pkt rfl _ _ rfl wr.heap.size P0 HN rfl rfl ?_; clear tokP; have HQ : Hid (Blk (World.setCells y0 wr.heap.size 0 (P0).c.toList) wr.heap.size 25 (P0).c) := Lib.hid (HN.out.setAll (Pkt.c_size _)); have HBq := Lib.hid (Below.setCells HA.out (Nat.le_refl _) 0 (P0).c.toList); clear HN HA; generalize World.setCells _ _ _ _ = z0 at HQ HBq ⊢)
          clear lb
          obtain ⟨qb, hqb⟩ : ∃ q, q = wr.heap.size := ⟨_, rfl⟩
          rw [← hqb] at HQ ⊢
          have HQL : Hid (wr.heap.size ≤ qb) := Lib.hid (by omega)
          clear hqb
          have HPA : Hid (P0.mo = false) := Lib.hid (by rw [HP0.out]; rfl)
          clear HPA
          have cS := (pk_c5 HQ.out).1
          have fS := HQ.out.free 11 (by rw [Pkt.c_size]; decide)
          go_upto_region 15 with fail
          have hS : Blk (World.setCell z0 ⟨qb, 11, none⟩ (.int .i64 (a : Int))) qb 25 (withA P0 (a : Int)).c := by
            have h := HQ.out.set 11 (.int .i64 (a : Int))
            rw [c_set11] at h
            exact h
          have HQS := Lib.hid hS
          have HBS := Lib.hid (Below.setCell (p := ⟨qb, 11, none⟩) HBq.out HQL.out (.int .i64 (a : Int)))
          clear cS fS hS HQ HBq
          generalize World.setCell _ _ _ = z1 at HQS HBS ⊢
          have HQ := HQS
          have HBq := HBS
          clear HQS HBS
          have cS := (pk_c5 HQ.out).2.1
          have fS := HQ.out.free 12 (by rw [Pkt.c_size]; decide)
          go_upto_region 16 with fail
          have hS : Blk (World.setCell z1 ⟨qb, 12, none⟩ (.bool true)) qb 25 (withD (withA P0 (a : Int)) true P0.d).c := by
            have h := HQ.out.set 12 (.bool true)
            rw [c_set12] at h
            exact h
          have HQS := Lib.hid hS
          have HBS := Lib.hid (Below.setCell (p := ⟨qb, 12, none⟩) HBq.out HQL.out (.bool true))
          clear cS fS hS HQ HBq
          generalize World.setCell _ _ _ = z2 at HQS HBS ⊢
          have HQ := HQS
          have HBq := HBS
          clear HQS HBS
          have hsl : (⟨data.toArray⟩ : ByteArray).extract a (a + 8 * (1 + kn)) = ⟨((data.drop a).take (8 * (1 + kn))).toArray⟩ := by
            rw [ba_cut, show a + 8 * (1 + kn) - a = 8 * (1 + kn) by omega]
          obtain ⟨dd, hdd⟩ : ∃ d, d = (data.drop a).take (8 * (1 + kn)) := ⟨_, rfl⟩
          rw [← hdd] at hsl
          have HDD := Lib.hid hdd
          clear hdd
          have ha0 : 0 ≤ (a : Int) := by omega
          have hle1 : (a : Int) ≤ (a : Int) + 8 * (1 + (kn : Int)) := by omega
          have hle2 : (a : Int) + 8 * (1 + (kn : Int)) ≤ (data.length : Int) := by omega
          have htn : ((a : Int) + 8 * (1 + (kn : Int))).toNat = a + 8 * (1 + kn) := by omega
          have cS := (pk_c5 HQ.out).2.2
          have fS := HQ.out.free 13 (by rw [Pkt.c_size]; decide)
          go_upto_region 17 with fail
          have hS : Blk (World.setCell z2 ⟨qb, 13, none⟩ (.string ⟨dd.toArray⟩)) qb 25 (withD (withD (withA P0 (a : Int)) true P0.d) true dd).c := by
            have h := HQ.out.set 13 (.string ⟨dd.toArray⟩)
            rw [c_set13 (withD (withA P0 (a : Int)) true P0.d) dd] at h
            exact h
          have HQS := Lib.hid hS
          have HBS := Lib.hid (Below.setCell (p := ⟨qb, 13, none⟩) HBq.out HQL.out (.string ⟨dd.toArray⟩))
          clear cS fS hS HQ HBq
          generalize World.setCell _ _ _ = z3 at HQS HBS ⊢
          have HQ := HQS
          have HBq := HBS
          clear HQS HBS
          have HQP : Hid (withD (withD (withA P0 (a : Int)) true P0.d) true dd = pkB idn (a : Int) true dd) := Lib.hid (by rw [HP0.out]; rfl)
          rw [HQP.out] at HQ
          generalize hPX : pkB idn (a : Int) true dd = PX at HQ
          have HPX := Lib.hid hPX
          clear hPX HQP hsl ha0 hle1 hle2 htn
          have lq := HQ.out.ld_pkt
          have HRz := Lib.hid (HR.out.below HBq.out)
          have HCN : Hid (Cut1 idn data (l ++ [PX]) (a + 8 * (1 + kn))) := Lib.hid (by rw [← HPX.out, HDD.out]; exact HCU.out.next (by omega) (by omega) (by omega) (by omega))
          have HBz := Lib.hid (HB.out.step HBq.out)
          have HBWz := Lib.hid (Below.step HBW.out HBq.out)
          have hla : (Below z3.heap.size z3 (z3.alloc (.cells PX.c 25))) := (Below.refl _ z3).alloc (Nat.le_refl _) _
          have HRy := Lib.hid (HRz.out.below hla)
          have HBy := Lib.hid (HBz.out.step hla)
          have HBWy := Lib.hid (Below.step HBWz.out hla)
          have HEy := Lib.hid (Blk.new z3 25 PX.c 0 0 (Or.inl (Nat.le_refl _)))
          clear hla HR HCU HB HBW HQ HBq HRz HBz HBWz
          have tokS : True := trivial
          go_upto_region 18 with (first
            | (have _t := tokS; refine wpList_bsP rfl (.tmp 75) rfl PX rfl ?_; clear tokS; generalize World.alloc _ _ = y3 at HRy HBy HBWy HEy ⊢; have tokT : True := trivial)
            | (have _t := tokT; clear tokT; at_builtin; go_loud (refine wpList_appP rfl (.tmp 74) (.tmp 76) rfl (bb + 1) A c l rfl HRy.out HRg.out z3.heap.size 25 PX rfl HEy.out (by omega) (by have := HBy.out.lt; omega) ?_; intro gn capn w8 hrow hfr hgo hgb; have HRX := Lib.hid hrow; have HBX : Hid (Blk w8 bb 25 P0.c) := Lib.hid (HBy.out.of_heap (hfr.block bb HBy.out.lt (fun e => by have := HRg.out bb e; omega))); have HBWX := Lib.hid (HBWy.out.trans (hfr.toBelow (fun k hk => by have := HRg.out k hk; have := HW1.out; omega) HBWy.out.size)); have HGB := Lib.hid hgb; clear hrow hfr hgo hgb HRy HBy HBWy HEy)))
          have hlx : (l ++ [PX]).length = l.length + 1 := by simp
          clear hlx
          go_wp2
          go_roundg (nc - (i + 1))
          case measure => omega
          case rel => exact ⟨i + 1, a + 8 * (1 + kn), l ++ [PX], some ⟨gn, 0, none⟩, capn, by simp, by go_num, by go_num, by omega, Nat.le_refl _, by rw [List.length_append, List.length_singleton]; omega, by omega, Lib.hid (Or.inr ⟨gn, rfl, HRX.out⟩), Lib.hid (fun g e => by have := HGB.out; injection e with e; injection e with e; omega), HCN, HBX, HBWX⟩
      · have hltz : ¬ (i : Int) < (nc : Int) := by omega
        go_wp2_with fail
        go_meet
        exact ⟨a, l, A, c, rfl, rfl, HR.out, HRg.out, HCU.out, by omega, HB.out, HBW.out⟩
  case rest =>
    obtain ⟨a, l0, A, c, rfl, rfl, hr, hrg, hcu, hl100, hbk, hbw⟩ := hcut
    have HR := Lib.hid hr
    have HRg := Lib.hid hrg
    have HCU := Lib.hid hcu
    have HB := Lib.hid hbk
    have HBW := Lib.hid hbw
    have ha : a ≤ data.length := hcu.le
    clear hr hrg hcu hbk hbw HB3 HBb
    obtain ⟨wr, rfl⟩ : ∃ wr : World, wr = wc := ⟨_, rfl⟩
    have lb := HB.out.ld_pkt
    have hal := (Below.refl wr.heap.size wr).alloc (Nat.le_refl _) (.cells pk0 25)
    have HN := Lib.hid (Blk.new wr 25 pk0 0 0 (Or.inl (Nat.le_refl _)))
    have HA := Lib.hid hal
    rw [pk0_lit] at HN HA
    clear hal
    have tokL : True := trivial
    go_upto_region 20 with (have _t := tokL; generalize World.alloc _ _ = y0 at HN HA ⊢; rw [← pk0_lit] at HN; refine wp_st_pkt rfl _ _ rfl wr.heap.size P0 HN rfl rfl ?_; clear tokL; have HQ : Hid (Blk (World.setCells y0 wr.heap.size 0 (P0).c.toList) wr.heap.size 25 (P0).c) := Lib.hid (HN.out.setAll (Pkt.c_size _)); have HBq := Lib.hid (Below.setCells HA.out (Nat.le_refl _) 0 (P0).c.toList); clear HN HA; generalize World.setCells _ _ _ _ = z0 at HQ HBq ⊢)
    clear lb
    obtain ⟨qb, hqb⟩ : ∃ q, q = wr.heap.size := ⟨_, rfl⟩
    rw [← hqb] at HQ ⊢
    have HQL : Hid (wr.heap.size ≤ qb) := Lib.hid (by omega)
    clear hqb
    have cS := (pk_c5 HQ.out).1
    have fS := HQ.out.free 11 (by rw [Pkt.c_size]; decide)
    go_upto_region 21 with fail
    have hS : Blk (World.setCell z0 ⟨qb, 11, none⟩ (.int .i64 (a : Int))) qb 25 (withA P0 (a : Int)).c := by
      have h := HQ.out.set 11 (.int .i64 (a : Int))
      rw [c_set11] at h
      exact h
    have HQS := Lib.hid hS
    have HBS := Lib.hid (Below.setCell (p := ⟨qb, 11, none⟩) HBq.out HQL.out (.int .i64 (a : Int)))
    clear cS fS hS HQ HBq
    generalize World.setCell _ _ _ = z1 at HQS HBS ⊢
    have HQ := HQS
    have HBq := HBS
    clear HQS HBS
    have hsl : (⟨data.toArray⟩ : ByteArray).extract a data.length = ⟨(data.drop a).toArray⟩ := by
      rw [ba_cut, List.take_of_length_le (by rw [List.length_drop]; exact Nat.le_refl _)]
    obtain ⟨dd, hdd⟩ : ∃ d, d = data.drop a := ⟨_, rfl⟩
    rw [← hdd] at hsl
    have HDD := Lib.hid hdd
    clear hdd
    have ha0 : 0 ≤ (a : Int) := by omega
    have hle1 : (a : Int) ≤ (data.length : Int) := by omega
    have cS := (pk_c5 HQ.out).2.2
    have fS := HQ.out.free 13 (by rw [Pkt.c_size]; decide)
    go_upto_region 22 with fail
    have hS : Blk (World.setCell z1 ⟨qb, 13, none⟩ (.string ⟨dd.toArray⟩)) qb 25 (withD (withA P0 (a : Int)) P0.mo dd).c := by
      have h := HQ.out.set 13 (.string ⟨dd.toArray⟩)
      rw [c_set13 (withA P0 (a : Int)) dd] at h
      exact h
    have HQS := Lib.hid hS
    have HBS := Lib.hid (Below.setCell (p := ⟨qb, 13, none⟩) HBq.out HQL.out (.string ⟨dd.toArray⟩))
    clear cS fS hS HQ HBq
    generalize World.setCell _ _ _ = z2 at HQS HBS ⊢
    have HQ := HQS
    have HBq := HBS
    clear HQS HBS
    have HQP : Hid (withD (withA P0 (a : Int)) P0.mo dd = pkB idn (a : Int) false (data.drop a)) := Lib.hid (by rw [HP0.out, HDD.out]; rfl)
    generalize withD (withA P0 (a : Int)) P0.mo dd = PX at HQ HQP
    clear hsl ha0 hle1 HDD
    have lq := HQ.out.ld_pkt
    have HRz := Lib.hid (HR.out.below HBq.out)
    have HBz := Lib.hid (HB.out.step HBq.out)
    have HBWz := Lib.hid (Below.step HBW.out HBq.out)
    have hla : (Below z2.heap.size z2 (z2.alloc (.cells PX.c 25))) := (Below.refl _ z2).alloc (Nat.le_refl _) _
    have HRy := Lib.hid (HRz.out.below hla)
    have HBy := Lib.hid (HBz.out.step hla)
    have HBWy := Lib.hid (Below.step HBWz.out hla)
    have HEy := Lib.hid (Blk.new z2 25 PX.c 0 0 (Or.inl (Nat.le_refl _)))
    clear hla HB HBW HQ HBq HRz HBz HBWz
    have tokS : True := trivial
    go_upto_region 23 with (first
      | (have _t := tokS; refine wpList_bsP rfl (.tmp 89) rfl PX rfl ?_; clear tokS; generalize World.alloc _ _ = y3 at HRy HBy HBWy HEy ⊢; have tokT : True := trivial)
      | (have _t := tokT; clear tokT; at_builtin; go_loud (refine wpList_appP rfl (.tmp 88) (.tmp 90) rfl (bb + 1) A c l0 rfl HRy.out HRg.out z2.heap.size 25 PX rfl HEy.out (by omega) (by have := HBy.out.lt; omega) ?_; intro gn capn w8 hrow hfr hgo hgb; have HRN := Lib.hid hrow; have HBX : Hid (Blk w8 bb 25 P0.c) := Lib.hid (HBy.out.of_heap (hfr.block bb HBy.out.lt (fun e => by have := HRg.out bb e; omega))); have HBWX := Lib.hid (HBWy.out.trans (hfr.toBelow (fun k hk => by have := HRg.out k hk; have := HW1.out; omega) HBWy.out.size)); clear hrow hfr hgo hgb HRy HBy HBWy HEy)))
    clear lq
    have HFU : Hid (Full idn data (l0 ++ [pkB idn (a : Int) false (data.drop a)])) := Lib.hid (HCU.out.last ⟨hid1, hid2⟩ (by omega))
    rw [HQP.out] at HRN
    have hlen : (l0 ++ [pkB idn (a : Int) false (data.drop a)]).length = l0.length + 1 := by simp
    obtain ⟨l, hl⟩ : ∃ l, l = l0 ++ [pkB idn (a : Int) false (data.drop a)] := ⟨_, rfl⟩
    rw [← hl] at HFU HRN hlen
    obtain ⟨m, hm⟩ : ∃ m, m = l0.length + 1 := ⟨_, rfl⟩
    rw [← hm] at hlen ⊢
    have HLM := Lib.hid hlen
    have hm1 : 0 < m := by omega
    have hm2 : m ≤ 101 := by omega
    clear hl hm hlen HCU HQP hl100 ha HR HRg
    have HGL : Hid (gn < w8.heap.size ∧ bb < w8.heap.size ∧ w.heap.size ≤ w8.heap.size) := Lib.hid ⟨HRN.out.1, HBX.out.lt, HBWX.out.size⟩
    go_wp2_with fail
    refine (newJ_any 5 (by decide) (by decide) _).mono ?_
    rintro e w9 ⟨rfl, hj9, hb9⟩
    have HJ9 := Lib.hid hj9
    have HB9 := Lib.hid hb9
    obtain ⟨jb, hjb⟩ : ∃ q, q = w8.heap.size := ⟨_, rfl⟩
    rw [← hjb] at HGL HJ9 HB9 ⊢
    have HJB := Lib.hid hjb
    clear hj9 hb9 hjb
    have hw32 : ∀ x : Int, x = x := fun _ => rfl
    clear hw32
    have hmade : (w9.alloc (.map #[] 0)).ownsMap Try.prog 3 (plainElem Try.prog 4) w9.heap.size 0 (.map [] : DataW Unit) := World.ownsMap_made _ _ _ _
    have HMM := Lib.hid hmade
    have hal := (Below.refl w9.heap.size w9).alloc (Nat.le_refl _) (.map #[] 0)
    have HJm := Lib.hid (HJ9.out.below hal)
    have HBm := Lib.hid (HB9.out.trans (hal.mono (by have := HB9.out.size; have := HJB.out; omega)))
    have HMB : Hid (jb ≤ w9.heap.size ∧ ¬ ownJ jb none [] w9.heap.size) := Lib.hid ⟨by have := HB9.out.size; have := HJB.out; omega, fun h => Nat.lt_irrefl _ (HJ9.out.own_lt h).2⟩
    clear hmade hal HJ9 HB9
    go_upto_region 27 with fail
    generalize World.alloc _ _ = wm at HMM HJm HBm ⊢
    obtain ⟨mb, hmb⟩ : ∃ q, q = w9.heap.size := ⟨_, rfl⟩
    rw [← hmb] at HMM HMB ⊢
    clear hmb
    go_wp2_with fail
    go_loopg [19] (no + m) (fun kx s19 wr => ∃ (i : Nat) (C : List Nat) (D : List Dg) (o : Option Addr) (c : Nat) (dm : DataW Unit), s19 = .int .i64 (i : Int) ∧ i ≤ no + m ∧ no + m - i ≤ kx ∧ Hid (JS wr jb jb 5 o c D) ∧ Hid (Below jb w8 wr) ∧ Hid (wr.ownsMap Try.prog 3 (plainElem Try.prog 4) mb i dm) ∧ Hid (MapC dm C) ∧ Hid (C.Nodup ∧ (∀ i ∈ C, i < m) ∧ C.length < m ∧ DC idn l D C ∧ (∀ q, q < m → no + q < i → q ∈ C)) ∧ Hid (JOk i D) ∧ Hid (¬ ownJ jb o D mb))
    case atStart => exact ⟨0, [], [], none, 0, .map [], rfl, Nat.zero_le _, by omega, HJm, HBm, HMM, Lib.hid MapC.start, Lib.hid ⟨List.Pairwise.nil, fun i h => (by cases h), hm1, Or.inl ⟨rfl, rfl⟩, fun q hq h => by omega⟩, Lib.hid ⟨by decide, fun d hd => (by cases hd)⟩, Lib.hid HMB.out.2⟩
    case round =>
      obtain ⟨i, C, D, o, c, dm, rfl, hi, hkx, HJ, HB, HM, HMC, HCC, HOK, HNM⟩ := hrel
      by_cases hlt : i < no + m
      · have hltz : (i : Int) < (no : Int) + (m : Int) := by omega
        have hw1 : IntKind.i64.wrap ((no : Int) + (m : Int)) = (no : Int) + (m : Int) := IntWalk.i64_in _ ⟨by omega, by omega⟩
        go_upto_if 111 with fail
        go_cut [20] from 108 to 123 (fun v wx => ∃ k : Nat, v = .int .i64 (k : Int) ∧ k < m ∧ (no ≤ i → k = i - no) ∧ wx = wr)
        case first =>
          by_cases hio : i < no
          · have hioz : (i : Int) < (no : Int) := by omega
            have hiK : i < Ko.length := by have := HNO.out; omega
            have hcell : ∃ b o', Ao = some ⟨b, o', none⟩ ∧ wr.cell? ⟨b, o' + i, none⟩ = some (.int .u8 Ko[i]) := by
              rcases (HO.out.below HBWX.out).below (HB.out.mono HGL.out.2.2) with h | ⟨b, o', e1, e2, e3⟩
              · rw [h] at hiK; simp at hiK
              · exact ⟨b, o', e1, e3 i hiK⟩
            obtain ⟨cb, coff, rfl, hcell⟩ := hcell
            have hbd := HOB.out Ko[i] (List.getElem_mem _)
            obtain ⟨kn, hkn⟩ : ∃ kn : Nat, Ko[i] = (kn : Int) := ⟨Ko[i].toNat, by omega⟩
            rw [hkn] at hcell hbd
            have hk255 : (kn : Int) ≤ 255 := hbd.2
            have hw2 : IntKind.i64.wrap (kn : Int) = kn := IntWalk.i64_in _ ⟨by omega, by omega⟩
            have hmz : ¬ (m : Int) = 0 := by omega
            have hmz2 : ((m : Int) == 0) = false := beq_eq_false_iff_ne.2 hmz
            have htm : Int.tmod (kn : Int) (m : Int) = ((kn % m : Nat) : Int) := (Int.ofNat_tmod kn m).symm
            have hkm : kn % m < m := Nat.mod_lt _ hm1
            obtain ⟨r, hr⟩ : ∃ r, r = kn % m := ⟨_, rfl⟩
            rw [← hr] at htm hkm
            have hwr : IntKind.i64.wrap (r : Int) = r := IntWalk.i64_in _ ⟨by omega, by omega⟩
            clear hkn hbd hr
            go_wp2_with fail
            go_meet
            exact ⟨r, rfl, hkm, fun h => by omega, rfl⟩
          · have hioz : ¬ (i : Int) < (no : Int) := by omega
            have hw2 : IntKind.i64.wrap ((i : Int) - (no : Int)) = (i : Int) - (no : Int) := IntWalk.i64_in _ ⟨by omega, by omega⟩
            go_wp2_with fail
            go_meet
            exact ⟨i - no, by congr 1; omega, by omega, fun _ => rfl, rfl⟩
        case rest =>
          obtain ⟨k, rfl, hkm, hkn, rfl⟩ := hcut
          obtain ⟨wr, rfl⟩ : ∃ wr : World, wr = wc := ⟨_, rfl⟩
          have HKN := Lib.hid hkn
          have hkmz : (k : Int) < (m : Int) := by omega
          have hk0 : 0 ≤ (k : Int) := by omega
          have hkl : k < l.length := by rw [HLM.out]; exact hkm
          have HRr : Hid (PkRow wr gn capn l) := Lib.hid (HRN.out.below' HB.out HGL.out.1)
          have hld : (Ld 25 (.pointer (some ⟨gn, 0 + k * 14, none⟩))).run Try.prog wr = .ok (.agg l[k].c) wr := by
            obtain ⟨g', o', he, _, hcs⟩ := HRr.out.ps.cells k hkl
            injection he with he
            injection he with he1 he2
            subst he1
            subst he2
            exact ps_ld hcs k hkl
          rw [Nat.zero_add] at hld
          have HPU := Lib.hid (put_any HJ.out HOK.out (by omega) (by decide) l[k] (pin_full HFU.out ⟨hid1, hid2⟩ hkl))
          have HST := Lib.hid (fun D' out ok (hp : PutR D l[k] D' out ok) => And.intro (cuts_step HFU.out HCC.out.1 (fun j hj => by rw [HLM.out]; exact HCC.out.2.1 j hj) (by rw [HLM.out]; exact HCC.out.2.2.1) HCC.out.2.2.2.1 hkl hp) (hp.ok HOK.out))
          clear hkn HRr
          generalize l[k] = pk at hld HPU HST
          go_wp2_with fail
          refine HPU.out.mono ?_
          rintro e u1 ⟨out, ok, o1, c1, D1, rfl, hJ, hR, hF, hO⟩
          obtain ⟨hst, hok1⟩ := HST.out D1 out ok hR
          have HJ1 := Lib.hid hJ
          have HB1 := Lib.hid (HB.out.trans (hF.toBelow (fun q hq => (HJ.out.own_lt hq).1) HJ.out.size))
          have HM1 : Hid (u1.ownsMap Try.prog 3 (plainElem Try.prog 4) mb i dm) := Lib.hid (own_at (B := 0) (D' := dm) HM.out (hF.block mb HM.out.lt HNM.out))
          have HNM1 : Hid (¬ ownJ jb o1 D1 mb) := Lib.hid (fun h => (hO mb h).elim HNM.out (fun h => by have := HM.out.lt; omega))
          have HS1 := Lib.hid hst
          have HOK1 := Lib.hid hok1
          have hal := (Below.refl u1.heap.size u1).alloc (Nat.le_refl _) (.cells pk0 25)
          have HN := Lib.hid (Blk.new u1 25 pk0 0 0 (Or.inl (Nat.le_refl _)))
          have HJa := Lib.hid (HJ1.out.below hal)
          have HMa := Lib.hid (HM1.out.alloc (.cells pk0 25))
          have HBa := Lib.hid (HB1.out.trans (hal.mono (by have := HJ1.out.size; omega)))
          have HX : Hid (¬ ownJ jb o1 D1 u1.heap.size ∧ mb ≠ u1.heap.size ∧ jb ≤ u1.heap.size) := Lib.hid ⟨fun h => Nat.lt_irrefl _ (HJ1.out.own_lt h).2, Nat.ne_of_lt HM1.out.lt, HJ1.out.size⟩
          rw [pk0_lit] at HN HJa HMa HBa
          clear hJ hR hF hO hst hok1 hal HPU HST hld HJ HB HM HNM HOK HJ1 HB1 HM1
          have tokQ : True := trivial
          go_upto_region 35 with (have _t := tokQ; generalize World.alloc _ _ = u2 at HN HJa HMa HBa ⊢; rw [← pk0_lit] at HN; refine wp_st_pkt rfl _ _ rfl u1.heap.size out HN rfl rfl ?_; clear tokQ; have HQ : Hid (Blk (World.setCells u2 u1.heap.size 0 out.c.toList) u1.heap.size 25 out.c) := Lib.hid (HN.out.setAll (Pkt.c_size _)); have HJ := Lib.hid (HJa.out.setCells u1.heap.size 0 out.c.toList HX.out.1); have HM : Hid ((World.setCells u2 u1.heap.size 0 out.c.toList).ownsMap Try.prog 3 (plainElem Try.prog 4) mb i dm) := Lib.hid (own_at (B := 0) (D' := dm) HMa.out (heap_setCells u1.heap.size out.c.toList 0 u2 mb HX.out.2.1)); have HB := Lib.hid (Below.setCells HBa.out HX.out.2.2 0 out.c.toList); clear HN HJa HMa HBa; generalize World.setCells _ _ _ _ = u3 at HQ HJ HM HB ⊢)
          obtain ⟨qb, hqb⟩ : ∃ q, q = u1.heap.size := ⟨_, rfl⟩
          rw [← hqb] at HQ HX ⊢
          clear hqb
          have hkey : keyOf Try.prog 3 (.int .i64 (k : Int)) = some (.int .i64 (k : Int)) := keyOf_int_mk Try.underlying3 (WalkArith.wf_i64 ⟨by omega, by omega⟩)
          have HKEY := Lib.hid hkey
          have HQM : Hid (qb ≠ mb) := Lib.hid (fun e => HX.out.2.1 e.symm)
          clear hkey
          have tokU : True := trivial
          go_upto_region 36 with (have _t := tokU; clear tokU; at_mapUpdate; refine wpList_mapUpdate_own _ rfl _ _ _ 52 rfl 3 4 (int_keyed Try.underlying3) Try.underlying52 _ mb i _ rfl HM.out (by unfold maxLen; omega) _ _ (.int .i64 (k : Int)) rfl rfl HKEY.out (.lit (.bool true)) [] (plainElem_bool Try.underlying4 true) ?_; intro u4 hown4 hg4; have HM4 := Lib.hid hown4; have HQ4 : Hid (Blk u4 qb 25 out.c) := Lib.hid (HQ.out.of_heap (hg4.block qb HQ.out.lt (fun e => HQM.out (Option.some.inj e)))); have HJ4 := Lib.hid (HJ.out.fr (Fr.grown hg4) (fun q hq e => HNM1.out (e ▸ hq))); have HB4 := Lib.hid (HB.out.trans ((Fr.grown hg4).toBelow (fun q hq => by rw [hq]; exact HMB.out.1) HJ.out.size)); clear hown4 hg4 HM HQ HJ HB)
          rcases HS1.out with ⟨rfl, rfl, hout, hkC, hCl⟩ | ⟨rfl, C', n1, n2, n3, n4, n5, n6⟩
          · have hsz : ((Maps.size (dm.put (.int .i64 (k : Int)) (.lit (.bool true))) : Nat) : Int) = (m : Int) := by
              rw [HMC.out.put_new hkC]
              have := HLM.out
              omega
            have HOUT := Lib.hid hout
            have HSZ := Lib.hid hsz
            clear hout hkC hCl hsz
            have tokV : True := trivial
            have HBb4 : Hid (Blk u4 bb 25 P0.c) := Lib.hid (HBX.out.below HB4.out HGL.out.2.1)
            go_upto_region 39 with (have _t := tokV; clear tokV; at_len; refine wpList_len_own _ rfl _ 52 rfl 3 4 Try.underlying52 _ mb (i + 1) _ rfl HM4.out ?_; rw [HSZ.out])
            have lb := HBb4.out.ld_pkt
            have hal := (Below.refl u4.heap.size u4).alloc (Nat.le_refl _) (.cells pk0 25)
            have HN := Lib.hid (Blk.new u4 25 pk0 0 0 (Or.inl (Nat.le_refl _)))
            have HA := Lib.hid hal
            rw [pk0_lit] at HN HA
            clear hal
            have tokW : True := trivial
            go_upto_region 40 with (have _t := tokW; generalize World.alloc _ _ = y0 at HN HA ⊢; rw [← pk0_lit] at HN; refine wp_st_pkt rfl _ _ rfl u4.heap.size P0 HN rfl rfl ?_; clear tokW; have HQ : Hid (Blk (World.setCells y0 u4.heap.size 0 (P0).c.toList) u4.heap.size 25 (P0).c) := Lib.hid (HN.out.setAll (Pkt.c_size _)); have HBq := Lib.hid (Below.setCells HA.out (Nat.le_refl _) 0 (P0).c.toList); clear HN HA; generalize World.setCells _ _ _ _ = z0 at HQ HBq ⊢)
            clear lb
            obtain ⟨vb, hvb⟩ : ∃ q, q = u4.heap.size := ⟨_, rfl⟩
            rw [← hvb] at HQ ⊢
            have HQL : Hid (u4.heap.size ≤ vb) := Lib.hid (by omega)
            clear hvb
            have cS := (pk_c5 HQ.out).2.2
            have fS := HQ.out.free 13 (by rw [Pkt.c_size]; decide)
            go_upto_region 41 with fail
            have hS : Blk (World.setCell z0 ⟨vb, 13, none⟩ (.string ⟨data.toArray⟩)) vb 25 (withD P0 P0.mo data).c := by
              have h := HQ.out.set 13 (.string ⟨data.toArray⟩)
              rw [c_set13 P0 data] at h
              exact h
            have HQS := Lib.hid hS
            have HBS := Lib.hid (Below.setCell (p := ⟨vb, 13, none⟩) HBq.out HQL.out (.string ⟨data.toArray⟩))
            clear cS fS hS HQ HBq
            generalize World.setCell _ _ _ = z1 at HQS HBS ⊢
            have HQ := HQS
            have HBq := HBS
            clear HQS HBS
            have lq1 := (HQ4.out.step HBq.out).ld_pkt
            have lw := HQ.out.ld_pkt
            have heq := run_pkt_eql out (withD P0 P0.mo data) (by rw [HOUT.out, HP0.out]; rfl)
            have HJ5 := Lib.hid (HJ4.out.below HBq.out)
            have HLE := Lib.hid (lenJ_any 5 jb 0 c1 o1 (by decide) _ (jo_cell HJ5.out) (by have := jo_cell1 HJ5.out; exact this))
            go_wp2_with fail
            refine HLE.out.mono ?_
            rintro e u9 ⟨rfl, rfl⟩
            go_wp2
            go_ret
            exact ⟨rfl, HBWX.out.trans ((HB4.out.trans (HBq.out.mono HJ4.out.size)).mono HGL.out.2.2)⟩
          · have hMC := HMC.out.put (k := k) (by omega) (.lit (.bool true)) n5 n6
            have hsz : ((Maps.size (dm.put (.int .i64 (k : Int)) (.lit (.bool true))) : Nat) : Int) = ((C'.length : Nat) : Int) := by rw [hMC.2.2]
            have hne : ((C'.length : Nat) : Int) ≠ (m : Int) := by have := HLM.out; omega
            have hne2 : (((C'.length : Nat) : Int) == (m : Int)) = false := beq_eq_false_iff_ne.2 hne
            have HSZ := Lib.hid hsz
            have HMC' := Lib.hid hMC
            have HCC' : Hid (C'.Nodup ∧ (∀ i ∈ C', i < m) ∧ C'.length < m ∧ DC idn l D1 C' ∧ (∀ q, q < m → no + q < i + 1 → q ∈ C')) := Lib.hid ⟨n1, fun j hj => by have := n2 j hj; rw [HLM.out] at this; exact this, by rw [← HLM.out]; exact n3, n4, fun q hq h => by
              rw [n5]
              by_cases h5 : no + q < i
              · exact Or.inl (HCC.out.2.2.2.2 q hq h5)
              · right
                have := HKN.out (by omega)
                omega⟩
            clear hMC hsz n1 n2 n3 n4 n5 n6
            generalize C'.length = cl at hne hne2 HSZ
            have tokV : True := trivial
            go_wp2_with (have _t := tokV; clear tokV; at_len; refine wpList_len_own _ rfl _ 52 rfl 3 4 Try.underlying52 _ mb (i + 1) _ rfl HM4.out ?_; rw [HSZ.out])
            go_roundg (no + m - (i + 1))
            case measure => omega
            case rel => exact ⟨i + 1, C', D1, o1, c1, _, by go_num, by omega, Nat.le_refl _, HJ4, HB4, HM4, HMC', HCC', HOK1, HNM1⟩
      · have hcon : C.length < m := HCC.out.2.2.1
        have hall : ∀ q, q < m → q ∈ C := fun q hq => HCC.out.2.2.2.2 q hq (by omega)
        have := List.Nodup.length_le_of_subset (l₁ := List.range m) List.nodup_range (l₂ := C) (fun x hx => hall x (List.mem_range.1 hx))
        rw [List.length_range] at this
        exact absurd this (by omega)
end Go.Proofs.Yticchchcobjpdaa
