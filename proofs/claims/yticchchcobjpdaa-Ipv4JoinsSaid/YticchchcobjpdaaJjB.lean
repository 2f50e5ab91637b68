/- The document's whole of pieces. Condition: at most 1000 pieces, at places from 0 to 65535; none ends behind the last one. -/
import Derived.Test.YticchchcobjpdaaJjA
import Derived.OwnWalk
import Derived.Deep.RegionHeld3
import Derived.Deep.CutRange
namespace Go.Proofs.Yticchchcobjpdaa
set_option linter.unusedVariables false
set_option linter.unusedSimpArgs false
set_option maxRecDepth 100000
open Go.RowKit Go.Proofs Go.Shelf Go.Lib Go.Sort
attribute [local go_sem ↓] Go.wp_at_zero Go.wp_at_succ
attribute [local go_sem ↓] ld_pk ld_ip ld_wh
theorem enc_cells (p : Pkt) : (encP p)[11]? = some (.int .i64 p.a) ∧ (encP p)[12]? = some (.bool p.mo) ∧ (encP p)[13]? = some (.string ⟨p.d.toArray⟩) := by
  obtain ⟨id, f, t, pr, tt, a, mo, d, hL⟩ := p
  obtain ⟨f0, f1, f2, f3, t0, t1, t2, t3, rfl, rfl⟩ := pk_explicit hL
  exact ⟨rfl, rfl, rfl⟩
theorem ps_cells {w : World} {g o : Nat} {L : List Pkt} (h : ∀ j (hj : j < L.length), w.rangeAt g (o + j * 14) (encP L[j])) (i : Nat) (hi : i < L.length) :
    w.cell? ⟨g, o + i * 14 + 11, none⟩ = some (.int .i64 L[i].a) ∧ w.cell? ⟨g, o + i * 14 + 12, none⟩ = some (.bool L[i].mo) ∧ w.cell? ⟨g, o + i * 14 + 13, none⟩ = some (.string ⟨L[i].d.toArray⟩) := by
  have hr := h i hi
  obtain ⟨e1, e2, e3⟩ := enc_cells L[i]
  exact ⟨hr 11 _ e1, hr 12 _ e2, hr 13 _ e3⟩
theorem endV_snoc (l : List Pkt) (x : Pkt) : endV (l ++ [x]) = if x.mo then endV l else endP x := by unfold endV; rw [List.foldl_append]; rfl
theorem fstV_snoc (l : List Pkt) (x : Pkt) : fstV (l ++ [x]) = if x.a = 0 then x else fstV l := by unfold fstV; rw [List.foldl_append]; rfl
theorem has0_snoc (l : List Pkt) (x : Pkt) : has0 (l ++ [x]) = (has0 l || decide (x.a = 0)) := by unfold has0; rw [List.any_append]; simp
theorem bytB_snoc (l : List Pkt) (x : Pkt) (k : Nat) : bytB (l ++ [x]) k = if covP x k then x.d.getD ((k : Int) - x.a).toNat 0 else bytB l k := by unfold bytB; rw [List.foldl_append]; rfl
theorem covB_snoc (l : List Pkt) (x : Pkt) (k : Nat) : covB (l ++ [x]) k = (covB l k || covP x k) := by unfold covB; rw [List.any_append]; simp
/-- while the bytes of one piece are laid down -/
def bytJ (l : List Pkt) (x : Pkt) (j : Nat) (k : Nat) : UInt8 := if covP x k && decide ((k : Int) < x.a + j) then x.d.getD ((k : Int) - x.a).toNat 0 else bytB l k
def covJ (l : List Pkt) (x : Pkt) (j : Nat) (k : Nat) : Bool := covB l k || (covP x k && decide ((k : Int) < x.a + j))
theorem bytJ_zero (l : List Pkt) (x : Pkt) : bytJ l x 0 = bytB l := by
  funext k
  unfold bytJ covP
  by_cases h : x.a ≤ (k : Int) ∧ (k : Int) < endP x
  · rw [decide_eq_true h, decide_eq_false (by omega)]; rfl
  · rw [decide_eq_false h]; rfl
theorem covJ_zero (l : List Pkt) (x : Pkt) : covJ l x 0 = covB l := by
  funext k
  unfold covJ covP
  by_cases h : x.a ≤ (k : Int) ∧ (k : Int) < endP x
  · rw [decide_eq_true h, decide_eq_false (by omega)]; simp
  · rw [decide_eq_false h]; simp
theorem bytJ_all (l : List Pkt) (x : Pkt) : bytJ l x x.d.length = bytB (l ++ [x]) := by
  funext k
  rw [bytB_snoc]
  unfold bytJ covP
  by_cases h : x.a ≤ (k : Int) ∧ (k : Int) < endP x
  · have : endP x = x.a + x.d.length := rfl
    rw [decide_eq_true h, decide_eq_true (by omega)]; rfl
  · rw [decide_eq_false h]; rfl
theorem covJ_all (l : List Pkt) (x : Pkt) : covJ l x x.d.length = covB (l ++ [x]) := by
  funext k
  rw [covB_snoc]
  unfold covJ covP
  by_cases h : x.a ≤ (k : Int) ∧ (k : Int) < endP x
  · have : endP x = x.a + x.d.length := rfl
    rw [decide_eq_true h, decide_eq_true (by omega)]; rfl
  · rw [decide_eq_false h]; rfl
theorem bytJ_set (l : List Pkt) (x : Pkt) (j n p : Nat) (hj : j < x.d.length) (hp : (p : Int) = x.a + j) (hpn : p < n) : ((List.range n).map (bytJ l x j)).set p x.d[j] = (List.range n).map (bytJ l x (j + 1)) := by
  refine List.ext_getElem (by simp) fun k h1 h2 => ?_
  have hxe : endP x = x.a + x.d.length := rfl
  rw [List.getElem_set, List.getElem_map, List.getElem_range, List.getElem_map, List.getElem_range]
  split
  · rename_i e
    subst e
    unfold bytJ covP
    rw [decide_eq_true (p := x.a ≤ (p : Int) ∧ (p : Int) < endP x) (by omega), decide_eq_true (p := (p : Int) < x.a + ((j + 1 : Nat) : Int)) (by omega)]
    have e1 : ((p : Int) - x.a).toNat = j := by omega
    simp only [Bool.and_self, if_true]
    rw [e1, List.getD_eq_getElem?_getD, List.getElem?_eq_getElem hj]
    rfl
  · rename_i e
    unfold bytJ
    have e1 : decide ((k : Int) < x.a + (j : Int)) = decide ((k : Int) < x.a + ((j + 1 : Nat) : Int)) := by
      by_cases h : (k : Int) < x.a + (j : Int)
      · rw [decide_eq_true h, decide_eq_true (by omega)]
      · rw [decide_eq_false h, decide_eq_false (by omega)]
    rw [e1]
theorem covJ_set (l : List Pkt) (x : Pkt) (j n p : Nat) (hj : j < x.d.length) (hp : (p : Int) = x.a + j) (hpn : p < n) : ((List.range n).map (covJ l x j)).set p true = (List.range n).map (covJ l x (j + 1)) := by
  refine List.ext_getElem (by simp) fun k h1 h2 => ?_
  have hxe : endP x = x.a + x.d.length := rfl
  rw [List.getElem_set, List.getElem_map, List.getElem_range, List.getElem_map, List.getElem_range]
  split
  · rename_i e
    subst e
    unfold covJ covP
    rw [decide_eq_true (p := x.a ≤ (p : Int) ∧ (p : Int) < endP x) (by omega), decide_eq_true (p := (p : Int) < x.a + ((j + 1 : Nat) : Int)) (by omega)]
    simp
  · rename_i e
    unfold covJ
    have e1 : decide ((k : Int) < x.a + (j : Int)) = decide ((k : Int) < x.a + ((j + 1 : Nat) : Int)) := by
      by_cases h : (k : Int) < x.a + (j : Int)
      · rw [decide_eq_true h, decide_eq_true (by omega)]
      · rw [decide_eq_false h, decide_eq_false (by omega)]
    rw [e1]
/-- a row of bytes, a row of flags -/
abbrev ByR (w : World) (g : Nat) (l : List UInt8) : Prop := At w g 5 (l.map ubv).toArray
abbrev BoR (w : World) (g : Nat) (l : List Bool) : Prop := At w g 4 (l.map Value.bool).toArray
theorem ByR.set {w : World} {g : Nat} {l : List UInt8} (h : ByR w g l) (p : Nat) (x : UInt8) : ByR (w.setCell ⟨g, p, none⟩ (ubv x)) g (l.set p x) := by
  have := At.set h p (ubv x)
  unfold ByR
  rw [List.map_set]
  simpa using this
theorem BoR.set {w : World} {g : Nat} {l : List Bool} (h : BoR w g l) (p : Nat) (x : Bool) : BoR (w.setCell ⟨g, p, none⟩ (.bool x)) g (l.set p x) := by
  have := At.set h p (.bool x)
  unfold BoR
  rw [List.map_set]
  simpa using this
theorem ByR.cell {w : World} {g : Nat} {l : List UInt8} (h : ByR w g l) (p : Nat) (hp : p < l.length) : w.cell? ⟨g, p, none⟩ = some (ubv l[p]) := by
  rw [At.blk h |>.cell]
  simp [hp]
theorem BoR.cell {w : World} {g : Nat} {l : List Bool} (h : BoR w g l) (p : Nat) (hp : p < l.length) : w.cell? ⟨g, p, none⟩ = some (.bool l[p]) := by
  rw [At.blk h |>.cell]
  simp [hp]
theorem made_row {w : World} {base g n : Nat} {e : TypeId} {z : Value} (h : w.ownsRow base e 1 (.slice (some ⟨g, 0, none⟩) n n) n (madeCells #[z] (n * 1)).toList) : At w g e (List.replicate n z).toArray := by
  obtain ⟨hl, ⟨e1, _⟩ | ⟨g', cap, cur, e1, hB, hh, h1, h2, h3, h4⟩⟩ := h
  · exact absurd e1 (by simp)
  · injection e1 with e1 _ e3
    injection e1 with e1
    injection e1 with e1
    subst e1
    subst e3
    have hc : cur = (List.replicate n z).toArray := by
      apply Array.toList_inj.1
      rw [List.take_of_length_le (by rw [Array.length_toList]; omega)] at h4
      rw [h4]
      refine List.ext_getElem (by simp [madeCells]) fun k h5 h6 => ?_
      simp [madeCells, Nat.mod_one]
    rw [hc] at hh
    exact hh
theorem made_u8c (n : Nat) : (List.replicate n (.int .u8 0 : Value)).toArray = (((List.range n).map (bytB [])).map ubv).toArray := by
  congr 1
  refine List.ext_getElem (by simp) fun k h1 h2 => ?_
  simp [bytB, ubv]
theorem made_boc (n : Nat) : (List.replicate n (.bool false : Value)).toArray = (((List.range n).map (covB [])).map Value.bool).toArray := by
  congr 1
  refine List.ext_getElem (by simp) fun k h1 h2 => ?_
  simp [covB]
theorem u8_info : (Try.prog.info? 5).map (fun i => (i.zero, i.size, i.bytes)) = some (some (.int .u8 0), 1, 1) := by kernel_rfl
theorem bo_info : (Try.prog.info? 4).map (fun i => (i.zero, i.size, i.bytes)) = some (some (.bool false), 1, 1) := by kernel_rfl
theorem take_snoc2 (S : List Pkt) (k : Nat) (h : k < S.length) : S.take (k + 1) = S.take k ++ [S[k]] := take_snocP S k h
set_option maxHeartbeats 16000000 in
theorem joined_any (l : List Pkt) (hn : l.length ≤ 1000) (hl : ∀ x ∈ l, 0 ≤ x.a ∧ endP x ≤ 65535) (he : 0 ≤ endV l → ∀ x ∈ l, endP x ≤ endV l) (A : Option Addr) (c : Nat) (w : World) (hA : PsAt w w.heap.size A l) :
    Calls Try.prog 51 #[.slice A l.length c] w fun e w' => e = .returned (.tuple #[.agg (joinedV l).1.c, .bool (joinedV l).2]) ∧ Below w.heap.size w w' := by
  have HA := Lib.hid hA
  have HL := Lib.hid hl
  have HE := Lib.hid he
  obtain ⟨n, hnn⟩ : ∃ n, n = l.length := ⟨_, rfl⟩
  rw [← hnn] at hn ⊢
  have HN := Lib.hid hnn
  have hal := (Below.refl w.heap.size w).alloc (Nat.le_refl _) (.cells pk0 25)
  have HR := Lib.hid (Blk.new w 25 pk0 0 0 (Or.inl (Nat.le_refl _)))
  have HB := Lib.hid hal
  rw [pk0_lit] at HR HB
  clear hA hl he hnn hal
  go_enter Try.func51, Try.ntmps51
  go_upto_region 1 with fail
  generalize World.alloc _ _ = w1 at HR HB ⊢
  rw [← pk0_lit] at HR
  obtain ⟨rb, hrb⟩ : ∃ q, q = w.heap.size := ⟨_, rfl⟩
  rw [← hrb] at HR ⊢
  have HRB := Lib.hid hrb
  clear hrb
  have HA1 := Lib.hid (HA.out.below HB.out)
  have HEN0 : Hid (endV (l.take 0) = -1) := Lib.hid rfl
  go_wp2_with fail
  go_loopg [4, 5] n (fun kx s4 s5 wr => ∃ (i : Nat) (ev : Int) (q : Nat), s4 = .int .i64 ev ∧ s5 = .int .i64 (i : Int) ∧ i ≤ n ∧ n - i ≤ kx ∧ Hid (ev = endV (l.take i)) ∧ Hid (wr = w1.drewN q))
  case atStart => exact ⟨0, -1, 0, rfl, rfl, Nat.zero_le _, by omega, Lib.hid rfl, Lib.hid rfl⟩
  case round =>
    obtain ⟨i, ev, q, rfl, rfl, hi, hkx, HEV, HW⟩ := hrel
    by_cases hlt : i < n
    · have hltz : (i : Int) < (n : Int) := by omega
      have hiL : i < l.length := by rw [← HN.out]; exact hlt
      obtain ⟨g, o, rfl, hgB, hcs⟩ := HA1.out.cells i hiL
      obtain ⟨ca, cm, cd⟩ := ps_cells hcs i hiL
      have hb := HL.out l[i] (List.getElem_mem _)
      have HSN := Lib.hid (take_snoc2 l i hiL)
      have HXE : Hid (endP l[i] = l[i].a + l[i].d.length) := Lib.hid rfl
      have HES : Hid (endV (l.take (i + 1)) = if l[i].mo then ev else endP l[i]) := Lib.hid (by rw [HSN.out, endV_snoc, HEV.out])
      generalize l[i] = x at ca cm cd hb HXE HES
      obtain ⟨mo, hmo⟩ : ∃ m, m = x.mo := ⟨_, rfl⟩
      rw [← hmo] at cm HES
      have cm' : ∀ q, (w1.drewN q).cell? ⟨g, o + i * 14 + 12, none⟩ = some (.bool mo) := fun q => cm
      have ca' : ∀ q, (w1.drewN q).cell? ⟨g, o + i * 14 + 11, none⟩ = some (.int .i64 x.a) := fun q => ca
      have cd' : ∀ q, (w1.drewN q).cell? ⟨g, o + i * 14 + 13, none⟩ = some (.string ⟨x.d.toArray⟩) := fun q => cd
      have hw : IntKind.i64.wrap (x.a + (x.d.length : Int)) = x.a + (x.d.length : Int) := IntWalk.i64_in _ ⟨by have := HXE.out; omega, by have := HXE.out; omega⟩
      have mixed : Try.prog.follows .mixedOrders = true := by kernel_rfl
      have hww := HW.out
      clear hcs HSN hmo cm ca cd HW
      subst hww
      cases mo with
      | true =>
        go_wp2
        go_roundg (n - (i + 1))
        case measure => omega
        case rel => exact ⟨i + 1, ev, q, rfl, by go_num, by omega, Nat.le_refl _, Lib.hid (by rw [HES.out]; rfl), Lib.hid rfl⟩
      | false =>
        go_upto_region 6 with fail
        go_quiet (fail)
        go_wp2
        go_roundg (n - (i + 1))
        case measure => omega
        case rel => exact ⟨i + 1, _, _, rfl, by go_num, by omega, Nat.le_refl _, Lib.hid (by rw [HES.out]; exact HXE.out.symm), Lib.hid rfl⟩
    · have hltz : ¬ (i : Int) < (n : Int) := by omega
      have hin : l.take i = l := List.take_of_length_le (by rw [← HN.out]; omega)
      rw [hin] at HEV
      have HA2 : Hid (PsAt wr w.heap.size A l) := Lib.hid (by rw [HW.out]; exact HA1.out)
      have HR2 : Hid (Blk wr rb 25 pk0) := Lib.hid (by rw [HW.out]; exact HR.out)
      have HB2 : Hid (Below w.heap.size w wr) := Lib.hid (by rw [HW.out]; exact Below.drewN HB.out q)
      clear hin HW HA1 HR HB HEN0
      obtain ⟨w2, rfl⟩ : ∃ w2 : World, w2 = wr := ⟨_, rfl⟩
      by_cases hneg : ev < 0
      · have HJV : Hid (joinedV l = (pkt0, false)) := Lib.hid (by unfold joinedV; rw [if_pos (by rw [← HEV.out]; exact hneg)])
        have tokZ : True := trivial
        go_wp2_with (have _t := tokZ; refine wpList_store_blk rfl 25 _ _ rfl rb pk0 rfl rfl pk0 25 HR2.out rfl size_pk rfl ?_; clear tokZ)
        exact bodyPost_ret (results_blk Try.results51 _ _ rb _ _ _ rfl (HR2.out.setAll rfl) Try.underlying25 rfl size_pk) rfl ⟨by rw [HJV.out, ← pkt0_c]; rfl, Below.setCells HB2.out (Nat.le_of_eq HRB.out.symm) _ _⟩
      · obtain ⟨m, rfl⟩ : ∃ m : Nat, ev = (m : Int) := ⟨ev.toNat, by omega⟩
        have HEL : Hid (∀ x ∈ l, endP x ≤ (m : Int)) := Lib.hid (by rw [HEV.out]; exact HE.out (by rw [← HEV.out]; omega))
        have hm : m ≤ 65535 := by
          rcases end_spec l with ⟨z, hz, h1, h2⟩ | ⟨h1, h2⟩
          · have := (HL.out z hz).2
            have := HEV.out
            omega
          · have := HEV.out
            omega
        obtain ⟨iu, hu0, hu1, hu2, hu3⟩ := info_parts u8_info
        obtain ⟨ib, hb0, hb1, hb2, hb3⟩ := info_parts bo_info
        have tokM : True := trivial
        go_upto_region 10 with (have _t := tokM; clear tokM; refine wpList_make_full _ rfl _ _ 47 rfl w2.heap.size 5 iu (.int .u8 0) 1 Try.underlying47 hu0 hu1 hu2 .i64 .i64 _ _ m rfl rfl rfl rfl (by rw [hu3]; omega) (by unfold maxLen; omega) (Nat.le_refl _) ?_; intro w3 hown hg; have HU : Hid (ByR w3 w2.heap.size ((List.range m).map (bytB []))) := Lib.hid (by have := made_row hown; rw [made_u8c] at this; exact this); have HBU := Lib.hid (⟨hg.os, hg.tape, hg.output, hg.size, fun k hk => hg.block k hk (by simp)⟩ : Below w2.heap.size w2 w3); clear hown hg)
        have HA3 := Lib.hid (HA2.out.below (HBU.out.mono HB2.out.size))
        have HR3 := Lib.hid (HR2.out.step HBU.out)
        have HB3 := Lib.hid (Below.step HB2.out HBU.out)
        have HSU : Hid (w.heap.size < w2.heap.size) := Lib.hid (by have := HR2.out.lt; have := HRB.out; omega)
        obtain ⟨gu, hgu⟩ : ∃ q, q = w2.heap.size := ⟨_, rfl⟩
        rw [← hgu] at HU HSU ⊢
        clear hgu HBU HA2 HR2 HB2 hu0 hu1 hu2 hu3
        have tokN : True := trivial
        go_upto_region 11 with (have _t := tokN; clear tokN; refine wpList_make_full _ rfl _ _ 119 rfl w3.heap.size 4 ib (.bool false) 1 Try.underlying119 hb0 hb1 hb2 .i64 .i64 _ _ m rfl rfl rfl rfl (by rw [hb3]; omega) (by unfold maxLen; omega) (Nat.le_refl _) ?_; intro w4 hown hg; have HT : Hid (BoR w4 w3.heap.size ((List.range m).map (covB []))) := Lib.hid (by have := made_row hown; rw [made_boc] at this; exact this); have HBU := Lib.hid (⟨hg.os, hg.tape, hg.output, hg.size, fun k hk => hg.block k hk (by simp)⟩ : Below w3.heap.size w3 w4); clear hown hg)
        have HA4 := Lib.hid (HA3.out.below (HBU.out.mono HB3.out.size))
        have HR4 := Lib.hid (HR3.out.step HBU.out)
        have HB4 := Lib.hid (Below.step HB3.out HBU.out)
        have HU4 : Hid (ByR w4 gu ((List.range m).map (bytB []))) := Lib.hid (At.same HU.out (HBU.out.block gu (At.lt HU.out)))
        have HST : Hid (gu < w3.heap.size ∧ w.heap.size < w3.heap.size) := Lib.hid ⟨At.lt HU.out, by have := At.lt HU.out; have := HSU.out; omega⟩
        obtain ⟨gt, hgt⟩ : ∃ q, q = w3.heap.size := ⟨_, rfl⟩
        rw [← hgt] at HT HST ⊢
        clear hgt HBU HA3 HR3 HB3 HU hb0 hb1 hb2 hb3
        have hal := (Below.refl w4.heap.size w4).alloc (Nat.le_refl _) (.cells pk0 25)
        have HO := Lib.hid (Blk.new w4 25 pk0 0 0 (Or.inl (Nat.le_refl _)))
        have HA5 := Lib.hid (HA4.out.below (hal.mono HB4.out.size))
        have HR5 := Lib.hid (HR4.out.step hal)
        have HB5 := Lib.hid (Below.step HB4.out hal)
        have HU5 : Hid (ByR (w4.alloc (.cells pk0 25)) gu ((List.range m).map (bytB []))) := Lib.hid (At.same HU4.out (hal.block gu (At.lt HU4.out)))
        have HT5 : Hid (BoR (w4.alloc (.cells pk0 25)) gt ((List.range m).map (covB []))) := Lib.hid (At.same HT.out (hal.block gt (At.lt HT.out)))
        have HSO : Hid (gt < w4.heap.size ∧ gu < w4.heap.size ∧ w.heap.size < w4.heap.size ∧ rb < w4.heap.size) := Lib.hid ⟨At.lt HT.out, At.lt HU4.out, by have := At.lt HT.out; have := HST.out; omega, HR4.out.lt⟩
        rw [pk0_lit] at HO HA5 HR5 HB5 HU5 HT5
        clear hal HA4 HR4 HB4 HU4 HT
        have tokO : True := trivial
        go_upto_region 12 with (have _t := tokO; generalize World.alloc _ _ = w5 at HO HA5 HR5 HB5 HU5 HT5 ⊢; rw [← pk0_lit] at HO HR5; refine wp_st_over rfl _ _ rfl w4.heap.size pkt0 pkt0 (by rw [pkt0_c]; exact HO) rfl (by rw [pkt0_c]; rfl) ?_; clear tokO; have HO6 : Hid (Blk (World.setCells w5 w4.heap.size 0 pkt0.c.toList) w4.heap.size 25 pkt0.c) := Lib.hid (blk_over (by rw [pkt0_c]; exact HO.out)); have HBq : Below w.heap.size w5 (World.setCells w5 w4.heap.size 0 pkt0.c.toList) := Below.setCells (Below.refl _ _) (Nat.le_of_lt HSO.out.2.2.1) 0 _; have HA6 := Lib.hid (HA5.out.below HBq); have HR6 : Hid (Blk (World.setCells w5 w4.heap.size 0 pkt0.c.toList) rb 25 pk0) := Lib.hid (HR5.out.setCells_other w4.heap.size 0 pkt0.c.toList (Nat.ne_of_lt HSO.out.2.2.2)); have HB6 := Lib.hid (HB5.out.trans HBq); have HU6 : Hid (ByR (World.setCells w5 w4.heap.size 0 pkt0.c.toList) gu ((List.range m).map (bytB []))) := Lib.hid (At.same HU5.out (heap_setCells _ _ _ _ _ (Nat.ne_of_lt HSO.out.2.1))); have HT6 : Hid (BoR (World.setCells w5 w4.heap.size 0 pkt0.c.toList) gt ((List.range m).map (covB []))) := Lib.hid (At.same HT5.out (heap_setCells _ _ _ _ _ (Nat.ne_of_lt HSO.out.1))); clear HO HA5 HR5 HB5 HU5 HT5 HBq; generalize World.setCells _ _ _ _ = w6 at HO6 HA6 HR6 HB6 HU6 HT6 ⊢)
        obtain ⟨ob, hob⟩ : ∃ q, q = w4.heap.size := ⟨_, rfl⟩
        rw [← hob] at HO6 HSO ⊢
        clear hob
        have HNE : Hid (gu ≠ gt ∧ gu ≠ ob ∧ gt ≠ ob ∧ rb ≠ ob ∧ rb ≠ gu ∧ rb ≠ gt) := Lib.hid (by have := HST.out; have := HSO.out; have := HRB.out; have := HSU.out; omega)
        have HLO : Hid (w.heap.size ≤ gu ∧ w.heap.size ≤ gt ∧ w.heap.size ≤ ob ∧ w.heap.size ≤ rb) := Lib.hid (by have := HST.out; have := HSO.out; have := HRB.out; have := HSU.out; omega)
        clear HSU HST HSO
        go_wp2_with fail
        go_loopg [9, 10] n (fun kx s9 s10 wr => ∃ i : Nat, s9 = .bool (has0 (l.take i)) ∧ s10 = .int .i64 (i : Int) ∧ i ≤ n ∧ n - i ≤ kx ∧ Hid (Blk wr ob 25 (fstV (l.take i)).c) ∧ Hid (ByR wr gu ((List.range m).map (bytB (l.take i)))) ∧ Hid (BoR wr gt ((List.range m).map (covB (l.take i)))) ∧ Hid (Blk wr rb 25 pk0) ∧ Hid (PsAt wr w.heap.size A l) ∧ Hid (Below w.heap.size w wr))
        case atStart => exact ⟨0, rfl, rfl, Nat.zero_le _, by omega, HO6, HU6, HT6, HR6, HA6, HB6⟩
        case round =>
          obtain ⟨i, rfl, rfl, hi, hkx, HO, HU, HT, HR, HA, HB⟩ := hrel
          obtain ⟨wo, rfl⟩ : ∃ wo : World, wo = wr := ⟨_, rfl⟩
          by_cases hlt : i < n
          · have hltz : (i : Int) < (n : Int) := by omega
            have hiL : i < l.length := by rw [← HN.out]; exact hlt
            obtain ⟨g, o, rfl, hgB, hcs0⟩ := HA.out.cells i hiL
            have HGB := Lib.hid hgB
            have HCS : Hid (∀ w', Below w.heap.size wo w' → ∀ j (hj : j < l.length), w'.rangeAt g (o + j * 14) (encP l[j])) := Lib.hid (fun w' hb j hj u v hv => (hb.cell (p := ⟨g, o + j * 14 + u, none⟩) hgB).trans (hcs0 j hj u v hv))
            have hb := HL.out l[i] (List.getElem_mem _)
            have hel := HEL.out l[i] (List.getElem_mem _)
            have HSN := Lib.hid (take_snoc2 l i hiL)
            have HPC : Hid (∀ w', Below w.heap.size wo w' → w'.cell? ⟨g, o + i * 14 + 11, none⟩ = some (.int .i64 l[i].a) ∧ w'.cell? ⟨g, o + i * 14 + 13, none⟩ = some (.string ⟨l[i].d.toArray⟩)) := Lib.hid (fun w' hb => ⟨(ps_cells (HCS.out w' hb) i hiL).1, (ps_cells (HCS.out w' hb) i hiL).2.2⟩)
            have HLD : Hid ((Ld 25 (.pointer (some ⟨g, o + i * 14, none⟩))).run Try.prog wo = .ok (.agg l[i].c) wo) := Lib.hid (ps_ld hcs0 i hiL)
            have HXE : Hid (endP l[i] = l[i].a + l[i].d.length) := Lib.hid rfl
            have HF : Hid (fstV (l.take (i + 1)) = if l[i].a = 0 then l[i] else fstV (l.take i)) := Lib.hid (by rw [HSN.out, fstV_snoc])
            have HH : Hid (has0 (l.take (i + 1)) = (has0 (l.take i) || decide (l[i].a = 0))) := Lib.hid (by rw [HSN.out, has0_snoc])
            have HBZ : Hid (bytJ (l.take i) l[i] 0 = bytB (l.take i) ∧ bytJ (l.take i) l[i] l[i].d.length = bytB (l.take (i + 1))) := Lib.hid ⟨bytJ_zero _ _, by rw [HSN.out]; exact bytJ_all _ _⟩
            have HCZ : Hid (covJ (l.take i) l[i] 0 = covB (l.take i) ∧ covJ (l.take i) l[i] l[i].d.length = covB (l.take (i + 1))) := Lib.hid ⟨covJ_zero _ _, by rw [HSN.out]; exact covJ_all _ _⟩
            rw [← HBZ.out.1] at HU
            rw [← HCZ.out.1] at HT
            have HHT := HH
            clear hcs0 HSN HH hgB HCS
            generalize l[i] = x at hb hel HPC HLD HXE HF HHT HBZ HCZ HU HT
            obtain ⟨f0, hf0⟩ : ∃ f, f = has0 (l.take i) := ⟨_, rfl⟩
            rw [← hf0] at HHT ⊢
            clear hf0
            obtain ⟨ca, cd⟩ := HPC.out wo (Below.refl _ _)
            have ld := HLD.out
            go_upto_if 56 with fail
            go_cut [9] from 51 to 60 (fun v wx => v = .bool (f0 || decide (x.a = 0)) ∧ Hid (Blk wx ob 25 (fstV (l.take (i + 1))).c) ∧ Hid (Below w.heap.size wo wx) ∧ Hid (wx.heap[gu]? = wo.heap[gu]? ∧ wx.heap[gt]? = wo.heap[gt]? ∧ wx.heap[rb]? = wo.heap[rb]?))
            case first =>
              by_cases hx0 : x.a = 0
              · have hx0b : (x.a == 0) = true := beq_iff_eq.2 hx0
                have HX0 := Lib.hid hx0
                have tokS : True := trivial
                have HOS : Hid (Blk wo ob 25 (fstV (l.take i)).c) := HO
                go_wp2_with (have _t := tokS; refine wp_st_over rfl _ _ rfl ob x (fstV (l.take i)) HOS rfl rfl ?_; clear tokS)
                go_meet
                exact ⟨by rw [decide_eq_true HX0.out, Bool.or_true], Lib.hid (by rw [HF.out, if_pos HX0.out]; exact blk_over HO.out), Lib.hid (Below.setCells (Below.refl _ _) HLO.out.2.2.1 0 _), Lib.hid ⟨heap_setCells _ _ _ _ _ HNE.out.2.1, heap_setCells _ _ _ _ _ HNE.out.2.2.1, heap_setCells _ _ _ _ _ HNE.out.2.2.2.1⟩⟩
              · have hx0b : (x.a == 0) = false := beq_eq_false_iff_ne.2 hx0
                have HX0 := Lib.hid hx0
                go_wp2_with fail
                go_meet
                exact ⟨by rw [decide_eq_false HX0.out, Bool.or_false], Lib.hid (by rw [HF.out, if_neg HX0.out]; exact HO.out), Lib.hid (Below.refl _ _), Lib.hid ⟨rfl, rfl, rfl⟩⟩
            case rest =>
              obtain ⟨rfl, HO1, HBx, HKe⟩ := hcut
              have HU1 : Hid (ByR wc gu ((List.range m).map (bytJ (l.take i) x 0))) := Lib.hid (At.same HU.out HKe.out.1)
              have HT1 : Hid (BoR wc gt ((List.range m).map (covJ (l.take i) x 0))) := Lib.hid (At.same HT.out HKe.out.2.1)
              have HR1 : Hid (Blk wc rb 25 pk0) := Lib.hid (HR.out.of_heap HKe.out.2.2)
              rw [← HHT.out]
              clear ca cd ld HO HU HT HR HF HHT
              obtain ⟨xa, hxa⟩ : ∃ xa : Nat, x.a = (xa : Int) := ⟨x.a.toNat, by omega⟩
              obtain ⟨xd, hxd⟩ : ∃ xd, xd = x.d := ⟨_, rfl⟩
              have hend : (xa : Int) + (xd.length : Int) ≤ (m : Int) := by have := HXE.out; rw [hxd]; omega
              have HPC2 : Hid (∀ w', Below w.heap.size wo w' → w'.cell? ⟨g, o + i * 14 + 11, none⟩ = some (.int .i64 (xa : Int)) ∧ w'.cell? ⟨g, o + i * 14 + 13, none⟩ = some (.string ⟨xd.toArray⟩)) := Lib.hid (fun w' hb => by have := HPC.out w' hb; rw [hxa, ← hxd] at this; exact this)
              have HXA := Lib.hid hxa
              have HXD := Lib.hid hxd
              have HBF : Hid (bytJ (l.take i) x xd.length = bytB (l.take (i + 1)) ∧ covJ (l.take i) x xd.length = covB (l.take (i + 1))) := Lib.hid (by rw [hxd]; exact ⟨HBZ.out.2, HCZ.out.2⟩)
              clear hb hel hxa hxd HPC HLD HXE HBZ HCZ
              go_wp2_with fail
              go_loopg [11] xd.length (fun kx s11 wq => ∃ j : Nat, s11 = .int .i64 (j : Int) ∧ j ≤ xd.length ∧ xd.length - j ≤ kx ∧ Hid (Blk wq ob 25 (fstV (l.take (i + 1))).c) ∧ Hid (ByR wq gu ((List.range m).map (bytJ (l.take i) x j))) ∧ Hid (BoR wq gt ((List.range m).map (covJ (l.take i) x j))) ∧ Hid (Blk wq rb 25 pk0) ∧ Hid (Below w.heap.size wo wq))
              case atStart => exact ⟨0, rfl, Nat.zero_le _, by omega, HO1, HU1, HT1, HR1, HBx⟩
              case round =>
                obtain ⟨j, rfl, hj, hkj, HO2, HU2, HT2, HR2, HB2⟩ := hrel
                obtain ⟨wq, rfl⟩ : ∃ wq : World, wq = wr := ⟨_, rfl⟩
                by_cases hjl : j < xd.length
                · have hjz : (j : Int) < (xd.length : Int) := by omega
                  have hj0 : 0 ≤ (j : Int) := by omega
                  obtain ⟨ca, cd⟩ := HPC2.out wq HB2.out
                  obtain ⟨p, hp⟩ : ∃ p : Nat, p = xa + j := ⟨_, rfl⟩
                  have hsum : (xa : Int) + (j : Int) = (p : Int) := by omega
                  have hpm : p < m := by omega
                  have hpmz : (p : Int) < (m : Int) := by omega
                  have hp0 : 0 ≤ (p : Int) := by omega
                  have hwp : IntKind.i64.wrap (p : Int) = p := IntWalk.i64_in _ ⟨by omega, by omega⟩
                  have HBS : Hid (((List.range m).map (bytJ (l.take i) x j)).set p xd[j] = (List.range m).map (bytJ (l.take i) x (j + 1))) := Lib.hid (by
                    have := bytJ_set (l.take i) x j m p (by rw [← HXD.out]; exact hjl) (by rw [HXA.out]; omega) hpm
                    simp only [← HXD.out] at this
                    exact this)
                  have HCS : Hid (((List.range m).map (covJ (l.take i) x j)).set p true = (List.range m).map (covJ (l.take i) x (j + 1))) := Lib.hid (covJ_set (l.take i) x j m p (by rw [← HXD.out]; exact hjl) (by rw [HXA.out]; omega) hpm)
                  have hbs : j < (⟨xd.toArray⟩ : ByteArray).size := (by show j < xd.toArray.size; simpa using hjl)
                  have b0 : (⟨xd.toArray⟩ : ByteArray)[j]'hbs = xd[j] := rfl
                  clear hp
                  go_upto_region 22 with fail
                  clear ca cd
                  refine wp_region_noPanic ?_
                  refine wp_region_held_drew (S := (fun w' => w'.cell? ⟨g, o + i * 14 + 11, none⟩ = some (.int .i64 (xa : Int)) ∧ w'.cell? ⟨g, o + i * 14 + 13, none⟩ = some (.string ⟨xd.toArray⟩))) (by kernel_rfl) (by first | exact HPC2.out _ (Below.drewN HB2.out 1)) (fun hHeld => ?_)
                  refine wpAnyH_take (i := 0) (oi := _) (v := ?vr1n0_1) rfl (by kernel_rfl) (by kernel_rfl) (by kernel_rfl) (fun _ _ _ h => h) (Or.inl ⟨by kernel_rfl, ?hr1n0_1⟩) hHeld ?_
                  case hr1n0_1 => (intro w hSw; (try dsimp only at hSw); go_simp; try (with_reducible rfl))
                  try simp only [List.getElem_toArray, List.getElem_cons_zero, List.getElem_cons_succ, Act.put, List.setIfInBounds_toArray, List.set_cons_zero, List.set_cons_succ]
                  refine wpAnyH_take (i := 1) (oi := _) (v := ?vr1n1_2) rfl (by kernel_rfl) (by kernel_rfl) (by kernel_rfl) (fun _ _ _ h => h) (Or.inl ⟨by kernel_rfl, ?hr1n1_2⟩) hHeld ?_
                  case hr1n1_2 => (intro w hSw; (try dsimp only at hSw); go_simp; try (with_reducible rfl))
                  try simp only [List.getElem_toArray, List.getElem_cons_zero, List.getElem_cons_succ, Act.put, List.setIfInBounds_toArray, List.set_cons_zero, List.set_cons_succ]
                  refine wpAnyH_take (i := 2) (oi := _) (v := ?vr1n2_3) rfl (by kernel_rfl) (by kernel_rfl) (by kernel_rfl) (fun _ _ _ h => h) (Or.inl ⟨by kernel_rfl, ?hr1n2_3⟩) hHeld ?_
                  case hr1n2_3 => (intro w hSw; (try dsimp only at hSw); go_simp; try (with_reducible rfl))
                  try simp only [List.getElem_toArray, List.getElem_cons_zero, List.getElem_cons_succ, Act.put, List.setIfInBounds_toArray, List.set_cons_zero, List.set_cons_succ]
                  refine wpAnyH_take (i := 3) (oi := _) (v := ?vr1n3_4) rfl (by kernel_rfl) (by kernel_rfl) (by kernel_rfl) (fun _ _ _ h => h) (Or.inl ⟨by kernel_rfl, ?hr1n3_4⟩) hHeld ?_
                  case hr1n3_4 => (intro w hSw; (try dsimp only at hSw); go_simp; try (with_reducible rfl))
                  try simp only [List.getElem_toArray, List.getElem_cons_zero, List.getElem_cons_succ, Act.put, List.setIfInBounds_toArray, List.set_cons_zero, List.set_cons_succ]
                  refine wpAnyH_take (i := 4) (oi := _) (v := ?vr1n4_5) rfl (by kernel_rfl) (by kernel_rfl) (by kernel_rfl) (fun _ _ _ h => h) (Or.inl ⟨by kernel_rfl, ?hr1n4_5⟩) hHeld ?_
                  case hr1n4_5 => (intro w hSw; (try dsimp only at hSw); go_simp; try (with_reducible rfl))
                  try simp only [List.getElem_toArray, List.getElem_cons_zero, List.getElem_cons_succ, Act.put, List.setIfInBounds_toArray, List.set_cons_zero, List.set_cons_succ]
                  refine wpAnyH_take (i := 5) (oi := _) (v := ?vr1n5_6) rfl (by kernel_rfl) (by kernel_rfl) (by kernel_rfl) (fun _ _ _ h => h) (Or.inl ⟨by kernel_rfl, ?hr1n5_6⟩) hHeld ?_
                  case hr1n5_6 => (intro w hSw; (try dsimp only at hSw); go_simp; try (with_reducible rfl))
                  try simp only [List.getElem_toArray, List.getElem_cons_zero, List.getElem_cons_succ, Act.put, List.setIfInBounds_toArray, List.set_cons_zero, List.set_cons_succ]
                  refine wpAnyH_take (i := 6) (oi := _) (v := ?vr1n6_7) rfl (by kernel_rfl) (by kernel_rfl) (by kernel_rfl) (fun _ _ _ h => h) (Or.inl ⟨by kernel_rfl, ?hr1n6_7⟩) hHeld ?_
                  case hr1n6_7 => (intro w hSw; (try dsimp only at hSw); go_simp; try (with_reducible rfl))
                  try simp only [List.getElem_toArray, List.getElem_cons_zero, List.getElem_cons_succ, Act.put, List.setIfInBounds_toArray, List.set_cons_zero, List.set_cons_succ]
                  refine wpAnyH_take (i := 7) (oi := _) (v := ?vr1n7_8) rfl (by kernel_rfl) (by kernel_rfl) (by kernel_rfl) (fun _ _ _ h => h) (Or.inl ⟨by kernel_rfl, ?hr1n7_8⟩) hHeld ?_
                  case hr1n7_8 => (intro w hSw; (try dsimp only at hSw); go_simp; try (with_reducible rfl))
                  try simp only [List.getElem_toArray, List.getElem_cons_zero, List.getElem_cons_succ, Act.put, List.setIfInBounds_toArray, List.set_cons_zero, List.set_cons_succ]
                  refine wpAnyH_take (i := 8) (oi := _) (v := ?vr1n8_9) rfl (by kernel_rfl) (by kernel_rfl) (by kernel_rfl) (fun _ _ _ h => h) (Or.inl ⟨by kernel_rfl, ?hr1n8_9⟩) hHeld ?_
                  case hr1n8_9 => (intro w hSw; (try dsimp only at hSw); go_simp; try (with_reducible rfl))
                  try simp only [List.getElem_toArray, List.getElem_cons_zero, List.getElem_cons_succ, Act.put, List.setIfInBounds_toArray, List.set_cons_zero, List.set_cons_succ]
                  refine wpAnyH_take (i := 9) (oi := _) (v := ?vr1n9_10) rfl (by kernel_rfl) (by kernel_rfl) (by kernel_rfl) (fun _ _ _ h => h) (Or.inl ⟨by kernel_rfl, ?hr1n9_10⟩) hHeld ?_
                  case hr1n9_10 => (intro w hSw; (try dsimp only at hSw); go_simp; try (with_reducible rfl))
                  try simp only [List.getElem_toArray, List.getElem_cons_zero, List.getElem_cons_succ, Act.put, List.setIfInBounds_toArray, List.set_cons_zero, List.set_cons_succ]
                  refine wpAnyH_take (i := 10) (oi := _) (v := ?vr1n10_11) rfl (by kernel_rfl) (by kernel_rfl) (by kernel_rfl) (fun _ _ _ h => h) (Or.inl ⟨by kernel_rfl, ?hr1n10_11⟩) hHeld ?_
                  case hr1n10_11 => (intro w hSw; (try dsimp only at hSw); go_simp; try (with_reducible rfl))
                  try simp only [List.getElem_toArray, List.getElem_cons_zero, List.getElem_cons_succ, Act.put, List.setIfInBounds_toArray, List.set_cons_zero, List.set_cons_succ]
                  refine wpAnyH_take (i := 11) (oi := _) (v := ?vr1n11_12) rfl (by kernel_rfl) (by kernel_rfl) (by kernel_rfl) (fun _ _ _ h => h) (Or.inl ⟨by kernel_rfl, ?hr1n11_12⟩) hHeld ?_
                  case hr1n11_12 => (intro w hSw; (try dsimp only at hSw); go_simp; try (with_reducible rfl))
                  try simp only [List.getElem_toArray, List.getElem_cons_zero, List.getElem_cons_succ, Act.put, List.setIfInBounds_toArray, List.set_cons_zero, List.set_cons_succ]
                  refine wpAnyH_take (i := 12) (oi := _) (v := ?vr1n12_13) rfl (by kernel_rfl) (by kernel_rfl) (by kernel_rfl) (fun _ _ _ h => h) (Or.inl ⟨by kernel_rfl, ?hr1n12_13⟩) hHeld ?_
                  case hr1n12_13 => (intro w hSw; (try dsimp only at hSw); go_simp; try (with_reducible rfl))
                  try simp only [List.getElem_toArray, List.getElem_cons_zero, List.getElem_cons_succ, Act.put, List.setIfInBounds_toArray, List.set_cons_zero, List.set_cons_succ]
                  refine wpAnyH_take (i := 13) (oi := _) (v := ?vr1n13_14) rfl (by kernel_rfl) (by kernel_rfl) (by kernel_rfl) (fun _ _ _ h => h) (Or.inl ⟨by kernel_rfl, ?hr1n13_14⟩) hHeld ?_
                  case hr1n13_14 => (intro w hSw; (try dsimp only at hSw); go_simp; try (with_reducible rfl))
                  try simp only [List.getElem_toArray, List.getElem_cons_zero, List.getElem_cons_succ, Act.put, List.setIfInBounds_toArray, List.set_cons_zero, List.set_cons_succ]
                  refine wpAnyH_take (i := 14) (oi := _) (v := ?vr1n14_15) rfl (by kernel_rfl) (by kernel_rfl) (by kernel_rfl) (fun _ _ _ h => h) (Or.inl ⟨by kernel_rfl, ?hr1n14_15⟩) hHeld ?_
                  case hr1n14_15 => (intro w hSw; (try dsimp only at hSw); go_simp; try (with_reducible rfl))
                  try simp only [List.getElem_toArray, List.getElem_cons_zero, List.getElem_cons_succ, Act.put, List.setIfInBounds_toArray, List.set_cons_zero, List.set_cons_succ]
                  refine wpAnyH_take (i := 15) (oi := _) (v := ?vr1n15_16) rfl (by kernel_rfl) (by kernel_rfl) (by kernel_rfl) (fun _ _ _ h => h) (Or.inl ⟨by kernel_rfl, ?hr1n15_16⟩) hHeld ?_
                  case hr1n15_16 => (intro w hSw; (try dsimp only at hSw); go_simp; try (with_reducible rfl))
                  try simp only [List.getElem_toArray, List.getElem_cons_zero, List.getElem_cons_succ, Act.put, List.setIfInBounds_toArray, List.set_cons_zero, List.set_cons_succ]
                  refine wpAnyH_ready (rs := [16]) (by kernel_rfl) (by simp) ?_
                  refine AllReadyH.cons (o := _) rfl (fun K hK => ?_) AllReadyH.nil
                  (have fu := (At.blk HU2.out).free p (by simpa using hpm); have cu := ByR.cell HU2.out p (by simpa using hpm); have HQ3 : Hid (World.cell? (World.drew (World.setCell wq ⟨gu, p, none⟩ (.int .u8 ((xd[j].toNat : Nat) : Int)))) ⟨g, o + i * 14 + 11, none⟩ = some (.int .i64 (xa : Int)) ∧ World.cell? (World.drew (World.setCell wq ⟨gu, p, none⟩ (.int .u8 ((xd[j].toNat : Nat) : Int)))) ⟨g, o + i * 14 + 13, none⟩ = some (.string ⟨xd.toArray⟩)) := Lib.hid (HPC2.out _ (Below.drewN (Below.setCell (p := ⟨gu, p, none⟩) HB2.out HLO.out.1 (.int .u8 ((xd[j].toNat : Nat) : Int))) 1)))
                  go_simp
                  (clear fu cu)
                  refine hK.out _ _ ?_ (fun hHeld1 => ?_)
                  · (first | exact HQ3.out)
                  clear hHeld hK K
                  try simp only [List.getElem_toArray, List.getElem_cons_zero, List.getElem_cons_succ, Act.put, List.setIfInBounds_toArray, List.set_cons_zero, List.set_cons_succ]
                  refine wpAnyH_done (by kernel_rfl) ?_ _
                  refine NoPanic.normal ?_
                  have hb3 := ByR.set HU2.out p xd[j]
                  rw [HBS.out] at hb3
                  have HU3 : Hid (ByR (World.drew (World.setCell wq ⟨gu, p, none⟩ (.int .u8 ((xd[j].toNat : Nat) : Int)))) gu ((List.range m).map (bytJ (l.take i) x (j + 1)))) := Lib.hid hb3
                  have HB3 : Hid (Below w.heap.size wo (World.drew (World.setCell wq ⟨gu, p, none⟩ (.int .u8 ((xd[j].toNat : Nat) : Int))))) := Lib.hid (Below.drewN (Below.setCell (p := ⟨gu, p, none⟩) HB2.out HLO.out.1 _) 1)
                  have HO3 : Hid (Blk (World.drew (World.setCell wq ⟨gu, p, none⟩ (.int .u8 ((xd[j].toNat : Nat) : Int)))) ob 25 (fstV (l.take (i + 1))).c) := Lib.hid (Blk.drew (Blk.set_other HO2.out ⟨gu, p, none⟩ _ (fun e => HNE.out.2.1 e.symm)))
                  have HR3 : Hid (Blk (World.drew (World.setCell wq ⟨gu, p, none⟩ (.int .u8 ((xd[j].toNat : Nat) : Int)))) rb 25 pk0) := Lib.hid (Blk.drew (Blk.set_other HR2.out ⟨gu, p, none⟩ _ HNE.out.2.2.2.2.1))
                  have HT3 : Hid (BoR (World.drew (World.setCell wq ⟨gu, p, none⟩ (.int .u8 ((xd[j].toNat : Nat) : Int)))) gt ((List.range m).map (covJ (l.take i) x j))) := Lib.hid (At.same HT2.out ((Fr.set wq gu p _).block gt (At.lt HT2.out) (fun e => HNE.out.1 e.symm)))
                  have HBq3 := HB3
                  clear hb3 HB2 HO2 HR2 HT2 HU2
                  generalize World.drew (World.setCell _ _ _) = w7 at HU3 HB3 HO3 HR3 HT3 HBq3 ⊢
                  obtain ⟨ca, cd⟩ := HPC2.out w7 HB3.out
                  have ft := (At.blk HT3.out).free p (by simpa using hpm)
                  have ct := HT3.out.cell p (by simpa using hpm)
                  have ht3 := HT3.out.set p true
                  rw [HCS.out] at ht3
                  have HT4 := Lib.hid ht3
                  have HU4 : Hid (ByR (World.setCell w7 ⟨gt, p, none⟩ (.bool true)) gu ((List.range m).map (bytJ (l.take i) x (j + 1)))) := Lib.hid (At.same HU3.out ((Fr.set w7 gt p _).block gu (At.lt HU3.out) HNE.out.1))
                  have HO4 := Lib.hid (HO3.out.set_other ⟨gt, p, none⟩ (.bool true) (fun e => HNE.out.2.2.1 e.symm))
                  have HR4 := Lib.hid (HR3.out.set_other ⟨gt, p, none⟩ (.bool true) HNE.out.2.2.2.2.2)
                  have HB4 := Lib.hid (Below.setCell (p := ⟨gt, p, none⟩) HB3.out HLO.out.2.1 (.bool true))
                  clear ht3 HU3 HB3 HO3 HR3 HT3
                  go_wp2
                  go_roundg (xd.length - (j + 1))
                  case measure => omega
                  case rel => exact ⟨j + 1, by go_num, by omega, Nat.le_refl _, HO4, HU4, HT4, HR4, HB4⟩
                · have hjz : ¬ (j : Int) < (xd.length : Int) := by omega
                  have hjd : j = xd.length := by omega
                  rw [hjd, HBF.out.1] at HU2
                  rw [hjd, HBF.out.2] at HT2
                  have HA2 : Hid (PsAt wq w.heap.size (some ⟨g, o, none⟩) l) := Lib.hid (HA.out.below HB2.out)
                  have HB3 := Lib.hid (HB.out.trans HB2.out)
                  obtain ⟨ca, cd⟩ := HPC2.out wq HB2.out
                  clear hjd HB2
                  go_wp2
                  go_roundg (n - (i + 1))
                  case measure => omega
                  case rel => exact ⟨i + 1, rfl, by go_num, by omega, Nat.le_refl _, HO2, HU2, HT2, HR2, HA2, HB3⟩
          · have hltz : ¬ (i : Int) < (n : Int) := by omega
            have hin : l.take i = l := List.take_of_length_le (by rw [← HN.out]; omega)
            rw [hin] at HO HU HT ⊢
            clear hin
            obtain ⟨f0, hf0⟩ : ∃ f, f = has0 l := ⟨_, rfl⟩
            rw [← hf0]
            have HF0 := Lib.hid hf0
            clear hf0
            go_wp2_with fail
            go_loopg [9, 12] m (fun kx s9 s12 wq => ∃ (k : Nat) (fk : Bool), s9 = .bool fk ∧ s12 = .int .i64 (k : Int) ∧ k ≤ m ∧ m - k ≤ kx ∧ Hid (fk = (f0 && (List.range k).all (covB l))) ∧ Hid (wq = wo))
            case atStart => exact ⟨0, f0, rfl, rfl, Nat.zero_le _, by omega, Lib.hid (by simp), Lib.hid rfl⟩
            case round =>
              obtain ⟨k, fk, rfl, rfl, hk, hkk, HFK, HW⟩ := hrel
              have hw := HW.out
              clear HW
              obtain ⟨wq, rfl⟩ : ∃ wq : World, wq = wr := ⟨_, rfl⟩
              subst hw
              by_cases hkl : k < m
              · have hkz : (k : Int) < (m : Int) := by omega
                have hk0 : 0 ≤ (k : Int) := by omega
                have ct := HT.out.cell k (by simpa using hkl)
                have HCT : Hid (((List.range m).map (covB l))[k]'(by simpa using hkl) = covB l k) := Lib.hid (by simp)
                rw [HCT.out] at ct
                have HNX : Hid ((fk && covB l k) = (f0 && (List.range (k + 1)).all (covB l))) := Lib.hid (by rw [HFK.out, List.range_succ, List.all_append]; simp [Bool.and_assoc])
                clear HCT HFK
                generalize covB l k = ck at ct HNX
                cases fk with
                | true =>
                  go_wp2
                  go_roundg (m - (k + 1))
                  case measure => omega
                  case rel => exact ⟨k + 1, ck, rfl, by go_num, by omega, Nat.le_refl _, Lib.hid (by rw [← HNX.out]; rfl), Lib.hid rfl⟩
                | false =>
                  go_wp2
                  go_roundg (m - (k + 1))
                  case measure => omega
                  case rel => exact ⟨k + 1, false, rfl, by go_num, by omega, Nat.le_refl _, Lib.hid (by rw [← HNX.out]; rfl), Lib.hid rfl⟩
              · have hkz : ¬ (k : Int) < (m : Int) := by omega
                have hkm : k = m := by omega
                rw [hkm] at HFK
                clear hkm
                have HJV : Hid (joinedV l = if fk then (withD (fstV l) false ((List.range m).map (bytB l)), true) else (pkt0, false)) := Lib.hid (by
                  unfold joinedV
                  rw [if_neg (by rw [← HEV.out]; omega), ← HEV.out, ← HF0.out, Int.toNat_natCast, ← HFK.out])
                obtain ⟨bl, hbl⟩ : ∃ bl, bl = (List.range m).map (bytB l) := ⟨_, rfl⟩
                rw [← hbl] at HU HJV
                have hlm : bl.length = m := by rw [hbl]; simp
                have HLM := Lib.hid hlm
                clear hbl HT hlm
                generalize fstV l = Pf at HO HJV
                have c12 := (pk_c5 HO.out).2.1
                have f12 := HO.out.free 12 (by rw [Pkt.c_size]; decide)
                go_upto_region 29 with fail
                have hs := HO.out.set 12 (.bool false)
                rw [c_set12] at hs
                have HO7 : Hid (Blk (World.setCell wq ⟨ob, 12, none⟩ (.bool false)) ob 25 (withD Pf false Pf.d).c) := Lib.hid hs
                have HU7 : Hid (ByR (World.setCell wq ⟨ob, 12, none⟩ (.bool false)) gu bl) := Lib.hid (At.same HU.out ((Fr.set wq ob 12 _).block gu (At.lt HU.out) HNE.out.2.1))
                have HR7 := Lib.hid (HR.out.set_other ⟨ob, 12, none⟩ (.bool false) HNE.out.2.2.2.1)
                have HB7 := Lib.hid (Below.setCell (p := ⟨ob, 12, none⟩) HB.out HLO.out.2.2.1 (.bool false))
                clear hs c12 f12 HO HU HR HB HA
                generalize World.setCell _ _ _ = w7 at HO7 HU7 HR7 HB7 ⊢
                have hbk := run_back Try.prog w7 47 9 5 gu 0 m bl Try.underlying47 Try.underlying5 Try.underlying9 (fun j hj => by rw [addr_add, Nat.zero_add, (At.blk HU7.out).cell]; simp [hj, ubv])
                rw [HLM.out] at hbk
                have c13 := (pk_c5 HO7.out).2.2
                have f13 := HO7.out.free 13 (by rw [Pkt.c_size]; decide)
                go_upto_region 30 with fail
                have hs := HO7.out.set 13 (.string ⟨bl.toArray⟩)
                rw [c_set13] at hs
                have HO8 : Hid (Blk (World.setCell w7 ⟨ob, 13, none⟩ (.string ⟨bl.toArray⟩)) ob 25 (withD Pf false bl).c) := Lib.hid hs
                have HR8 := Lib.hid (HR7.out.set_other ⟨ob, 13, none⟩ (.string ⟨bl.toArray⟩) HNE.out.2.2.2.1)
                have HB8 := Lib.hid (Below.setCell (p := ⟨ob, 13, none⟩) HB7.out HLO.out.2.2.1 (.string ⟨bl.toArray⟩))
                clear hs c13 f13 HO7 HU7 HR7 HB7 hbk
                generalize World.setCell _ _ _ = w8 at HO8 HR8 HB8 ⊢
                generalize withD Pf false bl = Po at HO8 HJV
                have lo := HO8.out.ld_pkt
                have HR9 : Hid (Blk w8 rb 25 pkt0.c) := Lib.hid (by rw [pkt0_c]; exact HR8.out)
                cases fk with
                | false =>
                  have tokZ : True := trivial
                  go_wp2_with (have _t := tokZ; refine wpList_store_blk rfl 25 _ _ rfl rb pk0 rfl rfl pk0 25 HR8.out rfl size_pk rfl ?_; clear tokZ)
                  exact bodyPost_ret (results_blk Try.results51 _ _ rb _ _ _ rfl (HR8.out.setAll rfl) Try.underlying25 rfl size_pk) rfl ⟨by rw [HJV.out]; exact (congrArg (fun v => Ending.returned (.tuple #[.agg v, .bool false])) pkt0_c.symm), Below.setCells HB8.out HLO.out.2.2.2 _ _⟩
                | true =>
                  have tokZ : True := trivial
                  go_wp2_with (have _t := tokZ; refine wp_st_over rfl _ _ rfl rb Po pkt0 HR9 rfl rfl ?_; clear tokZ)
                  exact bodyPost_ret (results_blk Try.results51 _ _ rb _ _ _ rfl (blk_over HR9.out) Try.underlying25 rfl (by rw [Po.c_size]; exact size_pk)) rfl ⟨by rw [HJV.out]; rfl, Below.setCells HB8.out HLO.out.2.2.2 _ _⟩
end Go.Proofs.Yticchchcobjpdaa
