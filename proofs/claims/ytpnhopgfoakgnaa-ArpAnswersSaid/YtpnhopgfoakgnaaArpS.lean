/- What any text is read as, by package arp and by the reference: the same. -/
import Derived.Test.YtpnhopgfoakgnaaArpB
namespace Go.Proofs.Ytpnhopgfoakgnaa
set_option linter.unusedVariables false
open Go.RowKit
attribute [local go_sem ↓] Go.wp_at_zero Go.wp_at_succ

/-- the packet that a text is -/
def arOf (s : ByteArray) : Value := .agg (arC (((bat s 6).toNat * 256 + (bat s 7).toNat : Nat) : Int) [bat s 8, bat s 9, bat s 10, bat s 11, bat s 12, bat s 13] [bat s 14, bat s 15, bat s 16, bat s 17]
  [bat s 18, bat s 19, bat s 20, bat s 21, bat s 22, bat s 23] [bat s 24, bat s 25, bat s 26, bat s 27])
/-- what a text is read as -/
def rdAr (l : List UInt8) : Value × Int :=
  if l.length < 28 then (.agg ar0C, 7) else if hdB l = false then (.agg ar0C, 8) else if knB (((bat ⟨l.toArray⟩ 6).toNat * 256 + (bat ⟨l.toArray⟩ 7).toNat : Nat) : Int) = false then (.agg ar0C, 10) else (arOf ⟨l.toArray⟩, 0)

theorem ar_split (l : List UInt8) (h : 28 ≤ l.length) (hh : hdB l = true) : l = arH ++ (bat ⟨l.toArray⟩ 6 :: bat ⟨l.toArray⟩ 7 :: ([bat ⟨l.toArray⟩ 8, bat ⟨l.toArray⟩ 9, bat ⟨l.toArray⟩ 10, bat ⟨l.toArray⟩ 11, bat ⟨l.toArray⟩ 12, bat ⟨l.toArray⟩ 13] ++
    ([bat ⟨l.toArray⟩ 14, bat ⟨l.toArray⟩ 15, bat ⟨l.toArray⟩ 16, bat ⟨l.toArray⟩ 17] ++ ([bat ⟨l.toArray⟩ 18, bat ⟨l.toArray⟩ 19, bat ⟨l.toArray⟩ 20, bat ⟨l.toArray⟩ 21, bat ⟨l.toArray⟩ 22, bat ⟨l.toArray⟩ 23] ++
    ([bat ⟨l.toArray⟩ 24, bat ⟨l.toArray⟩ 25, bat ⟨l.toArray⟩ 26, bat ⟨l.toArray⟩ 27] ++ l.drop 28))))) := by
  have h1 : l.take 6 = arH := by simpa [hdB] using hh
  have h2 := take_from ⟨l.toArray⟩ 6 22 (by show 28 ≤ l.length; omega)
  have h3 : l.drop 6 = (l.drop 6).take 22 ++ l.drop 28 := by
    have := (List.take_append_drop 22 (l.drop 6)).symm
    rwa [List.drop_drop] at this
  have h4 : l = l.take 6 ++ l.drop 6 := (List.take_append_drop 6 l).symm
  rw [h3, h1] at h4
  have h2' : (l.drop 6).take 22 = _ := h2
  rw [h2'] at h4
  exact h4

theorem arr_any (l : List UInt8) (w : World) (hs : l.length ≤ 9223372036854775000) :
    Calls Try.prog 24 #[.string ⟨l.toArray⟩] w fun e w' => e = .returned (.tuple #[(rdAr l).1, .int .i64 (rdAr l).2]) ∧ Below w.heap.size w w' := by
  unfold rdAr
  by_cases h1 : l.length < 28
  · rw [if_pos h1]; exact arr_short _ w h1
  · rw [if_neg h1]
    by_cases h2 : hdB l = false
    · rw [if_pos h2]; exact arr_form l w (by omega) (by omega) h2
    · rw [if_neg h2]
      have hh : hdB l = true := by simpa using h2
      have hsp := ar_split l (by omega) hh
      by_cases h3 : knB (((bat ⟨l.toArray⟩ 6).toNat * 256 + (bat ⟨l.toArray⟩ 7).toNat : Nat) : Int) = false
      · rw [if_pos h3]
        exact arr_kind l _ _ _ w (by omega) hs hh hsp h3
      · rw [if_neg h3]
        exact arr_ok l _ _ _ _ _ _ _ ⟨rfl, rfl, rfl, rfl⟩ w hs hh hsp (by simpa using h3)

/-- the packet's cells after a rounds of the first loop and b of the second -/
def arK (op : Int) (f : Nat → UInt8) (a b : Nat) : Array Value :=
  (Value.int .i64 op :: ((List.range 6).map (fun i => if i < a then ubv (f (8 + i)) else Value.int .u8 0) ++ (List.range 4).map (fun i => if i < b then ubv (f (14 + i)) else Value.int .u8 0) ++
    (List.range 6).map (fun i => if i < a then ubv (f (18 + i)) else Value.int .u8 0) ++ (List.range 4).map (fun i => if i < b then ubv (f (24 + i)) else Value.int .u8 0))).toArray

theorem arK_step (op : Int) (f : Nat → UInt8) (k : Nat) (h : k < 6) :
    ((arK op f k 0).setIfInBounds (1 + k) (ubv (f (8 + k)))).setIfInBounds (11 + k) (ubv (f (18 + k))) = arK op f (k + 1) 0 := by
  match k, h with
  | 0, _ | 1, _ | 2, _ | 3, _ | 4, _ | 5, _ => rfl
theorem arK_step2 (op : Int) (f : Nat → UInt8) (k : Nat) (h : k < 4) :
    ((arK op f 6 k).setIfInBounds (7 + k) (ubv (f (14 + k)))).setIfInBounds (17 + k) (ubv (f (24 + k))) = arK op f 6 (k + 1) := by
  match k, h with
  | 0, _ | 1, _ | 2, _ | 3, _ => rfl
theorem arK_size (op : Int) (f : Nat → UInt8) (a b : Nat) : (arK op f a b).size = 21 := by simp [arK]
theorem arK_zero (op : Int) (f : Nat → UInt8) : arK op f 0 0 = arNC op := rfl
theorem arK_end (op : Int) (f : Nat → UInt8) : arK op f 6 4 = arC op [f 8, f 9, f 10, f 11, f 12, f 13] [f 14, f 15, f 16, f 17] [f 18, f 19, f 20, f 21, f 22, f 23] [f 24, f 25, f 26, f 27] := rfl

theorem refarr_short (s : ByteArray) (w : World) (h : s.size < 28) :
    Calls Try.prog 25 #[.string s] w fun e w' => e = .returned (.tuple #[.agg ar0C, .int .i64 7]) ∧ Below w.heap.size w w' := by
  have HN := Lib.hid (Blk.new w 42 ar0C 0 0 (Or.inl (Nat.le_refl _)))
  go_enter Try.func25, Try.ntmps25
  go_wp2_with (refine wpList_store_blk rfl 42 _ _ rfl w.heap.size ar0C rfl rfl ar0C 42 HN.out rfl size_ar rfl ?_)
  exact bodyPost_ret (results_blk Try.results25 _ _ w.heap.size _ _ _ rfl (HN.out.setAll rfl) Try.underlying42 rfl size_ar) rfl ⟨rfl, Below.setCells ((Below.refl _ _).alloc (Nat.le_refl _) _) (Nat.le_refl _) _ _⟩

theorem refarr_form (l : List UInt8) (w : World) (h : 28 ≤ l.length) (hs : l.length ≤ 9223372036854775807) (hh : hdB l = false) :
    Calls Try.prog 25 #[.string ⟨l.toArray⟩] w fun e w' => e = .returned (.tuple #[.agg ar0C, .int .i64 8]) ∧ Below w.heap.size w w' := by
  have h1 : 28 ≤ (l.length : Int) := by omega
  have he : (⟨l.toArray⟩ : ByteArray).extract 0 6 = ⟨(l.take 6).toArray⟩ := by rw [ext_list']; rfl
  have hne : (l.take 6 == [0, 1, 8, 0, 6, 4]) = false := hh
  have hne2 : ¬ l.take 6 = [0, 1, 8, 0, 6, 4] := by simpa using hne
  have HN := Lib.hid (Blk.new w 42 ar0C 0 0 (Or.inl (Nat.le_refl _)))
  clear hh
  go_enter Try.func25, Try.ntmps25
  go_wp2_with (refine wpList_store_blk rfl 42 _ _ rfl w.heap.size ar0C rfl rfl ar0C 42 HN.out rfl size_ar rfl ?_)
  exact bodyPost_ret (results_blk Try.results25 _ _ w.heap.size _ _ _ rfl (HN.out.setAll rfl) Try.underlying42 rfl size_ar) rfl ⟨rfl, Below.setCells ((Below.refl _ _).alloc (Nat.le_refl _) _) (Nat.le_refl _) _ _⟩

theorem kn_no (p q : UInt8) (h : knB ((p.toNat * 256 + q.toNat : Nat) : Int) = false) : p ≠ 0 ∨ (q ≠ 1 ∧ q ≠ 2) := by
  by_cases h0 : p = 0
  · right
    subst h0
    refine ⟨?_, ?_⟩ <;> (rintro rfl; exact absurd h (by decide))
  · exact Or.inl h0
theorem kn_yes (p q : UInt8) (h : knB ((p.toNat * 256 + q.toNat : Nat) : Int) = true) : p = 0 ∧ (q = 1 ∨ q = 2) := by
  have h2 : ((p.toNat * 256 + q.toNat : Nat) : Int) = 1 ∨ ((p.toNat * 256 + q.toNat : Nat) : Int) = 2 := by simpa [knB] using h
  have := p.toNat_lt
  have := q.toNat_lt
  have hp : p.toNat = 0 := by omega
  have hq : q.toNat = 1 ∨ q.toNat = 2 := by omega
  exact ⟨UInt8.toNat_inj.1 (by rw [hp]; rfl), hq.imp (fun e => UInt8.toNat_inj.1 (by rw [e]; rfl)) (fun e => UInt8.toNat_inj.1 (by rw [e]; rfl))⟩

theorem refarr_kind (l : List UInt8) (w : World) (h : 28 ≤ l.length) (hs : l.length ≤ 9223372036854775000) (hh : hdB l = true)
    (hk : knB (((bat ⟨l.toArray⟩ 6).toNat * 256 + (bat ⟨l.toArray⟩ 7).toNat : Nat) : Int) = false) :
    Calls Try.prog 25 #[.string ⟨l.toArray⟩] w fun e w' => e = .returned (.tuple #[.agg ar0C, .int .i64 10]) ∧ Below w.heap.size w w' := by
  have h1 : 28 ≤ (l.length : Int) := by omega
  have he : (⟨l.toArray⟩ : ByteArray).extract 0 6 = ⟨[0, 1, 8, 0, 6, 4].toArray⟩ := by
    have : l.take 6 = arH := by simpa [hdB] using hh
    rw [ext_list']
    show (⟨(l.take 6).toArray⟩ : ByteArray) = _
    rw [this]
    rfl
  have hkn := kn_no _ _ hk
  have b6 := bat_get ⟨l.toArray⟩ 6 (by show 6 < l.length; omega)
  have b7 := bat_get ⟨l.toArray⟩ 7 (by show 7 < l.length; omega)
  generalize bat ⟨l.toArray⟩ 6 = p at hkn b6
  generalize bat ⟨l.toArray⟩ 7 = q at hkn b7
  have HN := Lib.hid (Blk.new w 42 ar0C 0 0 (Or.inl (Nat.le_refl _)))
  clear hh hk
  rcases hkn with hp | ⟨hq1, hq2⟩
  · have hp1 : 0 < (p.toNat : Int) := by
      have : p.toNat ≠ 0 := fun e => hp (UInt8.toNat_inj.1 (by rw [e]; rfl))
      omega
    have hp2 : ((p.toNat : Int) != 0) = true := by rw [bne_iff_ne]; omega
    clear hp
    go_enter Try.func25, Try.ntmps25
    go_wp2_with (refine wpList_store_blk rfl 42 _ _ rfl w.heap.size ar0C rfl rfl ar0C 42 HN.out rfl size_ar rfl ?_)
    exact bodyPost_ret (results_blk Try.results25 _ _ w.heap.size _ _ _ rfl (HN.out.setAll rfl) Try.underlying42 rfl size_ar) rfl ⟨rfl, Below.setCells ((Below.refl _ _).alloc (Nat.le_refl _) _) (Nat.le_refl _) _ _⟩
  · have hq3 : ((q.toNat : Int) != 1) = true := by
      rw [bne_iff_ne]
      intro e
      exact hq1 (UInt8.toNat_inj.1 (by have : q.toNat = 1 := by omega
                                       rw [this]; rfl))
    have hq4 : ((q.toNat : Int) != 2) = true := by
      rw [bne_iff_ne]
      intro e
      exact hq2 (UInt8.toNat_inj.1 (by have : q.toNat = 2 := by omega
                                       rw [this]; rfl))
    clear hq1 hq2
    by_cases hp : p.toNat = 0
    · have hp2 : ((p.toNat : Int) != 0) = false := by rw [hp]; rfl
      clear hp
      go_enter Try.func25, Try.ntmps25
      go_wp2_with (refine wpList_store_blk rfl 42 _ _ rfl w.heap.size ar0C rfl rfl ar0C 42 HN.out rfl size_ar rfl ?_)
      exact bodyPost_ret (results_blk Try.results25 _ _ w.heap.size _ _ _ rfl (HN.out.setAll rfl) Try.underlying42 rfl size_ar) rfl ⟨rfl, Below.setCells ((Below.refl _ _).alloc (Nat.le_refl _) _) (Nat.le_refl _) _ _⟩
    · have hp2 : ((p.toNat : Int) != 0) = true := by rw [bne_iff_ne]; omega
      clear hp
      go_enter Try.func25, Try.ntmps25
      go_wp2_with (refine wpList_store_blk rfl 42 _ _ rfl w.heap.size ar0C rfl rfl ar0C 42 HN.out rfl size_ar rfl ?_)
      exact bodyPost_ret (results_blk Try.results25 _ _ w.heap.size _ _ _ rfl (HN.out.setAll rfl) Try.underlying42 rfl size_ar) rfl ⟨rfl, Below.setCells ((Below.refl _ _).alloc (Nat.le_refl _) _) (Nat.le_refl _) _ _⟩

set_option maxRecDepth 100000 in
set_option maxHeartbeats 1000000 in
theorem refarr_ok (l : List UInt8) (w : World) (h : 28 ≤ l.length) (hs : l.length ≤ 9223372036854775000) (hh : hdB l = true)
    (hk : knB (((bat ⟨l.toArray⟩ 6).toNat * 256 + (bat ⟨l.toArray⟩ 7).toNat : Nat) : Int) = true) :
    Calls Try.prog 25 #[.string ⟨l.toArray⟩] w fun e w' => e = .returned (.tuple #[arOf ⟨l.toArray⟩, .int .i64 0]) ∧ Below w.heap.size w w' := by
  have h1 : 28 ≤ (l.length : Int) := by omega
  have he : (⟨l.toArray⟩ : ByteArray).extract 0 6 = ⟨[0, 1, 8, 0, 6, 4].toArray⟩ := by
    have : l.take 6 = arH := by simpa [hdB] using hh
    rw [ext_list']
    show (⟨(l.take 6).toArray⟩ : ByteArray) = _
    rw [this]
    rfl
  obtain ⟨hp0, hq⟩ := kn_yes _ _ hk
  obtain ⟨f, hf⟩ : ∃ f : Nat → UInt8, ∀ j, f j = bat ⟨l.toArray⟩ j := ⟨_, fun _ => rfl⟩
  have hfin : arOf ⟨l.toArray⟩ = .agg (arK ((f 7).toNat : Int) f 6 4) := by
    have e : (((bat ⟨l.toArray⟩ 6).toNat * 256 + (bat ⟨l.toArray⟩ 7).toNat : Nat) : Int) = ((bat ⟨l.toArray⟩ 7).toNat : Int) := by
      rw [hp0, show (0 : UInt8).toNat = 0 from rfl]
      omega
    rw [arK_end, arOf, e]
    simp only [hf]
  have HF := Lib.hid hfin
  have b6 := bat_get ⟨l.toArray⟩ 6 (by show 6 < l.length; omega)
  have b7 := bat_get ⟨l.toArray⟩ 7 (by show 7 < l.length; omega)
  rw [← hf] at b6 b7 hp0 hq
  have hb := fun j (hj : j < l.length) => bat_get ⟨l.toArray⟩ j hj
  simp only [← hf] at hb
  have HBB := Lib.hid hb
  have hp2 : (((f 6).toNat : Int) != 0) = false := by rw [hp0]; rfl
  have hq2 : (((f 7).toNat : Int) != 1) = false ∨ (((f 7).toNat : Int) != 1) = true ∧ (((f 7).toNat : Int) != 2) = false := by
    rcases hq with e | e
    · left; rw [e]; rfl
    · right; rw [e]; exact ⟨rfl, rfl⟩
  obtain ⟨op, hop⟩ : ∃ op : Nat, op = (f 7).toNat := ⟨_, rfl⟩
  have hopl : op ≤ 255 := by have := (f 7).toNat_lt; omega
  rw [← hop] at hq2
  have HOP := Lib.hid hop
  have HN := Lib.hid (Blk.new w 42 ar0C 0 0 (Or.inl (Nat.le_refl _)))
  have hN1 := Blk.new (w.alloc (.cells ar0C 42)) 42 ar0C 0 0 (Or.inl (Nat.le_refl _))
  rw [size_alloc] at hN1
  have hK2 := hN1.setAll (cs := arNC op) rfl
  have hR2 := (HN.out.alloc (.cells ar0C 42)).setCells_other (w.heap.size + 1) 0 (arNC op).toList (by omega)
  have hB2 := Below.setCells ((((Below.refl _ w).alloc (Nat.le_refl _) (.cells ar0C 42)).alloc (by simp) (.cells ar0C 42))) (Nat.le_succ _) 0 (arNC op).toList
  have HN1 := Lib.hid hN1
  have HK2 := Lib.hid hK2
  have HR2 := Lib.hid hR2
  have HB2 := Lib.hid hB2
  have tokA : True := trivial
  rw [hfin]
  have b7' : ((⟨l.toArray⟩ : ByteArray)[7]'(by show 7 < l.length; omega)).toNat = op := by rw [b7, hop]
  clear hN1 hK2 hR2 hB2 hfin hb hf hh hk hq hp0 b7 hop
  rcases hq2 with hq3 | ⟨hq3, hq4⟩
  all_goals
    go_enter Try.func25, Try.ntmps25
    go_wp2_with (have _t := tokA; refine wpList_store_blk rfl 42 _ _ rfl (w.heap.size + 1) (arNC op) rfl rfl ar0C 42 HN1.out rfl size_ar rfl ?_; clear tokA; generalize World.setCells _ _ _ _ = W2 at HK2 HR2 HB2 ⊢)
    clear HN HN1 hq3 b6 b7' hp2 he
    try clear hq4
    go_loopw [5] (fun ix wr => ∃ k : Nat, k ≤ 6 ∧ ix = .int .i64 k ∧ Blk wr (w.heap.size + 1) 42 (arK op f k 0) ∧ Blk wr w.heap.size 42 ar0C ∧ Below w.heap.size w wr) (fun ix _ => 6 - (intOf ix).toNat)
    case atStart => exact ⟨0, by omega, rfl, HK2.out, HR2.out, HB2.out⟩
    case round =>
      obtain ⟨k, hk, rfl, hbk, hbr, hbel⟩ := hrel
      by_cases hlt : k < 6
      · have e1 := HBB.out (8 + k) (by omega)
        have e2 := HBB.out (18 + k) (by omega)
        have c1 := hbk.cell (1 + k)
        have c2 := hbk.cell (11 + k)
        have f1 := hbk.free (1 + k) (by rw [arK_size]; omega)
        have f2 := hbk.free (11 + k) (by rw [arK_size]; omega)
        rw [Array.getElem?_eq_getElem (by rw [arK_size]; omega)] at c1 c2
        have HS := (hbk.set (1 + k) (ubv (f (8 + k)))).set (11 + k) (ubv (f (18 + k)))
        rw [arK_step op f k hlt] at HS
        have H1 := Lib.hid HS
        have H2 := Lib.hid ((hbr.set_other ⟨w.heap.size + 1, 1 + k, none⟩ (ubv (f (8 + k))) (by simp)).set_other ⟨w.heap.size + 1, 11 + k, none⟩ (ubv (f (18 + k))) (by simp))
        have H3 := Lib.hid hbel
        generalize (arK op f k 0)[1 + k]'_ = v1 at c1
        generalize (arK op f k 0)[11 + k]'_ = v2 at c2
        clear HS hbk hbr hbel
        go_wp2
        go_roundw
        case rel => exact ⟨k + 1, by omega, by go_num, H1.out, H2.out, (H3.out.setCell (by simp) _).setCell (by simp) _⟩
        case measure => simp [intOf]; omega
      · have hk6 : k = 6 := by omega
        rw [hk6] at hbk
        have H1 := Lib.hid hbk
        have H2 := Lib.hid hbr
        have H3 := Lib.hid hbel
        clear hbk hbr hbel hk6
        obtain ⟨wo, rfl⟩ : ∃ wo : World, wo = wr := ⟨_, rfl⟩
        go_wp2
        go_loopw [6] (fun ix wr => ∃ k : Nat, k ≤ 4 ∧ ix = .int .i64 k ∧ Blk wr (w.heap.size + 1) 42 (arK op f 6 k) ∧ Blk wr w.heap.size 42 ar0C ∧ Below w.heap.size w wr) (fun ix _ => 4 - (intOf ix).toNat)
        case atStart => exact ⟨0, by omega, rfl, H1.out, H2.out, H3.out⟩
        case round =>
          obtain ⟨j, hj, rfl, hbk, hbr, hbel⟩ := hrel
          by_cases hlt2 : j < 4
          · have e1 := HBB.out (14 + j) (by omega)
            have e2 := HBB.out (24 + j) (by omega)
            have c1 := hbk.cell (7 + j)
            have c2 := hbk.cell (17 + j)
            have f1 := hbk.free (7 + j) (by rw [arK_size]; omega)
            have f2 := hbk.free (17 + j) (by rw [arK_size]; omega)
            rw [Array.getElem?_eq_getElem (by rw [arK_size]; omega)] at c1 c2
            have HS := (hbk.set (7 + j) (ubv (f (14 + j)))).set (17 + j) (ubv (f (24 + j)))
            rw [arK_step2 op f j hlt2] at HS
            have H1 := Lib.hid HS
            have H2 := Lib.hid ((hbr.set_other ⟨w.heap.size + 1, 7 + j, none⟩ (ubv (f (14 + j))) (by simp)).set_other ⟨w.heap.size + 1, 17 + j, none⟩ (ubv (f (24 + j))) (by simp))
            have H3 := Lib.hid hbel
            generalize (arK op f 6 j)[7 + j]'_ = v1 at c1
            generalize (arK op f 6 j)[17 + j]'_ = v2 at c2
            clear HS hbk hbr hbel
            go_wp2
            go_roundw
            case rel => exact ⟨j + 1, by omega, by go_num, H1.out, H2.out, (H3.out.setCell (by simp) _).setCell (by simp) _⟩
            case measure => simp [intOf]; omega
          · have hj4 : j = 4 := by omega
            rw [hj4] at hbk
            have H1 := Lib.hid hbk
            have H2 := Lib.hid hbr
            have H3 := Lib.hid hbel
            clear hbk hbr hbel hj4
            go_wp2_with (first
              | (refine wpList_load_blk rfl 42 _ rfl (w.heap.size + 1) rfl (arK op f 6 4) 42 _ H1.out Try.underlying42 rfl (by rw [arK_size]; exact size_ar) ?_)
              | (refine wpList_store_blk rfl 42 _ _ rfl w.heap.size (arK op f 6 4) rfl rfl ar0C 42 H2.out (by rw [arK_size]; rfl) (by rw [arK_size]; exact size_ar) (by rw [arK_end]; exact arC_one _ _ _ _ _) ?_))
            refine bodyPost_ret (results_blk Try.results25 _ _ w.heap.size _ _ _ rfl (H2.out.setAll (by rw [arK_size]; rfl)) Try.underlying42 rfl (by rw [arK_size]; exact size_ar)) rfl ⟨?_, Below.setCells H3.out (Nat.le_refl _) _ _⟩
            rw [HOP.out]
            rfl

theorem refarr_any (l : List UInt8) (w : World) (hs : l.length ≤ 9223372036854775000) :
    Calls Try.prog 25 #[.string ⟨l.toArray⟩] w fun e w' => e = .returned (.tuple #[(rdAr l).1, .int .i64 (rdAr l).2]) ∧ Below w.heap.size w w' := by
  unfold rdAr
  by_cases h1 : l.length < 28
  · rw [if_pos h1]; exact refarr_short _ w h1
  · rw [if_neg h1]
    by_cases h2 : hdB l = false
    · rw [if_pos h2]; exact refarr_form l w (by omega) (by omega) h2
    · rw [if_neg h2]
      have hh : hdB l = true := by simpa using h2
      by_cases h3 : knB (((bat ⟨l.toArray⟩ 6).toNat * 256 + (bat ⟨l.toArray⟩ 7).toNat : Nat) : Int) = false
      · rw [if_pos h3]
        exact refarr_kind l w (by omega) hs hh h3
      · rw [if_neg h3]
        exact refarr_ok l w (by omega) hs hh (by simpa using h3)
end Go.Proofs.Ytpnhopgfoakgnaa
