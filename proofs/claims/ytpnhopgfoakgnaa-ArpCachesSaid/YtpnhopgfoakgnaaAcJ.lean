/- The reference's Tick. Condition: good entries. -/
import Derived.Test.YtpnhopgfoakgnaaAcI
namespace Go.Proofs.Ytpnhopgfoakgnaa
set_option linter.unusedVariables false
set_option linter.unusedSimpArgs false
set_option maxRecDepth 100000
open Go.RowKit Go.Proofs Go.Shelf
attribute [local go_sem ↓] ld_arp ld_mac ld_ip ld_entQ ld_caQ

theorem tick_yes {lim : Int} {L : List En} {k : Nat} (hk : k < L.length) (h : (older L[k]).age < lim) : tickV lim (L.take (k + 1)) = tickV lim (L.take k) ++ [older L[k]] := by
  unfold tickV
  rw [List.take_add_one, List.getElem?_eq_getElem hk, List.map_append, List.filter_append]
  show _ = _
  congr 1
  show ([older L[k]] : List En).filter (fun x => decide (x.age < lim)) = [older L[k]]
  rw [List.filter_cons, if_pos (by simpa using h)]
  rfl
theorem tick_no {lim : Int} {L : List En} {k : Nat} (hk : k < L.length) (h : ¬ (older L[k]).age < lim) : tickV lim (L.take (k + 1)) = tickV lim (L.take k) := by
  unfold tickV
  rw [List.take_add_one, List.getElem?_eq_getElem hk, List.map_append, List.filter_append]
  have e : ([older L[k]] : List En).filter (fun x => decide (x.age < lim)) = [] := by
    rw [List.filter_cons, if_neg (by simpa using h)]
    rfl
  show _ ++ ([older L[k]] : List En).filter (fun x => decide (x.age < lim)) = _
  rw [e, List.append_nil]
theorem own_sl {w : World} {B n : Nat} {e : TypeId} {v : Value} {L : List En} (h : w.ownsRow B e 11 v n (flatE L)) : ∃ A c, v = .slice A L.length c := by
  rcases (own_es h).2 with ⟨h1, h2⟩ | ⟨g, c, h2, _⟩
  · exact ⟨none, 0, by rw [h2, h1]; rfl⟩
  · exact ⟨_, _, h2⟩
theorem own_weakE {w : World} {B B' : Nat} {e : TypeId} {s : Nat} {v : Value} {n : Nat} {xs : List Value} (h : w.ownsRow B e s v n xs) (hB : B' ≤ B) : w.ownsRow B' e s v n xs := by
  refine ⟨h.1, ?_⟩
  rcases h.2 with h | ⟨g, cap, cur, h1, h2, h3⟩
  · exact Or.inl h
  · exact Or.inr ⟨g, cap, cur, h1, Nat.le_trans hB h2, h3⟩
theorem own_grow (w : World) (g : Nat) {o : Nat} (vs : List Value) : w.grownBy (w.setCells g o vs) (some g) := by
  have hb := Below.setCells (Below.refl 0 w) (Nat.zero_le g) o vs
  exact ⟨hb.os, hb.tape, hb.output, hb.size, fun k _ h => heap_setCells g vs o w k (fun e => h (by rw [e]))⟩
theorem tick_len (lim : Int) (L : List En) : (tickV lim L).length ≤ L.length := by
  unfold tickV
  exact Nat.le_trans (List.length_filter_le _ _) (by simp)
set_option maxHeartbeats 4000000 in
theorem refTick_any {w : World} {B : Nat} {lim : Int} {v : Value} {L : List En} (h : w.ownsRow B 79 11 v L.length (flatE L)) (hl2 : lim ≤ 1048576) (hG : Good lim L) :
    Calls Try.prog 36 #[.agg #[v, .int .i64 lim]] w fun e w' => ∃ v', e = .returned (.agg #[v', .int .i64 lim]) ∧ w'.ownsRow w.heap.size 79 11 v' (tickV lim L).length (flatE (tickV lim L)) ∧ Below w.heap.size w w' := by
  have hL := hG.len
  have HG := Lib.hid hG
  have HB := Lib.hid (((Below.refl _ w).alloc (Nat.le_refl _) (.cells #[v, .int .i64 lim] 73)).alloc (by simp) (.cells #[.slice none 0 0, .int .i64 0] 73))
  have HO : Hid (∀ w', Below w.heap.size w w' → w'.ownsRow B 79 11 v L.length (flatE L)) := Lib.hid (fun w' hb => h.kept (show w.grownBy w' none from ⟨hb.os, hb.tape, hb.output, hb.size, fun q hq _ => hb.block q hq⟩) (by cases Value.ownBlock _ <;> simp))
  have HC := Lib.hid ((Blk.new w 73 #[v, .int .i64 lim] 0 0 (Or.inl (Nat.le_refl _))).alloc (.cells #[.slice none 0 0, .int .i64 0] 73))
  have hK2 := Blk.new (w.alloc (.cells #[v, .int .i64 lim] 73)) 73 #[.slice none 0 0, .int .i64 0] 0 0 (Or.inl (Nat.le_refl _))
  simp only [size_alloc] at hK2
  have HR := Lib.hid hK2
  have hvs : ∃ A c, v = .slice A L.length c := by
    rcases (own_es h).2 with ⟨h1, h2⟩ | ⟨g, c, h2, _⟩
    · exact ⟨none, 0, by rw [h2, h1]; rfl⟩
    · exact ⟨_, _, h2⟩
  obtain ⟨A, c, hv⟩ := hvs
  subst hv
  clear h hK2 hG
  go_enter Try.func36, Try.ntmps36
  go_upto_region 1 with fail
  generalize World.alloc _ _ = w1 at HC HR HB ⊢
  obtain ⟨pr, hpr⟩ : ∃ pr, pr = w.heap.size + 1 := ⟨_, rfl⟩
  rw [← hpr] at HR ⊢
  have HPR : Hid (w.heap.size ≤ pr ∧ pr ≠ w.heap.size) := Lib.hid (by omega)
  obtain ⟨pc, hpc⟩ : ∃ pc, pc = w.heap.size := ⟨_, rfl⟩
  have HPC := Lib.hid (fun _ : Unit => hpc)
  rw [← hpc] at HC ⊢
  clear hpr hpc
  go_wp2
  go_loopw [3, 4] (fun u j wr => ∃ k : Nat, k ≤ L.length ∧ j = .int .i64 k ∧ wr.ownsRow w1.heap.size 79 11 u (tickV lim (L.take k)).length (flatE (tickV lim (L.take k))) ∧ Below w1.heap.size w1 wr) (fun _ j _ => 8 - (intOf j).toNat)
  case atStart => exact ⟨0, by omega, rfl, ⟨rfl, Or.inl ⟨rfl, rfl⟩⟩, Below.refl _ _⟩
  case round =>
    obtain ⟨k, hk, rfl, hown, hb⟩ := hrel
    have HO2 := Lib.hid hown
    have HB2 := Lib.hid hb
    have HW := Lib.hid (Below.step HB.out hb)
    have HC2 := Lib.hid (HC.out.step hb)
    have HR2 := Lib.hid (HR.out.step hb)
    clear hown hb
    by_cases hlt : k < L.length
    · have hlt' : (k : Int) < (L.length : Int) := by omega
      have hk0 : 0 ≤ (k : Int) := by omega
      have HOD := HO.out _ HW.out
      obtain ⟨g, rfl, hcell⟩ : ∃ g, A = some ⟨g, 0, none⟩ ∧ ∀ i v, (enE L[k])[i]? = some v → wr.cell? ⟨g, k * 11 + i, none⟩ = some v := by
        rcases (own_es HOD).2 with ⟨e1, e2⟩ | ⟨g, c', e, _, _, _, _, hcell⟩
        · rw [e1] at hlt; simp at hlt
        · injection e with e1 e2 e3
          subst e1
          exact ⟨g, rfl, fun i v hv => by have := hcell k hlt i v hv; rw [Nat.zero_add] at this; exact this⟩
      have lde := run_ldq hcell
      have c0 := HC2.out.cell 0
      have hpr := HG.out.age _ (List.getElem_mem hlt)
      have HY := Lib.hid (fun h => tick_yes (lim := lim) hlt h)
      have HN := Lib.hid (fun h => tick_no (lim := lim) hlt h)
      have htl : (tickV lim (L.take k)).length ≤ 8 := by
        have h1 := tick_len lim (L.take k)
        rw [List.length_take] at h1
        omega
      clear hcell HOD
      generalize L[k] = x at lde hpr HY HN
      have tokA : True := trivial
      go_upto_region 6 with (have _t := tokA; refine wpList_store_blk rfl 79 _ _ rfl wr.heap.size (enC x) rfl rfl zen 79 (Blk.new wr 79 zen 0 0 (Or.inl (Nat.le_refl _))) rfl size_enQ (enC_one x) ?_; clear tokA)
      have HKX := Lib.hid ((Blk.new wr 79 zen 0 0 (Or.inl (Nat.le_refl _))).setAll (cs := enC x) rfl)
      have hal := (Below.refl wr.heap.size wr).alloc (Nat.le_refl _) (.cells zen 79)
      have HBX := Lib.hid (Below.setCells hal (Nat.le_refl _) 0 (enC x).toList)
      clear hal lde c0
      generalize World.setCells _ _ _ _ = w5 at HKX HBX ⊢
      have ca := HKX.out.cell 10
      have cf := HKX.out.free 10 (show 10 < 11 from by decide)
      have hwa : IntKind.i64.wrap (x.age + 1) = x.age + 1 := IntWalk.i64_in _ ⟨by omega, by omega⟩
      have hxa : (enC x)[10]? = some (.int .i64 x.age) := rfl
      rw [hxa] at ca
      clear hxa
      have HK6 : Hid (Blk (w5.setCell ⟨wr.heap.size, 10, none⟩ (.int .i64 (x.age + 1))) wr.heap.size 79 (enC (older x))) := Lib.hid (HKX.out.set 10 (.int .i64 (x.age + 1)))
      have HB6 := Lib.hid (Below.setCell (p := ⟨wr.heap.size, 10, none⟩) HBX.out (Nat.le_refl _) (.int .i64 (x.age + 1)))
      have HOA : Hid ((older x).age = x.age + 1) := Lib.hid rfl
      generalize x.age = a at ca hwa HK6 HB6 HOA hpr
      go_upto_region 7 with fail
      clear ca cf hwa HKX HBX
      generalize World.setCell _ _ _ = w6 at HK6 HB6 ⊢
      have HO6 := Lib.hid (HO2.out.kept (show wr.grownBy w6 none from ⟨HB6.out.os, HB6.out.tape, HB6.out.output, HB6.out.size, fun q hq _ => HB6.out.block q hq⟩) (by cases Value.ownBlock _ <;> simp))
      have HX6 := Lib.hid (HB2.out.trans (HB6.out.mono HB2.out.size))
      have HC6 := Lib.hid (HC2.out.step HB6.out)
      have hcx : w6.cell? ⟨wr.heap.size, 10, none⟩ = some (.int .i64 (a + 1)) := by rw [← HOA.out]; exact HK6.out.cell 10
      have hcl := HC6.out.cell 1
      rw [HOA.out] at HY HN
      clear HO2 HC2 HR2 HW HB6
      generalize older x = y at HK6 HY HN HOA
      generalize wr.heap.size = px at HK6 hcx ⊢
      by_cases hc : a + 1 < lim
      · have HE := Lib.hid (HY.out hc)
        have ldx := run_ldq (w := w6) (g := px) (o := 0) (x := y) (fun i v hv => by rw [Nat.zero_add, HK6.out.cell]; simpa [enE] using hv)
        have HO7 := Lib.hid (HO6.out.alloc (.cells (enC y) 79))
        have HB7 := Lib.hid (HX6.out.alloc HX6.out.size (.cells (enC y) 79))
        have HK7 := Lib.hid (Blk.new w6 79 (enC y) 0 0 (Or.inl (Nat.le_refl _)))
        have tokA : True := trivial
        clear HY HN
        go_wp2_with (first | (have _t := tokA; refine wpList_bsE rfl (.tmp 28) rfl y rfl ?_; clear tokA; have tokB : True := trivial) | (have _t := tokB; clear tokB; at_builtin; go_loud (refine wpList_appE rfl (.tmp 27) (.tmp 29) rfl w1.heap.size _ _ _ rfl HO7.out w6.heap.size y rfl HK7.out (by omega) HB7.out.size ?_; intro v8 w8 hown hg; have HO8 := Lib.hid hown; have HB8 := Lib.hid (HB7.out.grown hg HB7.out.size (fun q hq => (HO7.out.lt q hq).1)); clear hown hg HO7 HB7 HK7)))
        go_roundw
        case rel => exact ⟨k + 1, by omega, by go_num, by rw [HE.out, List.length_append, List.length_singleton]; exact HO8.out, HB8.out⟩
        case measure => simp [intOf] <;> omega
      · have HE := Lib.hid (HN.out hc)
        clear HY HN
        go_wp2
        go_roundw
        case rel => exact ⟨k + 1, by omega, by go_num, by rw [HE.out]; exact HO6.out, HX6.out⟩
        case measure => simp [intOf] <;> omega
    · have hkl : k = L.length := by omega
      have hlt' : ¬ (k : Int) < (L.length : Int) := by omega
      have HT : Hid (tickV lim (L.take k) = tickV lim L) := Lib.hid (by rw [hkl, List.take_of_length_le (Nat.le_refl _)])
      rw [HT.out] at HO2
      clear HT hkl
      have HO3 := Lib.hid (own_weakE HO2.out HB.out.size)
      obtain ⟨A3, c3, hv3⟩ := own_sl HO2.out
      subst hv3
      generalize hTL : tickV lim L = TL at HO2 HO3 ⊢
      have HTL := Lib.hid (fun _ : Unit => hTL)
      clear hTL
      have c0 := HC2.out.cell 0
      have f0 := HC2.out.free 0 (show 0 < 2 from by decide)
      have HCS := Lib.hid (HC2.out.set 0 (.slice A3 TL.length c3))
      have HRS := Lib.hid (HR2.out.set_other ⟨pc, 0, none⟩ (.slice A3 TL.length c3) (by rw [HPC.out ()]; exact HPR.out.2))
      have HWS := Lib.hid (Below.setCell (p := ⟨pc, 0, none⟩) HW.out (by rw [HPC.out ()]; exact Nat.le_refl _) (.slice A3 TL.length c3))
      have HOS : Hid ((wr.setCell ⟨pc, 0, none⟩ (.slice A3 TL.length c3)).ownsRow w.heap.size 79 11 (.slice A3 TL.length c3) TL.length (flatE TL)) := Lib.hid (ownsRow_setCell_other HO3.out (a := ⟨pc, 0, none⟩) (fun e => by have h1 := (HO2.out.lt pc e).1; have h2 := HC.out.lt; omega) _)
      have HON : Hid (Value.ownBlock (.slice A3 TL.length c3) ≠ some pr) := Lib.hid (fun e => by have h1 := (HO2.out.lt pr e).1; have h2 := HR.out.lt; omega)
      clear HO2 HO3 HC2 HR2 HW HB2
      go_upto_region 10 with fail
      clear c0 f0
      generalize World.setCell _ _ _ = w9 at HCS HRS HWS HOS ⊢
      have ldc := run_ldc (x := .slice A3 TL.length c3) (y := .int .i64 lim) HCS.out
      go_wp2_with (refine wpList_store_blk rfl 73 _ _ rfl pr #[.slice A3 TL.length c3, .int .i64 lim] rfl rfl #[.slice none 0 0, .int .i64 0] 73 HRS.out rfl size_caQ rfl ?_)
      exact bodyPost_ret (results_cell1 Try.results36 _ _ pr _ _ _ rfl (HRS.out.setAll rfl) Try.underlying73 rfl size_caQ) rfl ⟨_, rfl, by rw [HTL.out ()]; exact HOS.out.kept (own_grow w9 pr _) (Or.inr HON.out), Below.setCells HWS.out HPR.out.1 _ _⟩
end Go.Proofs.Ytpnhopgfoakgnaa
