/- Read of the journal. Condition: texts that a memory can hold. -/
import Derived.Test.YtccbohjcbhibkaaJnJ
import Derived.Great.BuildSlice
namespace Go.Proofs.Ytccbohjcbhibkaa
set_option linter.unusedVariables false
set_option linter.unusedSimpArgs false
set_option maxRecDepth 100000
open Go.RowKit
attribute [local go_sem ↓] Go.wp_at_zero Go.wp_at_succ ix_dat ld_rec

theorem rec_info : (Try.prog.info? 29).map (fun i => (i.zero, i.size, i.bytes)) = some (some (.agg zrec), 7, 88) := by kernel_rfl
theorem made_6 (P : Nat → List UInt8) : madeCells #[Value.string ⟨#[]⟩] 6 = pC P 0 := by
  rw [pC_zero]
  kernel_rfl
theorem rec_cells (w : World) (e : TypeId) (X : Rc) : ∀ j u, (rcC X).toList[j]? = some u → (w.alloc (.cells (rcC X) e)).cell? ((⟨w.heap.size, 0, none⟩ : Addr).add j) = some u := by
  intro j u hj
  rw [addr_add, (Blk.new w e (rcC X) 0 0 (Or.inl (Nat.le_refl _))).cell, Nat.zero_add]
  simpa using hj
theorem rec_ones (X : Rc) : ∀ u ∈ (rcC X).toList, u.oneCell' = true := fun u hu => List.all_eq_true.1 (rcC_one X) u hu
theorem fill_rec (X : Rc) : Instr.fill (fun i => some (i * 7, 7)) ((Array.range (1 * 7)).map ((Value.agg zrec).cells[· % (Value.agg zrec).cells.size]!)) [(0, .agg (rcC X))] = some (rcC X) := by kernel_rfl
/-- a slice of one record -/
theorem wpList_bsR {ops : Array Oper} {rest : List Oper} {o : Oper} {a : Act} {w : World} {Q : Exit → Act → World → Prop} (hg : o.guard = none) (x : Operand) (ho : o.op = .buildSlice 22 1 #[(0, x)])
    (X : Rc) (hx : a.eval x = .agg (rcC X)) (h : wpList Try.prog ops Q rest (a.put o.dst (.slice (some ⟨w.heap.size, 0, none⟩) 1 1)) (w.alloc (.cells (rcC X) 29))) : wpList Try.prog ops Q (o :: rest) a w := by
  obtain ⟨i0, hi, hz0, hz1, hz2⟩ := info_parts rec_info
  refine wpList_buildSlice hg 22 29 1 #[(0, x)] ho (rcC X) i0 (.agg zrec) Try.underlying22 hi hz0 (by rw [hz1]; decide) (by rw [hz1]; decide) ?_ h
  rw [hz1]
  have e : (#[(0, x)].map fun (i, x) => (i, a.eval x)).toList = [(0, a.eval x)] := by simp
  rw [e, hx]
  exact fill_rec X
/-- what slots are read as -/
def readV (arr ep : Int) (L : List (List UInt8)) : List Rc := (srt (recsK arr ep L 8).toArray).toList

set_option maxHeartbeats 4000000 in
theorem read_any (arr ep : Int) (A : Option Addr) (c : Nat) (L : List (List UInt8)) (hL : L.length ≤ maxLen) (hs : ∀ s ∈ L, s.length ≤ maxLen) (w : World) (hA : StrsAt w w.heap.size A L) :
    Calls Try.prog 22 #[.int .i64 arr, .int .i64 ep, .slice A L.length c] w fun e w' => ∃ v, e = .returned v ∧ RecAt w' w.heap.size v (readV arr ep L) ∧ Go.RowKit.Below w.heap.size w w' := by
  have hLm : L.length ≤ 9223372036854775807 := hL
  have HA := Lib.hid hA
  have HS := Lib.hid hs
  have ZR := Lib.hid (fun w => zero_any w)
  have IS := Lib.hid (fun s w => is_any s w)
  obtain ⟨i0, hi, hz0, hz1, hz2⟩ := info_parts str_info
  have hmk := fun w => run_make (P := Try.prog) w 41 9 i0 (.string ⟨#[]⟩) Try.underlying41 hi hz0 .i64 .i64 6 6 (by omega) (by omega) (by rw [hz2]; omega) (by omega)
  rw [hz1] at hmk
  have e64 : (6 : Int).toNat = 6 := rfl
  simp only [e64] at hmk
  clear hA hL hs hi hz0 hz1 hz2 e64
  go_enter Try.func22, Try.ntmps22
  go_wp2
  go_loopw [14, 7] (fun i v wr => ∃ k : Nat, k ≤ 8 ∧ i = .int .i64 k ∧ wr.ownsRow w.heap.size 29 7 v (recsK arr ep L k).length (flat (recsK arr ep L k)) ∧ Go.RowKit.Below w.heap.size w wr) (fun i _ _ => 8 - (intOf i).toNat)
  case atStart => exact ⟨0, by omega, rfl, World.ownsRow_nil _ _ _ _, Below.refl _ _⟩
  case round =>
    obtain ⟨s, hs, rfl, hown, hbel⟩ := hrel
    have HO := Lib.hid hown
    have HB := Lib.hid hbel
    clear hown hbel
    by_cases hlt : s < 8
    · have hlt' : (s : Int) < 8 := by omega
      obtain ⟨wo, rfl⟩ : ∃ wo : World, wo = wr := ⟨_, rfl⟩
      go_upto_region 6 with fail
      clear hmk
      have hkq := Blk.new wo 9 (madeCells #[Value.string ⟨#[]⟩] 6) 0 0 (Or.inl (Nat.le_refl _))
      have hbq := (Below.refl _ wo).alloc (Nat.le_refl _) (.cells (madeCells #[Value.string ⟨#[]⟩] 6) 9)
      generalize World.alloc _ _ = w1 at hkq hbq ⊢
      rw [made_6 (slotP L s)] at hkq
      have HQ1 := Lib.hid hkq
      have HB1 := Lib.hid hbq
      clear hkq hbq
      generalize hqd : wo.heap.size = q at HQ1 HB1 ⊢
      have HQD := Lib.hid (fun _ : Unit => hqd)
      have hbsz : w.heap.size ≤ q := by rw [← hqd]; exact HB.out.size
      clear hqd
      go_wp2
      go_loopw [20] (fun i wr => ∃ k : Nat, k ≤ 6 ∧ i = .int .i64 k ∧ Blk wr q 9 (pC (slotP L s) k) ∧ Go.RowKit.Below q wo wr) (fun i _ => 6 - (intOf i).toNat)
      case atStart => exact ⟨0, by omega, rfl, HQ1.out, HB1.out⟩
      case round =>
        obtain ⟨k, hk, rfl, hkq, hbq⟩ := hrel
        have HQ2 := Lib.hid hkq
        have HB2 := Lib.hid hbq
        clear HQ1 HB1 hkq hbq
        by_cases hltk : k < 6
        · have hltk' : (k : Int) < 6 := by omega
          go_wp2_with fail
          refine (ZR.out _).mono ?_
          rintro e w3 ⟨rfl, hb⟩
          have hk3 := HQ2.out.step hb
          have hqlt := HQ2.out.lt
          have hb3 := HB2.out.trans (hb.mono (Nat.le_of_lt hqlt))
          have hf3 := hk3.free k (by rw [pC_size]; exact hltk)
          have hc3 := hk3.cell k
          rw [pC_get _ k k hltk] at hc3
          have hk4 := hk3.set k (sv z64)
          have hb4 := Below.setCell (p := ⟨q, k, none⟩) hb3 (Nat.le_refl _) (sv z64)
          have HK4 := Lib.hid hk4
          have HB4 := Lib.hid hb4
          clear hb hk3 hb3 hk4 hb4 HQ2 HB2
          go_upto_region 10 with fail
          generalize World.setCell _ _ _ = w4 at HK4 HB4 ⊢
          have HBW := Lib.hid (HB.out.trans (HB4.out.mono hbsz))
          clear hc3 hf3 hqlt
          have HY : Hid (slotP L s k = z64 → (pC (slotP L s) k).setIfInBounds k (sv z64) = pC (slotP L s) (k + 1)) := Lib.hid (fun h => by rw [← h]; exact pC_set _ k hltk)
          have HN := Lib.hid (fun v => pC_set2 (slotP L s) k hltk v)
          by_cases hat : s * 6 + k < L.length
          · have hat' : (s : Int) * 6 + (k : Int) < (L.length : Int) := by omega
            obtain ⟨b, o, rfl, hbl, hcell⟩ : ∃ b o, A = some ⟨b, o, none⟩ ∧ b < w.heap.size ∧ ∀ j (hj : j < L.length), w4.cell? ⟨b, o + j, none⟩ = some (.string ⟨(L[j]).toArray⟩) := by
              rcases HA.out.below HBW.out with h | h
              · rw [h] at hat; simp at hat
              · exact h
            have hc := hcell (s * 6 + k) hat
            have HS1 := Lib.hid (secAt_yes L (s * 6 + k) hat)
            have HS2 := Lib.hid (secAt_no L (s * 6 + k) hat)
            generalize L[s * 6 + k] = x at hc HS1 HS2
            have HI := Lib.hid (fun w => IS.out x w)
            clear hcell
            have hlow : ((s : Int) * 6 + (k : Int)).toNat = s * 6 + k := by omega
            have hge0 : 0 ≤ (s : Int) * 6 + (k : Int) := by omega
            by_cases hl : x.length = 64
            · have hlb : (x.length == 64) = true := beq_iff_eq.2 hl
              rw [hlb] at HI
              have HX := Lib.hid (HS1.out hl)
              clear hl hlb HS1 HS2
              go_wp2_with fail
              refine (HI.out _).mono ?_
              rintro e w5 ⟨rfl, hw5⟩
              subst hw5
              have hf5 := HK4.out.free k (by rw [Array.size_setIfInBounds, pC_size]; exact hltk)
              have hc5 : w5.cell? ⟨q, k, none⟩ = some (sv z64) := by
                rw [HK4.out.cell, Array.getElem?_setIfInBounds_self_of_lt (by rw [pC_size]; exact hltk)]
              have hk6 := HK4.out.set k (sv (slotP L s k))
              rw [HN.out] at hk6
              have hxe : slotP L s k = x := HX.out
              rw [hxe] at hk6
              have HK6 := Lib.hid hk6
              have HB6 := Lib.hid (Below.setCell (p := ⟨q, k, none⟩) HB4.out (Nat.le_refl _) (sv x))
              clear hk6 hxe HK4 HB4 HBW HI
              go_wp2
              go_roundw
              case rel => exact ⟨k + 1, by omega, by go_num, HK6.out, HB6.out⟩
              case measure => simp [intOf] <;> omega
            · have hlb : (x.length == 64) = false := beq_eq_false_iff_ne.2 hl
              rw [hlb] at HI
              have HX := Lib.hid (HY.out (HS2.out hl))
              clear hl hlb HS1 HS2
              go_wp2_with fail
              refine (HI.out _).mono ?_
              rintro e w5 ⟨rfl, hw5⟩
              subst hw5
              have HK6 := HK4
              rw [HX.out] at HK6
              go_wp2
              go_roundw
              case rel => exact ⟨k + 1, by omega, by go_num, HK6.out, HB4.out⟩
              case measure => simp [intOf] <;> omega
          · have hat' : ¬ (s : Int) * 6 + (k : Int) < (L.length : Int) := by omega
            have HX := Lib.hid (HY.out (secAt_out L (s * 6 + k) (by omega)))
            have HK6 := HK4
            rw [HX.out] at HK6
            go_wp2
            go_roundw
            case rel => exact ⟨k + 1, by omega, by go_num, HK6.out, HB4.out⟩
            case measure => simp [intOf] <;> omega
        · have h6 : k = 6 := by omega
          subst h6
          have hpart := HQ2.out.part
          have HSL := Lib.hid (slot_any arr ep q (slotP L s) (fun j _ => secAt_len L (s * 6 + j)) wr hpart)
          have hqlt := HQ2.out.lt
          clear hpart HQ2
          go_wp2_with fail
          refine HSL.out.mono ?_
          rintro e w3 ⟨rfl, hb⟩
          have HB3 := Lib.hid (HB2.out.trans (hb.mono (Nat.le_of_lt hqlt)))
          clear hb HB2 HSL hqlt
          have HYES := Lib.hid (fun h => recs_yes (arr := arr) (ep := ep) (L := L) (k := s) h)
          have HNO := Lib.hid (fun h => recs_no (arr := arr) (ep := ep) (L := L) (k := s) h)
          have HRC := Lib.hid (fun h => slRc_yes (arr := arr) (ep := ep) (P := slotP L s) h)
          obtain ⟨X, hX⟩ : ∃ X, slRc arr ep (slotP L s) = X := ⟨_, rfl⟩
          rw [hX] at HRC ⊢
          clear hX
          have hq3 : q ≤ w3.heap.size := by have h1 := HB3.out.size; have h2 := HQD.out (); omega
          generalize slOk arr ep (slotP L s) = bk at HYES HNO HRC ⊢
          have tokA : True := trivial
          go_upto_region 15 with (have _t := tokA; refine wpList_store_blk rfl 29 _ _ rfl w3.heap.size (rcC X) rfl rfl zrec 29 (Blk.new w3 29 zrec 0 0 (Or.inl (Nat.le_refl _))) (by rw [rcC_size]; rfl) (by rw [rcC_size]; exact size_rec) (rcC_one _) ?_; clear tokA)
          have HKr := Lib.hid ((Blk.new w3 29 zrec 0 0 (Or.inl (Nat.le_refl _))).setAll (cs := rcC X) (by rw [rcC_size]; rfl))
          have HB4 := Lib.hid (Below.setCells (HB3.out.alloc hq3 (.cells zrec 29)) hq3 0 (rcC X).toList)
          generalize World.setCells _ _ _ _ = w4 at HKr HB4 ⊢
          clear HB3
          have HB4' : Hid (Go.RowKit.Below wo.heap.size wo w4) := Lib.hid (by rw [HQD.out ()]; exact HB4.out)
          have HO4 := Lib.hid (HO.out.kept (grown_of_below HB4'.out) (by cases Value.ownBlock _ <;> simp))
          have HBW := Lib.hid (Below.step HB.out HB4'.out)
          clear HO HB HB4 HB4'
          cases bk
          · have HE := Lib.hid (HNO.out rfl)
            go_wp2
            go_roundw
            case rel => exact ⟨s + 1, by omega, by go_num, by rw [HE.out]; exact HO4.out, HBW.out⟩
            case measure => simp [intOf] <;> omega
          · have HE := Lib.hid (HYES.out rfl)
            have HXE := Lib.hid (HRC.out rfl)
            have hld := HKr.out.ldR
            obtain ⟨i0, hi, hz0, hz1, hz2⟩ := info_parts rec_info
            have hlen8 : (recsK arr ep L s).length ≤ 8 := by have h := recs_le arr ep L s; omega
            have hb0 : w.heap.size ≤ w4.heap.size := HBW.out.size
            have HF : Hid (flat (recsK arr ep L s) ++ (rcC X).toList = flat (recsK arr ep L (s + 1))) := Lib.hid (by rw [HE.out, flat_snoc, HXE.out])
            have HFL : Hid ((recsK arr ep L s).length + 1 = (recsK arr ep L (s + 1)).length) := Lib.hid (by rw [HE.out, List.length_append]; rfl)
            generalize flat (recsK arr ep L s) = fl at HO4 HF
            generalize (recsK arr ep L s).length = nl at HO4 HFL hlen8
            have tokB : True := trivial
            go_wp2_with (first | (have _t := tokB; refine wpList_bsR rfl (.tmp 59) rfl X rfl ?_; clear tokB; have tokC : True := trivial) | (have _t := tokC; clear tokC; at_builtin; go_loud (refine wpList_append_own _ rfl (.tmp 58) (.tmp 60) 22 rfl w.heap.size 29 i0 (.agg zrec) 7 88 Try.underlying22 hi hz0 hz1 hz2 rfl (by decide) _ nl fl rfl (HO4.out.alloc (.cells (rcC X) 29)) ⟨w4.heap.size, 0, none⟩ 1 1 (rcC X).toList rfl rfl (rec_cells _ _ X) (rec_ones X) (by unfold maxLen; omega) (by omega) (by rw [size_alloc]; omega) ?_; intro v' w5 hown hg _; rw [HF.out, HFL.out] at hown; have HO5 := Lib.hid hown; have HB5 := Lib.hid ((HBW.out.alloc hb0 (.cells (rcC X) 29)).grown hg (by rw [size_alloc]; omega) (fun q hq => (HO4.out.lt q hq).1)); clear hown hg)))
            go_roundw
            case rel => exact ⟨s + 1, by omega, by go_num, HO5.out, HB5.out⟩
            case measure => simp [intOf] <;> omega
    · have h8 : s = 8 := by omega
      subst h8
      obtain ⟨hnl, hrec⟩ := RecAt.of_own HO.out
      have hlen8 := recs_le arr ep L 8
      have HST := Lib.hid (fun v (hv : RecAt wr w.heap.size v (recsK arr ep L 8)) => stable_any w.heap.size v (recsK arr ep L 8) (by omega) wr hv)
      have HRE := Lib.hid hrec
      clear hrec hnl HO
      go_wp2_with fail
      refine (HST.out _ HRE.out).mono ?_
      rintro e w3 ⟨rfl, hr, hb⟩
      have HR3 := Lib.hid hr
      have HB3 := Lib.hid (HB.out.trans hb)
      clear hr hb HST HRE
      go_wp2
      go_ret
      exact ⟨_, rfl, HR3.out, HB3.out⟩
end Go.Proofs.Ytccbohjcbhibkaa
