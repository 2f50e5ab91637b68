/- The reference's four and Sector. Condition: texts and numbers that a memory can hold. -/
import Derived.Test.YtccbohjcbhibkaaJnS
namespace Go.Proofs.Ytccbohjcbhibkaa
set_option linter.unusedVariables false
set_option linter.unusedSimpArgs false
set_option maxRecDepth 100000
open Go.RowKit
attribute [local go_sem ↓] Go.wp_at_zero Go.wp_at_succ ix_dat ld_rec

theorem byt4 (w : World) (a b c d : UInt8) (x y z t : Value) (h : #[x, y, z, t] = ([a, b, c, d].map ubv).toArray) : Byt (w.alloc (.cells #[x, y, z, t] 5)) 5 w.heap.size [a, b, c, d] := by
  refine ⟨#[x, y, z, t], Blk.new w 5 _ 0 0 (Or.inl (Nat.le_refl _)), fun j hj => ?_⟩
  rw [h, List.getElem?_toArray, List.getElem?_map, List.getElem?_eq_getElem hj]
  rfl
theorem four_any (x : Int) (w : World) : Calls Try.prog 40 #[.int .i64 x] w fun e w' => e = .returned (.string ⟨(le4 x).toArray⟩) ∧ Below w.heap.size w w' := by
  have hq : #[Value.int .u8 (x % 256), .int .u8 (x / 256 % 256), .int .u8 (x / 65536 % 256), .int .u8 (x / 16777216 % 256)] = ([bz x 0, bz x 1, bz x 2, bz x 3].map ubv).toArray := by
    have e0 : x % 256 = (((bz x 0).toNat : Nat) : Int) := by rw [bz_int]; simp
    have e1 : x / 256 % 256 = (((bz x 1).toNat : Nat) : Int) := by rw [bz_int]; simp
    have e2 : x / 65536 % 256 = (((bz x 2).toNat : Nat) : Int) := by rw [bz_int]; rfl
    have e3 : x / 16777216 % 256 = (((bz x 3).toNat : Nat) : Int) := by rw [bz_int]; rfl
    show _ = #[ubv (bz x 0), ubv (bz x 1), ubv (bz x 2), ubv (bz x 3)]
    rw [e0, e1, e2, e3]
  have hcv := byt_conv (byt4 w (bz x 0) (bz x 1) (bz x 2) (bz x 3) _ _ _ _ hq) (n := 4) rfl 4
  have HB := Lib.hid ((Below.refl _ w).alloc (Nat.le_refl _) (.cells #[Value.int .u8 (x % 256), .int .u8 (x / 256 % 256), .int .u8 (x / 65536 % 256), .int .u8 (x / 16777216 % 256)] 5))
  have HL : Hid (le4 x = [bz x 0, bz x 1, bz x 2, bz x 3]) := rfl
  rw [← HL.out] at hcv
  generalize le4 x = L at hcv ⊢
  clear hq HL
  go_enter Try.func40, Try.ntmps40
  go_wp2
  go_ret
  exact ⟨rfl, HB.out⟩

def _root_.Go.Value.strLen : Value → Nat
  | .string s => s.size
  | _ => 0
theorem rep0_zero : Lib.repeatL [0] 0 = ([] : List UInt8) := rfl
theorem rep0_succ (k : Nat) : Lib.repeatL [0] (k + 1) = (Lib.repeatL [0] k ++ [0] : List UInt8) := by
  rw [Lib.repeatL_add, Lib.repeatL_one]
theorem rep0_len (k : Nat) : (Lib.repeatL [0] k : List UInt8).length = k := by
  induction k with
  | zero => rfl
  | succ k ih => rw [rep0_succ, List.length_append, ih]; rfl
/-- the mask of the last n members -/
def mhK (r : Rc) : Nat → Nat
  | 0 => 0
  | n + 1 => 2 * mhK r n + (if em (dk r (3 - n)) then 0 else 1)
theorem mh_mask (r : Rc) : mhK r 4 = maskR r := by
  show 2 * (2 * (2 * (2 * 0 + (if em r.d3 then 0 else 1)) + (if em r.d2 then 0 else 1)) + (if em r.d1 then 0 else 1)) + (if em r.d0 then 0 else 1) = _
  simp only [maskR, maskN, bt]
  cases em r.d0 <;> cases em r.d1 <;> cases em r.d2 <;> cases em r.d3 <;> rfl
theorem mh_lt (r : Rc) (n : Nat) : mhK r n < 2 ^ n := by
  induction n with
  | zero => simp [mhK]
  | succ n ih => rw [mhK, Nat.pow_succ]; split <;> omega
theorem le4_len (x : Int) : (le4 x).length = 4 := rfl
theorem sec_ref (n1 n2 : UInt8) (arr : Int) (r : Rc) : secL ([74] ++ [n1, n2] ++ [1]) arr r 5 = [74] ++ [n1, n2] ++ [1] ++ le4 arr ++ le4 r.ep ++ le4 r.sq ++ le4 r.rw ++ le4 (maskR r : Int) := rfl

set_option maxHeartbeats 2000000 in
theorem refSec_any (n1 n2 : UInt8) (arr : Int) (r : Rc) (hs : Data r) (w : World) : Calls Try.prog 19 #[.string ⟨#[n1, n2]⟩, .int .i64 arr, .agg (rcC r)] w fun e w' => e = .returned (sv (secV ([74, n1, n2, 1]) arr r)) ∧ Below w.heap.size w w' := by
  have HV : Hid (secV [74, n1, n2, 1] arr r = [74] ++ [n1, n2] ++ [1] ++ le4 arr ++ le4 r.ep ++ le4 r.sq ++ le4 r.rw ++ le4 (maskR r : Int) ++ Lib.repeatL [0] 40) := Lib.hid (by unfold secV; rw [← sec_ref]; rfl)
  have hz0 : (⟨#[n1, n2]⟩ : ByteArray) = ⟨[n1, n2].toArray⟩ := rfl
  rw [hz0]
  clear hz0
  have HN : Hid (([n1, n2] : List UInt8).length = 2) := rfl
  generalize secV [74, n1, n2, 1] arr r = V at HV ⊢
  generalize ([n1, n2] : List UInt8) = nm at HV HN ⊢
  have HK := Lib.hid (Blk.new w 36 (rcC r) 0 0 (Or.inl (Nat.le_refl _)))
  have HB := Lib.hid ((Below.refl _ w).alloc (Nat.le_refl _) (.cells (rcC r) 36))
  have FA := Lib.hid (fun w => four_any arr w)
  have FE := Lib.hid (fun w => four_any r.ep w)
  have FS := Lib.hid (fun w => four_any r.sq w)
  have FR := Lib.hid (fun w => four_any r.rw w)
  have FM := Lib.hid (fun w => four_any (maskR r : Int) w)
  have HS := Lib.hid hs
  clear hs
  go_enter Try.func19, Try.ntmps19
  go_upto_region 1 with fail
  generalize World.alloc _ _ = w1 at HK HB ⊢
  go_wp2
  go_loopw [7, 8] (fun v i wr => ∃ n : Nat, n ≤ 4 ∧ i = .int .i64 (3 - (n : Int)) ∧ v = .int .i64 (mhK r n : Int) ∧ wr = w1) (fun _ i _ => (intOf i + 1).toNat)
  case atStart => exact ⟨0, by omega, rfl, rfl, rfl⟩
  case round =>
    obtain ⟨n, hn, rfl, rfl, rfl⟩ := hrel
    by_cases hlt : n < 4
    · have hlt' : (0 : Int) ≤ 3 - (n : Int) := by omega
      have e3 : (3 : Int) - (n : Int) = ((3 - n : Nat) : Int) := by omega
      have hc := HK.out.mem (3 - n) (by omega)
      have HMN : Hid (mhK r (n + 1) = 2 * mhK r n + (if em (dk r (3 - n)) then 0 else 1)) := Lib.hid rfl
      have hml : mhK r n < 2 ^ n := mh_lt r n
      have h24 : 2 ^ n ≤ 8 := by
        match n, hlt with
        | 0, _ | 1, _ | 2, _ | 3, _ => decide
      have hml2 : mhK r n < 8 := by omega
      have hsl : (dk r (3 - n)).length ≤ 9223372036854775807 := HS.out (3 - n)
      have hsub : ((3 - n : Nat) : Int) - 1 = 3 - ((n + 1 : Nat) : Int) := by omega
      have HSB := Lib.hid hsub
      have hk4 : 3 - n < 4 := by omega
      have HNK : Hid (3 - n = 3 - n) := rfl
      have hint : (intOf (.int .i64 ((3 - n : Nat) : Int)) + 1).toNat = (3 - n) + 1 := by simp [intOf]
      rw [e3]
      rw [e3] at hlt'
      generalize dk r (3 - n) = s at hc HMN hsl
      generalize mhK r n = m at HMN hml2 ⊢
      generalize 3 - n = k at *
      clear e3 hml h24 hsub HNK
      by_cases he : s = []
      · subst he
        have HME : Hid (mhK r (n + 1) = 2 * m) := Lib.hid (by rw [HMN.out, em_nil]; simp)
        clear HMN
        go_wp2
        go_roundw
        case rel => exact ⟨n + 1, by omega, by rw [← HSB.out]; (try go_num), by rw [HME.out]; (try go_num), by trivial⟩
        case measure => simp [intOf] <;> omega
      · have he1 : (s == []) = false := beq_eq_false_iff_ne.2 he
        have he2 : (s != []) = true := by rw [bne_iff_ne]; exact he
        have HME : Hid (mhK r (n + 1) = 2 * m + 1) := Lib.hid (by rw [HMN.out, em_ne he]; simp)
        clear HMN
        go_wp2
        go_roundw
        case rel => exact ⟨n + 1, by omega, by rw [← HSB.out]; (try go_num), by rw [HME.out]; (try go_num), by trivial⟩
        case measure => simp [intOf] <;> omega
    · have h4 : n = 4 := by omega
      subst h4
      rw [mh_mask]
      obtain ⟨hc0, hc1, hc2⟩ := HK.out.rc
      have HLM : Hid ((le4 (maskR r : Int)).length = 4) := rfl
      generalize le4 (maskR r : Int) = LM at FM HV HLM
      generalize ((maskR r : Nat) : Int) = mm at FM ⊢
      have HLA : Hid ((le4 arr).length = 4) := rfl
      have HLE : Hid ((le4 r.ep).length = 4) := rfl
      have HLS : Hid ((le4 r.sq).length = 4) := rfl
      have HLR : Hid ((le4 r.rw).length = 4) := rfl
      generalize le4 arr = LA at FA HV HLA
      generalize le4 r.ep = LE at FE HV HLE
      generalize le4 r.sq = LS at FS HV HLS
      generalize le4 r.rw = LR at FR HV HLR
      have hs0 : (⟨#[74]⟩ : ByteArray) ++ (⟨nm.toArray⟩ : ByteArray) = ⟨([74] ++ nm).toArray⟩ := str_append [74] nm
      have hg0 : ¬ 9223372036854775807 < 1 + nm.length := by rw [HN.out]; decide
      have HQ0 : Hid (([74] ++ nm).length = 3) := Lib.hid (by rw [List.length_append, HN.out]; rfl)
      generalize [74] ++ nm = Y0 at HV HQ0 hs0
      have hs1 : (⟨Y0.toArray⟩ : ByteArray) ++ (⟨#[1]⟩ : ByteArray) = ⟨(Y0 ++ [1]).toArray⟩ := str_append Y0 [1]
      have hg1 : ¬ 9223372036854775807 < Y0.length + 1 := by rw [HQ0.out]; decide
      have HQ1 : Hid ((Y0 ++ [1]).length = 4) := Lib.hid (by rw [List.length_append, HQ0.out]; rfl)
      generalize Y0 ++ [1] = Y1 at HV HQ1 hs1
      have hs2 : (⟨Y1.toArray⟩ : ByteArray) ++ (⟨LA.toArray⟩ : ByteArray) = ⟨(Y1 ++ LA).toArray⟩ := str_append Y1 LA
      have hg2 : ¬ 9223372036854775807 < Y1.length + LA.length := by rw [HQ1.out, HLA.out]; decide
      have HQ2 : Hid ((Y1 ++ LA).length = 8) := Lib.hid (by rw [List.length_append, HQ1.out, HLA.out])
      generalize Y1 ++ LA = Y2 at HV HQ2 hs2
      have hs3 : (⟨Y2.toArray⟩ : ByteArray) ++ (⟨LE.toArray⟩ : ByteArray) = ⟨(Y2 ++ LE).toArray⟩ := str_append Y2 LE
      have hg3 : ¬ 9223372036854775807 < Y2.length + LE.length := by rw [HQ2.out, HLE.out]; decide
      have HQ3 : Hid ((Y2 ++ LE).length = 12) := Lib.hid (by rw [List.length_append, HQ2.out, HLE.out])
      generalize Y2 ++ LE = Y3 at HV HQ3 hs3
      have hs4 : (⟨Y3.toArray⟩ : ByteArray) ++ (⟨LS.toArray⟩ : ByteArray) = ⟨(Y3 ++ LS).toArray⟩ := str_append Y3 LS
      have hg4 : ¬ 9223372036854775807 < Y3.length + LS.length := by rw [HQ3.out, HLS.out]; decide
      have HQ4 : Hid ((Y3 ++ LS).length = 16) := Lib.hid (by rw [List.length_append, HQ3.out, HLS.out])
      generalize Y3 ++ LS = Y4 at HV HQ4 hs4
      have hs5 : (⟨Y4.toArray⟩ : ByteArray) ++ (⟨LR.toArray⟩ : ByteArray) = ⟨(Y4 ++ LR).toArray⟩ := str_append Y4 LR
      have hg5 : ¬ 9223372036854775807 < Y4.length + LR.length := by rw [HQ4.out, HLR.out]; decide
      have HQ5 : Hid ((Y4 ++ LR).length = 20) := Lib.hid (by rw [List.length_append, HQ4.out, HLR.out])
      generalize Y4 ++ LR = Y5 at HV HQ5 hs5
      have hs6 : (⟨Y5.toArray⟩ : ByteArray) ++ (⟨LM.toArray⟩ : ByteArray) = ⟨(Y5 ++ LM).toArray⟩ := str_append Y5 LM
      have hg6 : ¬ 9223372036854775807 < Y5.length + LM.length := by rw [HQ5.out, HLM.out]; decide
      have HQ6 : Hid ((Y5 ++ LM).length = 24) := Lib.hid (by rw [List.length_append, HQ5.out, HLM.out])
      generalize Y5 ++ LM = Y6 at HV HQ6 hs6
      clear HN HLA HLE HLS HLR HLM HQ0 HQ1 HQ2 HQ3 HQ4 HQ5
      go_upto_region 8 with fail
      refine wp_region_noPanic ?_
      refine wp_region_held_drew (S := (fun w' => w'.cell? ⟨w.heap.size, 0, none⟩ = some (.int .i64 r.ep) ∧ w'.cell? ⟨w.heap.size, 1, none⟩ = some (.int .i64 r.sq) ∧ w'.cell? ⟨w.heap.size, 2, none⟩ = some (.int .i64 r.rw))) (by kernel_rfl) (by first | exact ⟨hc0, hc1, hc2⟩) (fun hHeld => ?_)
      refine wpAnyH_take (i := 0) (oi := _) (v := ?vr1n0_1) rfl (by kernel_rfl) (by kernel_rfl) (by kernel_rfl) (fun _ _ _ h => h) (Or.inl ⟨by kernel_rfl, ?hr1n0_1⟩) hHeld ?_
      case hr1n0_1 => (intro w hSw; (try dsimp only at hSw); go_simp; try (with_reducible rfl))
      try simp only [List.getElem_toArray, List.getElem_cons_zero, List.getElem_cons_succ, Act.put, List.setIfInBounds_toArray, List.set_cons_zero, List.set_cons_succ]
      refine wpAnyH_take (i := 1) (oi := _) (v := ?vr1n1_2) rfl (by kernel_rfl) (by kernel_rfl) (by kernel_rfl) (fun _ _ _ h => h) (Or.inl ⟨by kernel_rfl, ?hr1n1_2⟩) hHeld ?_
      case hr1n1_2 => (intro w hSw; (try dsimp only at hSw); go_simp; try (with_reducible rfl))
      try simp only [List.getElem_toArray, List.getElem_cons_zero, List.getElem_cons_succ, Act.put, List.setIfInBounds_toArray, List.set_cons_zero, List.set_cons_succ]
      refine wpAnyH_take (i := 2) (oi := _) (v := ?vr1n2_3) rfl (by kernel_rfl) (by kernel_rfl) (by kernel_rfl) (fun _ _ _ h => h) (Or.inl ⟨by kernel_rfl, ?hr1n2_3⟩) hHeld ?_
      case hr1n2_3 => (intro w hSw; (try dsimp only at hSw); go_simp; try (with_reducible rfl))
      try simp only [List.getElem_toArray, List.getElem_cons_zero, List.getElem_cons_succ, Act.put, List.setIfInBounds_toArray, List.set_cons_zero, List.set_cons_succ]
      refine wpAnyH_take (i := 3) (oi := _) (v := ?vr1n3_4) rfl (by kernel_rfl) (by kernel_rfl) (by kernel_rfl) (fun _ _ _ h => h) (Or.inl ⟨by kernel_rfl, ?hr1n3_4⟩) hHeld ?_
      case hr1n3_4 => (intro w hSw; (try dsimp only at hSw); go_simp; try (with_reducible rfl))
      try simp only [List.getElem_toArray, List.getElem_cons_zero, List.getElem_cons_succ, Act.put, List.setIfInBounds_toArray, List.set_cons_zero, List.set_cons_succ]
      refine wpAnyH_take (i := 6) (oi := _) (v := ?vr1n6_5) rfl (by kernel_rfl) (by kernel_rfl) (by kernel_rfl) (fun _ _ _ h => h) (Or.inl ⟨by kernel_rfl, ?hr1n6_5⟩) hHeld ?_
      case hr1n6_5 => (intro w hSw; (try dsimp only at hSw); go_simp; try (with_reducible rfl))
      try simp only [List.getElem_toArray, List.getElem_cons_zero, List.getElem_cons_succ, Act.put, List.setIfInBounds_toArray, List.set_cons_zero, List.set_cons_succ]
      refine wpAnyH_take (i := 7) (oi := _) (v := ?vr1n7_6) rfl (by kernel_rfl) (by kernel_rfl) (by kernel_rfl) (fun _ _ _ h => h) (Or.inl ⟨by kernel_rfl, ?hr1n7_6⟩) hHeld ?_
      case hr1n7_6 => (intro w hSw; (try dsimp only at hSw); go_simp; try (with_reducible rfl))
      try simp only [List.getElem_toArray, List.getElem_cons_zero, List.getElem_cons_succ, Act.put, List.setIfInBounds_toArray, List.set_cons_zero, List.set_cons_succ]
      refine wpAnyH_take (i := 10) (oi := _) (v := ?vr1n10_7) rfl (by kernel_rfl) (by kernel_rfl) (by kernel_rfl) (fun _ _ _ h => h) (Or.inl ⟨by kernel_rfl, ?hr1n10_7⟩) hHeld ?_
      case hr1n10_7 => (intro w hSw; (try dsimp only at hSw); go_simp; try (with_reducible rfl))
      try simp only [List.getElem_toArray, List.getElem_cons_zero, List.getElem_cons_succ, Act.put, List.setIfInBounds_toArray, List.set_cons_zero, List.set_cons_succ]
      refine wpAnyH_take (i := 11) (oi := _) (v := ?vr1n11_8) rfl (by kernel_rfl) (by kernel_rfl) (by kernel_rfl) (fun _ _ _ h => h) (Or.inl ⟨by kernel_rfl, ?hr1n11_8⟩) hHeld ?_
      case hr1n11_8 => (intro w hSw; (try dsimp only at hSw); go_simp; try (with_reducible rfl))
      try simp only [List.getElem_toArray, List.getElem_cons_zero, List.getElem_cons_succ, Act.put, List.setIfInBounds_toArray, List.set_cons_zero, List.set_cons_succ]
      refine wpAnyH_take (i := 14) (oi := _) (v := ?vr1n14_9) rfl (by kernel_rfl) (by kernel_rfl) (by kernel_rfl) (fun _ _ _ h => h) (Or.inl ⟨by kernel_rfl, ?hr1n14_9⟩) hHeld ?_
      case hr1n14_9 => (intro w hSw; (try dsimp only at hSw); go_simp; try (with_reducible rfl))
      try simp only [List.getElem_toArray, List.getElem_cons_zero, List.getElem_cons_succ, Act.put, List.setIfInBounds_toArray, List.set_cons_zero, List.set_cons_succ]
      refine wpAnyH_take (i := 15) (oi := _) (v := ?vr1n15_10) rfl (by kernel_rfl) (by kernel_rfl) (by kernel_rfl) (fun _ _ _ h => h) (Or.inl ⟨by kernel_rfl, ?hr1n15_10⟩) hHeld ?_
      case hr1n15_10 => (intro w hSw; (try dsimp only at hSw); go_simp; try (with_reducible rfl))
      try simp only [List.getElem_toArray, List.getElem_cons_zero, List.getElem_cons_succ, Act.put, List.setIfInBounds_toArray, List.set_cons_zero, List.set_cons_succ]
      refine wpAnyH_take (i := 18) (oi := _) (v := ?vr1n18_11) rfl (by kernel_rfl) (by kernel_rfl) (by kernel_rfl) (fun _ _ _ h => h) (Or.inl ⟨by kernel_rfl, ?hr1n18_11⟩) hHeld ?_
      case hr1n18_11 => (intro w hSw; (try dsimp only at hSw); go_simp; try (with_reducible rfl))
      try simp only [List.getElem_toArray, List.getElem_cons_zero, List.getElem_cons_succ, Act.put, List.setIfInBounds_toArray, List.set_cons_zero, List.set_cons_succ]
      refine wpAnyH_ready (rs := [4]) (by kernel_rfl) (by simp) ?_
      refine AllReadyH.cons (o := _) rfl (fun K hK => ?_) AllReadyH.nil
      go_simp
      (go_at_call 40; refine (FA.out _).mono ?_; rintro e y1 ⟨rfl, hb⟩; have hb := (Below.drewN (Below.refl _ wr) 1).trans hb; have HK1 := Lib.hid (HK.out.step hb); have HB1 := Lib.hid (Below.step HB.out hb); clear hb)
      refine hK.out _ _ ?_ (fun hHeld1 => ?_)
      · (first | exact HK1.out.rc)
      clear hHeld hK K
      try simp only [List.getElem_toArray, List.getElem_cons_zero, List.getElem_cons_succ, Act.put, List.setIfInBounds_toArray, List.set_cons_zero, List.set_cons_succ]
      refine wpAnyH_take (i := 5) (oi := _) (v := ?vr1n5_12) rfl (by kernel_rfl) (by kernel_rfl) (by kernel_rfl) (fun _ _ _ h => h) (Or.inl ⟨by kernel_rfl, ?hr1n5_12⟩) hHeld1 ?_
      case hr1n5_12 => (intro w hSw; (try dsimp only at hSw); go_simp; try (with_reducible rfl))
      try simp only [List.getElem_toArray, List.getElem_cons_zero, List.getElem_cons_succ, Act.put, List.setIfInBounds_toArray, List.set_cons_zero, List.set_cons_succ]
      refine wpAnyH_ready (rs := [8]) (by kernel_rfl) (by simp) ?_
      refine AllReadyH.cons (o := _) rfl (fun K hK => ?_) AllReadyH.nil
      go_simp
      (go_at_call 40; refine (FE.out _).mono ?_; rintro e y2 ⟨rfl, hb⟩; have HK2 := Lib.hid (HK1.out.step hb); have HB2 := Lib.hid (Below.step HB1.out hb); clear hb)
      refine hK.out _ _ ?_ (fun hHeld2 => ?_)
      · (first | exact HK2.out.rc)
      clear hHeld1 hK K
      try simp only [List.getElem_toArray, List.getElem_cons_zero, List.getElem_cons_succ, Act.put, List.setIfInBounds_toArray, List.set_cons_zero, List.set_cons_succ]
      refine wpAnyH_take (i := 9) (oi := _) (v := ?vr1n9_13) rfl (by kernel_rfl) (by kernel_rfl) (by kernel_rfl) (fun _ _ _ h => h) (Or.inl ⟨by kernel_rfl, ?hr1n9_13⟩) hHeld2 ?_
      case hr1n9_13 => (intro w hSw; (try dsimp only at hSw); go_simp; try (with_reducible rfl))
      try simp only [List.getElem_toArray, List.getElem_cons_zero, List.getElem_cons_succ, Act.put, List.setIfInBounds_toArray, List.set_cons_zero, List.set_cons_succ]
      refine wpAnyH_ready (rs := [12]) (by kernel_rfl) (by simp) ?_
      refine AllReadyH.cons (o := _) rfl (fun K hK => ?_) AllReadyH.nil
      go_simp
      (go_at_call 40; refine (FS.out _).mono ?_; rintro e y3 ⟨rfl, hb⟩; have HK3 := Lib.hid (HK2.out.step hb); have HB3 := Lib.hid (Below.step HB2.out hb); clear hb)
      refine hK.out _ _ ?_ (fun hHeld3 => ?_)
      · (first | exact HK3.out.rc)
      clear hHeld2 hK K
      try simp only [List.getElem_toArray, List.getElem_cons_zero, List.getElem_cons_succ, Act.put, List.setIfInBounds_toArray, List.set_cons_zero, List.set_cons_succ]
      refine wpAnyH_take (i := 13) (oi := _) (v := ?vr1n13_14) rfl (by kernel_rfl) (by kernel_rfl) (by kernel_rfl) (fun _ _ _ h => h) (Or.inl ⟨by kernel_rfl, ?hr1n13_14⟩) hHeld3 ?_
      case hr1n13_14 => (intro w hSw; (try dsimp only at hSw); go_simp; try (with_reducible rfl))
      try simp only [List.getElem_toArray, List.getElem_cons_zero, List.getElem_cons_succ, Act.put, List.setIfInBounds_toArray, List.set_cons_zero, List.set_cons_succ]
      refine wpAnyH_ready (rs := [16]) (by kernel_rfl) (by simp) ?_
      refine AllReadyH.cons (o := _) rfl (fun K hK => ?_) AllReadyH.nil
      go_simp
      (go_at_call 40; refine (FR.out _).mono ?_; rintro e y4 ⟨rfl, hb⟩; have HK4 := Lib.hid (HK3.out.step hb); have HB4 := Lib.hid (Below.step HB3.out hb); clear hb)
      refine hK.out _ _ ?_ (fun hHeld4 => ?_)
      · (first | exact HK4.out.rc)
      clear hHeld3 hK K
      try simp only [List.getElem_toArray, List.getElem_cons_zero, List.getElem_cons_succ, Act.put, List.setIfInBounds_toArray, List.set_cons_zero, List.set_cons_succ]
      refine wpAnyH_take (i := 17) (oi := _) (v := ?vr1n17_15) rfl (by kernel_rfl) (by kernel_rfl) (by kernel_rfl) (fun _ _ _ h => h) (Or.inl ⟨by kernel_rfl, ?hr1n17_15⟩) hHeld4 ?_
      case hr1n17_15 => (intro w hSw; (try dsimp only at hSw); go_simp; try (with_reducible rfl))
      try simp only [List.getElem_toArray, List.getElem_cons_zero, List.getElem_cons_succ, Act.put, List.setIfInBounds_toArray, List.set_cons_zero, List.set_cons_succ]
      refine wpAnyH_ready (rs := [19]) (by kernel_rfl) (by simp) ?_
      refine AllReadyH.cons (o := _) rfl (fun K hK => ?_) AllReadyH.nil
      go_simp
      (go_at_call 40; refine (FM.out _).mono ?_; rintro e y5 ⟨rfl, hb⟩; have HK5 := Lib.hid (HK4.out.step hb); have HB5 := Lib.hid (Below.step HB4.out hb); clear hb)
      refine hK.out _ _ ?_ (fun hHeld5 => ?_)
      · (first | exact HK5.out.rc)
      clear hHeld4 hK K
      try simp only [List.getElem_toArray, List.getElem_cons_zero, List.getElem_cons_succ, Act.put, List.setIfInBounds_toArray, List.set_cons_zero, List.set_cons_succ]
      refine wpAnyH_take (i := 20) (oi := _) (v := ?vr1n20_16) rfl (by kernel_rfl) (by kernel_rfl) (by kernel_rfl) (fun _ _ _ h => h) (Or.inl ⟨by kernel_rfl, ?hr1n20_16⟩) hHeld5 ?_
      case hr1n20_16 => (intro w hSw; (try dsimp only at hSw); go_simp; try (with_reducible rfl))
      try simp only [List.getElem_toArray, List.getElem_cons_zero, List.getElem_cons_succ, Act.put, List.setIfInBounds_toArray, List.set_cons_zero, List.set_cons_succ]
      refine wpAnyH_take (i := 21) (oi := _) (v := ?vr1n21_17) rfl (by kernel_rfl) (by kernel_rfl) (by kernel_rfl) (fun _ _ _ h => h) (Or.inl ⟨by kernel_rfl, ?hr1n21_17⟩) hHeld5 ?_
      case hr1n21_17 => (intro w hSw; (try dsimp only at hSw); go_simp; try (with_reducible rfl))
      try simp only [List.getElem_toArray, List.getElem_cons_zero, List.getElem_cons_succ, Act.put, List.setIfInBounds_toArray, List.set_cons_zero, List.set_cons_succ]
      refine wpAnyH_done (by kernel_rfl) ?_ _
      refine NoPanic.normal ?_
      clear hs0 hs1 hs2 hs3 hs4 hs5 hs6 hg0 hg1 hg2 hg3 hg4 hg5 hg6
      clear hc0 hc1 hc2
      clear FA FE FS FR FM
      generalize ((maskR r : Nat) : Int) = mm
      go_wp2
      go_loopw [9] (fun v wx => ∃ k : Nat, k ≤ 40 ∧ v = .string ⟨(Y6 ++ Lib.repeatL [0] k).toArray⟩ ∧ wx = y5) (fun v _ => 64 - v.strLen)
      case atStart => exact ⟨0, by omega, by rw [rep0_zero, List.append_nil], rfl⟩
      case round =>
        obtain ⟨k, hk, rfl, rfl⟩ := hrel
        have hlz : (Y6 ++ Lib.repeatL [0] k : List UInt8).length = 24 + k := by rw [List.length_append, HQ6.out, rep0_len]
        by_cases hk4 : k < 40
        · have hst : (⟨(Y6 ++ Lib.repeatL [0] k).toArray⟩ : ByteArray) ++ (⟨#[0]⟩ : ByteArray) = ⟨(Y6 ++ Lib.repeatL [0] (k + 1)).toArray⟩ := by
            have := str_append (Y6 ++ Lib.repeatL [0] k) [0]
            rw [List.append_assoc, ← rep0_succ] at this
            rw [← this]
          have hlz2 : (Y6 ++ Lib.repeatL [0] (k + 1) : List UInt8).length = 24 + k + 1 := by rw [List.length_append, HQ6.out, rep0_len]; omega
          have HL2 := Lib.hid hlz2
          have HL1 := Lib.hid hlz
          have hlt64 : ((Y6 ++ Lib.repeatL [0] k : List UInt8).length : Int) < 64 := by rw [hlz]; omega
          have hsm : ¬ 9223372036854775807 < (Y6 ++ Lib.repeatL [0] k : List UInt8).length + 1 := by rw [hlz]; omega
          have HE : Hid (Y6 ++ Lib.repeatL [0] (k + 1) = Y6 ++ Lib.repeatL [0] (k + 1)) := rfl
          clear hlz hlz2
          generalize hZ1 : Y6 ++ Lib.repeatL [0] (k + 1) = Z1 at hst HL2
          generalize Y6 ++ Lib.repeatL [0] k = Z at hst hlt64 hsm HL1
          have HZ1 := Lib.hid hZ1
          clear hZ1
          go_wp2
          go_roundw
          case rel => exact ⟨k + 1, by omega, by rw [HZ1.out], by trivial⟩
          case measure =>
            show 64 - Z1.length < 64 - Z.length
            rw [HL1.out, HL2.out]; omega
        · have h40 : k = 40 := by omega
          subst h40
          have hlt64 : ¬ ((Y6 ++ Lib.repeatL [0] 40 : List UInt8).length : Int) < 64 := by rw [hlz]; decide
          clear hlz
          rw [← HV.out] at hlt64 ⊢
          go_wp2
          go_ret
          exact ⟨rfl, HB5.out⟩
end Go.Proofs.Ytccbohjcbhibkaa
