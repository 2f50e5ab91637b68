/- Heads and commits: sector, may, Head, Commit of the journal. Condition: texts and numbers that a memory can hold. -/
import Derived.Test.YtccbohjcbhibkaaJnB
namespace Go.Proofs.Ytccbohjcbhibkaa
set_option linter.unusedVariables false
set_option linter.unusedSimpArgs false
set_option maxRecDepth 100000
open Go.RowKit
attribute [local go_sem ↓] Go.wp_at_zero Go.wp_at_succ ix_dat ld_rec

/-- byte i of a number -/
def bz (x : Int) (i : Nat) : UInt8 := UInt8.ofNat ((x / 256 ^ i) % 256).toNat
theorem bz_int (x : Int) (i : Nat) : (((bz x i).toNat : Nat) : Int) = x / 256 ^ i % 256 := by
  have h1 := Int.emod_nonneg (x / 256 ^ i) (show (256 : Int) ≠ 0 by decide)
  have h2 := Int.emod_lt_of_pos (x / 256 ^ i) (show (0 : Int) < 256 by decide)
  unfold bz
  rw [UInt8.toNat_ofNat']
  omega
def le4 (x : Int) : List UInt8 := [bz x 0, bz x 1, bz x 2, bz x 3]
/-- the numbers of a head -/
def nk (arr : Int) (r : Rc) : Nat → Int
  | 0 => arr
  | 1 => r.ep
  | 2 => r.sq
  | 3 => r.rw
  | _ => (maskR r : Int)
def secL (M : List UInt8) (arr : Int) (r : Rc) : Nat → List UInt8
  | 0 => M
  | k + 1 => secL M arr r k ++ le4 (nk arr r k)
theorem secL_len (M : List UInt8) (arr : Int) (r : Rc) : ∀ k, (secL M arr r k).length = M.length + 4 * k
  | 0 => rfl
  | k + 1 => by rw [secL, List.length_append, secL_len M arr r k]; simp [le4]; omega
/-- a head or a commit -/
def secV (M : List UInt8) (arr : Int) (r : Rc) : List UInt8 := secL M arr r 5 ++ Lib.repeatL [0] 40
theorem ix_5 (x i : Value) : Instr.index 103 x i = Ix 103 x i := rfl
theorem ix_n (arr : Int) (r : Rc) (k : Nat) (hk : k < 5) (w : World) : (Ix 103 (.agg #[.int .i64 arr, .int .i64 r.ep, .int .i64 r.sq, .int .i64 r.rw, .int .i64 (maskR r : Int)]) (.int .i64 (k : Int))).run Try.prog w = .ok (.int .i64 (nk arr r k)) w := by
  obtain rfl | rfl | rfl | rfl | rfl : k = 0 ∨ k = 1 ∨ k = 2 ∨ k = 3 ∨ k = 4 := by omega
  · exact (by kernel_rfl : (Ix 103 (.agg #[.int .i64 arr, .int .i64 r.ep, .int .i64 r.sq, .int .i64 r.rw, .int .i64 (maskR r : Int)]) (.int .i64 0)).run Try.prog w = .ok (.int .i64 arr) w)
  · exact (by kernel_rfl : (Ix 103 (.agg #[.int .i64 arr, .int .i64 r.ep, .int .i64 r.sq, .int .i64 r.rw, .int .i64 (maskR r : Int)]) (.int .i64 1)).run Try.prog w = .ok (.int .i64 r.ep) w)
  · exact (by kernel_rfl : (Ix 103 (.agg #[.int .i64 arr, .int .i64 r.ep, .int .i64 r.sq, .int .i64 r.rw, .int .i64 (maskR r : Int)]) (.int .i64 2)).run Try.prog w = .ok (.int .i64 r.sq) w)
  · exact (by kernel_rfl : (Ix 103 (.agg #[.int .i64 arr, .int .i64 r.ep, .int .i64 r.sq, .int .i64 r.rw, .int .i64 (maskR r : Int)]) (.int .i64 3)).run Try.prog w = .ok (.int .i64 r.rw) w)
  · exact (by kernel_rfl : (Ix 103 (.agg #[.int .i64 arr, .int .i64 r.ep, .int .i64 r.sq, .int .i64 r.rw, .int .i64 (maskR r : Int)]) (.int .i64 4)).run Try.prog w = .ok (.int .i64 (maskR r : Int)) w)
attribute [local go_sem ↓] ix_5
theorem byt_conv {w : World} {b n : Nat} {l : List UInt8} (h : Byt w 5 b l) (hn : l.length = n) (cap : Nat) :
    (convert 75 9 (.slice (some ⟨b, 0, none⟩) n cap)).run Try.prog w = .ok (.string ⟨l.toArray⟩) w := by
  subst hn
  exact run_back Try.prog w 75 9 5 b 0 cap l Try.underlying75 Try.underlying5 Try.underlying9 h.at

set_option maxHeartbeats 2000000 in
theorem sector_any (M : List UInt8) (hM : M.length = 4) (arr : Int) (r : Rc) (w : World) : Calls Try.prog 55 #[sv M, .int .i64 arr, .agg (rcC r)] w fun e w' => e = .returned (sv (secV M arr r)) ∧ Below w.heap.size w w' := by
  have RP := Lib.hid (fun w => (rep_0 40 (by decide) w : Calls Try.prog 28 #[.string ⟨#[0]⟩, .int .i64 40] w fun e w' => e = .returned (.string ⟨(Lib.repeatL [0] 40).toArray⟩) ∧ Below w.heap.size w w'))
  have MK := Lib.hid (fun w => mask_any r w)
  have HK0 := Lib.hid (Blk.new w 29 (rcC r) 0 0 (Or.inl (Nat.le_refl _)))
  have HB0 := Lib.hid ((Below.refl _ w).alloc (Nat.le_refl _) (.cells (rcC r) 29))
  have HM := Lib.hid hM
  go_enter Try.func55, Try.ntmps55
  go_upto_region 1 with fail
  generalize World.alloc _ _ = w1 at HK0 HB0 ⊢
  obtain ⟨hcv, hrow, hbw⟩ := conv_row w1 M (by rw [hM]; decide)
  rw [hM] at hrow
  have HR1 := Lib.hid hrow
  have HB1 := Lib.hid (Below.step HB0.out hbw)
  have HK1 := Lib.hid (HK0.out.step hbw)
  have hlt1 := HK0.out.lt
  clear hrow hbw
  go_upto_region 2 with fail
  generalize Lib.bytesWorld _ _ _ = w2 at HR1 HB1 HK1 ⊢
  clear hcv HK0 HB0
  generalize Value.slice (some ⟨w1.heap.size, 0, none⟩) 4 _ = v0 at HR1 ⊢
  have HRB : Hid (RowM w2 (w.heap.size + 1) v0 M) := by
    obtain ⟨g, cap, C, e1, e2, e3⟩ := HR1.out
    exact ⟨g, cap, C, e1, by omega, e3⟩
  clear HR1
  go_region_held3 (fun w' => w'.cell? ⟨w.heap.size, 0, none⟩ = some (.int .i64 r.ep) ∧ w'.cell? ⟨w.heap.size, 1, none⟩ = some (.int .i64 r.sq) ∧ w'.cell? ⟨w.heap.size, 2, none⟩ = some (.int .i64 r.rw) ∧ (Ld 29 (.pointer (some ⟨w.heap.size, 0, none⟩))).run Try.prog w' = .ok (.agg (rcC r)) w')
    (first | exact ⟨(Blk.drew HK1.out).rc.1, (Blk.drew HK1.out).rc.2.1, (Blk.drew HK1.out).rc.2.2, (Blk.drew HK1.out).ldR⟩ | exact ⟨HK2.out.rc.1, HK2.out.rc.2.1, HK2.out.rc.2.2, HK2.out.ldR⟩)
    ((go_at_call 39; refine (MK.out _).mono ?_; rintro e w3 ⟨rfl, hb0⟩; have hb := (Below.drewN (Below.refl _ w2) 1).trans hb0; have HK2 := Lib.hid (HK1.out.step hb); have HR2 := Lib.hid (HRB.out.kept hb); have HB2 := Lib.hid (Below.step HB1.out hb); clear hb hb0))
  clear HK1 HRB HB1
  have hlt2 := HK2.out.lt
  go_wp2
  go_loopw [22, 7] (fun i v wr => ∃ k : Nat, k ≤ 5 ∧ i = .int .i64 k ∧ RowM wr (w.heap.size + 1) v (secL M arr r k) ∧ w.heap.size + 1 ≤ wr.heap.size ∧ Below w.heap.size w wr) (fun i _ _ => 5 - (intOf i).toNat)
  case atStart => exact ⟨0, by omega, rfl, HR2.out, hlt2, HB2.out⟩
  case round =>
    obtain ⟨k, hk, rfl, hrow, hsz, hbel⟩ := hrel
    have HR := Lib.hid hrow
    have HB := Lib.hid hbel
    clear HR2 HK2 HB2 hrow hbel hlt2
    by_cases hlt : k < 5
    · have hlt' : (k : Int) < 5 := by omega
      have hix := ix_n arr r k hlt wr
      have HL : Hid (secL M arr r k ++ le4 (nk arr r k) = secL M arr r (k + 1)) := rfl
      have hlen : (secL M arr r k).length ≤ 24 := by rw [secL_len, HM.out]; omega
      have hbz0 := bz_int (nk arr r k) 0
      have hbz1 := bz_int (nk arr r k) 1
      have hbz2 := bz_int (nk arr r k) 2
      have hbz3 := bz_int (nk arr r k) 3
      have HLE : Hid (le4 (nk arr r k) = [bz (nk arr r k) 0, bz (nk arr r k) 1, bz (nk arr r k) 2, bz (nk arr r k) 3]) := rfl
      generalize nk arr r k = x at hix HL hbz0 hbz1 hbz2 hbz3 HLE
      rw [HLE.out] at HL
      generalize bz x 0 = b0 at HL hbz0
      generalize bz x 1 = b1 at HL hbz1
      generalize bz x 2 = b2 at HL hbz2
      generalize bz x 3 = b3 at HL hbz3
      generalize secL M arr r k = Lk at HR HL hlen
      have HQ : Hid (#[Value.int .u8 (x % 256), .int .u8 (x / 256 % 256), .int .u8 (x / 65536 % 256), .int .u8 (x / 16777216 % 256)] = ([b0, b1, b2, b3].map ubv).toArray) := by
        have e0 : x % 256 = ((b0.toNat : Nat) : Int) := by rw [hbz0]; simp
        have e1 : x / 256 % 256 = ((b1.toNat : Nat) : Int) := by rw [hbz1]; simp
        have e2 : x / 65536 % 256 = ((b2.toNat : Nat) : Int) := by rw [hbz2]; rfl
        have e3 : x / 16777216 % 256 = ((b3.toNat : Nat) : Int) := by rw [hbz3]; rfl
        show _ = #[ubv b0, ubv b1, ubv b2, ubv b3]
        rw [e0, e1, e2, e3]
      clear HLE hbz0 hbz1 hbz2 hbz3
      have tokA : True := trivial
      go_wp2_with (have _t := tokA; clear tokA; at_builtin; refine wpList_appM rfl (.tmp 25) (.tmp 37) rfl (w.heap.size + 1) _ Lk rfl (HR.out.kept ((Below.refl _ wr).alloc (Nat.le_refl _) (.cells #[Value.int .u8 (x % 256), .int .u8 (x / 256 % 256), .int .u8 (x / 65536 % 256), .int .u8 (x / 16777216 % 256)] 5))) ⟨wr.heap.size, 0, none⟩ 4 4 [b0, b1, b2, b3] rfl rfl (ubv4 _ _ b0 b1 b2 b3 _ _ _ _ HQ.out) (by omega) (by rw [size_alloc]; omega) ?_; intro v' w4 hr hg; rw [HL.out] at hr; have hsz4 := hg.size; rw [size_alloc] at hsz4; have HR4 := Lib.hid hr; have HB4 := Lib.hid ((HB.out.alloc (by omega) _).grown hg (by rw [size_alloc]; omega) (fun q hq => by have := (HR.out.lt q hq).1; omega)); clear hr hg)
      go_roundw
      case rel => exact ⟨k + 1, by omega, by go_num, HR4.out, by omega, HB4.out⟩
      case measure => simp [intOf] <;> omega
    · have h5 : k = 5 := by omega
      subst h5
      obtain ⟨g, cap, rfl, hbg, hbyt⟩ := HR.out.byt
      have hlen : (secL M arr r 5).length = 24 := by rw [secL_len, HM.out]
      have HBY := Lib.hid hbyt
      have HLN := Lib.hid hlen
      have HV : Hid (secV M arr r = secL M arr r 5 ++ Lib.repeatL [0] 40) := rfl
      rw [hlen]
      generalize secL M arr r 5 = X at HBY HLN HV
      have hsum : ¬ 9223372036854775807 < X.length + (Lib.repeatL [0] 40).length := by rw [HLN.out]; decide
      generalize Lib.repeatL [0] 40 = Y at RP hsum HV
      clear HR hlen hbyt hbg
      go_upto_region 7 with fail
      go_region_held3 (fun w' => (convert 75 9 (.slice (some ⟨g, 0, none⟩) 24 cap)).run Try.prog w' = .ok (.string ⟨X.toArray⟩) w')
        (first | exact byt_conv HBY.out HLN.out cap | exact byt_conv (Byt.drew HBY.out) HLN.out cap | exact byt_conv (Byt.step (Byt.drew HBY.out) hb1.out) HLN.out cap)
        ((go_at_call 28; refine (RP.out _).mono ?_; rintro e w5 ⟨rfl, hb0⟩; have hb1 := Lib.hid hb0; clear hb0))
      go_wp2
      go_ret
      exact ⟨by rw [HV.out, str_append]; rfl, Below.step HB.out ((Below.drewN (Below.refl _ wr) 1).trans hb1.out)⟩
end Go.Proofs.Ytccbohjcbhibkaa
