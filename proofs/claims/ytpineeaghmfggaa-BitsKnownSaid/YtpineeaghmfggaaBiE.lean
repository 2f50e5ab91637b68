/- Package bits: Bytes. Condition: numbers of 64 bits. -/
import Derived.Test.YtpineeaghmfggaaBiD
import Derived.Test.YtpineeaghmfggaaRep
import Derived.Lib.SlBytesConst
import Derived.ArgAppend
namespace Go.Proofs.Ytpineeaghmfggaa
set_option linter.unusedVariables false
set_option linter.unusedSimpArgs false
set_option maxRecDepth 100000
open Go.RowKit
attribute [local go_sem ↓] Go.wp_at_zero Go.wp_at_succ

theorem row_new (w : World) (e : TypeId) (l : List UInt8) (C : Array Value) (hC : C = (l.map ubv).toArray) (h : l.length ≤ maxLen) :
    (w.alloc (.cells C e)).ownsRow w.heap.size e 1 (.slice (some ⟨w.heap.size, 0, none⟩) l.length l.length) l.length (l.map ubv) := by
  subst hC
  refine ⟨by simp, Or.inr ⟨w.heap.size, l.length, (l.map ubv).toArray, rfl, Nat.le_refl _, heap_alloc_new w _, Nat.le_refl _, h, by simp, ?_⟩⟩
  simp only [Nat.mul_one]
  rw [List.take_of_length_le (by simp)]
theorem one_cell (w : World) (e : TypeId) (x : Value) : ∀ j u, ([x] : List Value)[j]? = some u → (w.alloc (.cells #[x] e)).cell? ((⟨w.heap.size, 0, none⟩ : Addr).add j) = some u := by
  intro j u hj
  match j, hj with
  | 0, hj =>
    rw [addr_add, (Blk.new w e #[x] 0 0 (Or.inl (Nat.le_refl _))).cell]
    exact hj
theorem one_one (k : IntKind) (b : Int) : ∀ u ∈ [Value.int k b], u.oneCell' = true := by
  intro u hu
  rw [List.mem_singleton] at hu
  subst hu
  rfl
theorem info_u8 : (Try.prog.info? 5).map (fun i => (i.zero, i.size, i.bytes)) = some (some (.int .u8 0), 1, 1) := by kernel_rfl
theorem byt_of_row {w : World} {base : Nat} {e : TypeId} {v : Value} {n : Nat} {l : List UInt8} (h : w.ownsRow base e 1 v n (l.map ubv)) (hn : 0 < n) :
    ∃ g cap, v = .slice (some ⟨g, 0, none⟩) n cap ∧ base ≤ g ∧ Byt w e g l ∧ l.length = n := by
  obtain ⟨hl, h⟩ := h
  rw [List.length_map, Nat.mul_one] at hl
  rcases h with ⟨_, h0⟩ | ⟨g, cap, cur, rfl, hb, hh, hc, hm, hs, ht⟩
  · omega
  · refine ⟨g, cap, rfl, hb, ⟨cur, ⟨0, 0, hh, Or.inl (Nat.le_refl _)⟩, fun j hj => ?_⟩, hl⟩
    have h1 : (cur.toList.take (n * 1))[j]? = (l.map ubv)[j]? := by rw [ht]
    rw [List.getElem?_take, if_pos (by omega), List.getElem?_map, List.getElem?_eq_getElem hj] at h1
    simpa using h1
theorem byt_conv {w : World} {b n : Nat} {l : List UInt8} (h : Byt w 5 b l) (hn : l.length = n) (cap : Nat) :
    (convert 39 9 (.slice (some ⟨b, 0, none⟩) n cap)).run Try.prog w = .ok (.string ⟨l.toArray⟩) w := by
  subst hn
  exact run_back Try.prog w 39 9 5 b 0 cap l Try.underlying39 Try.underlying5 Try.underlying9 h.at

/-- byte i of a number, the small one first -/
def byN (n i : Nat) : UInt8 := UInt8.ofNat (n / 2 ^ (8 * i))
def headN (n k : Nat) : List UInt8 := [66, 73, 84, 1] ++ (List.range k).map (byN n)
theorem headN_len (n k : Nat) : (headN n k).length = 4 + k := by simp [headN]; omega
theorem headN_next (n k : Nat) : headN n (k + 1) = headN n k ++ [byN n k] := by
  simp [headN, List.range_succ]
theorem byN_int (n i : Nat) : (((byN n i).toNat : Nat) : Int) = (n : Int) / 2 ^ (8 * i) % 256 := by
  have e : (byN n i).toNat = n / 2 ^ (8 * i) % 256 := by simp [byN]
  rw [e, Int.natCast_emod, Int.natCast_ediv, Int.natCast_pow]
  rfl
/-- the sector of a number -/
def bytesV (n : Nat) : List UInt8 := headN n 8 ++ Lib.repeatL [0] 52

theorem rep_0 (c : Nat) (hc : c ≤ 1000) (w : World) : Calls Try.prog 25 #[.string ⟨#[0]⟩, .int .i64 (c : Int)] w fun e w' => e = .returned (.string ⟨(Lib.repeatL [0] c).toArray⟩) ∧ Below w.heap.size w w' :=
  repeat_any ⟨#[0]⟩ c w (by omega) (by show 1 * c ≤ _; omega)

set_option maxHeartbeats 1000000 in
theorem bytes_any (n : Nat) (hn : B64 n) (w : World) : Calls Try.prog 16 #[bv n] w fun e w' => e = .returned (.string ⟨(bytesV n).toArray⟩) ∧ Below w.heap.size w w' := by
  have RP := Lib.hid (fun w => (rep_0 52 (by decide) w : Calls Try.prog 25 #[.string ⟨#[0]⟩, .int .i64 52] w fun e w' => e = .returned (.string ⟨(Lib.repeatL [0] 52).toArray⟩) ∧ Below w.heap.size w w'))
  obtain ⟨i0, hi, hz0, hz1, hz2⟩ := info_parts info_u8
  have kc := Lib.run_convert_bytes_const (P := Try.prog) (w.alloc (.cells #[.int .u64 (n : Int)] 25)) 39 5 #[.int .u8 66, .int .u8 73, .int .u8 84, .int .u8 1] 4 4 Try.underlying39 Try.underlying5
  rw [size_alloc] at kc
  go_enter Try.func16, Try.ntmps16
  go_upto_region 2 with fail
  have HK0 := Lib.hid ((Blk.new w 25 #[.int .u64 (n : Int)] 0 0 (Or.inl (Nat.le_refl _))).alloc (.cells #[.int .u8 66, .int .u8 73, .int .u8 84, .int .u8 1] 5 (4, 5)))
  have HM0 := Blk.new (w.alloc (.cells #[.int .u64 (n : Int)] 25)) 5 #[.int .u8 66, .int .u8 73, .int .u8 84, .int .u8 1] 4 5 (Or.inr (by simp))
  rw [size_alloc] at HM0
  have HM0 := Lib.hid HM0
  have HB0 := Lib.hid (((Below.refl _ w).alloc (Nat.le_refl _) (.cells #[.int .u64 (n : Int)] 25)).alloc (by simp) (.cells #[.int .u8 66, .int .u8 73, .int .u8 84, .int .u8 1] 5 (4, 5)))
  generalize World.alloc (World.alloc _ _) _ = w1 at HK0 HM0 HB0 ⊢
  go_wp2
  go_loopw [7, 3] (fun i v wr => ∃ k : Nat, k ≤ 8 ∧ i = .int .i64 k ∧ ((k = 0 ∧ v = .slice (some ⟨w.heap.size + 1, 0, none⟩) 4 4 ∧ Blk wr (w.heap.size + 1) 5 #[.int .u8 66, .int .u8 73, .int .u8 84, .int .u8 1]) ∨ (0 < k ∧ wr.ownsRow (w.heap.size + 1) 5 1 v (4 + k) ((headN n k).map ubv))) ∧ Blk wr w.heap.size 25 #[.int .u64 (n : Int)] ∧ Below w.heap.size w wr) (fun i _ _ => 8 - (intOf i).toNat)
  case atStart => exact ⟨0, by omega, rfl, Or.inl ⟨rfl, rfl, HM0.out⟩, HK0.out, HB0.out⟩
  case round =>
    obtain ⟨k, hk, rfl, hown, hbk, hbel⟩ := hrel
    have HK := Lib.hid hbk
    have HB := Lib.hid hbel
    have hlt1 : w.heap.size + 1 ≤ wr.heap.size := hbk.lt
    clear HK0 HB0 HM0
    by_cases hlt : k < 8
    · have hlt' : (k : Int) < 8 := by omega
      have hc := hbk.cell 0
      have HN := Lib.hid (headN_next n k)
      have HY := Lib.hid (byN_int n k)
      clear hbk hbel
      rcases hown with ⟨rfl, rfl, hm⟩ | ⟨hk0, hown⟩
      · have HM := Lib.hid hm
        have e1 : (headN n 0).map ubv ++ [.int .u8 ((n : Int) % 256)] = (headN n 1).map ubv := by
          rw [HN.out, List.map_append]
          show _ = _ ++ [ubv (byN n 0)]
          have h := HY.out
          rw [Nat.mul_zero, Int.pow_zero, Int.ediv_one] at h
          rw [← h]
        have HE1 := Lib.hid e1
        clear hm e1
        have tokA : True := trivial
        go_wp2_with (have _t := tokA; clear tokA; at_builtin; refine wpList_append_grows _ rfl (.tmp 10) (.tmp 17) 39 rfl 5 i0 (.int .u8 0) 1 1 Try.underlying39 hi hz0 hz1 hz2 rfl (by decide) (some ⟨w.heap.size + 1, 0, none⟩) 4 4 ((headN n 0).map ubv) rfl (fun h => by cases h) (by rw [List.length_map, headN_len]) (fun b hb j u hj => by obtain rfl := Option.some.inj hb; rw [addr_add, (HM.out.alloc _).cell, Nat.zero_add, ← hj]; match j with | 0 | 1 | 2 | 3 => rfl | j + 4 => rfl) ⟨wr.heap.size, 0, none⟩ 1 1 [.int .u8 ((n : Int) % 256)] rfl rfl (one_cell _ _ _) (one_one _ _) (by decide) (by decide) (by decide) ?_; intro v' w4 hown hg; rw [HE1.out, size_alloc] at hown; have HO4 := Lib.hid (own_weak hown (show w.heap.size + 1 ≤ _ by omega)); have HK4 := Lib.hid ((HK.out.alloc _).grown hg (fun q hq => by cases hq)); have HB5 := Lib.hid ((HB.out.alloc (by omega) _).grown hg (by rw [size_alloc]; omega) (fun q hq => by cases hq)); clear hown hg)
        go_roundw
        case rel => exact ⟨1, by omega, by go_num, Or.inr ⟨by omega, HO4.out⟩, HK4.out, HB5.out⟩
        case measure => simp [intOf] <;> omega
      · have HO := Lib.hid hown
        have e1 : (headN n k).map ubv ++ [.int .u8 ((n : Int) / 2 ^ (8 * k) % 256)] = (headN n (k + 1)).map ubv := by
          rw [HN.out, List.map_append]
          show _ = _ ++ [ubv (byN n k)]
          rw [← HY.out]
        have HE1 := Lib.hid e1
        clear hown e1
        have tokA : True := trivial
        go_wp2_with (have _t := tokA; clear tokA; at_builtin; refine wpList_append_own _ rfl (.tmp 10) (.tmp 17) 39 rfl (w.heap.size + 1) 5 i0 (.int .u8 0) 1 1 Try.underlying39 hi hz0 hz1 hz2 rfl (by decide) _ _ _ rfl (HO.out.alloc (.cells #[.int .u8 ((n : Int) / 2 ^ (8 * k) % 256)] 5)) ⟨wr.heap.size, 0, none⟩ 1 1 [.int .u8 ((n : Int) / 2 ^ (8 * k) % 256)] rfl rfl (one_cell _ _ _) (one_one _ _) (by unfold maxLen; omega) (by omega) (by rw [size_alloc]; omega) ?_; intro v' w4 hown hg _; rw [HE1.out] at hown; have HO4 := Lib.hid hown; have HK4 := Lib.hid ((HK.out.alloc _).grown hg (fun q hq => by have := (HO.out.lt q hq).1; omega)); have HB5 := Lib.hid ((HB.out.alloc (by omega) _).grown hg (by rw [size_alloc]; omega) (fun q hq => by have := (HO.out.lt q hq).1; omega)); clear hown hg)
        go_roundw
        case rel => exact ⟨k + 1, by omega, by go_num, Or.inr ⟨by omega, HO4.out⟩, HK4.out, HB5.out⟩
        case measure => simp [intOf] <;> omega
    · have h8 : k = 8 := by omega
      subst h8
      clear hbk hbel
      obtain ⟨g, cap, rfl, hbg, hbyt, hlen⟩ : ∃ g cap, u3 = .slice (some ⟨g, 0, none⟩) 12 cap ∧ w.heap.size + 1 ≤ g ∧ Byt wr 5 g (headN n 8) ∧ (headN n 8).length = 12 := by
        rcases hown with ⟨h, _⟩ | ⟨_, hown⟩
        · omega
        · exact byt_of_row hown (by decide)
      have HBY := Lib.hid hbyt
      have HLN := Lib.hid hlen
      have hsum : ¬ 9223372036854775807 < (headN n 8).length + (Lib.repeatL [0] 52).length := by rw [hlen]; decide
      have HV : Hid (bytesV n = headN n 8 ++ Lib.repeatL [0] 52) := rfl
      clear hown hbyt hlen hbg
      generalize headN n 8 = X at HBY HLN hsum HV
      generalize Lib.repeatL [0] 52 = Y at RP hsum HV
      go_upto_region 7 with fail
      go_region_held3 (fun w' => (convert 39 9 (.slice (some ⟨g, 0, none⟩) 12 cap)).run Try.prog w' = .ok (.string ⟨X.toArray⟩) w')
        (first | exact byt_conv HBY.out HLN.out cap | exact byt_conv (Byt.drew HBY.out) HLN.out cap | exact byt_conv (Byt.step (Byt.drew HBY.out) hb1.out) HLN.out cap)
        ((go_at_call 25; refine (RP.out _).mono ?_; rintro e w1 ⟨rfl, hb0⟩; have hb1 := Lib.hid hb0; clear hb0))
      go_wp2
      go_ret
      exact ⟨by rw [HV.out, str_append]; rfl, Below.step HB.out ((Below.drewN (Below.refl _ wr) 1).trans hb1.out)⟩
end Go.Proofs.Ytpineeaghmfggaa
