/- What the reference's Read of a frame computes: as package ether's. -/
import Derived.Test.YtlonhelfcacmeaaEtherR
namespace Go.Proofs.Ytlonhelfcacmeaa
set_option linter.unusedVariables false
open Go.RowKit
attribute [local go_sem ↓] Go.wp_at_zero Go.wp_at_succ

theorem refRead_short (s : ByteArray) (w : World) (h : s.size < 14) :
    Calls Try.prog 10 #[.string s] w fun e w' => e = .returned (.tuple #[fr0, .int .i64 7]) ∧ Below w.heap.size w w' := by
  go_enter Try.func10, Try.ntmps10
  go_wp2
  exact bodyPost_ret (results_blk Try.results10 _ _ w.heap.size _ _ _ rfl (Blk.new w _ _ 0 0 (Or.inl (Nat.le_refl _))) Try.underlying26 rfl size_fr) rfl ⟨rfl, (Below.refl _ _).alloc (Nat.le_refl _) _⟩

theorem refRead_long (s : ByteArray) (w : World) (h : 600 < s.size) (hs : s.size ≤ 9223372036854775807) :
    Calls Try.prog 10 #[.string s] w fun e w' => e = .returned (.tuple #[fr0, .int .i64 3]) ∧ Below w.heap.size w w' := by
  go_enter Try.func10, Try.ntmps10
  go_wp2
  exact bodyPost_ret (results_blk Try.results10 _ _ w.heap.size _ _ _ rfl (Blk.new w _ _ 0 0 (Or.inl (Nat.le_refl _))) Try.underlying26 rfl size_fr) rfl ⟨rfl, (Below.refl _ _).alloc (Nat.le_refl _) _⟩

/-- the frame's cells after k rounds -/
def rdC (s : ByteArray) (N : Int) (d : ByteArray) (k : Nat) : Array Value :=
  ((List.range 6).map (fun i => if i < k then ubv (bat s i) else Value.int .u8 0) ++ (List.range 6).map (fun i => if i < k then ubv (bat s (6 + i)) else Value.int .u8 0) ++ [Value.int .i64 N, Value.string d]).toArray

theorem rdC_step (s : ByteArray) (N : Int) (d : ByteArray) (k : Nat) (h : k < 6) :
    ((rdC s N d k).setIfInBounds k (ubv (bat s k))).setIfInBounds (6 + k) (ubv (bat s (6 + k))) = rdC s N d (k + 1) := by
  match k, h with
  | 0, _ | 1, _ | 2, _ | 3, _ | 4, _ | 5, _ => rfl

theorem rdC_one (s : ByteArray) (N : Int) (d : ByteArray) (k : Nat) : (rdC s N d k).toList.all (·.oneCell') = true := by
  simp only [rdC, List.all_append, Bool.and_eq_true]
  refine ⟨⟨?_, ?_⟩, rfl⟩
  · rw [List.all_map, List.all_eq_true]
    intro i _
    show (if i < k then ubv (bat s i) else Value.int .u8 0).oneCell' = true
    split <;> rfl
  · rw [List.all_map, List.all_eq_true]
    intro i _
    show (if i < k then ubv (bat s (6 + i)) else Value.int .u8 0).oneCell' = true
    split <;> rfl

theorem rdC_size (s : ByteArray) (N : Int) (d : ByteArray) (k : Nat) : (rdC s N d k).size = 14 := by simp [rdC]

set_option maxRecDepth 100000 in
set_option maxHeartbeats 1000000 in
theorem refRead_ok (s : ByteArray) (w : World) (h : 14 ≤ s.size) (h2 : s.size ≤ 600) :
    Calls Try.prog 10 #[.string s] w fun e w' => e = .returned (.tuple #[frOf s, .int .i64 0]) ∧ Below w.heap.size w w' := by
  have b12 : s[12]'(by omega) = bat s 12 := bat_get s 12 (by omega)
  have b13 : s[13]'(by omega) = bat s 13 := bat_get s 13 (by omega)
  have hl12 : ((bat s 12).toNat : Int) < 256 := by have := (bat s 12).toNat_lt; omega
  have hl13 : ((bat s 13).toNat : Int) < 256 := by have := (bat s 13).toNat_lt; omega
  go_enter Try.func10, Try.ntmps10
  go_wp2
  go_region
  go_wp2
  obtain ⟨N, hN⟩ : ∃ N : Int, N = ((bat s 12).toNat : Int) * 256 + ((bat s 13).toNat : Int) := ⟨_, rfl⟩
  have HN := Lib.hid hN
  rw [← hN]
  clear hN hl12 hl13 b12 b13
  go_loopw [5] (fun i wr => ∃ k : Nat, k ≤ 6 ∧ i = .int .i64 k ∧ Blk wr (w.heap.size + 1) 26 (rdC s N (s.extract 14 s.size) k) ∧ Blk wr w.heap.size 26 (Value.cells fr0) ∧ Below w.heap.size w wr) (fun i _ => 6 - (intOf i).toNat)
  case atStart =>
    refine ⟨0, by omega, rfl, ?_, ?_, ?_⟩
    · have h := Blk.new (w.alloc (.cells (Value.cells fr0) 26)) 26 (rdC s N (s.extract 14 s.size) 0) 0 0 (Or.inl (Nat.le_refl _))
      rw [size_alloc] at h
      exact h.drew
    · exact ((Blk.new w 26 _ 0 0 (Or.inl (Nat.le_refl _))).alloc _).drew
    · exact (((Below.refl _ _).alloc (Nat.le_refl _) _).alloc (by simp) _).drew
  case round =>
    obtain ⟨k, hk, rfl, hbk, hbr, hbel⟩ := hrel
    by_cases hlt : k < 6
    · have e1 : s[k]'(by omega) = bat s k := bat_get s k (by omega)
      have e2 : s[6 + k]'(by omega) = bat s (6 + k) := bat_get s (6 + k) (by omega)
      have c1 := hbk.cell k
      have c2 := hbk.cell (6 + k)
      have f1 := hbk.free k (by rw [rdC_size]; omega)
      have f2 := hbk.free (6 + k) (by rw [rdC_size]; omega)
      rw [Array.getElem?_eq_getElem (by rw [rdC_size]; omega)] at c1 c2
      have HS := (hbk.set k (ubv (bat s k))).set (6 + k) (ubv (bat s (6 + k)))
      rw [rdC_step s N _ k hlt] at HS
      have H1 := Lib.hid HS
      have H2 := Lib.hid ((hbr.set_other ⟨w.heap.size + 1, k, none⟩ (ubv (bat s k)) (by simp)).set_other ⟨w.heap.size + 1, 6 + k, none⟩ (ubv (bat s (6 + k))) (by simp))
      have H3 := Lib.hid hbel
      generalize (rdC s N (s.extract 14 s.size) k)[k]'_ = v1 at c1
      generalize (rdC s N (s.extract 14 s.size) k)[6 + k]'_ = v2 at c2
      clear HS hbk hbr hbel
      go_wp2
      go_roundw
      case rel => exact ⟨k + 1, by omega, by go_num, H1.out, H2.out, (H3.out.setCell (by simp) _).setCell (by simp) _⟩
      case measure => simp [intOf]; omega
    · have hk6 : k = 6 := by omega
      have H1 := Lib.hid hbk
      have H2 := Lib.hid hbr
      have H3 := Lib.hid hbel
      have HK := Lib.hid hk6
      clear hbk hbr hbel hk6
      go_wp2_with (first
        | (refine wpList_load_blk rfl 26 _ rfl _ rfl _ _ _ H1.out Try.underlying26 rfl (by rw [rdC_size]; exact size_fr) ?_)
        | (refine wpList_store_blk rfl 26 _ _ rfl _ _ rfl rfl _ _ H2.out (by rw [rdC_size]; rfl) (by rw [rdC_size]; exact size_fr) (rdC_one _ _ _ _) ?_))
      refine bodyPost_ret (results_blk Try.results10 _ _ w.heap.size _ _ _ rfl (H2.out.setAll (by rw [rdC_size]; rfl)) Try.underlying26 rfl (by rw [rdC_size]; exact size_fr)) rfl ⟨?_, Below.setCells H3.out (Nat.le_refl _) _ _⟩
      rw [HK.out, HN.out]
      rfl

theorem refRead_any (s : ByteArray) (w : World) (hs : s.size ≤ 9223372036854775807) :
    Calls Try.prog 10 #[.string s] w fun e w' => e = .returned (.tuple #[(rdFr s).1, .int .i64 (rdFr s).2]) ∧ Below w.heap.size w w' := by
  unfold rdFr
  by_cases h1 : s.size < 14
  · rw [if_pos h1]; exact refRead_short s w h1
  · rw [if_neg h1]
    by_cases h2 : 600 < s.size
    · rw [if_pos h2]; exact refRead_long s w h2 hs
    · rw [if_neg h2]; exact refRead_ok s w (by omega) (by omega)

end Go.Proofs.Ytlonhelfcacmeaa
