/- What package ether's Read computes, and the reference's. -/
import Derived.Test.YtlonhelfcacmeaaEther
import Derived.Lib.LazyBuf
namespace Go.Proofs.Ytlonhelfcacmeaa
set_option linter.unusedVariables false
open Go.RowKit
attribute [local go_sem ↓] Go.wp_at_zero Go.wp_at_succ

theorem rd2 (s : ByteArray) (a : Nat) (h : a + 2 ≤ s.size) : rdBig s (a : Int) 2 = (((bat s a).toNat * 256 + (bat s (a + 1)).toNat : Nat) : Int) := by
  have h1 : rdOk s a 2 = true := by simp [rdOk]; omega
  rw [rdBig, if_pos h1, Int.toNat_natCast]
  have : pieceL s a (2 : Int).toNat = [bat s a, bat s (a + 1)] := by
    show pieceL s a 2 = _
    unfold pieceL
    rw [take_from s a 2 h]
    rfl
  rw [this]
  simp [bigv]

abbrev fr0 : Value := .agg #[.int .u8 0, .int .u8 0, .int .u8 0, .int .u8 0, .int .u8 0, .int .u8 0, .int .u8 0, .int .u8 0, .int .u8 0, .int .u8 0, .int .u8 0, .int .u8 0, .int .i64 0, .string ⟨#[]⟩]
/-- the frame that a text is -/
def frOf (s : ByteArray) : Value := frV (bat s 0) (bat s 1) (bat s 2) (bat s 3) (bat s 4) (bat s 5) (bat s 6) (bat s 7) (bat s 8) (bat s 9) (bat s 10) (bat s 11)
  (((bat s 12).toNat * 256 + (bat s 13).toNat : Nat) : Int) (s.extract 14 s.size)

theorem size_fr : (Try.prog.info? 26).map (·.size) = some 14 := by kernel_rfl
theorem size_u8 : (Try.prog.info? 5).map (·.size) = some 1 := by kernel_rfl

theorem read_short (s : ByteArray) (w : World) (h : s.size < 14) :
    Calls Try.prog 9 #[.string s] w fun e w' => e = .returned (.tuple #[fr0, .int .i64 7]) ∧ Below w.heap.size w w' := by
  go_enter Try.func9, Try.ntmps9
  go_wp2
  exact bodyPost_ret (results_blk Try.results9 _ _ w.heap.size _ _ _ rfl (Blk.new w _ _ 0 0 (Or.inl (Nat.le_refl _))) Try.underlying26 rfl size_fr) rfl ⟨rfl, (Below.refl _ _).alloc (Nat.le_refl _) _⟩

theorem read_long (s : ByteArray) (w : World) (h : 600 < s.size) (hs : s.size ≤ 9223372036854775807) :
    Calls Try.prog 9 #[.string s] w fun e w' => e = .returned (.tuple #[fr0, .int .i64 3]) ∧ Below w.heap.size w w' := by
  go_enter Try.func9, Try.ntmps9
  go_wp2
  exact bodyPost_ret (results_blk Try.results9 _ _ w.heap.size _ _ _ rfl (Blk.new w _ _ 0 0 (Or.inl (Nat.le_refl _))) Try.underlying26 rfl size_fr) rfl ⟨rfl, (Below.refl _ _).alloc (Nat.le_refl _) _⟩


set_option maxRecDepth 100000 in
set_option maxHeartbeats 2000000 in
theorem read_ok (s : ByteArray) (w : World) (h : 14 ≤ s.size) (h2 : s.size ≤ 600) :
    Calls Try.prog 9 #[.string s] w fun e w' => e = .returned (.tuple #[frOf s, .int .i64 0]) ∧ Below w.heap.size w w' := by
  have hrd : rdBig s 12 2 = (((bat s 12).toNat * 256 + (bat s 13).toNat : Nat) : Int) := rd2 s 12 (by omega)
  obtain ⟨N, hN⟩ : ∃ N : Int, N = rdBig s 12 2 := ⟨_, rfl⟩
  have hn0 : 0 ≤ N ∧ N ≤ 65535 := by
    have := (bat s 12).toNat_lt
    have := (bat s 13).toNat_lt
    rw [hN, hrd]
    omega
  obtain ⟨hn1, hn2⟩ := hn0
  have HN := Lib.hid (show N = (((bat s 12).toNat * 256 + (bat s 13).toNat : Nat) : Int) from hN.trans hrd)
  have HN2 := Lib.hid hN
  have he := Lib.hid (show (s.extract 6 s.size).data.toList.take 6 = [bat s 6, bat s 7, bat s 8, bat s 9, bat s 10, bat s 11] from by
    rw [extract_list, List.take_take, show min 6 (s.size - 6) = 6 by omega]
    exact take_from s 6 6 (by omega))
  have ht := Lib.hid (show s.data.toList.take 6 = [bat s 0, bat s 1, bat s 2, bat s 3, bat s 4, bat s 5] from take_from s 0 6 (by omega))
  have hes : 6 ≤ (s.extract 6 s.size).size := by simp; omega
  clear hrd hN
  go_enter Try.func9, Try.ntmps9
  go_wp2_with fail
  refine (readBig_any _ s 12 2 (by omega) (by omega) (by omega)).mono ?_
  rintro e w1 ⟨rfl, hb1⟩
  rw [← HN2.out]
  have hB1 : Below w.heap.size w w1 := ((Below.refl _ _).alloc (Nat.le_refl _) _).trans (hb1.mono (by simp))
  have hsz : w.heap.size + 1 ≤ w1.heap.size := by have := hb1.size; simpa using this
  have HB1 := Lib.hid hB1
  have hR0 : Blk w1 w.heap.size 26 (Value.cells fr0) := (Blk.new w _ _ 0 0 (Or.inl (Nat.le_refl _))).below hb1 (by simp)
  have HR := Lib.hid hR0
  clear hb1 hB1 hR0
  have c1 := run_copy_new Try.prog w1 46 9 3 5 26
    #[.int .u8 0, .int .u8 0, .int .u8 0, .int .u8 0, .int .u8 0, .int .u8 0, .int .u8 0, .int .u8 0, .int .u8 0, .int .u8 0, .int .u8 0, .int .u8 0, .int .i64 N, .string (s.extract 14 s.size)]
    #[.int .u8 (bat s 0).toNat, .int .u8 (bat s 1).toNat, .int .u8 (bat s 2).toNat, .int .u8 (bat s 3).toNat, .int .u8 (bat s 4).toNat, .int .u8 (bat s 5).toNat, .int .u8 0, .int .u8 0, .int .u8 0, .int .u8 0, .int .u8 0, .int .u8 0, .int .i64 N, .string (s.extract 14 s.size)]
    0 6 6 s _ Try.underlying46 size_u8 (by omega) ht.out (by simp) rfl
  have c2 := run_copy_new Try.prog w1.drew 46 9 3 5 26
    #[.int .u8 (bat s 0).toNat, .int .u8 (bat s 1).toNat, .int .u8 (bat s 2).toNat, .int .u8 (bat s 3).toNat, .int .u8 (bat s 4).toNat, .int .u8 (bat s 5).toNat, .int .u8 0, .int .u8 0, .int .u8 0, .int .u8 0, .int .u8 0, .int .u8 0, .int .i64 N, .string (s.extract 14 s.size)]
    #[.int .u8 (bat s 0).toNat, .int .u8 (bat s 1).toNat, .int .u8 (bat s 2).toNat, .int .u8 (bat s 3).toNat, .int .u8 (bat s 4).toNat, .int .u8 (bat s 5).toNat, .int .u8 (bat s 6).toNat, .int .u8 (bat s 7).toNat, .int .u8 (bat s 8).toNat, .int .u8 (bat s 9).toNat, .int .u8 (bat s 10).toNat, .int .u8 (bat s 11).toNat, .int .i64 N, .string (s.extract 14 s.size)]
    6 6 6 (s.extract 6 s.size) _ Try.underlying46 size_u8 hes he.out (by simp) rfl
  have c2' := (show Sem.run Try.prog (Builtin.copy_ #[46, 9] 3 #[.slice (some ⟨w1.heap.size, 6, none⟩) 6 6, .string (s.extract 6 s.size)])
    (w1.alloc (.cells #[.int .u8 (bat s 0).toNat, .int .u8 (bat s 1).toNat, .int .u8 (bat s 2).toNat, .int .u8 (bat s 3).toNat, .int .u8 (bat s 4).toNat, .int .u8 (bat s 5).toNat, .int .u8 0, .int .u8 0, .int .u8 0, .int .u8 0, .int .u8 0, .int .u8 0, .int .i64 N, .string (s.extract 14 s.size)] 26)).drew = .ok (goInt 6)
    (w1.alloc (.cells #[.int .u8 (bat s 0).toNat, .int .u8 (bat s 1).toNat, .int .u8 (bat s 2).toNat, .int .u8 (bat s 3).toNat, .int .u8 (bat s 4).toNat, .int .u8 (bat s 5).toNat, .int .u8 (bat s 6).toNat, .int .u8 (bat s 7).toNat, .int .u8 (bat s 8).toNat, .int .u8 (bat s 9).toNat, .int .u8 (bat s 10).toNat, .int .u8 (bat s 11).toNat, .int .i64 N, .string (s.extract 14 s.size)] 26)).drew from c2)
  clear c2
  go_wp2
  go_region
  have hK := Lib.hid (Blk.new w1 26 #[.int .u8 (bat s 0).toNat, .int .u8 (bat s 1).toNat, .int .u8 (bat s 2).toNat, .int .u8 (bat s 3).toNat, .int .u8 (bat s 4).toNat, .int .u8 (bat s 5).toNat, .int .u8 (bat s 6).toNat, .int .u8 (bat s 7).toNat, .int .u8 (bat s 8).toNat, .int .u8 (bat s 9).toNat, .int .u8 (bat s 10).toNat, .int .u8 (bat s 11).toNat, .int .i64 N, .string (s.extract 14 s.size)] 0 0 (Or.inl (Nat.le_refl _))).drew
  have hR2 := Lib.hid (HR.out.alloc (.cells #[.int .u8 (bat s 0).toNat, .int .u8 (bat s 1).toNat, .int .u8 (bat s 2).toNat, .int .u8 (bat s 3).toNat, .int .u8 (bat s 4).toNat, .int .u8 (bat s 5).toNat, .int .u8 (bat s 6).toNat, .int .u8 (bat s 7).toNat, .int .u8 (bat s 8).toNat, .int .u8 (bat s 9).toNat, .int .u8 (bat s 10).toNat, .int .u8 (bat s 11).toNat, .int .i64 N, .string (s.extract 14 s.size)] 26)).drew
  have hB2 := Lib.hid (HB1.out.alloc HB1.out.size (.cells #[.int .u8 (bat s 0).toNat, .int .u8 (bat s 1).toNat, .int .u8 (bat s 2).toNat, .int .u8 (bat s 3).toNat, .int .u8 (bat s 4).toNat, .int .u8 (bat s 5).toNat, .int .u8 (bat s 6).toNat, .int .u8 (bat s 7).toNat, .int .u8 (bat s 8).toNat, .int .u8 (bat s 9).toNat, .int .u8 (bat s 10).toNat, .int .u8 (bat s 11).toNat, .int .i64 N, .string (s.extract 14 s.size)] 26)).drew
  clear c1 c2' HR HB1
  generalize (w1.alloc _).drew = W2 at hK hR2 hB2 ⊢
  go_wp2_with (first
    | (refine wpList_load_blk rfl 26 _ rfl _ rfl _ _ _ hK.out Try.underlying26 rfl size_fr ?_)
    | (refine wpList_store_blk rfl 26 _ _ rfl _ _ rfl rfl _ _ hR2.out rfl size_fr rfl ?_))
  refine bodyPost_ret (results_blk Try.results9 _ _ w.heap.size _ _ _ rfl (hR2.out.setAll (by rfl)) Try.underlying26 rfl size_fr) rfl ⟨?_, Below.setCells hB2.out (Nat.le_refl _) _ _⟩
  rw [HN.out]
  rfl

/-- what a text is read as -/
def rdFr (s : ByteArray) : Value × Int := if s.size < 14 then (fr0, 7) else if 600 < s.size then (fr0, 3) else (frOf s, 0)

theorem read_any (s : ByteArray) (w : World) (hs : s.size ≤ 9223372036854775807) :
    Calls Try.prog 9 #[.string s] w fun e w' => e = .returned (.tuple #[(rdFr s).1, .int .i64 (rdFr s).2]) ∧ Below w.heap.size w w' := by
  unfold rdFr
  by_cases h1 : s.size < 14
  · rw [if_pos h1]; exact read_short s w h1
  · rw [if_neg h1]
    by_cases h2 : 600 < s.size
    · rw [if_pos h2]; exact read_long s w h2 hs
    · rw [if_neg h2]; exact read_ok s w (by omega) (by omega)
end Go.Proofs.Ytlonhelfcacmeaa
