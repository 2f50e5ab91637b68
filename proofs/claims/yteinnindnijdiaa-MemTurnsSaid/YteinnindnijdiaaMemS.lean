/- What the method Put of package mem's Mem computes, and the methods of a memory that is none. No condition but that the memory lies where its pointer says. -/
import Derived.Test.YteinnindnijdiaaMemQ
namespace Go.Proofs.Yteinnindnijdiaa
set_option linter.unusedVariables false
set_option maxRecDepth 100000
open Go.RowKit
attribute [local go_sem ↓] Go.wp_at_zero Go.wp_at_succ

/-- 'copy(dst, s)' from a string, as a step of a region -/
theorem step_copy_str {P : Program} {w : World} {ops : Array Oper} {o : Oper} {a : Act} {K : Act → World → Prop} {Q : Exit → Act → World → Prop} {E : Prop} (hgd : o.guard = none) (d x : Operand) (dT sT : TypeId)
    (ho : o.op = .call { callee := .builtin .copy, args := #[d, x], argTypes := #[dT, sT] }) (elem : TypeId) (b i dLen dCap n : Nat) (s : ByteArray)
    (hd : a.eval d = .slice (some ⟨b, i, none⟩) dLen dCap) (hx : a.eval x = .string s)
    (hu : P.underlying dT = some (.slice elem)) (hs : (P.info? elem).map (·.size) = some 1) (hn : Nat.min s.size dLen = n) (ht : w.there b i n)
    (h : K (a.put o.dst (goInt n)) (w.setCells b i ((s.data.toList.take n).map ubv))) :
    if Region.wanted o (yielded ops a.tmps) = true then Oper.wp P o a w K Q else E := by
  have hw : Region.wanted o (yielded ops a.tmps) = true := by simp [Region.wanted, hgd]
  rw [if_pos hw]
  have hr := run_copy_str P w dT sT o.type elem b i dLen dCap n s hu hs hn ht
  unfold Oper.wp execOp
  simp only [ho, resolve, invoke, builtin, Sem.run_bind, Sem.run_pure, Result.andThen_ok, List.map_toArray, List.map_cons, List.map_nil, hd, hx, hr]
  exact h

/-- the bytes behind a put -/
def putL (l : List UInt8) (at' n x : Int) : List UInt8 := if numE l.length at' n = 0 then spl l at'.toNat (litN x n) else l

theorem MemAt.head {w : World} {p g : Nat} {l : List UInt8} (h : MemAt w p g l) : w.cell? ⟨p, 0, none⟩ = some (.slice (some ⟨g, 0, none⟩) l.length l.length) := h.cell

theorem MemAt.head_spl {w : World} {p g : Nat} {l : List UInt8} {a : Nat} {s : List UInt8} (h : MemAt w p g (Proofs.Yteinnindnijdiaa.spl l a s)) (ha : a + s.length ≤ l.length) : w.cell? ⟨p, 0, none⟩ = some (.slice (some ⟨g, 0, none⟩) l.length l.length) := by
  have := h.cell
  rwa [spl_len l a s ha] at this

set_option maxHeartbeats 1000000 in
theorem put_any {w : World} {p g : Nat} {l : List UInt8} (h : MemAt w p g l) (at' n x : Int) (h1 : -9223372036854775808 ≤ at' ∧ at' ≤ 9223372036854775807)
    (h2 : -9223372036854775808 ≤ n ∧ n ≤ 9223372036854775807) (hx : 0 ≤ x ∧ x ≤ 18446744073709551615) :
    Calls Try.prog 28 #[.pointer (some ⟨p, 0, none⟩), .int .i64 at', .int .i64 n, .int .u64 x] w fun e w' => e = .returned (.int .i64 (numE l.length at' n)) ∧ MemAt w' p g (putL l at' n x) ∧ w.grownBy w' (some g) := by
  by_cases hE : numE l.length at' n = 0
  · have hin : 1 ≤ n ∧ n ≤ 8 ∧ 0 ≤ at' ∧ at' + n ≤ l.length := by
      unfold numE roomE at hE
      split at hE
      · omega
      · split at hE
        · omega
        · omega
    obtain ⟨a, rfl⟩ := Int.eq_ofNat_of_zero_le hin.2.2.1
    obtain ⟨m, rfl⟩ := Int.eq_ofNat_of_zero_le (show 0 ≤ n by omega)
    rw [putL, if_pos hE, hE, Int.toNat_natCast]
    have hll : (litN x m).length = m := by rw [litN, if_pos (by omega), lit_len, Int.toNat_natCast]
    have HLi := Lib.hid (fun w => little_any w x m hx)
    obtain ⟨s, hsd⟩ : ∃ s, s = litN x m := ⟨_, rfl⟩
    rw [← hsd] at hll HLi ⊢
    have hsm := h.small
    have H := Lib.hid h
    have HE := Lib.hid hE
    have H1 := Lib.hid h1
    have H2 := Lib.hid h2
    have hlt : a < l.length := by omega
    have hne : ¬ l.length = a := by omega
    have ham : a + m ≤ l.length := by omega
    have HN := Lib.hid (show Nat.min (⟨s.toArray⟩ : ByteArray).size (l.length - a) = m from (Nat.min_eq_left (by show s.length ≤ _; omega)).trans hll)
    have HTK := Lib.hid (show s.take m = s by rw [List.take_of_length_le (by omega)])
    have ha0 : (0 : Int) ≤ (a : Int) := Int.natCast_nonneg _
    have ha1 : (a : Int) ≤ (l.length : Int) := by omega
    have HLL := Lib.hid hll
    clear h hE h1 h2 hin hsd hx hll
    go_enter Try.func28, Try.ntmps28
    go_wp2_with fail
    refine (number_any H.out _ _ H1.out H2.out).mono ?_
    rintro e w1 ⟨rfl, rfl⟩
    rw [HE.out]
    go_wp2
    have hp := H.out.hdr.lt
    have hg := H.out.bytes.lt
    go_region_held3 (fun w' => w'.cell? ⟨p, 0, none⟩ = some (.slice (some ⟨g, 0, none⟩) l.length l.length))
      (first | exact H.out.head | exact (MemAt.drew H.out).head | exact HM.out.head | (rw [HTK.out]; exact HC2.out))
      (first
        | (go_at_call 39; refine (HLi.out _).mono ?_; rintro e w1 ⟨rfl, hb0⟩; have HM := Lib.hid ((MemAt.drew H.out).step hb0); have HG := Lib.hid (grown_below hb0 (some g)); clear hb0)
        | (refine step_copy_str rfl _ _ 47 9 rfl 5 g a (l.length - a) (l.length - a) m ⟨s.toArray⟩ (by rfl) (by rfl) Try.underlying47 (info_size info_u8) HN.out (HM.out.bytes.thereAt a m ham) ?_; have HM2 := Lib.hid (HM.out.spl a s (by rw [HLL.out]; exact ham)); have HC2 := Lib.hid (HM2.out.head_spl (by rw [HLL.out]; exact ham))))
    rw [HTK.out]
    go_wp2
    go_ret
    exact ⟨rfl, HM2.out, grown_trans ⟨HG.out.os, HG.out.tape, HG.out.output, HG.out.size, HG.out.block⟩ (grown_setCells w1 g a (s.map ubv))⟩
  · have H := Lib.hid h
    have H1 := Lib.hid h1
    have H2 := Lib.hid h2
    rw [putL, if_neg hE]
    generalize hN : numE l.length at' n = N at hE
    have HN := Lib.hid hN
    have hN2 : (N != 0) = true := by rw [bne_iff_ne]; exact hE
    clear h hE h1 h2 hN hx
    go_enter Try.func28, Try.ntmps28
    go_wp2_with fail
    refine (number_any H.out _ _ H1.out H2.out).mono ?_
    rintro e w1 ⟨rfl, rfl⟩
    rw [HN.out]
    go_wp2
    go_ret
    exact ⟨rfl, H.out, grown_refl _ _⟩

theorem get_nil (w : World) (at' n : Int) :
    Calls Try.prog 31 #[.pointer none, .int .i64 at', .int .i64 n] w fun e w' => e = .returned (.tuple #[.int .u64 0, .int .i64 2]) ∧ w = w' := by
  go_enter Try.func31, Try.ntmps31
  go_wp2_with fail
  refine (number_nil _ _ _).mono ?_
  rintro e w1 ⟨rfl, rfl⟩
  go_wp2
  go_ret2
  exact ⟨rfl, rfl⟩

theorem get_bare {w : World} {p : Nat} (hc : w.cell? ⟨p, 0, none⟩ = some (.slice none 0 0)) (at' n : Int) :
    Calls Try.prog 31 #[.pointer (some ⟨p, 0, none⟩), .int .i64 at', .int .i64 n] w fun e w' => e = .returned (.tuple #[.int .u64 0, .int .i64 2]) ∧ w = w' := by
  have HC := Lib.hid hc
  clear hc
  go_enter Try.func31, Try.ntmps31
  go_wp2_with fail
  refine (number_bare HC.out _ _).mono ?_
  rintro e w1 ⟨rfl, rfl⟩
  go_wp2
  go_ret2
  exact ⟨rfl, rfl⟩

theorem put_nil (w : World) (at' n x : Int) :
    Calls Try.prog 28 #[.pointer none, .int .i64 at', .int .i64 n, .int .u64 x] w fun e w' => e = .returned (.int .i64 2) ∧ w = w' := by
  go_enter Try.func28, Try.ntmps28
  go_wp2_with fail
  refine (number_nil _ _ _).mono ?_
  rintro e w1 ⟨rfl, rfl⟩
  go_wp2
  go_ret
  exact ⟨rfl, rfl⟩

theorem put_bare {w : World} {p : Nat} (hc : w.cell? ⟨p, 0, none⟩ = some (.slice none 0 0)) (at' n x : Int) :
    Calls Try.prog 28 #[.pointer (some ⟨p, 0, none⟩), .int .i64 at', .int .i64 n, .int .u64 x] w fun e w' => e = .returned (.int .i64 2) ∧ w = w' := by
  have HC := Lib.hid hc
  clear hc
  go_enter Try.func28, Try.ntmps28
  go_wp2_with fail
  refine (number_bare HC.out _ _).mono ?_
  rintro e w1 ⟨rfl, rfl⟩
  go_wp2
  go_ret
  exact ⟨rfl, rfl⟩

theorem text_nil (w : World) (at' n : Int) :
    Calls Try.prog 33 #[.pointer none, .int .i64 at', .int .i64 n] w fun e w' => e = .returned (.tuple #[.string ⟨([] : List UInt8).toArray⟩, .int .i64 2]) ∧ w = w' := by
  go_enter Try.func33, Try.ntmps33
  go_wp2_with fail
  refine (room_nil _ _ _).mono ?_
  rintro e w1 ⟨rfl, rfl⟩
  go_wp2
  go_ret2
  exact ⟨rfl, rfl⟩

theorem write_nil (w : World) (at' : Int) (s : List UInt8) :
    Calls Try.prog 30 #[.pointer none, .int .i64 at', .string ⟨s.toArray⟩] w fun e w' => e = .returned (.int .i64 2) ∧ w = w' := by
  go_enter Try.func30, Try.ntmps30
  go_wp2_with fail
  refine (room_nil _ _ _).mono ?_
  rintro e w1 ⟨rfl, rfl⟩
  go_wp2
  go_ret
  exact ⟨rfl, rfl⟩

theorem write_bare {w : World} {p : Nat} (hc : w.cell? ⟨p, 0, none⟩ = some (.slice none 0 0)) (at' : Int) (s : List UInt8) :
    Calls Try.prog 30 #[.pointer (some ⟨p, 0, none⟩), .int .i64 at', .string ⟨s.toArray⟩] w fun e w' => e = .returned (.int .i64 2) ∧ w = w' := by
  have HC := Lib.hid hc
  clear hc
  go_enter Try.func30, Try.ntmps30
  go_wp2_with fail
  refine (room_bare HC.out _ _).mono ?_
  rintro e w1 ⟨rfl, rfl⟩
  go_wp2
  go_ret
  exact ⟨rfl, rfl⟩
end Go.Proofs.Yteinnindnijdiaa
