/- What package arp's Bytes computes. -/
import Derived.Test.YtpnhopgfoakgnaaMemB
import Derived.Deep.RegionHeld3
import Derived.Deep.DeepCutAuto
import Derived.Deep.DrawnRows
namespace Go.Proofs.Ytpnhopgfoakgnaa
set_option linter.unusedVariables false
open Go.RowKit
attribute [local go_sem ↓] Go.wp_at_zero Go.wp_at_succ

/-- a packet's cells -/
def arC (op : Int) (m i tm ti : List UInt8) : Array Value := (Value.int .i64 op :: (m ++ i ++ tm ++ ti).map ubv).toArray
/-- the four addresses are as long as addresses are -/
structure ArL (m i tm ti : List UInt8) : Prop where
  m : m.length = 6
  i : i.length = 4
  tm : tm.length = 6
  ti : ti.length = 4

theorem arC_size {op : Int} {m i tm ti : List UInt8} (h : ArL m i tm ti) : (arC op m i tm ti).size = 21 := by
  simp [arC, h.m, h.i, h.tm, h.ti]
theorem arC_op (op : Int) (m i tm ti : List UInt8) : (arC op m i tm ti)[0]? = some (.int .i64 op) := by simp [arC]
theorem arC_at (op : Int) (m i tm ti : List UInt8) (j : Nat) (hj : j < (m ++ i ++ tm ++ ti).length) : (arC op m i tm ti)[1 + j]? = some (ubv (m ++ i ++ tm ++ ti)[j]) := by
  rw [arC, List.getElem?_toArray, Nat.add_comm, List.getElem?_cons_succ, List.getElem?_map, List.getElem?_eq_getElem hj]
  rfl

theorem get_app (a b c : List UInt8) (j : Nat) (h : j < b.length) : (a ++ b ++ c)[a.length + j]? = some b[j] := by
  rw [List.append_assoc, List.getElem?_append_right (by omega), List.getElem?_append_left (by omega), List.getElem?_eq_getElem (by omega)]
  congr 2
  omega

theorem arC_part (op : Int) (a b c m i tm ti : List UInt8) (he : m ++ i ++ tm ++ ti = a ++ b ++ c) (j : Nat) (h : j < b.length) : (arC op m i tm ti)[1 + a.length + j]? = some (ubv b[j]) := by
  rw [arC, he, List.getElem?_toArray, show 1 + a.length + j = (a.length + j) + 1 by omega, List.getElem?_cons_succ, List.getElem?_map, get_app a b c j h]
  rfl

theorem arC_m {op : Int} {m i tm ti : List UInt8} (h : ArL m i tm ti) (j : Nat) (hj : j < m.length) : (arC op m i tm ti)[1 + j]? = some (ubv m[j]) := by
  have := arC_part op [] m (i ++ tm ++ ti) m i tm ti (by simp) j hj
  simpa using this
theorem arC_i {op : Int} {m i tm ti : List UInt8} (h : ArL m i tm ti) (j : Nat) (hj : j < i.length) : (arC op m i tm ti)[7 + j]? = some (ubv i[j]) := by
  have := arC_part op m i (tm ++ ti) m i tm ti (by simp) j hj
  rwa [h.m] at this
theorem arC_tm {op : Int} {m i tm ti : List UInt8} (h : ArL m i tm ti) (j : Nat) (hj : j < tm.length) : (arC op m i tm ti)[11 + j]? = some (ubv tm[j]) := by
  have := arC_part op (m ++ i) tm ti m i tm ti (by simp) j hj
  rwa [List.length_append, h.m, h.i] at this
theorem arC_ti {op : Int} {m i tm ti : List UInt8} (h : ArL m i tm ti) (j : Nat) (hj : j < ti.length) : (arC op m i tm ti)[17 + j]? = some (ubv ti[j]) := by
  have := arC_part op (m ++ i ++ tm) ti [] m i tm ti (by simp) j hj
  rwa [List.length_append, List.length_append, h.m, h.i, h.tm] at this

/-- what the loads of a packet's block give -/
def ArS (b : Nat) (op : Int) (m i tm ti : List UInt8) (w : World) : Prop := Blk w b 42 (arC op m i tm ti)

theorem ArS.at {b : Nat} {op : Int} {m i tm ti : List UInt8} {w : World} (h : Blk w b 42 (arC op m i tm ti)) (hl : ArL m i tm ti) :
    BytesAt w ⟨b, 1, none⟩ m ∧ BytesAt w ⟨b, 7, none⟩ i ∧ BytesAt w ⟨b, 11, none⟩ tm ∧ BytesAt w ⟨b, 17, none⟩ ti := by
  refine ⟨?_, ?_, ?_, ?_⟩ <;> (intro j hj; rw [addr_add, h.cell])
  · exact arC_m hl j hj
  · exact arC_i hl j hj
  · exact arC_tm hl j hj
  · exact arC_ti hl j hj

theorem ArS.all {b : Nat} {op : Int} {m i tm ti : List UInt8} {w : World} (h : Blk w b 42 (arC op m i tm ti)) (hl : ArL m i tm ti) :
    (fun w' => w'.cell? ⟨b, 0, none⟩ = some (.int .i64 op) ∧
    (convert 84 9 (.slice (some ⟨b, 1, none⟩) 6 6)).run Try.prog w' = .ok (.string ⟨m.toArray⟩) w' ∧
    (convert 84 9 (.slice (some ⟨b, 7, none⟩) 4 4)).run Try.prog w' = .ok (.string ⟨i.toArray⟩) w' ∧
    (convert 84 9 (.slice (some ⟨b, 11, none⟩) 6 6)).run Try.prog w' = .ok (.string ⟨tm.toArray⟩) w' ∧
    (convert 84 9 (.slice (some ⟨b, 17, none⟩) 4 4)).run Try.prog w' = .ok (.string ⟨ti.toArray⟩) w') w := by
  obtain ⟨h1, h2, h3, h4⟩ := ArS.at h hl
  have r1 := run_back Try.prog w 84 9 5 b 1 6 m Try.underlying84 Try.underlying5 Try.underlying9 h1
  have r2 := run_back Try.prog w 84 9 5 b 7 4 i Try.underlying84 Try.underlying5 Try.underlying9 h2
  have r3 := run_back Try.prog w 84 9 5 b 11 6 tm Try.underlying84 Try.underlying5 Try.underlying9 h3
  have r4 := run_back Try.prog w 84 9 5 b 17 4 ti Try.underlying84 Try.underlying5 Try.underlying9 h4
  rw [hl.m] at r1
  rw [hl.i] at r2
  rw [hl.tm] at r3
  rw [hl.ti] at r4
  exact ⟨by rw [h.cell]; exact arC_op _ _ _ _ _, r1, r2, r3, r4⟩

def knB (op : Int) : Bool := op == 1 || op == 2

theorem known_any (op : Int) (w : World) : Calls Try.prog 44 #[.int .i64 op] w fun e w' => e = .returned (.bool (knB op)) ∧ w = w' := by
  unfold knB
  by_cases h1 : op = 1
  · subst h1
    go_enter Try.func44, Try.ntmps44
    go_wp2
    go_ret
    exact ⟨rfl, rfl⟩
  · by_cases h2 : op = 2
    · subst h2
      go_enter Try.func44, Try.ntmps44
      go_wp2
      go_ret
      exact ⟨rfl, rfl⟩
    · go_enter Try.func44, Try.ntmps44
      go_wp2
      go_ret
      exact ⟨by
        have e1 : (op == 1) = false := by simpa using h1
        have e2 : (op == 2) = false := by simpa using h2
        rw [e1, e2]
        rfl, rfl⟩

/-- a packet's bytes, or why it has none -/
def arBytes (op : Int) (m i tm ti : List UInt8) : List UInt8 × Int := if knB op then ([0, 1, 8, 0, 6, 4, 0, UInt8.ofNat op.toNat] ++ m ++ i ++ tm ++ ti, 0) else ([], 10)

theorem ar_no (op : Int) (m i tm ti : List UInt8) (w : World) (h : knB op = false) :
    Calls Try.prog 22 #[.agg (arC op m i tm ti)] w fun e w' => e = .returned (.tuple #[.string ⟨([] : List UInt8).toArray⟩, .int .i64 10]) ∧ Below w.heap.size w w' := by
  have hk := fun w => known_any op w
  rw [h] at hk
  have HK := Lib.hid hk
  have hc : (w.alloc (.cells (arC op m i tm ti) 42)).cell? ⟨w.heap.size, 0, none⟩ = some (.int .i64 op) := by
    rw [(Blk.new w 42 (arC op m i tm ti) 0 0 (Or.inl (Nat.le_refl _))).cell]; exact arC_op _ _ _ _ _
  clear hk h
  go_enter Try.func22, Try.ntmps22
  go_wp2_with fail
  refine (HK.out _).mono ?_
  rintro e w1 ⟨rfl, rfl⟩
  go_wp2
  go_ret2
  exact ⟨rfl, (Below.refl _ _).alloc (Nat.le_refl _) _⟩

theorem big_kn (op : Int) (h : knB op = true) (w : World) :
    Calls Try.prog 41 #[.int .u64 op, .int .i64 2] w fun e w' => e = .returned (.string ⟨[0, UInt8.ofNat op.toNat].toArray⟩) ∧ Below w.heap.size w w' := by
  have h2 : op = 1 ∨ op = 2 := by simpa [knB] using h
  have := big_any w op 2 (by omega)
  have e : (litN op 2).reverse = [0, UInt8.ofNat op.toNat] := by
    rcases h2 with rfl | rfl <;> decide
  rw [e] at this
  exact this

set_option maxRecDepth 100000 in
set_option maxHeartbeats 1000000 in
theorem ar_yes (op : Int) (m i tm ti : List UInt8) (hl : ArL m i tm ti) (w : World) (h : knB op = true) :
    Calls Try.prog 22 #[.agg (arC op m i tm ti)] w fun e w' => e = .returned (.tuple #[.string ⟨([0, 1, 8, 0, 6, 4, 0, UInt8.ofNat op.toNat] ++ m ++ i ++ tm ++ ti).toArray⟩, .int .i64 0]) ∧ Below w.heap.size w w' := by
  have hk := fun w => known_any op w
  rw [h] at hk
  have HK := Lib.hid hk
  have HG := Lib.hid (fun w => big_kn op h w)
  have h12 : 1 ≤ op ∧ op ≤ 2 := by
    have : op = 1 ∨ op = 2 := by simpa [knB] using h
    omega
  obtain ⟨hop1, hop2⟩ := h12
  have hu := IntWalk.u64_in op ⟨by omega, by omega⟩
  have hN := Blk.new w 42 (arC op m i tm ti) 0 0 (Or.inl (Nat.le_refl _))
  have hB : Below w.heap.size w (w.alloc (.cells (arC op m i tm ti) 42)) := (Below.refl _ _).alloc (Nat.le_refl _) _
  have hc : (w.alloc (.cells (arC op m i tm ti) 42)).cell? ⟨w.heap.size, 0, none⟩ = some (.int .i64 op) := by rw [hN.cell]; exact arC_op _ _ _ _ _
  have HN := Lib.hid hN
  have HB := Lib.hid hB
  have hm := hl.m
  have hi := hl.i
  have htm := hl.tm
  have hti := hl.ti
  clear hk h hN hB
  go_enter Try.func22, Try.ntmps22
  go_wp2_with fail
  refine (HK.out _).mono ?_
  rintro e w1 ⟨rfl, rfl⟩
  clear hc
  go_wp2
  generalize w.alloc _ = W at HN HB ⊢
  have hlt := HN.out.lt
  go_region_held3 (fun w' => w'.cell? ⟨w.heap.size, 0, none⟩ = some (.int .i64 op) ∧
    (convert 84 9 (.slice (some ⟨w.heap.size, 1, none⟩) 6 6)).run Try.prog w' = .ok (.string ⟨m.toArray⟩) w' ∧
    (convert 84 9 (.slice (some ⟨w.heap.size, 7, none⟩) 4 4)).run Try.prog w' = .ok (.string ⟨i.toArray⟩) w' ∧
    (convert 84 9 (.slice (some ⟨w.heap.size, 11, none⟩) 6 6)).run Try.prog w' = .ok (.string ⟨tm.toArray⟩) w' ∧
    (convert 84 9 (.slice (some ⟨w.heap.size, 17, none⟩) 4 4)).run Try.prog w' = .ok (.string ⟨ti.toArray⟩) w')
    (first | exact ArS.all HN.out hl | exact ArS.all (Blk.drew HN.out) hl | exact ArS.all (Blk.below (Blk.drew HN.out) hb1.out hlt) hl)
    ((go_at_call 41; refine (HG.out _).mono ?_; rintro e w1 ⟨rfl, hb0⟩; have hb1 := Lib.hid hb0; clear hb0))
  go_wp2
  go_ret2
  refine ⟨?_, HB.out.drew.trans (hb1.out.mono (show w.heap.size ≤ W.heap.size from by omega))⟩
  have e : (({ data := #[0, 1, 8, 0, 6, 4] } : ByteArray) ++ { data := #[0, UInt8.ofNat op.toNat] } ++ { data := m.toArray } ++ { data := i.toArray } ++ { data := tm.toArray } ++ { data := ti.toArray }) = ⟨([0, 1, 8, 0, 6, 4, 0, UInt8.ofNat op.toNat] ++ m ++ i ++ tm ++ ti).toArray⟩ := by
    rw [str_append [0, 1, 8, 0, 6, 4] [0, UInt8.ofNat op.toNat], str_append, str_append, str_append, str_append]
    rfl
  exact congrArg (fun s => Ending.returned (.tuple #[.string s, .int .i64 0])) e

theorem ar_any (op : Int) (m i tm ti : List UInt8) (hl : ArL m i tm ti) (w : World) :
    Calls Try.prog 22 #[.agg (arC op m i tm ti)] w fun e w' => e = .returned (.tuple #[.string ⟨(arBytes op m i tm ti).1.toArray⟩, .int .i64 (arBytes op m i tm ti).2]) ∧ Below w.heap.size w w' := by
  unfold arBytes
  by_cases h : knB op = true
  · rw [if_pos h]; exact ar_yes op m i tm ti hl w h
  · rw [if_neg h]; exact ar_no op m i tm ti w (by simpa using h)
end Go.Proofs.Ytpnhopgfoakgnaa
