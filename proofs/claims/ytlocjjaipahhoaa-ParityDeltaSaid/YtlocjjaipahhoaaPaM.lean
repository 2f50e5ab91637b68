/- Parity's Missing, and the laws' wakes. Condition: texts that a memory can hold. -/
import Derived.Test.YtlocjjaipahhoaaPaT
namespace Go.Proofs.Ytlocjjaipahhoaa
set_option linter.unusedVariables false
set_option linter.unusedSimpArgs false
set_option maxRecDepth 100000
open Go.RowKit
attribute [local go_sem ↓] Go.wp_at_zero Go.wp_at_succ

theorem below_mapBlock {B : Nat} {a w : World} (h : Below B a w) (blk : Nat) (f : Array Value → Array Value) (hb : B ≤ blk) : Below B a (Sort.mapBlock w blk f) :=
  h.trans ⟨rfl, rfl, rfl, by simp [Sort.mapBlock], fun k hk => by
    simp only [Sort.mapBlock, Array.getElem?_modify]
    rw [if_neg (by omega)]⟩
theorem below_ahead {B : Nat} {a w : World} (h : Below B a w) (n : Nat) : Below B a (Sort.ahead w n) := ⟨h.os, h.tape, h.output, h.size, h.block⟩

/-- texts lie in a block of one's own, in cells that may be written -/
theorem own_holds {w : World} {B n : Nat} {v : Value} {L : List (List UInt8)} (h : w.ownsRow B 9 1 v n (L.map encStr)) (hL : L ≠ []) :
    ∃ g cap, v = .slice (some ⟨g, 0, none⟩) L.length cap ∧ n = L.length ∧ B ≤ g ∧ g < w.heap.size ∧ L.length ≤ cap ∧ cap ≤ maxLen ∧ Sort.Holds encStr w g 0 L.toArray := by
  obtain ⟨hl, h⟩ := h
  rw [List.length_map, Nat.mul_one] at hl
  rcases h with ⟨_, h0⟩ | ⟨g, cap, cur, rfl, hB, hg, hn, hm, hsz, htk⟩
  · subst h0
    exact absurd (List.length_eq_zero_iff.1 hl) hL
  · refine ⟨g, cap, by rw [hl], hl.symm, hB, (Array.getElem?_eq_some_iff.1 hg).1, by omega, hm, fun j hj => ⟨?_, ?_⟩⟩
    · have hj' : j < L.length := by simpa using hj
      rw [Nat.mul_one] at htk
      have e : (cur.toList.take n)[j]? = some (encStr L[j]) := by
        rw [htk, List.getElem?_map, List.getElem?_eq_getElem hj']; rfl
      rw [List.getElem?_take, if_pos (by omega)] at e
      have e2 : cur[j]? = some (encStr L[j]) := by simpa using e
      have e3 : w.cell? ⟨g, 0 + j, none⟩ = cur[j]? := by simp [World.cell?, hg]
      have e4 : (L.toArray)[j]! = L[j] := by simp [hj']
      rw [e3, e2, e4]
    · simp [World.frozen?, hg]

/-- one of texts that come to noughts, by the others -/
def miV (L : List (List UInt8)) (i : Int) : List UInt8 × Int := if i < 0 ∨ (L.length : Int) ≤ i then ([], 1) else paV (L.take i.toNat ++ L.drop (i.toNat + 1))

theorem clone_any (A : Option Addr) (c : Nat) (L : List (List UInt8)) (hL : L.length * 16 ≤ 140737488355328) (hne : L ≠ []) (w : World) (hA : StrsAt w w.heap.size A L) :
    Calls Try.prog 22 #[.slice A L.length c] w fun e w' => ∃ g cap, e = .returned (.slice (some ⟨g, 0, none⟩) L.length cap) ∧ w.heap.size ≤ g ∧ g < w'.heap.size ∧ L.length ≤ cap ∧ cap ≤ maxLen ∧ Sort.Holds encStr w' g 0 L.toArray ∧ Below w.heap.size w w' := by
  obtain ⟨b, o, rfl, hbl, hcell⟩ : ∃ b o, A = some ⟨b, o, none⟩ ∧ b < w.heap.size ∧ ∀ j (hj : j < L.length), w.cell? ⟨b, o + j, none⟩ = some (.string ⟨(L[j]).toArray⟩) := by
    rcases hA with h | h
    · exact absurd h hne
    · exact h
  have hz : (L.map (fun s => (⟨s.toArray⟩ : ByteArray))).length = L.length := List.length_map _
  refine (sh_slices_Clone_string b o L.length c (L.map (fun s => (⟨s.toArray⟩ : ByteArray))) w (by rw [hz]; exact Nat.le_refl _) hL (fun j hj => ?_)).mono ?_
  · rw [hz] at hj
    rw [hcell j hj, List.getD_eq_getElem?_getD, List.getElem?_map, List.getElem?_eq_getElem hj]; rfl
  · rintro e w1 ⟨v, rfl, hv, hnn, hb⟩
    have e1 : ((L.map (fun s => (⟨s.toArray⟩ : ByteArray))).take L.length).map Value.string = L.map encStr := by
      rw [List.take_of_length_le (by rw [hz]; exact Nat.le_refl _), List.map_map]; rfl
    rw [e1] at hv
    obtain ⟨g, cap, rfl, _, h1, h2, h3, h4, h5⟩ := own_holds hv hne
    exact ⟨g, cap, rfl, h1, h2, h3, h4, h5, hb⟩

theorem delete_any (g cap i : Nat) (L : List (List UInt8)) (w : World) (hH : Sort.Holds encStr w g 0 L.toArray) (hcap : L.length ≤ cap) (hm : cap ≤ maxLen) (hi : i < L.length) (hg : g < w.heap.size) :
    Calls Try.prog 21 #[.slice (some ⟨g, 0, none⟩) L.length cap, .int .i64 i, .int .i64 ((i : Int) + 1)] w fun e w' =>
      e = .returned (.slice (some ⟨g, 0, none⟩) (L.take i ++ L.drop (i + 1)).length cap) ∧ StrsAt w' w'.heap.size (some ⟨g, 0, none⟩) (L.take i ++ L.drop (i + 1)) ∧ ∀ B, B ≤ g → Below B w w' := by
  have h := sh_slices_Delete_string g 0 cap i (i + 1) L w hH hcap hm (by omega) (by omega)
  have ei : ((i + 1 : Nat) : Int) = (i : Int) + 1 := by omega
  rw [ei] at h
  refine h.mono ?_
  rintro e w1 ⟨rfl, q, rfl⟩
  have hl : (L.take i ++ L.drop (i + 1)).length = L.length - (i + 1 - i) := by rw [List.length_append, List.length_take, List.length_drop]; omega
  have hr : List.replicate (i + 1 - i) ([] : List UInt8) = [[]] := by
    have : i + 1 - i = 1 := by omega
    rw [this]; rfl
  rw [hr]
  refine ⟨by rw [hl], ?_, fun B hB => ?_⟩
  · right
    refine ⟨g, 0, rfl, by rw [Sort.size_putRow]; exact hg, fun j hj => ?_⟩
    have hs : (L.take i ++ L.drop (i + 1) ++ [[]]).toArray.size = L.toArray.size := by
      simp only [List.size_toArray, List.length_append, hl, List.length_singleton]; omega
    have hc := Sort.cell?_putRow encStr (Sort.ahead w q) g 0 L.toArray (L.take i ++ L.drop (i + 1) ++ [[]]).toArray hH hs j (by rw [hs]; simp; omega)
    rw [hc]
    have hj2 : j < (L.take i ++ L.drop (i + 1) ++ [[]]).length := by rw [List.length_append]; omega
    have e4 : ((L.take i ++ L.drop (i + 1) ++ [[]]).toArray)[j]! = (L.take i ++ L.drop (i + 1))[j] := by
      rw [getElem!_pos _ j (by simpa using hj2), List.getElem_toArray, List.getElem_append_left hj]
    rw [e4]
  · exact below_mapBlock (below_ahead (Below.refl B w) q) g _ hB

set_option maxHeartbeats 1000000 in
theorem miss_any (A : Option Addr) (c : Nat) (L : List (List UInt8)) (i : Int) (hi : -9223372036854775808 ≤ i ∧ i ≤ 9223372036854775807) (hL : L.length * 16 ≤ 140737488355328) (hs : ∀ s ∈ L, s.length ≤ maxLen) (w : World) (hA : StrsAt w w.heap.size A L) :
    Calls Try.prog 17 #[.slice A L.length c, .int .i64 i] w fun e w' => e = .returned (.tuple #[.string ⟨(miV L i).1.toArray⟩, .int .i64 (miV L i).2]) ∧ Below w.heap.size w w' := by
  have HA := Lib.hid hA
  have HS := Lib.hid hs
  have hLm : L.length ≤ 9223372036854775807 := by omega
  clear hA hs
  by_cases hbad : i < 0 ∨ (L.length : Int) ≤ i
  · have e : miV L i = ([], 1) := by rw [miV, if_pos hbad]
    rw [e]
    clear e hL
    rcases Int.lt_or_le i 0 with h0 | h0
    · go_enter Try.func17, Try.ntmps17
      go_wp2
      go_ret2
      exact ⟨rfl, Below.refl _ w⟩
    · have h1 : (L.length : Int) ≤ i := by omega
      go_enter Try.func17, Try.ntmps17
      go_wp2
      go_ret2
      exact ⟨rfl, Below.refl _ w⟩
  · obtain ⟨k, rfl⟩ : ∃ k : Nat, i = (k : Int) := ⟨i.toNat, by omega⟩
    have hk : k < L.length := by omega
    have e : miV L k = paV (L.take k ++ L.drop (k + 1)) := by rw [miV, if_neg hbad]; simp
    rw [e]
    obtain ⟨L2, hL2⟩ : ∃ x, x = L.take k ++ L.drop (k + 1) := ⟨_, rfl⟩
    rw [← hL2]
    have HL2 := Lib.hid hL2
    generalize hV : paV L2 = V
    have HV := Lib.hid hV
    obtain ⟨V1, V2⟩ := V
    have hne : L ≠ [] := by intro h; rw [h] at hk; simp at hk
    have C := Lib.hid (clone_any A c L hL hne w HA.out)
    have h0 : ¬ (k : Int) < 0 := by omega
    have h1 : (k : Int) < (L.length : Int) := by omega
    clear e hbad hne hL hi hL2 hV
    go_enter Try.func17, Try.ntmps17
    go_wp2_with fail
    refine C.out.mono ?_
    rintro e w1 ⟨g, cap, rfl, hg1, hg2, hc1, hc2, hH, hb⟩
    have HG1 := Lib.hid hg1
    have HB := Lib.hid hb
    have D := Lib.hid (delete_any g cap k L w1 hH hc1 hc2 hk hg2)
    clear hg1 hg2 hc1 hH hb C
    go_wp2_with fail
    refine D.out.mono ?_
    rintro e w2 ⟨rfl, hst, hb⟩
    have HB2 := Lib.hid (HB.out.trans (hb w.heap.size HG1.out))
    have S := Lib.hid (paSum_any (some ⟨g, 0, none⟩) cap (L.take k ++ L.drop (k + 1)) (by rw [List.length_append, List.length_take, List.length_drop]; simp only [maxLen]; omega) (fun s hs => HS.out s (by
      rw [List.mem_append] at hs
      rcases hs with h | h
      · exact List.mem_of_mem_take h
      · exact List.mem_of_mem_drop h)) w2 hst)
    rw [← HL2.out, HV.out] at S
    rw [← HL2.out]
    clear hst hb D HA HS HB
    go_wp2_with fail
    refine S.out.mono ?_
    rintro e w3 ⟨rfl, hb⟩
    have HB3 := Lib.hid (Below.step HB2.out hb)
    clear hb
    go_wp2
    go_ret2
    exact ⟨rfl, HB3.out⟩
theorem miss_new (L : List (List UInt8)) (i : Int) (hi : -9223372036854775808 ≤ i ∧ i ≤ 9223372036854775807) (hL : L.length * 16 ≤ 140737488355328) (hs : ∀ s ∈ L, s.length ≤ maxLen) (C : Array Value) (hC : C = (L.map encStr).toArray) (n : Nat) (hn : n = L.length) (w : World) :
    Calls Try.prog 17 #[.slice (some ⟨w.heap.size, 0, none⟩) n n, .int .i64 i] (w.alloc (.cells C 9)) fun e w' => e = .returned (.tuple #[.string ⟨(miV L i).1.toArray⟩, .int .i64 (miV L i).2]) ∧ Below w.heap.size w w' := by
  subst hn
  refine (miss_any _ _ L i hi hL hs _ (strs_new w _ C L hC)).mono ?_
  rintro e w' ⟨rfl, hb⟩
  exact ⟨rfl, Below.step ((Below.refl _ w).alloc (Nat.le_refl _) _) hb⟩

set_option maxHeartbeats 1000000 in
theorem wakes_any (w : World) : Calls Try.prog 10 #[] w fun e w' => e = .returned (.bool true) ∧ Below w.heap.size w w' := by
  have f1 := Lib.hid (fun w => full_any 1 w)
  have f2 := Lib.hid (fun w => full_any 2 w)
  have f3 := Lib.hid (fun w => full_any 3 w)
  have S := Lib.hid (fun w => sum_new [full 1, full 3] (by decide) (by decide +kernel) #[.string ⟨(full 1).toArray⟩, .string ⟨(full 3).toArray⟩] rfl 2 rfl w)
  have M := Lib.hid (fun w => miss_new [full 1, [], full 2] 1 (by decide) (by decide) (by decide +kernel) #[.string ⟨(full 1).toArray⟩, .string ⟨#[]⟩, .string ⟨(full 2).toArray⟩] rfl 3 rfl w)
  have R := Lib.hid (fun w => right_new [full 1, full 3, full 2] (by decide) (by decide +kernel) #[.string ⟨(full 1).toArray⟩, .string ⟨(full 3).toArray⟩, .string ⟨(full 2).toArray⟩] rfl 3 rfl w)
  have h1 : paV [full 1, full 3] = (full 2, 0) := by decide +kernel
  have h2 : miV [full 1, [], full 2] 1 = (full 3, 0) := by decide +kernel
  have h3 : riV [full 1, full 3, full 2] = true := by decide +kernel
  rw [h1] at S
  rw [h2] at M
  rw [h3] at R
  clear h1 h2 h3
  obtain ⟨a1, e1⟩ : ∃ x, full 1 = x := ⟨_, rfl⟩
  obtain ⟨a2, e2⟩ : ∃ x, full 2 = x := ⟨_, rfl⟩
  obtain ⟨a3, e3⟩ : ∃ x, full 3 = x := ⟨_, rfl⟩
  rw [e1, e3, e2] at S
  rw [e1, e3, e2] at M
  rw [e1, e3, e2] at R
  rw [e1] at f1
  rw [e2] at f2
  rw [e3] at f3
  clear e1 e2 e3
  go_enter Try.func10, Try.ntmps10
  go_wp2_with fail
  refine (f1.out _).mono ?_
  rintro e u1 ⟨rfl, hb⟩
  have HB1 := Lib.hid hb
  clear hb
  go_wp2_with fail
  refine (f3.out _).mono ?_
  rintro e u2 ⟨rfl, hb⟩
  have HB2 := Lib.hid (Below.step HB1.out hb)
  clear hb HB1
  go_wp2_with fail
  refine (S.out _).mono ?_
  rintro e u3 ⟨rfl, hb⟩
  have HB3 := Lib.hid (Below.step HB2.out hb)
  clear hb HB2
  go_wp2_with fail
  refine (f1.out _).mono ?_
  rintro e u4 ⟨rfl, hb⟩
  have HB4 := Lib.hid (Below.step HB3.out hb)
  clear hb HB3
  go_wp2_with fail
  refine (M.out _).mono ?_
  rintro e u5 ⟨rfl, hb⟩
  have HB5 := Lib.hid (Below.step HB4.out hb)
  clear hb HB4
  go_wp2_with fail
  refine (f2.out _).mono ?_
  rintro e u6 ⟨rfl, hb⟩
  have HB6 := Lib.hid (Below.step HB5.out hb)
  clear hb HB5
  go_wp2_with fail
  refine (f3.out _).mono ?_
  rintro e u7 ⟨rfl, hb⟩
  have HB7 := Lib.hid (Below.step HB6.out hb)
  clear hb HB6
  go_wp2_with fail
  refine (f1.out _).mono ?_
  rintro e u8 ⟨rfl, hb⟩
  have HB8 := Lib.hid (Below.step HB7.out hb)
  clear hb HB7
  go_wp2_with fail
  refine (f3.out _).mono ?_
  rintro e u9 ⟨rfl, hb⟩
  have HB9 := Lib.hid (Below.step HB8.out hb)
  clear hb HB8
  go_wp2_with fail
  refine (R.out _).mono ?_
  rintro e u10 ⟨rfl, hb⟩
  have HB10 := Lib.hid (Below.step HB9.out hb)
  clear hb HB9
  go_wp2
  go_ret
  exact ⟨rfl, HB10.out⟩
end Go.Proofs.Ytlocjjaipahhoaa
