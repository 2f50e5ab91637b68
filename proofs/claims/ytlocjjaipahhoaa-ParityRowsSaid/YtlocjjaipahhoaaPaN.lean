/- The walk through the law ParityParts: it answers true. Condition: texts that a memory can hold. -/
import Derived.Test.YtlocjjaipahhoaaPaX
namespace Go.Proofs.Ytlocjjaipahhoaa
set_option linter.unusedVariables false
set_option linter.unusedSimpArgs false
set_option maxRecDepth 100000
open Go.RowKit
attribute [local go_sem ↓] Go.wp_at_zero Go.wp_at_succ

theorem parts_great (A : Option Addr) (k : Nat) (L : List (List UInt8)) (i : Int) (a b c : List UInt8) (hL : L.length ≤ maxLen) (hs : ∀ s ∈ L, s.length ≤ maxLen) (ha : a.length ≤ maxLen) (hb : b.length ≤ maxLen) (hc : c.length ≤ maxLen) (w : World) (hA : StrsAt w w.heap.size A L) (hg : grV L = true ∨ grV [a, b, c] = true) :
    Calls Try.prog 6 #[.slice A L.length k, .int .i64 i, .string ⟨a.toArray⟩, .string ⟨b.toArray⟩, .string ⟨c.toArray⟩] w fun e w' => e = .returned (.bool true) ∧ Below w.heap.size w w' := by
  have G := Lib.hid (great_any A k L hL hs w hA)
  have G2 := Lib.hid (fun w => great_new [a, b, c] (by simp [maxLen]) (by simp; exact ⟨ha, hb, hc⟩) #[.string ⟨a.toArray⟩, .string ⟨b.toArray⟩, .string ⟨c.toArray⟩] rfl 3 rfl w)
  have K := Lib.hid wakes_any
  clear hL hs hA ha hb hc
  cases h1 : grV L
  · have h2 : grV [a, b, c] = true := by
      rcases hg with h | h
      · rw [h1] at h; cases h
      · exact h
    rw [h1] at G
    rw [h2] at G2
    clear h1 h2 hg
    go_enter Try.func6, Try.ntmps6
    go_wp2_with fail
    refine G.out.mono ?_
    rintro e w1 ⟨rfl, hw⟩
    subst hw
    go_wp2_with fail
    refine (G2.out _).mono ?_
    rintro e w2 ⟨rfl, hb⟩
    have HB := Lib.hid hb
    clear hb
    go_wp2_with fail
    refine (K.out _).mono ?_
    rintro e w3 ⟨rfl, hb⟩
    have HB2 := Lib.hid (Below.step HB.out hb)
    clear hb
    go_wp2
    go_ret
    exact ⟨rfl, HB2.out⟩
  · rw [h1] at G
    clear h1 hg
    go_enter Try.func6, Try.ntmps6
    go_wp2_with fail
    refine G.out.mono ?_
    rintro e w1 ⟨rfl, hw⟩
    subst hw
    go_wp2_with fail
    refine (K.out _).mono ?_
    rintro e w2 ⟨rfl, hb⟩
    have HB := Lib.hid hb
    clear hb
    go_wp2
    go_ret
    exact ⟨rfl, HB.out⟩

theorem strs_take {w : World} {B b o k : Nat} {L : List (List UInt8)} (h : ∀ j (hj : j < L.length), w.cell? ⟨b, o + j, none⟩ = some (.string ⟨(L[j]).toArray⟩)) (hb : b < B) : StrsAt w B (some ⟨b, o, none⟩) (L.take k) :=
  Or.inr ⟨b, o, rfl, hb, fun j hj => by
    rw [List.length_take] at hj
    rw [h j (by omega), List.getElem_take]⟩
theorem strs_drop {w : World} {B b o k : Nat} {L : List (List UInt8)} (h : ∀ j (hj : j < L.length), w.cell? ⟨b, o + j, none⟩ = some (.string ⟨(L[j]).toArray⟩)) (hb : b < B) : StrsAt w B (some ⟨b, o + k, none⟩) (L.drop k) :=
  Or.inr ⟨b, o + k, rfl, hb, fun j hj => by
    rw [List.length_drop] at hj
    rw [Nat.add_assoc, h (k + j) (by omega), List.getElem_drop]⟩

set_option maxHeartbeats 2000000 in
theorem parts_main (A : Option Addr) (k : Nat) (L : List (List UInt8)) (i : Int) (a b c : List UInt8) (hi : -9223372036854775808 ≤ i ∧ i ≤ 9223372036854775807) (hL : L.length ≤ 20) (hk : L.length ≤ k) (hkm : k ≤ maxLen) (hs : ∀ s ∈ L, s.length ≤ maxLen) (ha : a.length ≤ maxLen) (hb : b.length ≤ maxLen) (hc : c.length ≤ maxLen) (w : World) (hA : StrsAt w w.heap.size A L) (hg : grV L = false) (hg2 : grV [a, b, c] = false) :
    Calls Try.prog 6 #[.slice A L.length k, .int .i64 i, .string ⟨a.toArray⟩, .string ⟨b.toArray⟩, .string ⟨c.toArray⟩] w fun e w' => e = .returned (.bool true) ∧ Below w.heap.size w w' := by
  have hLm : L.length ≤ maxLen := by unfold maxLen; omega
  have hLm2 : L.length ≤ 9223372036854775807 := by omega
  have hkm2 : k ≤ 9223372036854775807 := hkm
  have G := Lib.hid (great_any A k L hLm hs w hA)
  have G2 := Lib.hid (fun w => great_new [a, b, c] (by simp [maxLen]) (by simp; exact ⟨ha, hb, hc⟩) #[.string ⟨a.toArray⟩, .string ⟨b.toArray⟩, .string ⟨c.toArray⟩] rfl 3 rfl w)
  rw [hg] at G
  rw [hg2] at G2
  have K := Lib.hid wakes_any
  have D := Lib.hid (fun w => delta_any a b c ha hb hc w)
  have T := Lib.hid (fun w => ref_new [a, b, c] (by simp [maxLen]) (by simp; exact ⟨ha, hb, hc⟩) #[.string ⟨a.toArray⟩, .string ⟨b.toArray⟩, .string ⟨c.toArray⟩] rfl 3 rfl w)
  have M := Lib.hid (fun w1 (h : StrsAt w1 w1.heap.size A L) => miss_any A k L i hi (by omega) hs w1 h)
  have he := paV_e [a, b, c]
  have HA := Lib.hid hA
  have HS := Lib.hid hs
  generalize paV [a, b, c] = V at D T he
  obtain ⟨V1, V2⟩ := V
  generalize paOk [a, b, c] = ok at T he
  simp only at D T he
  clear hLm hkm hs ha hb hc hA hg hg2
  by_cases hbad : i < 0 ∨ (L.length : Int) ≤ i
  · have e : miV L i = ([], 1) := by rw [miV, if_pos hbad]
    rw [e] at M
    clear e
    have hb2 : i < 0 ∨ (¬ i < 0 ∧ (L.length : Int) ≤ i) := by omega
    rcases hb2 with h1 | ⟨h1, h2⟩
    all_goals
      clear hbad
      go_enter Try.func6, Try.ntmps6
      go_wp2_with fail
      refine G.out.mono ?_
      rintro e w1 ⟨rfl, hw⟩
      subst hw
      go_wp2_with fail
      refine (G2.out _).mono ?_
      rintro e w2 ⟨rfl, hb⟩
      have HB2 := Lib.hid hb
      clear hb
      go_wp2_with fail
      refine (D.out _).mono ?_
      rintro e w3 ⟨rfl, hb⟩
      have HB3 := Lib.hid (Below.step HB2.out hb)
      clear hb HB2
      go_wp2_with fail
      refine (T.out _).mono ?_
      rintro e w4 ⟨rfl, hb⟩
      have HB4 := Lib.hid (Below.step HB3.out hb)
      clear hb HB3
      go_wp2_with fail
      refine (M.out _ (HA.out.up HB4.out)).mono ?_
      rintro e w5 ⟨rfl, hb⟩
      have HB5 := Lib.hid (Below.step HB4.out hb)
      clear hb HB4
      go_wp2_with fail
      refine (K.out _).mono ?_
      rintro e w6 ⟨rfl, hb⟩
      have HB6 := Lib.hid (Below.step HB5.out hb)
      clear hb HB5
      go_wp2
      go_ret
      exact ⟨rfl, HB6.out⟩
  · obtain ⟨n, rfl⟩ : ∃ n : Nat, i = (n : Int) := ⟨i.toNat, by omega⟩
    have hn : n < L.length := by omega
    have e : miV L n = paV (L.take n ++ L.drop (n + 1)) := by rw [miV, if_neg hbad]; simp
    rw [e] at M
    obtain ⟨bb, o, rfl, hbl, hcell⟩ : ∃ b o, A = some ⟨b, o, none⟩ ∧ b < w.heap.size ∧ ∀ j (hj : j < L.length), w.cell? ⟨b, o + j, none⟩ = some (.string ⟨(L[j]).toArray⟩) := by
      rcases HA.out with h | h
      · rw [h] at hn; simp at hn
      · exact h
    have hlt := List.length_take (i := n) (l := L)
    have hld := List.length_drop (i := n + 1) (l := L)
    have S1 : Hid (StrsAt w w.heap.size (some ⟨bb, o, none⟩) (L.take n)) := strs_take hcell hbl
    have S2 : Hid (StrsAt w w.heap.size (some ⟨bb, o + (n + 1), none⟩) (L.drop (n + 1))) := strs_drop hcell hbl
    have R := Lib.hid (fun A c w1 h => refPa_any A c (L.take n ++ L.drop (n + 1)) (by rw [List.length_append, hlt, hld]; unfold maxLen; omega) (fun s hs => HS.out s (by
      rw [List.mem_append] at hs
      rcases hs with h | h
      · exact List.mem_of_mem_take h
      · exact List.mem_of_mem_drop h)) w1 h)
    have he2 := paV_e (L.take n ++ L.drop (n + 1))
    obtain ⟨X1, hX1⟩ : ∃ x, L.take n = x := ⟨_, rfl⟩
    obtain ⟨X2, hX2⟩ : ∃ x, L.drop (n + 1) = x := ⟨_, rfl⟩
    rw [hX1] at S1
    rw [hX2] at S2
    rw [hX1, hX2] at R M he2
    rw [hX1] at hlt
    rw [hX2] at hld
    clear hX1 hX2
    have hl1 : X1.length = n := by omega
    have HL1 := Lib.hid hl1
    have HL2 := Lib.hid hld
    obtain ⟨X, hX⟩ : ∃ x, X1 ++ X2 = x := ⟨_, rfl⟩
    rw [hX] at R M he2
    have HX := Lib.hid hX
    clear hX
    generalize paV X = U at R M he2
    obtain ⟨U1, U2⟩ := U
    generalize paOk X = ok2 at R he2
    simp only at R M he2
    have h1 : ¬ (n : Int) < 0 := by omega
    have h2 : ¬ (L.length : Int) ≤ (n : Int) := by omega
    have h3 : n ≤ k := by omega
    have h4 : ¬ L.length ≤ n := by omega
    clear hbad e hcell hl1 hlt hld
    go_enter Try.func6, Try.ntmps6
    go_wp2_with fail
    refine G.out.mono ?_
    rintro e w1 ⟨rfl, hw⟩
    subst hw
    go_wp2_with fail
    refine (G2.out _).mono ?_
    rintro e w2 ⟨rfl, hb⟩
    have HB2 := Lib.hid hb
    clear hb
    go_wp2_with fail
    refine (D.out _).mono ?_
    rintro e w3 ⟨rfl, hb⟩
    have HB3 := Lib.hid (Below.step HB2.out hb)
    clear hb HB2
    go_wp2_with fail
    refine (T.out _).mono ?_
    rintro e w4 ⟨rfl, hb⟩
    have HB4 := Lib.hid (Below.step HB3.out hb)
    clear hb HB3
    go_wp2_with fail
    refine (M.out _ (HA.out.up HB4.out)).mono ?_
    rintro e w5 ⟨rfl, hb⟩
    have HB5 := Lib.hid (Below.step HB4.out hb)
    clear hb HB4
    go_upto_region 11 with fail
    have ho0 := World.ownsRow_nil w5 w1.heap.size 9 1
    generalize Value.slice none 0 0 = v0 at ho0 ⊢
    have HO0 := Lib.hid ho0
    clear ho0
    obtain ⟨ad, hkn, S3⟩ : ∃ ad, ((k = n + 1 ∧ ad = ⟨bb, o, none⟩) ∨ (¬ k = n + 1 ∧ ad = ⟨bb, o + (n + 1), none⟩)) ∧ Hid (StrsAt w1 w1.heap.size (some ad) X2) := by
      by_cases hkn : k = n + 1
      · refine ⟨_, Or.inl ⟨hkn, rfl⟩, ?_⟩
        have : X2 = [] := List.length_eq_zero_iff.1 (by rw [HL2.out]; omega)
        exact Or.inl this
      · exact ⟨_, Or.inr ⟨hkn, rfl⟩, S2⟩
    clear S2
    have tokA : True := trivial
    go_upto_region 12 with (have _t := tokA; clear tokA; at_builtin; refine wpList_app rfl (.tmp 77) (.tmp 80) rfl w1.heap.size _ 0 [] rfl HO0.out _ _ _ X1 rfl HL1.out.symm (S1.out.up HB5.out) (fun h => by cases h) (by omega) HB5.out.size ?_; intro v1 w6 hown hg; have HO1 := Lib.hid hown; have HB6 := Lib.hid (HB5.out.grown hg HB5.out.size (fun q hq => (HO0.out.lt q hq).1)); clear hown hg HO0 HB5)
    rcases hkn with ⟨hkn, rfl⟩ | ⟨hkn, rfl⟩
    all_goals
      have tokB : True := trivial
      go_upto_region 13 with (have _t := tokB; clear tokB; at_builtin; (refine wpList_app rfl (.tmp 82) (.tmp 86) rfl w1.heap.size _ _ _ rfl HO1.out _ _ _ X2 rfl HL2.out.symm (S3.out.up HB6.out) (fun h => by cases h) (by omega) HB6.out.size ?_; intro v2 w7 hown hg; have HO2 := Lib.hid hown; have HB7 := Lib.hid (HB6.out.grown hg HB6.out.size (fun q hq => (HO1.out.lt q hq).1)); clear hown hg HO1 HB6))
      rw [List.nil_append, HX.out] at HO2
      obtain ⟨A2, c2, rfl, hn2, hst, hc2, hc3, hc4⟩ := own_strs HO2.out
      have HST := Lib.hid hst
      clear hst hn2 HO2
      go_wp2_with fail
      refine (R.out _ _ _ HST.out).mono ?_
      rintro e w8 ⟨rfl, hb⟩
      have HB8 := Lib.hid (Below.step HB7.out hb)
      clear hb HB7
      go_wp2_with fail
      refine (K.out _).mono ?_
      rintro e w9 ⟨rfl, hb⟩
      have HB9 := Lib.hid (Below.step HB8.out hb)
      clear hb HB8
      go_wp2
      go_ret
      exact ⟨rfl, HB9.out⟩
end Go.Proofs.Ytlocjjaipahhoaa
