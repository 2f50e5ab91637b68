/- The walk through the law JournalReads: it answers true. Condition: texts and slices that a memory can hold. -/
import Derived.Test.YtccbohjcbhibkaaJoC
import Derived.Test.YtccbohjcbhibkaaJoD
import Derived.Test.YtccbohjcbhibkaaIntA
namespace Go.Proofs.Ytccbohjcbhibkaa
set_option linter.unusedVariables false
set_option linter.unusedSimpArgs false
set_option maxRecDepth 100000
open Go.RowKit Go.ChangeShapes Go.WideShapes Go.Deep
attribute [local go_sem ↓] Go.wp_at_zero Go.wp_at_succ
attribute [local go_sem ↓] ix_dat ld_rec ld_ref
theorem six_short (arr : Int) {r : Rc} (h : Data r) : ∀ s ∈ sixV arr r, s.length ≤ maxLen := by
  unfold sixV
  split
  · intro s hs
    simp only [List.mem_cons, List.not_mem_nil, or_false] at hs
    rcases hs with rfl | rfl | rfl | rfl | rfl | rfl
    · rw [secV_len mgH rfl arr r]; decide
    · exact h 0
    · exact h 1
    · exact h 2
    · exact h 3
    · rw [secV_len mgC rfl arr r]; decide
  · intro s hs
    simp only [List.mem_cons, List.not_mem_nil, or_false] at hs
    rcases hs with rfl | rfl | rfl | rfl | rfl | rfl <;> decide
theorem own_shape {w : World} {B n s : Nat} {e : TypeId} {v : Value} {xs : List Value} (h : w.ownsRow B e s v n xs) : ∃ A c, v = .slice A n c ∧ (n = 0 ∨ ∃ g, A = some ⟨g, 0, none⟩ ∧ B ≤ g) := by
  rcases h.2 with ⟨rfl, h0⟩ | ⟨g, cap, cur, rfl, hB, _⟩
  · exact ⟨none, 0, by rw [h0], Or.inl h0⟩
  · exact ⟨_, _, rfl, Or.inr ⟨g, rfl, hB⟩⟩
theorem below_grow {w w1 w2 : World} {B g : Nat} (h : Below B w w1) (hg : w1.grownBy w2 (some g)) (hB : B ≤ g) (hs : B ≤ w1.heap.size) : Below B w w2 := h.grown hg hs (fun q hq => by have := Option.some.inj hq; omega)

set_option maxHeartbeats 8000000 in
theorem journalReads_walk (arr ep : Int) (A : Option Addr) (c : Nat) (L : List Rc) (hl : L.length ≤ maxLen) (hd : ∀ r ∈ L, Data r) (AK : Option Addr) (cK : Nat) (K : List Int) (hK : K.length ≤ maxLen)
    (AX : Option Addr) (cX : Nat) (X : List (List UInt8)) (hX : X.length ≤ maxLen) (hXs : ∀ s ∈ X, s.length ≤ maxLen) (w : World) (hA : RsAt w w.heap.size A L) (hAK : IntsAt w w.heap.size AK K) (hAX : StrsAt w w.heap.size AX X) :
    Calls Try.prog 5 #[.int .i64 arr, .int .i64 ep, .slice A L.length c, .slice AK K.length cK, .slice AX X.length cX] w fun e w' => e = .returned (.bool true) ∧ Below w.heap.size w w' := by
  have hl2 : L.length ≤ 9223372036854775807 := hl
  have hK2 : K.length ≤ 9223372036854775807 := hK
  have hX2 : X.length ≤ 9223372036854775807 := hX
  have WK := Lib.hid wakes_any
  have GR := Lib.hid (great_any A c L hl hd w hA)
  have SX := Lib.hid (fun r (h : Data r) w => six_any 1 r h w)
  have RD := Lib.hid (fun A c S h1 h2 w h => read_any arr ep A c S h1 h2 w h)
  have RQ := Lib.hid (fun A c S h1 h2 w h => refRead_any arr ep A c S h1 h2 w h)
  have SM := Lib.hid same_any
  have HA := Lib.hid hA
  have HAK := Lib.hid hAK
  have HAX := Lib.hid hAX
  have HDA := Lib.hid hd
  have HXS := Lib.hid hXs
  generalize greatB L = gb at GR
  clear hA hd hl hAK hAX hXs hK hX
  go_enter Try.func5, Try.ntmps5
  go_wp2_with fail
  refine GR.out.mono ?_
  rintro e w1 ⟨rfl, hw1⟩
  rw [hw1]
  clear hw1 GR
  cases gb
  rotate_left
  · skip
    go_wp2_with fail
    refine (WK.out _).mono ?_
    rintro e w9 ⟨rfl, hb⟩
    go_wp2
    go_ret
    exact ⟨rfl, hb⟩
  by_cases h8 : 8 < L.length
  · have h8i : (8 : Int) < L.length := by omega
    go_wp2_with fail
    refine (WK.out _).mono ?_
    rintro e w9 ⟨rfl, hb⟩
    go_wp2
    go_ret
    exact ⟨rfl, hb⟩
  have h8i : ¬ (8 : Int) < L.length := by omega
  by_cases hk60 : 60 < K.length
  · have hk60i : (60 : Int) < K.length := by omega
    go_wp2_with fail
    refine (WK.out _).mono ?_
    rintro e w9 ⟨rfl, hb⟩
    go_wp2
    go_ret
    exact ⟨rfl, hb⟩
  have hk60i : ¬ (60 : Int) < K.length := by omega
  by_cases hx60 : 60 < X.length
  · have hx60i : (60 : Int) < X.length := by omega
    go_wp2_with fail
    refine (WK.out _).mono ?_
    rintro e w9 ⟨rfl, hb⟩
    go_wp2
    go_ret
    exact ⟨rfl, hb⟩
  have hx60i : ¬ (60 : Int) < X.length := by omega
  have h8n : L.length ≤ 8 := by omega
  have hk60n : K.length ≤ 60 := by omega
  have hx60n : X.length ≤ 60 := by omega
  clear h8 hk60 hx60
  go_wp2
  go_loopw [11, 12] (fun v i wr => ∃ (k : Nat) (S : List (List UInt8)), k ≤ L.length ∧ i = .int .i64 k ∧ S.length = 6 * k ∧ (∀ s ∈ S, s.length ≤ maxLen) ∧ wr.ownsRow w.heap.size 9 1 v S.length (S.map encStr) ∧ Below w.heap.size w wr) (fun _ i _ => 8 - (intOf i).toNat)
  case atStart => exact ⟨0, [], by omega, rfl, rfl, fun s hs => by simp at hs, ⟨rfl, Or.inl ⟨rfl, rfl⟩⟩, Below.refl _ _⟩
  case round =>
    obtain ⟨k, S, hk, rfl, hsl, hss, hown, hbel⟩ := hrel
    have HO := Lib.hid hown
    have HB := Lib.hid hbel
    have HSS := Lib.hid hss
    clear hown hbel hss
    by_cases hlt : k < L.length
    · have hlt' : (k : Int) < L.length := by omega
      have h0 : L ≠ [] := by intro h; rw [h] at hlt; simp at hlt
      obtain ⟨b, o, rfl, hbw, hcells⟩ : ∃ b o, A = some ⟨b, o, none⟩ ∧ b < w.heap.size ∧ ∀ j (hj : j < L.length), wr.rangeAt b (o + j * 7) (encR L[j]) := by
        rcases HA.out.below HB.out with h | h
        · exact absurd h h0
        · exact h
      have hld := RsAt.ld (B := w.heap.size) hcells k hlt
      have HDk := Lib.hid (HDA.out L[k] (List.getElem_mem hlt))
      generalize L[k] = r at hld HDk
      clear h0 hcells
      have hsl48 : S.length ≤ 48 := by omega
      go_wp2_with fail
      refine (SX.out _ HDk.out _).mono ?_
      rintro e w6 ⟨v6, rfl, hown, hb⟩
      have HL6 := Lib.hid (sixV_len 1 r)
      have HSH := Lib.hid (six_short 1 HDk.out)
      obtain ⟨A6, c6, rfl, hq1, hst, hq2, hq3, hq4⟩ := own_strs hown
      have HN6 := Lib.hid hq4
      have HS6 := Lib.hid hst
      clear hown hq1 hst hq2 hq3 hq4
      generalize sixV 1 r = L6 at *
      have HO6 := Lib.hid (HO.out.kept (grown_of_below hb) (by cases Value.ownBlock _ <;> simp))
      have HB6 := Lib.hid (Below.step HB.out hb)
      have HSL := Lib.hid hsl
      clear hb hld HO HB hsl
      have tokA : True := trivial
      go_wp2_with (have _t := tokA; clear tokA; at_builtin; go_loud (refine wpList_app rfl (.tmp 39) (.tmp 44) rfl w.heap.size _ _ _ rfl HO6.out A6 _ c6 L6 rfl (by first | rfl | exact HL6.out.symm) HS6.out HN6.out (by have := HL6.out; omega) HB6.out.size ?_; intro v7 w7 hown hg; have HO7 := Lib.hid hown; have HB7 := Lib.hid (HB6.out.grown hg HB6.out.size (fun q hq => (HO6.out.lt q hq).1)); clear hown hg HO6 HB6 HS6 HN6))
      go_roundw
      case rel => exact ⟨k + 1, S ++ L6, by omega, by go_num, by rw [List.length_append, HSL.out, HL6.out]; omega, fun s hs => (List.mem_append.1 hs).elim (HSS.out s) (HSH.out s), by rw [List.length_append]; exact HO7.out, HB7.out⟩
      case measure => simp [intOf] <;> omega
    · have hkl : k = L.length := by omega
      subst hkl
      obtain ⟨A1, c1, rfl, hA1⟩ := own_shape HO.out
      have HA1 := Lib.hid hA1
      have hn48 : S.length ≤ 48 := by omega
      clear hA1
      obtain ⟨n, hn⟩ : ∃ n, n = S.length := ⟨_, rfl⟩
      have HO1 := HO
      have HA2 := HA1
      rw [← hn] at HO1 HA2 hn48 ⊢
      have HNS := Lib.hid (fun _ : Unit => hn.symm)
      clear HO HA1 hn hsl
      have HI : Hid (∃ T : List (List UInt8), T.length = n ∧ (∀ s ∈ T, s.length ≤ maxLen) ∧ wr.ownsRow w.heap.size 9 1 (.slice A1 n c1) n (T.map encStr)) := Lib.hid ⟨S, HNS.out (), HSS.out, HO1.out⟩
      clear HO1 HNS HSS
      obtain ⟨wo, rfl⟩ : ∃ wo : World, wo = wr := ⟨_, rfl⟩
      go_wp2
      go_loopw [13] (fun i wr => ∃ (k : Nat) (T : List (List UInt8)), k ≤ K.length ∧ i = .int .i64 k ∧ T.length = n ∧ (∀ s ∈ T, s.length ≤ maxLen) ∧ wr.ownsRow w.heap.size 9 1 (.slice A1 n c1) n (T.map encStr) ∧ Below w.heap.size w wr) (fun i _ => 60 - (intOf i).toNat)
      case atStart =>
        obtain ⟨T, h1, h2, h3⟩ := HI.out
        exact ⟨0, T, by omega, rfl, h1, h2, h3, HB.out⟩
      case round =>
        obtain ⟨k, T, hk, rfl, htl, hts, hown, hbel⟩ := hrel
        have HO := Lib.hid hown
        have HB2 := Lib.hid hbel
        have HTS := Lib.hid hts
        clear hown hbel hts HI HB
        by_cases hgo : k < K.length ∧ k < X.length ∧ 0 < n
        · obtain ⟨hlk, hlx, hn0⟩ := hgo
          obtain ⟨g, rfl, hgB⟩ : ∃ g, A1 = some ⟨g, 0, none⟩ ∧ w.heap.size ≤ g := by
            rcases HA2.out with h | h
            · omega
            · exact h
          obtain ⟨bk, ok, rfl, hbk, hck⟩ : ∃ b o, AK = some ⟨b, o, none⟩ ∧ b < w.heap.size ∧ ∀ j (hj : j < K.length), w.cell? ⟨b, o + j, none⟩ = some (.int .i64 K[j]) := by
            rcases HAK.out with h | h
            · rw [h] at hlk; simp at hlk
            · exact h
          obtain ⟨bx, ox, rfl, hbx, hcx⟩ : ∃ b o, AX = some ⟨b, o, none⟩ ∧ b < w.heap.size ∧ ∀ j (hj : j < X.length), wr.cell? ⟨b, o + j, none⟩ = some (.string ⟨(X[j]).toArray⟩) := by
            rcases HAX.out.below HB2.out with h | h
            · rw [h] at hlx; simp at hlx
            · exact h
          have hcp := (HB2.out.cell (p := ⟨bk, ok + k, none⟩) hbk).trans (hck k hlk)
          have hcs := hcx k hlx
          have hsx : (X[k]).length ≤ 9223372036854775807 := HXS.out _ (List.getElem_mem hlx)
          generalize K[k] = p at hcp
          generalize X[k] = t at hcs hsx
          have hlk' : (k : Int) < (K.length : Int) := by omega
          have hlx' : (k : Int) < (X.length : Int) := by omega
          have hn0' : (0 : Int) < (n : Int) := by omega
          have hn1 : ¬ n = 0 := by omega
          obtain ⟨TM, hT⟩ : ∃ TM, p.tmod (n : Int) = TM := ⟨_, rfl⟩
          have hT1 : TM < (n : Int) := by rw [← hT]; exact Int.tmod_lt_of_pos _ hn0'
          have hT2 : -(n : Int) < TM := by
            rw [← hT]
            have := Int.lt_tmod_of_pos p hn0'
            omega
          obtain ⟨Kn, hKn, hKlt, hKc⟩ : ∃ Kn : Nat, Kn < n ∧ (0 ≤ TM → TM = (Kn : Int)) ∧ (TM < 0 → TM + (n : Int) = (Kn : Int)) := by
            rcases Int.lt_or_le TM 0 with h | h
            · exact ⟨(TM + n).toNat, by omega, fun h2 => by omega, fun _ => by omega⟩
            · exact ⟨TM.toNat, by omega, fun _ => by omega, fun h2 => by omega⟩
          have hsign : (TM < 0 ∧ p.tmod (n : Int) = TM ∧ IntKind.i64.wrap (TM + (n : Int)) = (Kn : Int)) ∨ (p.tmod (n : Int) = (Kn : Int)) := by
            rcases Int.lt_or_le TM 0 with h | h
            · exact Or.inl ⟨h, hT, by rw [hKc h]; exact IntWalk.i64_in _ (by omega)⟩
            · exact Or.inr (by rw [hT]; exact hKlt h)
          have hKi : (Kn : Int) < (n : Int) := by omega
          have hcg : wr.cell? ⟨g, Kn, none⟩ = some (encStr (T[Kn]'(by omega))) := by
            rw [HO.out.cellAt Kn (by omega), List.getElem?_map, List.getElem?_eq_getElem (by omega)]
            rfl
          have hfg := HO.out.frozenAt Kn
          have hst := HO.out.stored Kn (encStr t)
          have hown2 := hst.1
          rw [← List.map_set] at hown2
          have HO2 := Lib.hid hown2
          have HB3 := Lib.hid (below_grow HB2.out hst.2 hgB HB2.out.size)
          have HTL : Hid ((T.set Kn t).length = n) := Lib.hid (by rw [List.length_set]; exact htl)
          have HTS2 : Hid (t.length ≤ maxLen → ∀ s ∈ T.set Kn t, s.length ≤ maxLen) := Lib.hid (fun ht s hs => by
            rcases List.mem_or_eq_of_mem_set hs with h | h
            · exact HTS.out s h
            · rw [h]; exact ht)
          generalize T[Kn] = old at hcg
          clear hst hown2 hT hKc hKlt hT1 hT2 hck hcx hn1 HTS HO
          by_cases ht200 : 200 < t.length
          · have ht200i : (200 : Int) < t.length := by omega
            clear hsign
            go_wp2_with fail
            refine (WK.out _).mono ?_
            rintro e w9 ⟨rfl, hb⟩
            go_wp2
            go_ret
            exact ⟨rfl, Below.step HB2.out hb⟩
          · have ht200i : ¬ (200 : Int) < t.length := by omega
            have HT3 := Lib.hid (HTS2.out (by unfold maxLen; omega))
            clear HTS2 ht200
            rcases hsign with ⟨hTn, hTm, hw⟩ | hTm
            all_goals
              go_wp2
              go_roundw
              case rel => exact ⟨k + 1, T.set Kn t, by omega, by go_num, HTL.out, HT3.out, HO2.out, HB3.out⟩
              case measure => simp [intOf] <;> omega
        · have hend : (K.length : Int) ≤ (k : Int) ∨ ((k : Int) < (K.length : Int) ∧ (X.length : Int) ≤ (k : Int)) ∨ ((k : Int) < (K.length : Int) ∧ (k : Int) < (X.length : Int) ∧ ¬ (0 : Int) < (n : Int)) := by omega
          clear hgo
          have hTm : T.length ≤ maxLen := by unfold maxLen; omega
          obtain ⟨A9, c9, he9, _, hst, _, _, _⟩ := own_strs (by rw [← htl] at HO; exact HO.out)
          have HST := Lib.hid hst
          have HTM := Lib.hid hTm
          have HTL := Lib.hid (fun _ : Unit => htl)
          injection he9 with e1 e2 e3
          subst e1
          subst e3
          have RD2 : Hid (∀ w, StrsAt w w.heap.size A1 T → Calls Try.prog 22 #[.int .i64 arr, .int .i64 ep, .slice A1 n c1] w fun e w' => ∃ v, e = .returned v ∧ RecAt w' w.heap.size v (foldK arr ep T 8) ∧ Below w.heap.size w w') := Lib.hid (fun w h => by
            have h2 := RD.out A1 c1 T hTm HTS.out w h
            rw [readV_put, htl] at h2
            exact h2)
          have RQ2 : Hid (∀ w, StrsAt w w.heap.size A1 T → Calls Try.prog 23 #[.int .i64 arr, .int .i64 ep, .slice A1 n c1] w fun e w' => ∃ v, e = .returned v ∧ w'.ownsRow w.heap.size 36 7 v (foldK arr ep T 8).length (flat (foldK arr ep T 8)) ∧ Below w.heap.size w w') := Lib.hid (fun w h => by
            have h2 := RQ.out A1 c1 T hTm HTS.out w h
            rw [htl] at h2
            exact h2)
          generalize foldK arr ep T 8 = G at RD2 RQ2
          clear hst hTm htl e2 HO
          rcases hend with h1 | ⟨h1, h2⟩ | ⟨h1, h2, h3⟩
          all_goals
            go_wp2_with fail
            refine (RD2.out _ HST.out).mono ?_
            rintro e w5 ⟨v5, rfl, hrec, hb⟩
            obtain ⟨A5, c5, rfl, _, hr5, hG⟩ := hrec.rs
            have HR5 := Lib.hid hr5
            have HST5 := Lib.hid (HST.out.up hb)
            have HB5 := Lib.hid (Below.step HB2.out hb)
            have HG := Lib.hid hG
            clear hrec hb hr5 hG
            go_wp2_with fail
            refine (RQ2.out _ HST5.out).mono ?_
            rintro e w6 ⟨v6, rfl, ho, hb⟩
            obtain ⟨A6, c6, rfl, _, hr6, _, _, _⟩ := own_recs ho
            have HR6 := Lib.hid hr6
            have HR56 := Lib.hid (HR5.out.up hb)
            have HB6 := Lib.hid (Below.step HB5.out hb)
            clear ho hb hr6
            go_wp2_with fail
            refine (SM.out _ _ _ _ _ HG.out _ HR56.out HR6.out).mono ?_
            rintro e w7 ⟨rfl, hb⟩
            have HB7 := Lib.hid (Below.step HB6.out hb)
            clear hb
            go_wp2_with fail
            refine (WK.out _).mono ?_
            rintro e w9 ⟨rfl, hb⟩
            go_wp2
            go_ret
            exact ⟨rfl, Below.step HB7.out hb⟩
end Go.Proofs.Ytccbohjcbhibkaa
