/- The walk through the law ParityRows: it answers true. Condition: texts that a memory can hold. -/
import Derived.Test.YtlocjjaipahhoaaPaY
import Derived.Test.YtlocjjaipahhoaaPaN
namespace Go.Proofs.Ytlocjjaipahhoaa
set_option linter.unusedVariables false
set_option linter.unusedSimpArgs false
set_option maxRecDepth 100000
open Go.RowKit
attribute [local go_sem ↓] Go.wp_at_zero Go.wp_at_succ

theorem own_new (w : World) (B : Nat) (C : Array Value) (L : List (List UInt8)) (hC : C = (L.map encStr).toArray) (n : Nat) (hn : n = L.length) (hm : L.length ≤ maxLen) (hB : B ≤ w.heap.size) :
    (w.alloc (.cells C 9)).ownsRow B 9 1 (.slice (some ⟨w.heap.size, 0, none⟩) n n) n (L.map encStr) := by
  subst hn
  refine ⟨by simp, Or.inr ⟨w.heap.size, L.length, C, rfl, hB, heap_alloc_new w _, Nat.le_refl _, hm, by rw [hC]; simp, ?_⟩⟩
  rw [hC, List.toList_toArray, Nat.mul_one, List.take_of_length_le (by simp)]

theorem rows_great (A : Option Addr) (c : Nat) (L : List (List UInt8)) (i : Int) (more : List UInt8) (hm : more.length ≤ 9223372036854775807) (hL : L.length ≤ maxLen) (hs : ∀ s ∈ L, s.length ≤ maxLen) (w : World) (hA : StrsAt w w.heap.size A L) (hg : grV L = true ∨ 200 < more.length) :
    Calls Try.prog 5 #[.slice A L.length c, .int .i64 i, .string ⟨more.toArray⟩] w fun e w' => e = .returned (.bool true) ∧ Below w.heap.size w w' := by
  have G := Lib.hid (great_any A c L hL hs w hA)
  have K := Lib.hid wakes_any
  clear hL hs hA
  cases h1 : grV L
  · have h2 : (200 : Int) < (more.length : Int) := by
      rcases hg with h | h
      · rw [h1] at h; cases h
      · omega
    rw [h1] at G
    clear h1 hg
    go_enter Try.func5, Try.ntmps5
    go_wp2_with fail
    refine G.out.mono ?_
    rintro e w1 ⟨rfl, hw⟩
    subst hw
    go_wp2_with fail
    refine (K.out _).mono ?_
    rintro e w2 ⟨rfl, hb⟩
    have HB := Lib.hid hb
    clear hb
    go_wp2
    go_ret
    exact ⟨rfl, HB.out⟩
  · rw [h1] at G
    clear h1 hg
    go_enter Try.func5, Try.ntmps5
    go_wp2_with fail
    refine G.out.mono ?_
    rintro e w1 ⟨rfl, hw⟩
    subst hw
    go_wp2_with fail
    refine (K.out _).mono ?_
    rintro e w2 ⟨rfl, hb⟩
    have HB := Lib.hid hb
    clear hb
    go_wp2
    go_ret
    exact ⟨rfl, HB.out⟩

theorem drop_rev (x : List (List UInt8)) (m : Nat) (h : m < x.length) : (x.drop m).reverse = (x.drop (m + 1)).reverse ++ [x[m]] := by
  rw [List.drop_eq_getElem_cons h, List.reverse_cons]

set_option maxHeartbeats 4000000 in
theorem rows_main (A : Option Addr) (c : Nat) (L : List (List UInt8)) (i : Int) (hi : -9223372036854775808 ≤ i ∧ i ≤ 9223372036854775807) (more : List UInt8) (hm : more.length ≤ 200) (hL : L.length ≤ maxLen) (hs : ∀ s ∈ L, s.length ≤ maxLen) (w : World) (hA : StrsAt w w.heap.size A L) (hg : grV L = false) :
    Calls Try.prog 5 #[.slice A L.length c, .int .i64 i, .string ⟨more.toArray⟩] w fun e w' => e = .returned (.bool true) ∧ Below w.heap.size w w' := by
  have h20 := (grV_no hg).1
  have h200 := (grV_no hg).2
  have G := Lib.hid (great_any A c L hL hs w hA)
  rw [hg] at G
  have K := Lib.hid wakes_any
  have X := Lib.hid (sectors_any A c L h20 h200 w hA)
  have hx64 := secs_64 L
  have hxl := secs_len L
  generalize secs L = x at X hx64 hxl
  have hX20 : x.length ≤ 20 := by omega
  have hXm : x.length ≤ 9223372036854775807 := by omega
  have S := Lib.hid (fun A c w1 h => paSum_any A c x (by unfold maxLen; omega) (small_len hx64) w1 h)
  rw [paV_of hx64] at S
  have hy64 : (sec more).length = 64 := sec_len more
  have Y := Lib.hid (fun w1 => sectors_any (some ⟨w1.heap.size, 0, none⟩) 1 [more] (by simp) (by simpa using hm) (w1.alloc (.cells #[.string ⟨more.toArray⟩] 9)) (strs_new w1 _ _ [more] rfl))
  have hse : secs [more] = [sec more] := rfl
  rw [hse] at Y
  generalize sec more = y at Y hy64
  have S2 := Lib.hid (fun (k : Nat) (Z : List (List UInt8)) (hZ : ([y] ++ x.reverse.drop k) ++ x.reverse.take k ++ [y] = Z) => (by
    have h64 : ∀ s ∈ Z, s.length = 64 := by
      intro s hs
      rw [← hZ] at hs
      simp only [List.mem_append, List.mem_singleton] at hs
      rcases hs with ((h | h) | h) | h
      · rw [h]; exact hy64
      · exact hx64 s (List.mem_reverse.1 (List.mem_of_mem_drop h))
      · exact hx64 s (List.mem_reverse.1 (List.mem_of_mem_take h))
      · rw [h]; exact hy64
    have hl : Z.length ≤ maxLen := by
      rw [← hZ]; simp only [List.length_append, List.length_drop, List.length_take, List.length_reverse, List.length_singleton]; unfold maxLen; omega
    refine fun A c w1 h => ?_
    have h2 := paSum_any A c Z hl (small_len h64) w1 h
    rw [paV_of h64, ← hZ, rows_same hx64 y hy64 k, hZ] at h2
    exact h2 : ∀ A c w1, StrsAt w1 w1.heap.size A Z → Calls Try.prog 11 #[.slice A Z.length c] w1 fun e w' => e = .returned (.tuple #[.string ⟨(paS x).toArray⟩, .int .i64 0]) ∧ Below w1.heap.size w1 w'))
  have HXL := Lib.hid hxl
  generalize paS x = V at S S2
  have h200' : ¬ (200 : Int) < (more.length : Int) := by omega
  clear hL hs hA hg h20 h200 hx64 hxl hy64 hse
  go_enter Try.func5, Try.ntmps5
  go_wp2_with fail
  refine G.out.mono ?_
  rintro e wg ⟨rfl, hw⟩
  subst hw
  go_wp2_with fail
  refine X.out.mono ?_
  rintro e w1 ⟨v, rfl, hown, hb⟩
  rw [← HXL.out] at hown
  obtain ⟨A1, c1, rfl, _, hst, hc1, hc2, hc3⟩ := own_strs hown
  have HST := Lib.hid hst
  have HB1 := Lib.hid hb
  clear hb hst hown hc3 hc1 hc2
  go_wp2_with fail
  refine (S.out _ _ _ HST.out).mono ?_
  rintro e w2 ⟨rfl, hb⟩
  have HST2 := Lib.hid (HST.out.up hb)
  have HB2 := Lib.hid (Below.step HB1.out hb)
  clear hb HST HB1
  go_wp2
  go_loopw [11, 10] (fun i v wr => ∃ j : Nat, j ≤ x.length ∧ i = .int .i64 ((j : Int) - 1) ∧ wr.ownsRow w2.heap.size 9 1 v (x.length - j) ((x.drop j).reverse.map encStr) ∧ (x.length = 0 → v = .slice none 0 0) ∧ Below w2.heap.size w2 wr) (fun i _ _ => (intOf i + 1).toNat)
  case atStart => exact ⟨x.length, Nat.le_refl _, rfl, by rw [Nat.sub_self, List.drop_length]; exact World.ownsRow_nil _ _ _ _, fun _ => rfl, Below.refl _ _⟩
  case round =>
    obtain ⟨j, hj, rfl, hown, hnil, hbel⟩ := hrel
    have HO := Lib.hid hown
    have HB := Lib.hid hbel
    have HNIL := Lib.hid hnil
    rcases j with _ | m
    · have e0 : ((0 : Nat) : Int) - 1 = -1 := by omega
      rw [e0]
      clear hown hbel e0 hnil
      rw [List.drop_zero] at HO
      have HOR : Hid (wr.ownsRow w2.heap.size 9 1 _ (x.length - 0) (x.reverse.map encStr)) := HO
      clear HO
      rcases Nat.eq_zero_or_pos x.length with hx0 | hxp
      · have hv := HNIL.out hx0
        have HX0 := Lib.hid hx0
        obtain ⟨L1, hL1⟩ : ∃ L, x.reverse.drop 0 = L := ⟨_, rfl⟩
        obtain ⟨L2, hL2⟩ : ∃ L, x.reverse.take 0 = L := ⟨_, rfl⟩
        obtain ⟨Z, hZ⟩ : ∃ Z, ([y] ++ L1) ++ L2 ++ [y] = Z := ⟨_, rfl⟩
        have S3 := Lib.hid (S2.out 0 Z (by rw [hL1, hL2, hZ]))
        have HZ := Lib.hid hZ
        have HL1 : Hid (0 = L1.length) := by rw [← hL1]; show 0 = _; simp [hx0]
        have HL2 : Hid (0 = L2.length) := by rw [← hL2]; show 0 = _; simp
        have S1T : Hid (StrsAt wr wr.heap.size none L1) := Or.inl (List.length_eq_zero_iff.1 HL1.out.symm)
        have S2T : Hid (StrsAt wr wr.heap.size none L2) := Or.inl (List.length_eq_zero_iff.1 HL2.out.symm)
        clear HNIL HOR hL1 hL2 hZ S2
        subst hv
        go_upto_region 15 with fail
        clear hx0 HX0
        have HBW : Hid (wr.heap.size ≥ w2.heap.size) := HB.out.size
        go_wp2_with fail
        refine (Y.out _).mono ?_
        rintro e w5 ⟨vY, rfl, hownY, hb⟩
        obtain ⟨gy, cy, rfl, hq0, hgy1, hgy2, hcy1, hcy2, hHY⟩ := own_holds (L := [y]) hownY (by simp)
        have hcY : w5.cell? ⟨gy, 0, none⟩ = some (.string ⟨y.toArray⟩) := (hHY 0 (by simp)).1
        have HB5 := Lib.hid (Below.step (HB.out.alloc HB.out.size (.cells #[.string ⟨more.toArray⟩] 9)) hb)
        have HUP := Lib.hid ((Below.refl wr.heap.size wr).alloc (Nat.le_refl _) (.cells #[.string ⟨more.toArray⟩] 9) |>.trans (hb.mono (by simp)))
        have HT1 := Lib.hid (S1T.out.up HUP.out)
        have HT2 := Lib.hid (S2T.out.up HUP.out)
        clear hb hownY hHY HB hgy1 hgy2 hcy2 HUP S1T S2T
        have HO6 := Lib.hid (own_new w5 w2.heap.size #[.string ⟨y.toArray⟩] [y] rfl 1 rfl (by simp [maxLen]) HB5.out.size)
        have HB6 := Lib.hid (HB5.out.alloc HB5.out.size (.cells #[.string ⟨y.toArray⟩] 9))
        have HU6 := Lib.hid ((Below.refl w5.heap.size w5).alloc (Nat.le_refl _) (.cells #[.string ⟨y.toArray⟩] 9))
        have tokA : True := trivial
        go_upto_region 17 with (have _t := tokA; clear tokA; at_builtin; go_loud (refine wpList_app rfl (.tmp 65) (.tmp 68) rfl w2.heap.size _ 1 [y] rfl HO6.out none _ _ L1 rfl HL1.out (HT1.out.up HU6.out) (fun _ => rfl) (by omega) HB6.out.size ?_; intro v7 w7 hown hg; have HO7 := Lib.hid hown; have HB7 := Lib.hid (HB6.out.grown hg HB6.out.size (fun q hq => (HO6.out.lt q hq).1)); have HU7 := Lib.hid (HU6.out.grown hg (by simp) (fun q hq => by have h3 : w5.heap.size = q := Option.some.inj hq; omega)); clear hown hg HO6 HB6 HU6))
        have HT7 := Lib.hid (HT2.out.up HU7.out)
        clear HT1 HT2 HU7
        have tokB : True := trivial
        go_upto_region 18 with (have _t := tokB; clear tokB; at_builtin; go_loud (refine wpList_app rfl (.tmp 70) (.tmp 73) rfl w2.heap.size _ _ _ rfl HO7.out none _ _ L2 rfl HL2.out HT7.out (fun _ => rfl) (by omega) HB7.out.size ?_; intro v8 w8 hown hg; have HO8 := Lib.hid hown; have HB8 := Lib.hid (HB7.out.grown hg HB7.out.size (fun q hq => (HO7.out.lt q hq).1)); clear hown hg HO7 HB7 HT7))
        have hbs8 : w2.heap.size ≤ w8.heap.size := HB8.out.size
        have tokC : True := trivial
        go_upto_region 19 with (have _t := tokC; clear tokC; at_builtin; go_loud (refine wpList_app rfl (.tmp 75) (.tmp 77) rfl w2.heap.size _ _ _ rfl (HO8.out.alloc (.cells #[.string ⟨y.toArray⟩] 9)) _ _ _ [y] rfl rfl (one_strs _ _) (fun h => by cases h) (by omega) (by rw [size_alloc]; omega) ?_; intro v9 w9 hown hg; rw [HZ.out] at hown; have HO9 := Lib.hid hown; have HB9 := Lib.hid ((HB8.out.alloc hbs8 _).grown hg (by rw [size_alloc]; omega) (fun q hq => (HO8.out.lt q hq).1)); clear hown hg HO8 HB8))
        obtain ⟨A9, c9, rfl, hq1, hst, hq2, hq3, hq4⟩ := own_strs HO9.out
        have HST9 := Lib.hid hst
        clear hst HO9 hq0 hq1 hq2 hq3 hq4
        go_wp2_with fail
        refine (S3.out _ _ _ HST9.out).mono ?_
        rintro e w10 ⟨rfl, hb⟩
        have HB10 := Lib.hid (Below.step HB2.out (Below.step HB9.out hb))
        clear hb HB9
        go_wp2_with fail
        refine (K.out _).mono ?_
        rintro e w11 ⟨rfl, hb⟩
        have HB11 := Lib.hid (Below.step HB10.out hb)
        clear hb HB10
        go_wp2
        go_ret
        exact ⟨rfl, HB11.out⟩
      · have hne : x.reverse ≠ [] := by
          intro h
          have := congrArg List.length h
          simp at this
          rw [this] at hxp
          simp at hxp
        obtain ⟨g, cp, rfl, _, _, hgl, hcp, hcm, hHH⟩ := own_holds HOR.out hne
        have hcell : ∀ j (hj : j < x.reverse.length), wr.cell? ⟨g, 0 + j, none⟩ = some (.string ⟨(x.reverse[j]).toArray⟩) := by
          intro j hj
          have h := (hHH j (by simpa using hj)).1
          rw [h]
          have hj2 : j < x.length := by simpa using hj
          simp [hj2]
        have hrl : x.reverse.length = x.length := List.length_reverse
        rw [hrl] at hcp
        have hcm2 : cp ≤ 9223372036854775807 := hcm
        have hn0 : ¬ x.length = 0 := by omega
        have hnp : (0 : Int) < (x.length : Int) := by omega
        rw [hrl]
        obtain ⟨T, hT⟩ : ∃ T, i.tmod (x.length : Int) = T := ⟨_, rfl⟩
        have hT1 : T < (x.length : Int) := by rw [← hT]; exact Int.tmod_lt_of_pos _ hnp
        have hT2 : -(x.length : Int) < T := by
          rw [← hT]
          have := Int.lt_tmod_of_pos i hnp
          omega
        obtain ⟨Kn, hKn, hKlt, hKc⟩ : ∃ Kn : Nat, Kn < x.length ∧ (0 ≤ T → T = (Kn : Int)) ∧ (T < 0 → T + (x.length : Int) = (Kn : Int)) := by
          rcases Int.lt_or_le T 0 with h | h
          · exact ⟨(T + x.length).toNat, by omega, fun h2 => by omega, fun _ => by omega⟩
          · exact ⟨T.toNat, by omega, fun _ => by omega, fun h2 => by omega⟩
        obtain ⟨L1, hL1⟩ : ∃ L, x.reverse.drop Kn = L := ⟨_, rfl⟩
        obtain ⟨L2, hL2⟩ : ∃ L, x.reverse.take Kn = L := ⟨_, rfl⟩
        obtain ⟨Z, hZ⟩ : ∃ Z, ([y] ++ L1) ++ L2 ++ [y] = Z := ⟨_, rfl⟩
        have S3 := Lib.hid (S2.out Kn Z (by rw [hL1, hL2, hZ]))
        have HZ := Lib.hid hZ
        have HL1 : Hid (x.length - Kn = L1.length) := by rw [← hL1]; show _ = _; rw [List.length_drop, hrl]
        have HL2 : Hid (Kn = L2.length) := by rw [← hL2]; show _ = _; rw [List.length_take, hrl]; omega
        have S1T : Hid (StrsAt wr wr.heap.size (some ⟨g, Kn, none⟩) L1) := by rw [← hL1]; have h := strs_drop (k := Kn) hcell hgl; rw [Nat.zero_add] at h; exact h
        have S2T : Hid (StrsAt wr wr.heap.size (some ⟨g, 0, none⟩) L2) := by rw [← hL2]; exact strs_take hcell hgl
        have hk1 : Kn ≤ x.length := by omega
        have hk2 : Kn ≤ cp := by omega
        have hk3 : ¬ cp = Kn := by omega
        clear HNIL HOR hL1 hL2 hZ S2 hHH hcell hgl hne hrl hcm
        rcases Int.lt_or_le T 0 with hTn | hTn
        · have hTK := hKc hTn
          have hw : IntKind.i64.wrap (T + (x.length : Int)) = (Kn : Int) := by
            rw [hTK]
            exact IntWalk.i64_in _ (by omega)
          have hTm : i.tmod (x.length : Int) = T := hT
          clear hKlt hKc hT1 hT2 hT
          go_upto_region 15 with fail
          have HBW : Hid (wr.heap.size ≥ w2.heap.size) := HB.out.size
          go_wp2_with fail
          refine (Y.out _).mono ?_
          rintro e w5 ⟨vY, rfl, hownY, hb⟩
          obtain ⟨gy, cy, rfl, hq0, hgy1, hgy2, hcy1, hcy2, hHY⟩ := own_holds (L := [y]) hownY (by simp)
          have hcY : w5.cell? ⟨gy, 0, none⟩ = some (.string ⟨y.toArray⟩) := (hHY 0 (by simp)).1
          have HB5 := Lib.hid (Below.step (HB.out.alloc HB.out.size (.cells #[.string ⟨more.toArray⟩] 9)) hb)
          have HUP := Lib.hid ((Below.refl wr.heap.size wr).alloc (Nat.le_refl _) (.cells #[.string ⟨more.toArray⟩] 9) |>.trans (hb.mono (by simp)))
          have HT1 := Lib.hid (S1T.out.up HUP.out)
          have HT2 := Lib.hid (S2T.out.up HUP.out)
          clear hb hownY hHY HB hgy1 hgy2 hcy2 HUP S1T S2T
          have HO6 := Lib.hid (own_new w5 w2.heap.size #[.string ⟨y.toArray⟩] [y] rfl 1 rfl (by simp [maxLen]) HB5.out.size)
          have HB6 := Lib.hid (HB5.out.alloc HB5.out.size (.cells #[.string ⟨y.toArray⟩] 9))
          have HU6 := Lib.hid ((Below.refl w5.heap.size w5).alloc (Nat.le_refl _) (.cells #[.string ⟨y.toArray⟩] 9))
          have tokA : True := trivial
          go_upto_region 17 with (have _t := tokA; clear tokA; at_builtin; go_loud (refine wpList_app rfl (.tmp 65) (.tmp 68) rfl w2.heap.size _ 1 [y] rfl HO6.out _ _ _ L1 rfl HL1.out (HT1.out.up HU6.out) (fun h => by cases h) (by omega) HB6.out.size ?_; intro v7 w7 hown hg; have HO7 := Lib.hid hown; have HB7 := Lib.hid (HB6.out.grown hg HB6.out.size (fun q hq => (HO6.out.lt q hq).1)); have HU7 := Lib.hid (HU6.out.grown hg (by simp) (fun q hq => by have h3 : w5.heap.size = q := Option.some.inj hq; omega)); clear hown hg HO6 HB6 HU6))
          have HT7 := Lib.hid (HT2.out.up HU7.out)
          clear HT1 HT2 HU7
          have tokB : True := trivial
          go_upto_region 18 with (have _t := tokB; clear tokB; at_builtin; go_loud (refine wpList_app rfl (.tmp 70) (.tmp 73) rfl w2.heap.size _ _ _ rfl HO7.out _ _ _ L2 rfl HL2.out HT7.out (fun h => by cases h) (by omega) HB7.out.size ?_; intro v8 w8 hown hg; have HO8 := Lib.hid hown; have HB8 := Lib.hid (HB7.out.grown hg HB7.out.size (fun q hq => (HO7.out.lt q hq).1)); clear hown hg HO7 HB7 HT7))
          have hbs8 : w2.heap.size ≤ w8.heap.size := HB8.out.size
          have tokC : True := trivial
          go_upto_region 19 with (have _t := tokC; clear tokC; at_builtin; go_loud (refine wpList_app rfl (.tmp 75) (.tmp 77) rfl w2.heap.size _ _ _ rfl (HO8.out.alloc (.cells #[.string ⟨y.toArray⟩] 9)) _ _ _ [y] rfl rfl (one_strs _ _) (fun h => by cases h) (by omega) (by rw [size_alloc]; omega) ?_; intro v9 w9 hown hg; rw [HZ.out] at hown; have HO9 := Lib.hid hown; have HB9 := Lib.hid ((HB8.out.alloc hbs8 _).grown hg (by rw [size_alloc]; omega) (fun q hq => (HO8.out.lt q hq).1)); clear hown hg HO8 HB8))
          obtain ⟨A9, c9, rfl, hq1, hst, hq2, hq3, hq4⟩ := own_strs HO9.out
          have HST9 := Lib.hid hst
          clear hst HO9 hq0 hq1 hq2 hq3 hq4
          go_wp2_with fail
          refine (S3.out _ _ _ HST9.out).mono ?_
          rintro e w10 ⟨rfl, hb⟩
          have HB10 := Lib.hid (Below.step HB2.out (Below.step HB9.out hb))
          clear hb HB9
          go_wp2_with fail
          refine (K.out _).mono ?_
          rintro e w11 ⟨rfl, hb⟩
          have HB11 := Lib.hid (Below.step HB10.out hb)
          clear hb HB10
          go_wp2
          go_ret
          exact ⟨rfl, HB11.out⟩
        · have hTK := hKlt hTn
          rw [hTK] at hT
          clear hKlt hKc hT1 hT2 hTK hTn
          go_upto_region 15 with fail
          have HBW : Hid (wr.heap.size ≥ w2.heap.size) := HB.out.size
          go_wp2_with fail
          refine (Y.out _).mono ?_
          rintro e w5 ⟨vY, rfl, hownY, hb⟩
          obtain ⟨gy, cy, rfl, hq0, hgy1, hgy2, hcy1, hcy2, hHY⟩ := own_holds (L := [y]) hownY (by simp)
          have hcY : w5.cell? ⟨gy, 0, none⟩ = some (.string ⟨y.toArray⟩) := (hHY 0 (by simp)).1
          have HB5 := Lib.hid (Below.step (HB.out.alloc HB.out.size (.cells #[.string ⟨more.toArray⟩] 9)) hb)
          have HUP := Lib.hid ((Below.refl wr.heap.size wr).alloc (Nat.le_refl _) (.cells #[.string ⟨more.toArray⟩] 9) |>.trans (hb.mono (by simp)))
          have HT1 := Lib.hid (S1T.out.up HUP.out)
          have HT2 := Lib.hid (S2T.out.up HUP.out)
          clear hb hownY hHY HB hgy1 hgy2 hcy2 HUP S1T S2T
          have HO6 := Lib.hid (own_new w5 w2.heap.size #[.string ⟨y.toArray⟩] [y] rfl 1 rfl (by simp [maxLen]) HB5.out.size)
          have HB6 := Lib.hid (HB5.out.alloc HB5.out.size (.cells #[.string ⟨y.toArray⟩] 9))
          have HU6 := Lib.hid ((Below.refl w5.heap.size w5).alloc (Nat.le_refl _) (.cells #[.string ⟨y.toArray⟩] 9))
          have tokA : True := trivial
          go_upto_region 17 with (have _t := tokA; clear tokA; at_builtin; go_loud (refine wpList_app rfl (.tmp 65) (.tmp 68) rfl w2.heap.size _ 1 [y] rfl HO6.out _ _ _ L1 rfl HL1.out (HT1.out.up HU6.out) (fun h => by cases h) (by omega) HB6.out.size ?_; intro v7 w7 hown hg; have HO7 := Lib.hid hown; have HB7 := Lib.hid (HB6.out.grown hg HB6.out.size (fun q hq => (HO6.out.lt q hq).1)); have HU7 := Lib.hid (HU6.out.grown hg (by simp) (fun q hq => by have h3 : w5.heap.size = q := Option.some.inj hq; omega)); clear hown hg HO6 HB6 HU6))
          have HT7 := Lib.hid (HT2.out.up HU7.out)
          clear HT1 HT2 HU7
          have tokB : True := trivial
          go_upto_region 18 with (have _t := tokB; clear tokB; at_builtin; go_loud (refine wpList_app rfl (.tmp 70) (.tmp 73) rfl w2.heap.size _ _ _ rfl HO7.out _ _ _ L2 rfl HL2.out HT7.out (fun h => by cases h) (by omega) HB7.out.size ?_; intro v8 w8 hown hg; have HO8 := Lib.hid hown; have HB8 := Lib.hid (HB7.out.grown hg HB7.out.size (fun q hq => (HO7.out.lt q hq).1)); clear hown hg HO7 HB7 HT7))
          have hbs8 : w2.heap.size ≤ w8.heap.size := HB8.out.size
          have tokC : True := trivial
          go_upto_region 19 with (have _t := tokC; clear tokC; at_builtin; go_loud (refine wpList_app rfl (.tmp 75) (.tmp 77) rfl w2.heap.size _ _ _ rfl (HO8.out.alloc (.cells #[.string ⟨y.toArray⟩] 9)) _ _ _ [y] rfl rfl (one_strs _ _) (fun h => by cases h) (by omega) (by rw [size_alloc]; omega) ?_; intro v9 w9 hown hg; rw [HZ.out] at hown; have HO9 := Lib.hid hown; have HB9 := Lib.hid ((HB8.out.alloc hbs8 _).grown hg (by rw [size_alloc]; omega) (fun q hq => (HO8.out.lt q hq).1)); clear hown hg HO8 HB8))
          obtain ⟨A9, c9, rfl, hq1, hst, hq2, hq3, hq4⟩ := own_strs HO9.out
          have HST9 := Lib.hid hst
          clear hst HO9 hq0 hq1 hq2 hq3 hq4
          go_wp2_with fail
          refine (S3.out _ _ _ HST9.out).mono ?_
          rintro e w10 ⟨rfl, hb⟩
          have HB10 := Lib.hid (Below.step HB2.out (Below.step HB9.out hb))
          clear hb HB9
          go_wp2_with fail
          refine (K.out _).mono ?_
          rintro e w11 ⟨rfl, hb⟩
          have HB11 := Lib.hid (Below.step HB10.out hb)
          clear hb HB10
          go_wp2
          go_ret
          exact ⟨rfl, HB11.out⟩
    · have e0 : ((m + 1 : Nat) : Int) - 1 = (m : Int) := by omega
      rw [e0]
      have hlt : m < x.length := by omega
      have hlt' : (m : Int) < (x.length : Int) := by omega
      obtain ⟨b, o, rfl, hbl, hcell⟩ : ∃ b o, A1 = some ⟨b, o, none⟩ ∧ b < wr.heap.size ∧ ∀ j (hj : j < x.length), wr.cell? ⟨b, o + j, none⟩ = some (.string ⟨(x[j]).toArray⟩) := by
        rcases HST2.out.up hbel with h | h
        · rw [h] at hlt; simp at hlt
        · exact h
      have hc := hcell m hlt
      have hdr := drop_rev x m hlt
      generalize x[m] = s at hc hdr
      have HDR := Lib.hid hdr
      have hbs : w2.heap.size ≤ wr.heap.size := hbel.size
      have hgn : x.length - m = x.length - (m + 1) + 1 := by omega
      have HGN := Lib.hid hgn
      clear hown hbel e0 hcell hdr hgn hnil
      have tokA : True := trivial
      go_wp2_with (have _t := tokA; clear tokA; at_builtin; go_loud (refine wpList_app rfl (.tmp 39) (.tmp 44) rfl w2.heap.size _ _ _ rfl (HO.out.alloc (.cells #[.string ⟨s.toArray⟩] 9)) _ _ _ [s] rfl rfl (one_strs _ _) (fun h => by cases h) (by omega) (by rw [size_alloc]; omega) ?_; intro v4 w4 hown hg; rw [← HDR.out, ← HGN.out] at hown; have HO4 := Lib.hid hown; have HB5 := Lib.hid ((HB.out.alloc hbs _).grown hg (by rw [size_alloc]; omega) (fun q hq => (HO.out.lt q hq).1)); clear hown hg HO HB HGN))
      go_roundw
      case rel => exact ⟨m, by omega, by go_num, HO4.out, fun h => by omega, HB5.out⟩
      case measure => simp [intOf] <;> omega
end Go.Proofs.Ytlocjjaipahhoaa
