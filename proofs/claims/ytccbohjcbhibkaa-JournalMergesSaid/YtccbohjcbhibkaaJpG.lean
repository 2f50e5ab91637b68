/- The walk through the law JournalMerges: it answers true. Condition: texts and slices that a memory can hold. -/
import Derived.Test.YtccbohjcbhibkaaJpF
import Derived.Test.YtccbohjcbhibkaaJoD
import Derived.Test.YtccbohjcbhibkaaJpE
namespace Go.Proofs.Ytccbohjcbhibkaa
set_option linter.unusedVariables false
set_option linter.unusedSimpArgs false
set_option maxRecDepth 100000
open Go.RowKit Go.Proofs Go.Shelf Go.Lib Go.Sort Go.ChangeShapes
attribute [local go_sem ↓] Go.wp_at_zero Go.wp_at_succ
attribute [local go_sem ↓] ix_dat ld_rec ld_ref
theorem sq_info : (Try.prog.info? 45).map (fun i => (i.zero, i.size, i.bytes)) = some (some (.slice none 0 0), 1, 24) := by kernel_rfl
/-- rows of two kinds lie in two blocks -/
theorem own_tags {w : World} {B B' s s' n n' : Nat} {v v' : Value} {xs xs' : List Value} {e e' : TypeId} (h : w.ownsRow B e s v n xs) (h' : w.ownsRow B' e' s' v' n' xs') (hne : e ≠ e') : v.ownBlock = none ∨ v.ownBlock ≠ v'.ownBlock := by
  rcases h.2 with ⟨rfl, _⟩ | ⟨g, cap, cur, rfl, _, hg, _⟩
  · exact Or.inl rfl
  · refine Or.inr fun he => ?_
    rcases h'.2 with ⟨rfl, _⟩ | ⟨g', cap', cur', rfl, _, hg', _⟩
    · cases he
    · have : g = g' := Option.some.inj he
      subst this
      rw [hg] at hg'
      injection hg' with h1
      injection h1 with _ h2
      exact hne h2
/-- the law's rows, turned into the reference's -/
structure Turned (w : World) (B : Nat) (v : Value) (Ls : List (List Rc)) (rs : List (Value × List Rc)) : Prop where
  len : rs.length = Ls.length
  snd : rs.map (·.2) = Ls
  row : w.ownsRow B 45 1 v rs.length (rs.map (·.1))
  each : ∀ p ∈ rs, w.ownsRow B 36 7 p.1 p.2.length (flat p.2)
theorem Turned.nil (w : World) (B : Nat) : Turned w B (.slice none 0 0) [] [] := ⟨rfl, rfl, ⟨rfl, Or.inl ⟨rfl, rfl⟩⟩, fun p hp => by simp at hp⟩
theorem Turned.below {w w' : World} {B : Nat} {v : Value} {Ls : List (List Rc)} {rs : List (Value × List Rc)} (h : Turned w B v Ls rs) (hb : Below w.heap.size w w') : Turned w' B v Ls rs :=
  ⟨h.len, h.snd, h.row.kept (grown_of_below hb) (by cases Value.ownBlock _ <;> simp), fun p hp => (h.each p hp).kept (grown_of_below hb) (by cases Value.ownBlock _ <;> simp)⟩
theorem Turned.rowC {w : World} {B : Nat} {v : Value} {Ls : List (List Rc)} {rs : List (Value × List Rc)} (h : Turned w B v Ls rs) : ∃ G c, v = .slice G rs.length c ∧ RowC w G rs := by
  have hrows : ∀ p ∈ rs, RowV w p.1 p.2 := fun p hp => own_row w B p.1 p.2 (h.each p hp)
  obtain ⟨hl, hr⟩ := h.row
  rcases hr with ⟨rfl, h0⟩ | ⟨g, cap, cur, rfl, hB, hg, hn, hm, hsz, htk⟩
  · have : rs = [] := by simpa using h0
    subst this
    exact ⟨none, 0, rfl, Or.inl rfl, hrows⟩
  · refine ⟨some ⟨g, 0, none⟩, cap, rfl, Or.inr ⟨g, rfl, (Array.getElem?_eq_some_iff.1 hg).1, fun i hi => ?_⟩, hrows⟩
    have e1 : (rs.map (·.1))[i]? = some rs[i].1 := by simp [hi]
    rw [← htk, List.getElem?_take, if_pos (by omega)] at e1
    have e3 : w.cell? ⟨g, i, none⟩ = cur[i]? := by simp [World.cell?, hg]
    rw [e3]
    simpa using e1
theorem Turned.kept {w w' : World} {B B' s n : Nat} {v v' : Value} {xs : List Value} {Ls : List (List Rc)} {rs : List (Value × List Rc)} (h : Turned w B v Ls rs) (hg : w.grownBy w' v'.ownBlock) (h' : w.ownsRow B' 29 s v' n xs) : Turned w' B v Ls rs :=
  ⟨h.len, h.snd, h.row.kept hg (own_tags h.row h' (by decide)), fun p hp => (h.each p hp).kept hg (own_tags (h.each p hp) h' (by decide))⟩
theorem one_at (w : World) (e : TypeId) (x : Value) : ∀ j u, [x][j]? = some u → (w.alloc (.cells #[x] e)).cell? ((⟨w.heap.size, 0, none⟩ : Addr).add j) = some u := by
  intro j u hj
  have h0 : j = 0 := by
    have := (List.getElem?_eq_some_iff.1 hj).1
    simpa using this
  subst h0
  have hu : x = u := by simpa using hj
  subst hu
  have := Blk.new w e #[x] 0 0 (Or.inl (Nat.le_refl _))
  have h2 := this.cell 0
  rw [addr_add]
  exact h2
theorem given_run (X : Rc) (w : World) : Calls Try.prog 18 #[.agg (rcC X)] w fun e w' => e = .returned (.agg (rcC X)) ∧ Below w.heap.size w w' := given_any X w

set_option maxHeartbeats 4000000 in
/-- one row, turned -/
theorem turn_nil (w : World) (B : Nat) : w.ownsRow B 36 7 (.slice none 0 0) 0 (flat []) := ⟨rfl, Or.inl ⟨rfl, rfl⟩⟩

set_option maxHeartbeats 2000000 in
theorem journalMerges_walk (A : Option Addr) (cA : Nat) (LA : List Rc) (hlA : LA.length ≤ maxLen) (hdA : ∀ r ∈ LA, Data r) (hnA : A = none → LA = [] ∧ cA = 0) (B : Option Addr) (cB : Nat) (LB : List Rc) (hlB : LB.length ≤ maxLen) (hdB : ∀ r ∈ LB, Data r) (hnB : B = none → LB = [] ∧ cB = 0)
    (C : Option Addr) (cC : Nat) (LC : List Rc) (hlC : LC.length ≤ maxLen) (hdC : ∀ r ∈ LC, Data r) (hnC : C = none → LC = [] ∧ cC = 0)
    (w : World) (hA : RsAt w w.heap.size A LA) (hB : RsAt w w.heap.size B LB) (hC : RsAt w w.heap.size C LC) :
    Calls Try.prog 10 #[.slice A LA.length cA, .slice B LB.length cB, .slice C LC.length cC] w fun e w' => e = .returned (.bool true) ∧ Below w.heap.size w w' := by
  have WK := Lib.hid wakes_any
  have GV := Lib.hid (fun X w => given_run X w)
  have GA := Lib.hid (great_any A cA LA hlA hdA w hA)
  have GB := Lib.hid (great_any B cB LB hlB hdB w hB)
  have GC := Lib.hid (great_any C cC LC hlC hdC w hC)
  have HRA := Lib.hid hA
  have HNNA := Lib.hid hnA
  have HVA : Hid (RowV w (.slice A LA.length cA) LA) := Lib.hid ⟨A, cA, rfl, hA, hnA, hlA⟩
  have HVB : Hid (RowV w (.slice B LB.length cB) LB) := Lib.hid ⟨B, cB, rfl, hB, hnB, hlB⟩
  have HVC : Hid (RowV w (.slice C LC.length cC) LC) := Lib.hid ⟨C, cC, rfl, hC, hnC, hlC⟩
  have HLL := Lib.hid (And.intro (@great_len LA) (And.intro (@great_len LB) (@great_len LC)))
  generalize greatB LA = ga at GA HLL
  generalize greatB LB = gb at GB HLL
  generalize greatB LC = gc at GC HLL
  obtain ⟨nA, hnA2⟩ : ∃ n, n = LA.length := ⟨_, rfl⟩
  obtain ⟨nB, hnB2⟩ : ∃ n, n = LB.length := ⟨_, rfl⟩
  obtain ⟨nC, hnC2⟩ : ∃ n, n = LC.length := ⟨_, rfl⟩
  rw [← hnA2] at GA HVA ⊢
  rw [← hnB2] at GB HVB ⊢
  rw [← hnC2] at GC HVC ⊢
  have HNA := Lib.hid hnA2
  have HNB := Lib.hid hnB2
  have HNC := Lib.hid hnC2
  clear hnA2 hnB2 hnC2 hA hB hC hlA hlB hlC hdA hdB hdC hnA hnB hnC
  go_enter Try.func10, Try.ntmps10
  go_wp2_with fail
  refine GA.out.mono ?_
  rintro e w1 ⟨rfl, hw1⟩
  rw [hw1]
  clear hw1 GA
  cases ga with
  | true =>
    go_wp2_with fail
    refine (WK.out _).mono ?_
    rintro e w9 ⟨rfl, hb⟩
    have HBe := Lib.hid (hb)
    clear hb
    go_wp2
    go_ret
    exact ⟨rfl, HBe.out⟩
  | false =>
    go_wp2_with fail
    refine GB.out.mono ?_
    rintro e w1 ⟨rfl, hw1⟩
    rw [hw1]
    clear hw1 GB
    cases gb with
    | true =>
      go_wp2_with fail
      refine (WK.out _).mono ?_
      rintro e w9 ⟨rfl, hb⟩
      have HBe := Lib.hid (hb)
      clear hb
      go_wp2
      go_ret
      exact ⟨rfl, HBe.out⟩
    | false =>
      go_wp2_with fail
      refine GC.out.mono ?_
      rintro e w1 ⟨rfl, hw1⟩
      rw [hw1]
      clear hw1 GC
      cases gc with
      | true =>
        go_wp2_with fail
        refine (WK.out _).mono ?_
        rintro e w9 ⟨rfl, hb⟩
        have HBe := Lib.hid (hb)
        clear hb
        go_wp2
        go_ret
        exact ⟨rfl, HBe.out⟩
      | false =>
        have hA40 : LA.length ≤ 40 := by simpa using HLL.out.1
        have hB40 : LB.length ≤ 40 := by simpa using HLL.out.2.1
        have hC40 : LC.length ≤ 40 := by simpa using HLL.out.2.2
        have HL := Lib.hid (And.intro hA40 (And.intro hB40 hC40))
        clear hA40 hB40 hC40 HLL
        obtain ⟨R, hR⟩ : ∃ R : List (Value × List Rc), R = [(.slice A nA cA, LA), (.slice B nB cB, LB), (.slice C nC cC, LC)] := ⟨_, rfl⟩
        have HR := Lib.hid hR
        have HR3 : Hid (R.length = 3) := Lib.hid (by rw [hR]; rfl)
        have HRV : Hid (∀ p ∈ R, RowV w p.1 p.2 ∧ p.2.length ≤ 40) := Lib.hid (by
          rw [hR]
          intro p hp
          rcases List.mem_cons.1 hp with rfl | hp
          · exact ⟨HVA.out, HL.out.1⟩
          · rcases List.mem_cons.1 hp with rfl | hp
            · exact ⟨HVB.out, HL.out.2.1⟩
            · rw [List.mem_singleton.1 hp]; exact ⟨HVC.out, HL.out.2.2⟩)
        clear hR HVA HVB HVC
        -- the rows, turned
        have hal := (Below.refl w.heap.size w).alloc (Nat.le_refl _) (.cells #[.slice A nA cA, .slice B nB cB, .slice C nC cC] 22)
        have HG0 := Lib.hid (Blk.new w 22 #[.slice A nA cA, .slice B nB cB, .slice C nC cC] 0 0 (Or.inl (Nat.le_refl _)))
        have HB0 := Lib.hid hal
        clear hal
        go_upto_region 5 with fail
        generalize World.alloc _ _ = w1 at HG0 HB0 ⊢
        obtain ⟨g0, hg0⟩ : ∃ g, g = w.heap.size := ⟨_, rfl⟩
        rw [← hg0] at HG0 ⊢
        have HGC : Hid (∀ k (h : k < R.length), w1.cell? ⟨g0, k, none⟩ = some R[k].1) := Lib.hid (fun k h => by
          have h3 : k < 3 := by rw [← HR3.out]; exact h
          rw [HG0.out.cell]
          have e : #[Value.slice A nA cA, Value.slice B nB cB, Value.slice C nC cC] = (R.map (·.1)).toArray := by rw [HR.out]; rfl
          rw [e]
          simp [h])
        have HG0lt : Hid (g0 < w1.heap.size) := Lib.hid HG0.out.lt
        clear hg0 HG0
        go_loopw [7, 31] (fun s7 s31 wr => ∃ k : Nat, s31 = .int .i64 k ∧ k ≤ 3 ∧ Hid (∃ rs, Turned wr w1.heap.size s7 ((R.map (·.2)).take k) rs) ∧ Hid (Below w1.heap.size w1 wr)) (fun _ i _ => 3 - (intOf i).toNat)
        case atStart => exact ⟨0, rfl, Nat.zero_le _, Lib.hid ⟨[], Turned.nil _ _⟩, Lib.hid (Below.refl _ _)⟩
        case round =>
          obtain ⟨k, rfl, hk, HT, HB⟩ := hrel
          obtain ⟨wb, rfl⟩ : ∃ wb : World, wb = wr := ⟨_, rfl⟩
          by_cases hlt : k < 3
          · have hltz : (k : Int) < 3 := by omega
            have hkR : k < R.length := by rw [HR3.out]; exact hlt
            have hcg : wb.cell? ⟨g0, k, none⟩ = some R[k].1 := (HB.out.cell (p := ⟨g0, k, none⟩) HG0lt.out).trans (HGC.out k hkR)
            obtain ⟨hrv, h40⟩ := HRV.out R[k] (List.getElem_mem _)
            obtain ⟨Ak, ck, hv, hra, hnn, hml⟩ := (hrv.below HB0.out).below HB.out
            have HTK : Hid ((R.map (·.2)).take (k + 1) = (R.map (·.2)).take k ++ [R[k].2]) := Lib.hid (by rw [List.take_add_one, List.getElem?_map, List.getElem?_eq_getElem hkR]; rfl)
            rw [hv] at hcg
            generalize R[k].2 = L at *
            obtain ⟨n, hn⟩ : ∃ n, n = L.length := ⟨_, rfl⟩
            rw [← hn] at hcg h40
            have HN := Lib.hid hn
            have HRK := Lib.hid hra
            clear hv hra hnn hml hn hrv
            go_upto_region 9 with fail
            go_wp2
            go_loopw [10, 11] (fun s10 s11 wr => ∃ j : Nat, s11 = .int .i64 j ∧ j ≤ n ∧ Hid (wr.ownsRow wb.heap.size 36 7 s10 j (flat (L.take j))) ∧ Hid (Below wb.heap.size wb wr)) (fun _ i _ => n - (intOf i).toNat)
            case atStart => exact ⟨0, rfl, Nat.zero_le _, Lib.hid (by rw [List.take_zero]; exact turn_nil _ _), Lib.hid (Below.refl _ _)⟩
            case round =>
              obtain ⟨j, rfl, hj, HO, HBj⟩ := hrel
              obtain ⟨wj, rfl⟩ : ∃ wj : World, wj = wr := ⟨_, rfl⟩
              by_cases hlj : j < n
              · have hljz : (j : Int) < (n : Int) := by omega
                have hjL : j < L.length := by rw [← HN.out]; exact hlj
                obtain ⟨b, o, rfl, hb, hcs⟩ := HRK.out.cells j hjL
                have hld := RsAt.ld (B := wb.heap.size) (fun j hj i v hv => (HBj.out.cell (p := ⟨b, o + j * 7 + i, none⟩) hb).trans (hcs j hj i v hv)) j hjL
                have HTJ : Hid (L.take (j + 1) = L.take j ++ [L[j]]) := Lib.hid (by rw [List.take_add_one, List.getElem?_eq_getElem hjL]; rfl)
                generalize L[j] = X at hld HTJ
                clear hcs
                go_wp2_with fail
                refine (GV.out X _).mono ?_
                rintro e w5 ⟨rfl, hb5⟩
                have HO5 := Lib.hid (HO.out.kept (grown_of_below hb5) (by cases Value.ownBlock _ <;> simp))
                have HB5 := Lib.hid (HBj.out.trans (hb5.mono HBj.out.size))
                have HO6 := Lib.hid (HO5.out.alloc (.cells (rcC X) 36))
                have HX6 := Lib.hid (rs_oneQ w5 X)
                have HB6 := Lib.hid (HB5.out.alloc HB5.out.size (.cells (rcC X) 36))
                have HZ6 := Lib.hid HB6.out.size
                have hjn : j ≤ 40 := by omega
                have HLJ : Hid (j = (L.take j).length) := Lib.hid (by rw [List.length_take]; omega)
                clear hb5 hld
                have tokB : True := trivial
                go_wp2_with (first | (have _t := tokB; refine wpList_bsQ rfl (.tmp 46) rfl X rfl ?_; clear tokB; have tokC : True := trivial) | (have _t := tokC; clear tokC; at_builtin; go_loud (refine wpList_appQs rfl (.tmp 41) (.tmp 47) rfl wb.heap.size _ j (L.take j) rfl HO6.out (some ⟨w5.heap.size, 0, none⟩) 1 1 [X] rfl rfl HX6.out (fun h => by cases h) (by omega) HZ6.out ?_; intro v7 w7 hown hg; have HO7 := Lib.hid hown; have HB7 := Lib.hid (HB6.out.grown hg HZ6.out (fun q hq => (HO6.out.lt q hq).1)); clear hown hg)))
                go_roundw
                case rel => exact ⟨j + 1, by go_num, by omega, Lib.hid (by rw [HTJ.out]; exact HO7.out), HB7⟩
                case measure => simp [intOf] <;> omega
              · have hljz : ¬ (j : Int) < (n : Int) := by omega
                have hjn : j = n := by omega
                obtain ⟨rs, hT⟩ := HT.out
                have HT2 := Lib.hid (hT.below HBj.out)
                have HOL : Hid (wj.ownsRow w1.heap.size 36 7 _ L.length (flat L)) := Lib.hid (by
                  have h := HO.out
                  rw [hjn, HN.out, List.take_of_length_le (Nat.le_refl _)] at h
                  exact own_weak h HB.out.size)
                obtain ⟨A10, c10, rfl, _, _, _, _, _⟩ := own_recs HOL.out
                obtain ⟨i0, hi0, hz0, hz1, hz2⟩ := info_parts sq_info
                have HI := Lib.hid (And.intro hi0 (And.intro hz0 (And.intro hz1 hz2)))
                have hal := (Below.refl wj.heap.size wj).alloc (Nat.le_refl _) (.cells #[.slice A10 L.length c10] 45)
                have HT3 := Lib.hid (HT2.out.below hal)
                have HOL3 := Lib.hid (HOL.out.alloc (.cells #[.slice A10 L.length c10] 45))
                have HB3 := Lib.hid ((HB.out.trans (HBj.out.mono HB.out.size)).trans (hal.mono (Nat.le_trans HB.out.size HBj.out.size)))
                have HZ3 := Lib.hid HB3.out.size
                have HCL := Lib.hid (one_at wj 45 (.slice A10 L.length c10))
                have hrl : rs.length ≤ 3 := by rw [hT.len, List.length_take]; omega
                have HRL := Lib.hid hrl
                obtain ⟨n10, hn10⟩ : ∃ n, n = L.length := ⟨_, rfl⟩
                rw [← hn10] at HT3 HOL3 HB3 HZ3 HCL ⊢
                have HN10 := Lib.hid hn10
                clear hal hi0 hz0 hz1 hz2 hrl hT HT hn10
                have tokD : True := trivial
                go_wp2_with (have _t := tokD; clear tokD; at_builtin; go_loud (refine wpList_append_own _ rfl (.tmp 49) (.tmp 51) 57 rfl w1.heap.size 45 i0 (.slice none 0 0) 1 24 Try.underlying57 HI.out.1 HI.out.2.1 HI.out.2.2.1 HI.out.2.2.2 rfl (by decide) u7 rs.length (rs.map (·.1)) rfl HT3.out.row ⟨wj.heap.size, 0, none⟩ 1 1 [.slice A10 n10 c10] rfl rfl HCL.out (fun u hu => by rw [List.mem_singleton.1 hu]; rfl) (by have := HRL.out; unfold maxLen; omega) (by have := HRL.out; omega) HZ3.out ?_; intro v7 w7 hown hg _; have HO7 := Lib.hid hown; have HG7 := Lib.hid hg; have HB7 := Lib.hid (HB3.out.grown hg HZ3.out (fun q hq => (HT3.out.row.lt q hq).1)); clear hown hg))
                go_roundw
                case rel => exact ⟨k + 1, by go_num, by omega, Lib.hid ⟨rs ++ [(.slice A10 n10 c10, L)], by rw [List.length_append, HTK.out, List.length_append, HT3.out.len]; rfl, by rw [List.map_append, HT3.out.snd, HTK.out]; rfl, by rw [List.map_append, List.length_append]; exact HO7.out, fun p hp => by
                  rcases List.mem_append.1 hp with h | h
                  · exact (HT3.out.each p h).kept HG7.out (own_tags (HT3.out.each p h) HT3.out.row (by decide))
                  · rw [List.mem_singleton.1 h]
                    show w7.ownsRow w1.heap.size 36 7 (.slice A10 n10 c10) L.length (flat L)
                    rw [← HN10.out]
                    exact HOL3.out.kept HG7.out (own_tags HOL3.out HT3.out.row (by decide))⟩, HB7⟩
                case measure => simp [intOf] <;> omega
          · have hltz : ¬ (k : Int) < 3 := by omega
            have hk3 : k = 3 := by omega
            obtain ⟨rs, hT⟩ := HT.out
            rw [hk3, List.take_of_length_le (by rw [List.length_map, HR3.out]; exact Nat.le_refl _)] at hT
            have HTT := Lib.hid hT
            have HBw := Lib.hid (HB0.out.trans (HB.out.mono HB0.out.size))
            have HE0 : Hid (#[Value.slice A nA cA, Value.slice B nB cB, Value.slice C nC cC] = (R.map (·.1)).toArray) := Lib.hid (by rw [HR.out]; rfl)
            have HTOT : Hid ((R.flatMap (·.2)).length ≤ 120) := Lib.hid (by have := HL.out; rw [HR.out]; simp; omega)
            clear hT HT HB HGC HG0lt HB0
            have HN0 := Lib.hid (ownR_none wb wb.heap.size (Nat.le_refl _))
            have hal := (Below.refl wb.heap.size wb).alloc (Nat.le_refl _) (.cells #[] 29)
            have HB0 := Lib.hid hal
            have HX0 := Lib.hid (RsAt.wide (HRA.out.below (HBw.out.trans (hal.mono HBw.out.size))) (Nat.le_trans HBw.out.size hal.size))
            have HT0 := Lib.hid (HTT.out.below hal)
            have HZ0 := Lib.hid hal.size
            have H40 := Lib.hid HL.out.1
            clear hal HTT
            have tokA : True := trivial
            go_upto_region 15 with (have _t := tokA; clear tokA; at_builtin; go_loud (refine wpList_appRs rfl (.tmp 54) (.tmp 55) rfl wb.heap.size _ 0 [] rfl HN0.out A nA cA LA rfl HNA.out HX0.out HNNA.out (by rw [HNA.out]; have := H40.out; omega) HZ0.out ?_; intro v1 w5 hown hg; have HO5 := Lib.hid hown; have HB5 := Lib.hid (HB0.out.grown hg HZ0.out (fun q hq => by cases hq; exact Nat.le_refl _)); have HT5 := Lib.hid (HT0.out.kept hg HN0.out); clear hown hg))
            have HBw5 := Lib.hid (HBw.out.trans (HB5.out.mono HBw.out.size))
            have HOA : Hid (w5.ownsRow wb.heap.size 29 7 v1 LA.length (flat LA)) := Lib.hid (by have := HO5.out; rw [HNA.out, Nat.zero_add, List.nil_append] at this; exact this)
            obtain ⟨A12, c12, rfl, _, hst, _, _, _⟩ := own_recs HOA.out
            have HR12 := Lib.hid hst
            clear hst HN0 HX0 HT0 HZ0 HB0 HB5 HO5 HBw
            rw [← HNA.out]
            -- merged
            have hal := (Below.refl w5.heap.size w5).alloc (Nat.le_refl _) (.cells #[.slice A nA cA, .slice B nB cB, .slice C nC cC] 22)
            have HC := Lib.hid (merge_any (some ⟨w5.heap.size, 0, none⟩) R 3 HR3.out (by decide) (by have := HTOT.out; omega) (w5.alloc (.cells #[.slice A nA cA, .slice B nB cB, .slice C nC cC] 22)) ⟨Or.inr ⟨w5.heap.size, rfl, by rw [← HE0.out]; exact Blk.new w5 22 #[.slice A nA cA, .slice B nB cB, .slice C nC cC] 0 0 (Or.inl (Nat.le_refl _))⟩, fun p hp => ((HRV.out p hp).1.below HBw5.out).below hal⟩)
            have HBa := Lib.hid hal
            clear hal
            go_wp2_with fail
            refine HC.out.mono ?_
            rintro e w6 ⟨v13, M, rfl, hm, hr, hb⟩
            have HM := Lib.hid (merge_ref hm)
            have HB56 := Lib.hid (HBa.out.trans (hb.mono HBa.out.size))
            have HBw6 := Lib.hid (HBw5.out.trans (HB56.out.mono HBw5.out.size))
            have HT6 := Lib.hid (HT5.out.below HB56.out)
            have HR126 := Lib.hid (HR12.out.below HB56.out)
            have HRA6 := Lib.hid (RsAt.wide (HRA.out.below HBw6.out) HBw5.out.size)
            have HR13 : Hid (RowV w6 v13 M) := Lib.hid hr.rowV
            have HS56 := Lib.hid HB56.out.size
            have hnA40 : nA ≤ 40 := by rw [HNA.out]; exact HL.out.1
            clear hm hr hb HC HBa HT5 HR12 HB56 HOA
            obtain ⟨A13, c13, rfl, hr13, _, hl13⟩ := HR13.out
            have H13 := Lib.hid hr13
            have HL13 := Lib.hid hl13
            obtain ⟨n13, hn13⟩ : ∃ n, n = M.length := ⟨_, rfl⟩
            rw [← hn13]
            have HN13 := Lib.hid hn13
            clear hr13 hl13 HR13 hn13
            go_wp2
            go_loopw [14] (fun i wr => ∃ j : Nat, i = .int .i64 j ∧ j ≤ nA ∧ Hid (Below w6.heap.size w6 wr)) (fun i _ => nA - (intOf i).toNat)
            case atStart => exact ⟨0, rfl, Nat.zero_le _, Lib.hid (Below.refl _ _)⟩
            case round =>
              obtain ⟨j, rfl, hj, HBj⟩ := hrel
              obtain ⟨wj, rfl⟩ : ∃ wj : World, wj = wr := ⟨_, rfl⟩
              by_cases hlj : j < nA
              · have hljz : (j : Int) < (nA : Int) := by omega
                have hjL : j < LA.length := by rw [← HNA.out]; exact hlj
                obtain ⟨b1, o1, rfl, hb1, hc1⟩ := HRA6.out.cells j hjL
                obtain ⟨b2, o2, rfl, hb2, hc2⟩ := HR126.out.cells j hjL
                have HLD1 := Lib.hid (RsAt.ld (B := w5.heap.size) (w := wj.drew) (fun j hj i v hv => (HBj.out.drew.cell (p := ⟨b1, o1 + j * 7 + i, none⟩) (Nat.lt_of_lt_of_le hb1 HS56.out)).trans (hc1 j hj i v hv)) j hjL)
                have HLD2 := Lib.hid (RsAt.ld (B := w5.heap.size) (w := wj.drew) (fun j hj i v hv => (HBj.out.drew.cell (p := ⟨b2, o2 + j * 7 + i, none⟩) (Nat.lt_of_lt_of_le hb2 HS56.out)).trans (hc2 j hj i v hv)) j hjL)
                generalize LA[j] = X at HLD1 HLD2
                have hneq := fun w => (by have h := run_rc_neq w X X; rw [rcEq_self] at h; exact h : (binOp .neq 29 (.agg (rcC X)) (.agg (rcC X))).run Try.prog w = .ok (.bool false) w)
                have HBd := Lib.hid HBj.out.drew
                clear hc1 hc2
                go_upto_region 19 with fail
                refine wp_region_noPanic ?_
                refine wp_region_held_drew (S := (fun w' => (Ld 29 (.pointer (some ⟨b1, o1 + j * 7, none⟩))).run Try.prog w' = .ok (.agg (rcC X)) w' ∧ (Ld 29 (.pointer (some ⟨b2, o2 + j * 7, none⟩))).run Try.prog w' = .ok (.agg (rcC X)) w')) (by kernel_rfl) (by first | exact ⟨HLD1.out, HLD2.out⟩) (fun hHeld => ?_)
                refine wpAnyH_take (i := 0) (oi := _) (v := ?vr1n0_1) rfl (by kernel_rfl) (by kernel_rfl) (by kernel_rfl) (fun _ _ _ h => h) (Or.inl ⟨by kernel_rfl, ?hr1n0_1⟩) hHeld ?_
                case hr1n0_1 => (intro w hSw; (try dsimp only at hSw); go_simp; try (with_reducible rfl))
                try simp only [List.getElem_toArray, List.getElem_cons_zero, List.getElem_cons_succ, Act.put, List.setIfInBounds_toArray, List.set_cons_zero, List.set_cons_succ]
                refine wpAnyH_take (i := 1) (oi := _) (v := ?vr1n1_2) rfl (by kernel_rfl) (by kernel_rfl) (by kernel_rfl) (fun _ _ _ h => h) (Or.inl ⟨by kernel_rfl, ?hr1n1_2⟩) hHeld ?_
                case hr1n1_2 => (intro w hSw; (try dsimp only at hSw); go_simp; try (with_reducible rfl))
                try simp only [List.getElem_toArray, List.getElem_cons_zero, List.getElem_cons_succ, Act.put, List.setIfInBounds_toArray, List.set_cons_zero, List.set_cons_succ]
                refine wpAnyH_take (i := 2) (oi := _) (v := ?vr1n2_3) rfl (by kernel_rfl) (by kernel_rfl) (by kernel_rfl) (fun _ _ _ h => h) (Or.inl ⟨by kernel_rfl, ?hr1n2_3⟩) hHeld ?_
                case hr1n2_3 => (intro w hSw; (try dsimp only at hSw); go_simp; try (with_reducible rfl))
                try simp only [List.getElem_toArray, List.getElem_cons_zero, List.getElem_cons_succ, Act.put, List.setIfInBounds_toArray, List.set_cons_zero, List.set_cons_succ]
                refine wpAnyH_take (i := 3) (oi := _) (v := ?vr1n3_4) rfl (by kernel_rfl) (by kernel_rfl) (by kernel_rfl) (fun _ _ _ h => h) (Or.inl ⟨by kernel_rfl, ?hr1n3_4⟩) hHeld ?_
                case hr1n3_4 => (intro w hSw; (try dsimp only at hSw); go_simp; try (with_reducible rfl))
                try simp only [List.getElem_toArray, List.getElem_cons_zero, List.getElem_cons_succ, Act.put, List.setIfInBounds_toArray, List.set_cons_zero, List.set_cons_succ]
                refine wpAnyH_take (i := 4) (oi := _) (v := ?vr1n4_5) rfl (by kernel_rfl) (by kernel_rfl) (by kernel_rfl) (fun _ _ _ h => h) (Or.inl ⟨by kernel_rfl, ?hr1n4_5⟩) hHeld ?_
                case hr1n4_5 => (intro w hSw; (try dsimp only at hSw); go_simp; try (with_reducible rfl))
                try simp only [List.getElem_toArray, List.getElem_cons_zero, List.getElem_cons_succ, Act.put, List.setIfInBounds_toArray, List.set_cons_zero, List.set_cons_succ]
                refine wpAnyH_take (i := 5) (oi := _) (v := ?vr1n5_6) rfl (by kernel_rfl) (by kernel_rfl) (by kernel_rfl) (fun _ _ _ h => h) (Or.inl ⟨by kernel_rfl, ?hr1n5_6⟩) hHeld ?_
                case hr1n5_6 => (intro w hSw; (try dsimp only at hSw); go_simp; try (with_reducible rfl))
                try simp only [List.getElem_toArray, List.getElem_cons_zero, List.getElem_cons_succ, Act.put, List.setIfInBounds_toArray, List.set_cons_zero, List.set_cons_succ]
                refine wpAnyH_take (i := 6) (oi := _) (v := ?vr1n6_7) rfl (by kernel_rfl) (by kernel_rfl) (by kernel_rfl) (fun _ _ _ h => h) (Or.inl ⟨by kernel_rfl, ?hr1n6_7⟩) hHeld ?_
                case hr1n6_7 => (intro w hSw; (try dsimp only at hSw); go_simp; try (with_reducible rfl))
                try simp only [List.getElem_toArray, List.getElem_cons_zero, List.getElem_cons_succ, Act.put, List.setIfInBounds_toArray, List.set_cons_zero, List.set_cons_succ]
                refine wpAnyH_take (i := 7) (oi := _) (v := ?vr1n7_8) rfl (by kernel_rfl) (by kernel_rfl) (by kernel_rfl) (fun _ _ _ h => h) (Or.inl ⟨by kernel_rfl, ?hr1n7_8⟩) hHeld ?_
                case hr1n7_8 => (intro w hSw; (try dsimp only at hSw); go_simp; try (with_reducible rfl))
                try simp only [List.getElem_toArray, List.getElem_cons_zero, List.getElem_cons_succ, Act.put, List.setIfInBounds_toArray, List.set_cons_zero, List.set_cons_succ]
                refine wpAnyH_take (i := 8) (oi := _) (v := ?vr1n8_9) rfl (by kernel_rfl) (by kernel_rfl) (by kernel_rfl) (fun _ _ _ h => h) (Or.inl ⟨by kernel_rfl, ?hr1n8_9⟩) hHeld ?_
                case hr1n8_9 => (intro w hSw; (try dsimp only at hSw); go_simp; try (with_reducible rfl))
                try simp only [List.getElem_toArray, List.getElem_cons_zero, List.getElem_cons_succ, Act.put, List.setIfInBounds_toArray, List.set_cons_zero, List.set_cons_succ]
                refine wpAnyH_done (by kernel_rfl) ?_ _
                refine NoPanic.normal ?_
                go_wp2
                go_roundw
                case rel => exact ⟨j + 1, by go_num, by omega, HBd⟩
                case measure => simp [intOf] <;> omega
              · have hljz : ¬ (j : Int) < (nA : Int) := by omega
                have HBw7 := Lib.hid (HBw6.out.trans (HBj.out.mono HBw6.out.size))
                have HT7 := Lib.hid (HT6.out.below HBj.out)
                have H137 := Lib.hid (H13.out.up HBj.out)
                obtain ⟨G7, c7, rfl, hrow⟩ := HT7.out.rowC
                have HFM : Hid (rs.flatMap (·.2) = R.flatMap (·.2)) := Lib.hid (by rw [List.flatMap_def, List.flatMap_def, HT7.out.snd])
                have HLR : Hid (rs.length = 3) := Lib.hid (by rw [HT7.out.len, List.length_map, HR3.out])
                have HRM := Lib.hid (refMerge_any G7 c7 rs 3 HLR.out (by decide) (by rw [HFM.out]; have := HTOT.out; omega) wj hrow)
                rw [HLR.out]
                clear hrow HT7 HT6 HBj HBw6 HR126 HRA6 H13
                go_wp2_with fail
                refine HRM.out.mono ?_
                rintro e w8 ⟨v79, rfl, hown, hb⟩
                rw [HFM.out, ← HM.out] at hown
                obtain ⟨A79, c79, rfl, _, hst, _, _, _⟩ := own_recs hown
                have HSM := Lib.hid (same_any A13 A79 c13 c79 M HL13.out w8 (H137.out.up hb) hst)
                rw [← HN13.out] at HSM ⊢
                have HBw8 := Lib.hid (HBw7.out.trans (hb.mono HBw7.out.size))
                clear hown hst hb HRM HBw7 H137
                go_wp2_with fail
                refine HSM.out.mono ?_
                rintro e wA ⟨rfl, hb⟩
                have HBwA := Lib.hid (HBw8.out.trans (hb.mono HBw8.out.size))
                have HMN := Lib.hid (merge_any none [] 0 rfl (by decide) (by simp) wA ⟨Or.inl rfl, fun p hp => by simp at hp⟩)
                clear hb HSM HBw8
                go_wp2_with fail
                refine HMN.out.mono ?_
                rintro e wB ⟨v82, M0, rfl, hm, hr, hb⟩
                have hm0 : M0.length = 0 := by
                  have h1 := hm.len
                  rw [List.flatMap_nil, List.length_nil] at h1
                  omega
                obtain ⟨A82, c82, rfl, _, _, _⟩ := hr.rowV
                have HBwB := Lib.hid (HBwA.out.trans (hb.mono HBwA.out.size))
                rw [hm0]
                clear hm hr hb HMN HBwA hm0
                go_wp2_with fail
                refine (WK.out _).mono ?_
                rintro e w9 ⟨rfl, hb⟩
                have HBe := Lib.hid (HBwB.out.trans (hb.mono HBwB.out.size))
                clear hb
                go_wp2
                go_ret
                exact ⟨rfl, HBe.out⟩
end Go.Proofs.Ytccbohjcbhibkaa
