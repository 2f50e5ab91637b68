/- The reference's Merge: what it answers, of rows of records. Condition: at most 1000 records in all. -/
import Derived.Test.YtccbohjcbhibkaaJpD
import Derived.Test.YtccbohjcbhibkaaJoC
namespace Go.Proofs.Ytccbohjcbhibkaa
set_option linter.unusedVariables false
set_option linter.unusedSimpArgs false
set_option maxRecDepth 100000
open Go.RowKit Go.Proofs Go.Shelf Go.Lib Go.Sort Go.ChangeShapes Go.WideShapes
attribute [local go_sem ↓] Go.wp_at_zero Go.wp_at_succ
attribute [local go_sem ↓] ix_dat ld_rec ld_ref
def hasB (out : List Rc) (q : Int) : Bool := out.any (fun x => x.sq == q)
def stepM (out : List Rc) (r : Rc) : List Rc := if hasB out r.sq then out else put out r
def refM (L : List Rc) : List Rc := L.foldl stepM []
theorem refM_snoc (L : List Rc) (r : Rc) : refM (L ++ [r]) = stepM (refM L) r := by simp [refM]
theorem stepM_len (out : List Rc) (r : Rc) : (stepM out r).length ≤ out.length + 1 := by
  unfold stepM
  split
  · omega
  · rw [put_len]; exact Nat.le_refl _
theorem foldM_len : ∀ (L out : List Rc), (L.foldl stepM out).length ≤ out.length + L.length
  | [], out => by simp
  | r :: L, out => by
    have := foldM_len L (stepM out r)
    have := stepM_len out r
    rw [List.foldl_cons, List.length_cons]; omega
theorem refM_len (L : List Rc) : (refM L).length ≤ L.length := by have := foldM_len L []; simpa [refM] using this
theorem has_take (out : List Rc) (q : Int) (j : Nat) (hj : j < out.length) : hasB (out.take (j + 1)) q = (hasB (out.take j) q || (out[j].sq == q)) := by
  unfold hasB
  rw [List.take_add_one, List.getElem?_eq_getElem hj, List.any_append]
  simp
/-! ### .. is what Merge makes -/
theorem putR_all (r : Rc) : ∀ (l : List Rc) (x : Rc), x ∈ putR r l ↔ x = r ∨ x ∈ l
  | [], x => by simp [putR]
  | y :: l, x => by
    rw [putR]
    split
    · rw [List.mem_cons, putR_all r l x, List.mem_cons]
      constructor <;> (intro h; rcases h with h | h | h <;> simp [h])
    · simp
theorem put_all (l : List Rc) (r x : Rc) : x ∈ put l r ↔ x = r ∨ x ∈ l := by unfold put; rw [List.mem_reverse, putR_all, List.mem_reverse]
theorem putR_fall (r : Rc) : ∀ (l : List Rc), l.Pairwise (fun a b => b.sq < a.sq) → (∀ x ∈ l, x.sq ≠ r.sq) → (putR r l).Pairwise (fun a b => b.sq < a.sq)
  | [], _, _ => by simp [putR]
  | y :: l, hp, hn => by
    have h1 := List.pairwise_cons.1 hp
    have hy := hn y (List.mem_cons_self ..)
    rw [putR]
    split
    · rename_i hlt
      refine List.pairwise_cons.2 ⟨fun x hx => ?_, putR_fall r l h1.2 (fun x hx => hn x (List.mem_cons_of_mem _ hx))⟩
      rcases (putR_all r l x).1 hx with rfl | hx
      · exact hlt
      · exact h1.1 x hx
    · rename_i hlt
      refine List.pairwise_cons.2 ⟨fun x hx => ?_, hp⟩
      rcases List.mem_cons.1 hx with rfl | hx
      · omega
      · have := h1.1 x hx; omega
theorem put_rise {l : List Rc} {r : Rc} (h : Rise l) (hn : ∀ x ∈ l, x.sq ≠ r.sq) : Rise (put l r) := by
  unfold put Rise
  rw [List.pairwise_reverse]
  exact putR_fall r l.reverse (List.pairwise_reverse.2 h) (fun x hx => hn x (List.mem_reverse.1 hx))
theorem fst_of_mem {q : Int} {C : List Rc} (h : Rise C) {x : Rc} (hx : x ∈ C) (hq : x.sq = q) : fst q C = some x := by
  subst hq
  obtain ⟨y, hy⟩ := fst_mem hx
  have h1 := fst_some hy
  have hxy : y = x := by
    obtain ⟨i, hi, rfl⟩ := List.mem_iff_getElem.1 hx
    obtain ⟨j, hj, rfl⟩ := List.mem_iff_getElem.1 h1.1
    rcases Nat.lt_trichotomy i j with h' | h' | h'
    · have := List.pairwise_iff_getElem.1 h i j hi hj h'; omega
    · subst h'; rfl
    · have := List.pairwise_iff_getElem.1 h j i hj hi h'; omega
  rw [hy, hxy]
theorem fst_step {C : List Rc} (h : Rise C) (r : Rc) : Rise (stepM C r) ∧ ∀ q, fst q (stepM C r) = (fst q C).or (fst q [r]) := by
  unfold stepM
  by_cases hh : hasB C r.sq = true
  · rw [if_pos hh]
    refine ⟨h, fun q => ?_⟩
    have hex : ∃ x ∈ C, x.sq = r.sq := by
      unfold hasB at hh
      obtain ⟨x, hx, he⟩ := List.any_eq_true.1 hh
      exact ⟨x, hx, eq_of_beq he⟩
    obtain ⟨x, hx, he⟩ := hex
    by_cases hq : r.sq = q
    · rw [fst_of_mem h hx (he.trans hq)]; rfl
    · have : fst q [r] = none := fst_none (fun y hy => by rw [List.mem_singleton.1 hy]; exact hq)
      rw [this]
      cases fst q C <;> rfl
  · rw [if_neg hh]
    have hn : ∀ x ∈ C, x.sq ≠ r.sq := fun x hx he => hh (by unfold hasB; exact List.any_eq_true.2 ⟨x, hx, by simp [he]⟩)
    have hr := put_rise h hn
    refine ⟨hr, fun q => ?_⟩
    by_cases hq : r.sq = q
    · rw [fst_of_mem hr ((put_all C r r).2 (Or.inl rfl)) hq, fst_none (L := C) (fun x hx => by rw [← hq]; exact hn x hx), fst_cons, if_pos hq]; rfl
    · have e1 : fst q [r] = none := fst_none (fun y hy => by rw [List.mem_singleton.1 hy]; exact hq)
      rw [e1]
      cases hc : fst q C with
      | some x =>
        obtain ⟨hx, hxq⟩ := fst_some hc
        rw [fst_of_mem hr ((put_all C r x).2 (Or.inr hx)) hxq]; rfl
      | none =>
        rw [fst_none (fun x hx => by
          rcases (put_all C r x).1 hx with rfl | hx
          · exact hq
          · intro he
            rw [fst_of_mem h hx he] at hc
            cases hc)]
        rfl
theorem refM_is (L : List Rc) : ∀ k, k ≤ L.length → Rise (refM (L.take k)) ∧ ∀ q, fst q (refM (L.take k)) = fst q (L.take k)
  | 0, _ => ⟨List.Pairwise.nil, fun q => rfl⟩
  | k + 1, hk => by
    obtain ⟨h1, h2⟩ := refM_is L k (by omega)
    have e : L.take (k + 1) = L.take k ++ [L[k]] := by rw [List.take_add_one, List.getElem?_eq_getElem (by omega)]; rfl
    rw [e, refM_snoc]
    have h := fst_step h1 L[k]
    exact ⟨h.1, fun q => by rw [h.2, h2, fst_app]⟩
theorem merge_ref {L M : List Rc} (h : MergeOf L M) : M = refM L := by
  have h2 := refM_is L L.length (Nat.le_refl _)
  rw [List.take_length] at h2
  exact rise_ext M _ h.rise h2.1 (fun q => by rw [h.fst, h2.2])

/-! ### the walk -/
/-- a row of values, in cells -/
def RowC (w : World) (G : Option Addr) (rs : List (Value × List Rc)) : Prop := (rs = [] ∨ ∃ g, G = some ⟨g, 0, none⟩ ∧ g < w.heap.size ∧ ∀ i (hi : i < rs.length), w.cell? ⟨g, i, none⟩ = some rs[i].1) ∧ ∀ p ∈ rs, RowV w p.1 p.2
theorem own_row (w : World) (B : Nat) (v : Value) (L : List Rc) (h : w.ownsRow B 36 7 v L.length (flat L)) : RowV w v L := by
  obtain ⟨A, c, h1, _, h3, h4, h5, h6⟩ := own_recs h
  exact ⟨A, c, h1, h3, h6, by omega⟩
theorem ownQ_nil (w : World) (B : Nat) : w.ownsRow B 36 7 (.slice none 0 0) 0 (flat []) := ⟨rfl, Or.inl ⟨rfl, rfl⟩⟩

set_option maxHeartbeats 2000000 in
theorem refMerge_any (G : Option Addr) (c : Nat) (rs : List (Value × List Rc)) (K : Nat) (hK : rs.length = K) (hK63 : K ≤ 1000) (htot : (rs.flatMap (·.2)).length ≤ 900) (w : World) (hr : RowC w G rs) :
    Calls Try.prog 29 #[.slice G K c] w fun e w' => ∃ v, e = .returned v ∧ w'.ownsRow w.heap.size 36 7 v (refM (rs.flatMap (·.2))).length (flat (refM (rs.flatMap (·.2)))) ∧ Below w.heap.size w w' := by
  have HR := Lib.hid hr
  have HT := Lib.hid htot
  have HK := Lib.hid hK
  clear hr htot hK
  go_enter Try.func29, Try.ntmps29
  go_wp2
  go_loopg [3, 4] K (fun kx s3 s4 wr => ∃ i : Nat, s4 = .int .i64 i ∧ i ≤ K ∧ K - i ≤ kx ∧ Hid (wr.ownsRow w.heap.size 36 7 s3 (refM (catL rs i)).length (flat (refM (catL rs i)))) ∧ Hid (Below w.heap.size w wr))
  case atStart => exact ⟨0, rfl, Nat.zero_le _, by omega, Lib.hid (by simpa [catL, refM] using ownQ_nil w w.heap.size), Lib.hid (Below.refl _ _)⟩
  case round =>
    obtain ⟨i, rfl, hi, hkx, HO, HB⟩ := hrel
    obtain ⟨w1, rfl⟩ : ∃ w1 : World, w1 = wr := ⟨_, rfl⟩
    by_cases hlt : i < K
    · have hltz : (i : Int) < (K : Int) := by omega
      have hil : i < rs.length := by rw [HK.out]; exact hlt
      obtain ⟨g, rfl, hgw, hgc⟩ : ∃ g, G = some ⟨g, 0, none⟩ ∧ g < w.heap.size ∧ ∀ i (hi : i < rs.length), w.cell? ⟨g, i, none⟩ = some rs[i].1 := by
        rcases HR.out.1 with h | h
        · rw [h] at hil; simp at hil
        · exact h
      obtain ⟨A, cA, hv, hra, hnn, hml⟩ := HR.out.2 rs[i] (List.getElem_mem _)
      have HCG : Hid (∀ w', Below w.heap.size w w' → w'.cell? ⟨g, i, none⟩ = some (.slice A rs[i].2.length cA)) := Lib.hid (fun w' hb => by rw [hb.cell (p := ⟨g, i, none⟩) hgw, hgc i hil, hv])
      have HS := Lib.hid (cat_snoc rs i hil)
      have hm := cat_le rs (i + 1)
      rw [cat_snoc rs i hil, List.length_append] at hm
      have HRA := Lib.hid hra
      have hm2 := HT.out
      obtain ⟨L, hL⟩ : ∃ L, L = rs[i].2 := ⟨_, rfl⟩
      obtain ⟨P, hP⟩ : ∃ P, P = catL rs i := ⟨_, rfl⟩
      rw [← hL] at HCG HS hm HRA
      rw [← hP] at HS hm HO
      obtain ⟨n, hn⟩ : ∃ n, n = L.length := ⟨_, rfl⟩
      rw [← hn] at HCG hm
      have HN := Lib.hid hn
      have hPn : P.length + n ≤ 900 := by omega
      clear hm hm2 hv hra hnn hml hL hP hn hgc
      go_wp2
      go_loopg [3, 5] n (fun ky s3 s5 wr => ∃ k : Nat, s5 = .int .i64 k ∧ k ≤ n ∧ n - k ≤ ky ∧ Hid (wr.ownsRow w.heap.size 36 7 s3 (refM (P ++ L.take k)).length (flat (refM (P ++ L.take k)))) ∧ Hid (Below w.heap.size w wr))
      case atStart => exact ⟨0, rfl, Nat.zero_le _, by omega, Lib.hid (by rw [List.take_zero, List.append_nil]; exact HO.out), HB⟩
      case round =>
        clear HO HB
        obtain ⟨k, rfl, hk, hky, HO, HB⟩ := hrel
        obtain ⟨w2, rfl⟩ : ∃ w2 : World, w2 = wr := ⟨_, rfl⟩
        have hcg := HCG.out _ HB.out
        by_cases hlk : k < n
        · have hlkz : (k : Int) < (n : Int) := by omega
          have hkL : k < L.length := by rw [← HN.out]; exact hlk
          obtain ⟨b, o, rfl, hbw, hcs⟩ : ∃ b o, A = some ⟨b, o, none⟩ ∧ b < w.heap.size ∧ ∀ j (hj : j < L.length), w.rangeAt b (o + j * 7) (encR L[j]) := by
            rcases HRA.out with h | h
            · rw [h] at hkL; simp at hkL
            · exact h
          have HCK : Hid (∀ w', Below w.heap.size w w' → w'.cell? ⟨b, o + k * 7 + 1, none⟩ = some (.int .i64 L[k].sq)) := Lib.hid (fun w' hb => (hb.cell (p := ⟨b, o + k * 7 + 1, none⟩) hbw).trans (hcs k hkL 1 _ rfl))
          have HLD : Hid (∀ w', Below w.heap.size w w' → (Ld 36 (.pointer (some ⟨b, o + k * 7, none⟩))).run Try.prog w' = .ok (.agg (rcC L[k])) w') := Lib.hid (fun w' hb => RsAt.ldQ (B := w.heap.size) (fun j hj i v hv => (hb.cell (p := ⟨b, o + j * 7 + i, none⟩) hbw).trans (hcs j hj i v hv)) k hkL)
          have HTK : Hid (L.take (k + 1) = L.take k ++ [L[k]]) := Lib.hid (by rw [List.take_add_one, List.getElem?_eq_getElem hkL]; rfl)
          have hlen : (refM (P ++ L.take k)).length ≤ 900 := by have := refM_len (P ++ L.take k); rw [List.length_append, List.length_take] at this; omega
          have HSM : Hid (refM (P ++ L.take (k + 1)) = stepM (refM (P ++ L.take k)) L[k]) := Lib.hid (by rw [HTK.out, ← List.append_assoc, refM_snoc])
          clear hcs HTK
          generalize L[k] = r at HCK HLD HSM
          generalize hout : refM (P ++ L.take k) = out at HO HSM hlen
          clear hout
          obtain ⟨A3, c3, rfl, _, hst, _, _, hnil3⟩ := own_recs HO.out
          obtain ⟨n3, hn3⟩ : ∃ n3, n3 = out.length := ⟨_, rfl⟩
          have HO3 : Hid (w2.ownsRow w.heap.size 36 7 (.slice A3 n3 c3) n3 (flat out)) := Lib.hid (by rw [hn3]; exact HO.out)
          have HN3 := Lib.hid hn3
          rw [← hn3] at hlen ⊢
          have HST : Hid (RsAt w2 w2.heap.size A3 out) := Lib.hid hst
          clear hn3 hst hnil3 HO
          go_wp2
          go_loopg [6, 7] n3 (fun kz s6 s7 wr => ∃ (j : Nat) (bb : Bool), s6 = .bool bb ∧ s7 = .int .i64 j ∧ j ≤ n3 ∧ n3 - j ≤ kz ∧ Hid (bb = hasB (out.take j) r.sq) ∧ Hid (Below w2.heap.size w2 wr))
          case atStart => exact ⟨0, false, rfl, rfl, Nat.zero_le _, by omega, Lib.hid (by simp [hasB]), Lib.hid (Below.refl _ _)⟩
          case round =>
            obtain ⟨j, bb, rfl, rfl, hj, hkz, HBB, HBj⟩ := hrel
            have HBt := Lib.hid (HB.out.trans (HBj.out.mono HB.out.size))
            by_cases hlj : j < n3
            · have hljz : (j : Int) < (n3 : Int) := by omega
              have hjo : j < out.length := by rw [← HN3.out]; exact hlj
              obtain ⟨b3, o3, rfl, hb3, hc3⟩ := (show ∃ b o, A3 = some ⟨b, o, none⟩ ∧ b < w2.heap.size ∧ ∀ j (hj : j < out.length), w2.rangeAt b (o + j * 7) (encR out[j]) from by
                rcases HST.out with h | h
                · rw [h] at hjo; simp at hjo
                · exact h)
              have hcj : wr.drew.cell? ⟨b3, o3 + j * 7 + 1, none⟩ = some (.int .i64 out[j].sq) := (HBj.out.drew.cell (p := ⟨b3, o3 + j * 7 + 1, none⟩) hb3).trans (hc3 j hjo 1 _ rfl)
              have HCJ := Lib.hid hcj
              have HHT := Lib.hid (has_take out r.sq j hjo)
              generalize out[j].sq = sj at HCJ HHT
              have HKC := Lib.hid (HCK.out _ HBt.out.drew)
              have HGC := Lib.hid (HCG.out _ HBt.out.drew)
              clear hcj hc3
              generalize hsq : r.sq = sq at HKC HHT HBB
              have HSQ := Lib.hid (fun _ : Unit => hsq)
              clear hsq
              go_upto_region 12 with fail
              have HB2 := Lib.hid HBj.out.drew
              cases bb with
              | true =>
                have HBX : Hid (true = hasB (out.take (j + 1)) r.sq) := Lib.hid (by rw [HSQ.out (), HHT.out, ← HBB.out]; rfl)
                refine wp_region_noPanic ?_
                refine wp_region_held_drew (S := (fun w' => True)) (by kernel_rfl) (by first | trivial) (fun hHeld => ?_)
                refine wpAnyH_take (i := 0) (oi := _) (v := ?vr1n0_1) rfl (by kernel_rfl) (by kernel_rfl) (by kernel_rfl) (fun _ _ _ h => h) (Or.inl ⟨by kernel_rfl, ?hr1n0_1⟩) hHeld ?_
                case hr1n0_1 => (intro w hSw; (try dsimp only at hSw); go_simp; try (with_reducible rfl))
                try simp only [List.getElem_toArray, List.getElem_cons_zero, List.getElem_cons_succ, Act.put, List.setIfInBounds_toArray, List.set_cons_zero, List.set_cons_succ]
                refine wpAnyH_take (i := 1) (oi := _) (v := ?vr1n1_2) rfl (by kernel_rfl) (by kernel_rfl) (by kernel_rfl) (fun _ _ _ h => h) (Or.inl ⟨by kernel_rfl, ?hr1n1_2⟩) hHeld ?_
                case hr1n1_2 => (intro w hSw; (try dsimp only at hSw); go_simp; try (with_reducible rfl))
                try simp only [List.getElem_toArray, List.getElem_cons_zero, List.getElem_cons_succ, Act.put, List.setIfInBounds_toArray, List.set_cons_zero, List.set_cons_succ]
                refine wpAnyH_take (i := 2) (oi := _) (v := undef) rfl (by kernel_rfl) (by kernel_rfl) (by kernel_rfl) (fun _ _ _ h => h) (Or.inr ⟨by kernel_rfl, rfl⟩) hHeld ?_
                try simp only [List.getElem_toArray, List.getElem_cons_zero, List.getElem_cons_succ, Act.put, List.setIfInBounds_toArray, List.set_cons_zero, List.set_cons_succ]
                refine wpAnyH_take (i := 3) (oi := _) (v := undef) rfl (by kernel_rfl) (by kernel_rfl) (by kernel_rfl) (fun _ _ _ h => h) (Or.inr ⟨by kernel_rfl, rfl⟩) hHeld ?_
                try simp only [List.getElem_toArray, List.getElem_cons_zero, List.getElem_cons_succ, Act.put, List.setIfInBounds_toArray, List.set_cons_zero, List.set_cons_succ]
                refine wpAnyH_take (i := 4) (oi := _) (v := undef) rfl (by kernel_rfl) (by kernel_rfl) (by kernel_rfl) (fun _ _ _ h => h) (Or.inr ⟨by kernel_rfl, rfl⟩) hHeld ?_
                try simp only [List.getElem_toArray, List.getElem_cons_zero, List.getElem_cons_succ, Act.put, List.setIfInBounds_toArray, List.set_cons_zero, List.set_cons_succ]
                refine wpAnyH_take (i := 5) (oi := _) (v := undef) rfl (by kernel_rfl) (by kernel_rfl) (by kernel_rfl) (fun _ _ _ h => h) (Or.inr ⟨by kernel_rfl, rfl⟩) hHeld ?_
                try simp only [List.getElem_toArray, List.getElem_cons_zero, List.getElem_cons_succ, Act.put, List.setIfInBounds_toArray, List.set_cons_zero, List.set_cons_succ]
                refine wpAnyH_take (i := 6) (oi := _) (v := undef) rfl (by kernel_rfl) (by kernel_rfl) (by kernel_rfl) (fun _ _ _ h => h) (Or.inr ⟨by kernel_rfl, rfl⟩) hHeld ?_
                try simp only [List.getElem_toArray, List.getElem_cons_zero, List.getElem_cons_succ, Act.put, List.setIfInBounds_toArray, List.set_cons_zero, List.set_cons_succ]
                refine wpAnyH_take (i := 7) (oi := _) (v := undef) rfl (by kernel_rfl) (by kernel_rfl) (by kernel_rfl) (fun _ _ _ h => h) (Or.inr ⟨by kernel_rfl, rfl⟩) hHeld ?_
                try simp only [List.getElem_toArray, List.getElem_cons_zero, List.getElem_cons_succ, Act.put, List.setIfInBounds_toArray, List.set_cons_zero, List.set_cons_succ]
                refine wpAnyH_take (i := 8) (oi := _) (v := undef) rfl (by kernel_rfl) (by kernel_rfl) (by kernel_rfl) (fun _ _ _ h => h) (Or.inr ⟨by kernel_rfl, rfl⟩) hHeld ?_
                try simp only [List.getElem_toArray, List.getElem_cons_zero, List.getElem_cons_succ, Act.put, List.setIfInBounds_toArray, List.set_cons_zero, List.set_cons_succ]
                refine wpAnyH_take (i := 9) (oi := _) (v := undef) rfl (by kernel_rfl) (by kernel_rfl) (by kernel_rfl) (fun _ _ _ h => h) (Or.inr ⟨by kernel_rfl, rfl⟩) hHeld ?_
                try simp only [List.getElem_toArray, List.getElem_cons_zero, List.getElem_cons_succ, Act.put, List.setIfInBounds_toArray, List.set_cons_zero, List.set_cons_succ]
                refine wpAnyH_take (i := 10) (oi := _) (v := undef) rfl (by kernel_rfl) (by kernel_rfl) (by kernel_rfl) (fun _ _ _ h => h) (Or.inr ⟨by kernel_rfl, rfl⟩) hHeld ?_
                try simp only [List.getElem_toArray, List.getElem_cons_zero, List.getElem_cons_succ, Act.put, List.setIfInBounds_toArray, List.set_cons_zero, List.set_cons_succ]
                refine wpAnyH_take (i := 11) (oi := _) (v := undef) rfl (by kernel_rfl) (by kernel_rfl) (by kernel_rfl) (fun _ _ _ h => h) (Or.inr ⟨by kernel_rfl, rfl⟩) hHeld ?_
                try simp only [List.getElem_toArray, List.getElem_cons_zero, List.getElem_cons_succ, Act.put, List.setIfInBounds_toArray, List.set_cons_zero, List.set_cons_succ]
                refine wpAnyH_take (i := 12) (oi := _) (v := undef) rfl (by kernel_rfl) (by kernel_rfl) (by kernel_rfl) (fun _ _ _ h => h) (Or.inr ⟨by kernel_rfl, rfl⟩) hHeld ?_
                try simp only [List.getElem_toArray, List.getElem_cons_zero, List.getElem_cons_succ, Act.put, List.setIfInBounds_toArray, List.set_cons_zero, List.set_cons_succ]
                refine wpAnyH_take (i := 13) (oi := _) (v := undef) rfl (by kernel_rfl) (by kernel_rfl) (by kernel_rfl) (fun _ _ _ h => h) (Or.inr ⟨by kernel_rfl, rfl⟩) hHeld ?_
                try simp only [List.getElem_toArray, List.getElem_cons_zero, List.getElem_cons_succ, Act.put, List.setIfInBounds_toArray, List.set_cons_zero, List.set_cons_succ]
                refine wpAnyH_take (i := 14) (oi := _) (v := undef) rfl (by kernel_rfl) (by kernel_rfl) (by kernel_rfl) (fun _ _ _ h => h) (Or.inr ⟨by kernel_rfl, rfl⟩) hHeld ?_
                try simp only [List.getElem_toArray, List.getElem_cons_zero, List.getElem_cons_succ, Act.put, List.setIfInBounds_toArray, List.set_cons_zero, List.set_cons_succ]
                refine wpAnyH_take (i := 15) (oi := _) (v := undef) rfl (by kernel_rfl) (by kernel_rfl) (by kernel_rfl) (fun _ _ _ h => h) (Or.inr ⟨by kernel_rfl, rfl⟩) hHeld ?_
                try simp only [List.getElem_toArray, List.getElem_cons_zero, List.getElem_cons_succ, Act.put, List.setIfInBounds_toArray, List.set_cons_zero, List.set_cons_succ]
                refine wpAnyH_take (i := 16) (oi := _) (v := ?vr1n16_3) rfl (by kernel_rfl) (by kernel_rfl) (by kernel_rfl) (fun _ _ _ h => h) (Or.inl ⟨by kernel_rfl, ?hr1n16_3⟩) hHeld ?_
                case hr1n16_3 => (intro w hSw; (try dsimp only at hSw); go_simp; try (with_reducible rfl))
                try simp only [List.getElem_toArray, List.getElem_cons_zero, List.getElem_cons_succ, Act.put, List.setIfInBounds_toArray, List.set_cons_zero, List.set_cons_succ]
                refine wpAnyH_take (i := 17) (oi := _) (v := ?vr1n17_4) rfl (by kernel_rfl) (by kernel_rfl) (by kernel_rfl) (fun _ _ _ h => h) (Or.inl ⟨by kernel_rfl, ?hr1n17_4⟩) hHeld ?_
                case hr1n17_4 => (intro w hSw; (try dsimp only at hSw); go_simp; try (with_reducible rfl))
                try simp only [List.getElem_toArray, List.getElem_cons_zero, List.getElem_cons_succ, Act.put, List.setIfInBounds_toArray, List.set_cons_zero, List.set_cons_succ]
                refine wpAnyH_done (by kernel_rfl) ?_ _
                refine NoPanic.normal ?_
                go_wp2
                go_roundg (n3 - (j + 1))
                case measure => omega
                case rel => exact ⟨j + 1, true, rfl, by go_num, by omega, Nat.le_refl _, HBX, HB2⟩
              | false =>
                have HBX : Hid ((sj == sq) = hasB (out.take (j + 1)) r.sq) := Lib.hid (by rw [HSQ.out (), HHT.out, ← HBB.out]; simp)
                refine wp_region_noPanic ?_
                refine wp_region_held_drew (S := (fun w' => w'.cell? ⟨b3, o3 + j * 7 + 1, none⟩ = some (.int .i64 sj) ∧ w'.cell? ⟨g, i, none⟩ = some (.slice (some ⟨b, o, none⟩) n cA) ∧ w'.cell? ⟨b, o + k * 7 + 1, none⟩ = some (.int .i64 sq))) (by kernel_rfl) (by first | exact ⟨HCJ.out, HGC.out, HKC.out⟩) (fun hHeld => ?_)
                refine wpAnyH_take (i := 0) (oi := _) (v := ?vr2n0_5) rfl (by kernel_rfl) (by kernel_rfl) (by kernel_rfl) (fun _ _ _ h => h) (Or.inl ⟨by kernel_rfl, ?hr2n0_5⟩) hHeld ?_
                case hr2n0_5 => (intro w hSw; (try dsimp only at hSw); go_simp; try (with_reducible rfl))
                try simp only [List.getElem_toArray, List.getElem_cons_zero, List.getElem_cons_succ, Act.put, List.setIfInBounds_toArray, List.set_cons_zero, List.set_cons_succ]
                refine wpAnyH_take (i := 1) (oi := _) (v := ?vr2n1_6) rfl (by kernel_rfl) (by kernel_rfl) (by kernel_rfl) (fun _ _ _ h => h) (Or.inl ⟨by kernel_rfl, ?hr2n1_6⟩) hHeld ?_
                case hr2n1_6 => (intro w hSw; (try dsimp only at hSw); go_simp; try (with_reducible rfl))
                try simp only [List.getElem_toArray, List.getElem_cons_zero, List.getElem_cons_succ, Act.put, List.setIfInBounds_toArray, List.set_cons_zero, List.set_cons_succ]
                refine wpAnyH_take (i := 2) (oi := _) (v := ?vr2n2_7) rfl (by kernel_rfl) (by kernel_rfl) (by kernel_rfl) (fun _ _ _ h => h) (Or.inl ⟨by kernel_rfl, ?hr2n2_7⟩) hHeld ?_
                case hr2n2_7 => (intro w hSw; (try dsimp only at hSw); go_simp; try (with_reducible rfl))
                try simp only [List.getElem_toArray, List.getElem_cons_zero, List.getElem_cons_succ, Act.put, List.setIfInBounds_toArray, List.set_cons_zero, List.set_cons_succ]
                refine wpAnyH_take (i := 3) (oi := _) (v := ?vr2n3_8) rfl (by kernel_rfl) (by kernel_rfl) (by kernel_rfl) (fun _ _ _ h => h) (Or.inl ⟨by kernel_rfl, ?hr2n3_8⟩) hHeld ?_
                case hr2n3_8 => (intro w hSw; (try dsimp only at hSw); go_simp; try (with_reducible rfl))
                try simp only [List.getElem_toArray, List.getElem_cons_zero, List.getElem_cons_succ, Act.put, List.setIfInBounds_toArray, List.set_cons_zero, List.set_cons_succ]
                refine wpAnyH_take (i := 4) (oi := _) (v := ?vr2n4_9) rfl (by kernel_rfl) (by kernel_rfl) (by kernel_rfl) (fun _ _ _ h => h) (Or.inl ⟨by kernel_rfl, ?hr2n4_9⟩) hHeld ?_
                case hr2n4_9 => (intro w hSw; (try dsimp only at hSw); go_simp; try (with_reducible rfl))
                try simp only [List.getElem_toArray, List.getElem_cons_zero, List.getElem_cons_succ, Act.put, List.setIfInBounds_toArray, List.set_cons_zero, List.set_cons_succ]
                refine wpAnyH_take (i := 5) (oi := _) (v := ?vr2n5_10) rfl (by kernel_rfl) (by kernel_rfl) (by kernel_rfl) (fun _ _ _ h => h) (Or.inl ⟨by kernel_rfl, ?hr2n5_10⟩) hHeld ?_
                case hr2n5_10 => (intro w hSw; (try dsimp only at hSw); go_simp; try (with_reducible rfl))
                try simp only [List.getElem_toArray, List.getElem_cons_zero, List.getElem_cons_succ, Act.put, List.setIfInBounds_toArray, List.set_cons_zero, List.set_cons_succ]
                refine wpAnyH_take (i := 6) (oi := _) (v := ?vr2n6_11) rfl (by kernel_rfl) (by kernel_rfl) (by kernel_rfl) (fun _ _ _ h => h) (Or.inl ⟨by kernel_rfl, ?hr2n6_11⟩) hHeld ?_
                case hr2n6_11 => (intro w hSw; (try dsimp only at hSw); go_simp; try (with_reducible rfl))
                try simp only [List.getElem_toArray, List.getElem_cons_zero, List.getElem_cons_succ, Act.put, List.setIfInBounds_toArray, List.set_cons_zero, List.set_cons_succ]
                refine wpAnyH_take (i := 7) (oi := _) (v := ?vr2n7_12) rfl (by kernel_rfl) (by kernel_rfl) (by kernel_rfl) (fun _ _ _ h => h) (Or.inl ⟨by kernel_rfl, ?hr2n7_12⟩) hHeld ?_
                case hr2n7_12 => (intro w hSw; (try dsimp only at hSw); go_simp; try (with_reducible rfl))
                try simp only [List.getElem_toArray, List.getElem_cons_zero, List.getElem_cons_succ, Act.put, List.setIfInBounds_toArray, List.set_cons_zero, List.set_cons_succ]
                refine wpAnyH_take (i := 8) (oi := _) (v := ?vr2n8_13) rfl (by kernel_rfl) (by kernel_rfl) (by kernel_rfl) (fun _ _ _ h => h) (Or.inl ⟨by kernel_rfl, ?hr2n8_13⟩) hHeld ?_
                case hr2n8_13 => (intro w hSw; (try dsimp only at hSw); go_simp; try (with_reducible rfl))
                try simp only [List.getElem_toArray, List.getElem_cons_zero, List.getElem_cons_succ, Act.put, List.setIfInBounds_toArray, List.set_cons_zero, List.set_cons_succ]
                refine wpAnyH_take (i := 9) (oi := _) (v := ?vr2n9_14) rfl (by kernel_rfl) (by kernel_rfl) (by kernel_rfl) (fun _ _ _ h => h) (Or.inl ⟨by kernel_rfl, ?hr2n9_14⟩) hHeld ?_
                case hr2n9_14 => (intro w hSw; (try dsimp only at hSw); go_simp; try (with_reducible rfl))
                try simp only [List.getElem_toArray, List.getElem_cons_zero, List.getElem_cons_succ, Act.put, List.setIfInBounds_toArray, List.set_cons_zero, List.set_cons_succ]
                refine wpAnyH_take (i := 10) (oi := _) (v := ?vr2n10_15) rfl (by kernel_rfl) (by kernel_rfl) (by kernel_rfl) (fun _ _ _ h => h) (Or.inl ⟨by kernel_rfl, ?hr2n10_15⟩) hHeld ?_
                case hr2n10_15 => (intro w hSw; (try dsimp only at hSw); go_simp; try (with_reducible rfl))
                try simp only [List.getElem_toArray, List.getElem_cons_zero, List.getElem_cons_succ, Act.put, List.setIfInBounds_toArray, List.set_cons_zero, List.set_cons_succ]
                refine wpAnyH_take (i := 11) (oi := _) (v := ?vr2n11_16) rfl (by kernel_rfl) (by kernel_rfl) (by kernel_rfl) (fun _ _ _ h => h) (Or.inl ⟨by kernel_rfl, ?hr2n11_16⟩) hHeld ?_
                case hr2n11_16 => (intro w hSw; (try dsimp only at hSw); go_simp; try (with_reducible rfl))
                try simp only [List.getElem_toArray, List.getElem_cons_zero, List.getElem_cons_succ, Act.put, List.setIfInBounds_toArray, List.set_cons_zero, List.set_cons_succ]
                refine wpAnyH_take (i := 12) (oi := _) (v := ?vr2n12_17) rfl (by kernel_rfl) (by kernel_rfl) (by kernel_rfl) (fun _ _ _ h => h) (Or.inl ⟨by kernel_rfl, ?hr2n12_17⟩) hHeld ?_
                case hr2n12_17 => (intro w hSw; (try dsimp only at hSw); go_simp; try (with_reducible rfl))
                try simp only [List.getElem_toArray, List.getElem_cons_zero, List.getElem_cons_succ, Act.put, List.setIfInBounds_toArray, List.set_cons_zero, List.set_cons_succ]
                refine wpAnyH_take (i := 13) (oi := _) (v := ?vr2n13_18) rfl (by kernel_rfl) (by kernel_rfl) (by kernel_rfl) (fun _ _ _ h => h) (Or.inl ⟨by kernel_rfl, ?hr2n13_18⟩) hHeld ?_
                case hr2n13_18 => (intro w hSw; (try dsimp only at hSw); go_simp; try (with_reducible rfl))
                try simp only [List.getElem_toArray, List.getElem_cons_zero, List.getElem_cons_succ, Act.put, List.setIfInBounds_toArray, List.set_cons_zero, List.set_cons_succ]
                refine wpAnyH_take (i := 14) (oi := _) (v := ?vr2n14_19) rfl (by kernel_rfl) (by kernel_rfl) (by kernel_rfl) (fun _ _ _ h => h) (Or.inl ⟨by kernel_rfl, ?hr2n14_19⟩) hHeld ?_
                case hr2n14_19 => (intro w hSw; (try dsimp only at hSw); go_simp; try (with_reducible rfl))
                try simp only [List.getElem_toArray, List.getElem_cons_zero, List.getElem_cons_succ, Act.put, List.setIfInBounds_toArray, List.set_cons_zero, List.set_cons_succ]
                refine wpAnyH_take (i := 15) (oi := _) (v := ?vr2n15_20) rfl (by kernel_rfl) (by kernel_rfl) (by kernel_rfl) (fun _ _ _ h => h) (Or.inl ⟨by kernel_rfl, ?hr2n15_20⟩) hHeld ?_
                case hr2n15_20 => (intro w hSw; (try dsimp only at hSw); go_simp; try (with_reducible rfl))
                try simp only [List.getElem_toArray, List.getElem_cons_zero, List.getElem_cons_succ, Act.put, List.setIfInBounds_toArray, List.set_cons_zero, List.set_cons_succ]
                refine wpAnyH_take (i := 16) (oi := _) (v := ?vr2n16_21) rfl (by kernel_rfl) (by kernel_rfl) (by kernel_rfl) (fun _ _ _ h => h) (Or.inl ⟨by kernel_rfl, ?hr2n16_21⟩) hHeld ?_
                case hr2n16_21 => (intro w hSw; (try dsimp only at hSw); go_simp; try (with_reducible rfl))
                try simp only [List.getElem_toArray, List.getElem_cons_zero, List.getElem_cons_succ, Act.put, List.setIfInBounds_toArray, List.set_cons_zero, List.set_cons_succ]
                refine wpAnyH_take (i := 17) (oi := _) (v := ?vr2n17_22) rfl (by kernel_rfl) (by kernel_rfl) (by kernel_rfl) (fun _ _ _ h => h) (Or.inl ⟨by kernel_rfl, ?hr2n17_22⟩) hHeld ?_
                case hr2n17_22 => (intro w hSw; (try dsimp only at hSw); go_simp; try (with_reducible rfl))
                try simp only [List.getElem_toArray, List.getElem_cons_zero, List.getElem_cons_succ, Act.put, List.setIfInBounds_toArray, List.set_cons_zero, List.set_cons_succ]
                refine wpAnyH_done (by kernel_rfl) ?_ _
                refine NoPanic.normal ?_
                go_wp2
                go_roundg (n3 - (j + 1))
                case measure => omega
                case rel => exact ⟨j + 1, sj == sq, rfl, by go_num, by omega, Nat.le_refl _, HBX, HB2⟩
            · have hljz : ¬ (j : Int) < (n3 : Int) := by omega
              have hje : j = n3 := by omega
              have HHB : Hid (bb = hasB out r.sq) := Lib.hid (by rw [HBB.out, List.take_of_length_le (by rw [← HN3.out]; omega)])
              have HOk := Lib.hid (HO3.out.kept (grown_of_below HBj.out) (by cases Value.ownBlock _ <;> simp))
              clear HBB HO3 HST HB
              cases bb with
              | true =>
                have HE : Hid (refM (P ++ L.take (k + 1)) = out) := Lib.hid (by rw [HSM.out, stepM, if_pos HHB.out.symm])
                go_wp2
                go_roundg (n - (k + 1))
                case measure => omega
                case rel => exact ⟨k + 1, by go_num, by omega, Nat.le_refl _, Lib.hid (by rw [HE.out, ← HN3.out]; exact HOk.out), HBt⟩
              | false =>
                have HE : Hid (refM (P ++ L.take (k + 1)) = put out r) := Lib.hid (by rw [HSM.out, stepM, if_neg (by rw [← HHB.out]; simp)])
                have hld := HLD.out _ HBt.out
                have hgc := HCG.out _ HBt.out
                have HPT := Lib.hid (refPut_own r (by rw [← HN3.out]; omega) HOk.out)
                go_wp2_with fail
                refine HPT.out.mono ?_
                rintro e w4 ⟨v4, rfl, hown, hb⟩
                have HO4 := Lib.hid (own_weak hown HBt.out.size)
                have HB4 := Lib.hid (Below.step HBt.out hb)
                clear hown hb hld hgc HPT
                go_wp2
                go_roundg (n - (k + 1))
                case measure => omega
                case rel => exact ⟨k + 1, by go_num, by omega, Nat.le_refl _, Lib.hid (by rw [HE.out, put_len]; exact HO4.out), HB4⟩
        · have hlkz : ¬ (k : Int) < (n : Int) := by omega
          have hkn : k = n := by omega
          have HE : Hid (refM (catL rs (i + 1)) = refM (P ++ L.take k)) := Lib.hid (by rw [HS.out, List.take_of_length_le (by rw [← HN.out]; omega)])
          go_wp2
          go_roundg (K - (i + 1))
          case measure => omega
          case rel => exact ⟨i + 1, by go_num, by omega, Nat.le_refl _, Lib.hid (by rw [HE.out]; exact HO.out), HB⟩
    · have hltz : ¬ (i : Int) < (K : Int) := by omega
      have hiK : i = K := by omega
      have HF : Hid (catL rs i = rs.flatMap (·.2)) := Lib.hid (by rw [hiK, ← HK.out, cat_all])
      rw [HF.out] at HO
      go_wp2
      go_ret
      exact ⟨_, rfl, HO.out, HB.out⟩
end Go.Proofs.Ytccbohjcbhibkaa
