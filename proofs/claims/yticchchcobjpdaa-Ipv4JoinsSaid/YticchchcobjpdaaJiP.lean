/- New and Tick of the joiner. Condition: a limit of 1 to 2^20; at most 4 datagrams, younger than the limit. -/
import Derived.Test.YticchchcobjpdaaJiO
namespace Go.Proofs.Yticchchcobjpdaa
set_option linter.unusedVariables false
set_option linter.unusedSimpArgs false
set_option maxRecDepth 100000
open Go.RowKit Go.Proofs Go.Shelf Go.Lib Go.Sort
attribute [local go_sem ↓] Go.wp_at_zero Go.wp_at_succ
attribute [local go_sem ↓] ld_pk ld_ip ld_wh
theorem newJ_any (lim : Int) (h1 : 1 ≤ lim) (h2 : lim ≤ 1048576) (w : World) :
    Calls Try.prog 17 #[.int .i64 lim] w fun e w' => e = .returned (.tuple #[ptr w.heap.size, .int .i64 0]) ∧ JS w' w.heap.size w.heap.size lim none 0 [] ∧ Below w.heap.size w w' := by
  have hK : Hid (At (w.alloc (.cells #[.int .i64 lim, .slice none 0 0] 56)) w.heap.size 56 #[.int .i64 lim, .slice none 0 0]) := Lib.hid (alloc_at _ _ _)
  have hB := Lib.hid ((Below.refl _ w).alloc (Nat.le_refl _) (.cells #[.int .i64 lim, .slice none 0 0] 56))
  have n1 : ¬ lim < 1 := by omega
  have n2 : ¬ 1048576 < lim := by omega
  go_enter Try.func17, Try.ntmps17
  go_wp2
  exact bodyPost_ret (results_tmp2 Try.results17 _ _ _) rfl ⟨rfl, ⟨hK.out, Nat.le_refl _, Or.inl ⟨rfl, rfl, rfl⟩, fun d hd => (by cases hd), List.Pairwise.nil⟩, hB.out⟩
theorem newJ_bad (lim : Int) (h : lim < 1 ∨ 1048576 < lim) (w : World) :
    Calls Try.prog 17 #[.int .i64 lim] w fun e w' => e = .returned (.tuple #[.pointer none, .int .i64 1]) ∧ w' = w := by
  by_cases h1 : lim < 1
  · go_enter Try.func17, Try.ntmps17
    go_wp2
    exact bodyPost_ret (results_tmp2 Try.results17 _ _ _) rfl ⟨rfl, rfl⟩
  · have h2 : 1048576 < lim := by omega
    have h3 : lim > 1048576 := h2
    go_enter Try.func17, Try.ntmps17
    go_wp2
    exact bodyPost_ret (results_tmp2 Try.results17 _ _ _) rfl ⟨rfl, rfl⟩
/-! ### time goes on -/
def upD (d : Dg) : Dg := ⟨d.b, d.o, d.cap, d.nm, d.L, d.age + 1⟩
def incD (D : List Dg) (k : Nat) : List Dg := (D.take k).map upD ++ D.drop k
theorem incD_zero (D : List Dg) : incD D 0 = D := by simp [incD]
theorem incD_all (D : List Dg) : incD D D.length = D.map upD := by simp [incD]
theorem incD_len (D : List Dg) (k : Nat) : (incD D k).length = D.length := by
  unfold incD
  rw [List.length_append, List.length_map, List.length_take, List.length_drop]
  omega
theorem incD_at (D : List Dg) (k : Nat) (hk : k < D.length) : incD D k = (D.take k).map upD ++ D[k] :: D.drop (k + 1) := by
  unfold incD
  rw [List.drop_eq_getElem_cons hk]
theorem incD_next (D : List Dg) (k : Nat) (hk : k < D.length) : incD D (k + 1) = (D.take k).map upD ++ upD D[k] :: D.drop (k + 1) := by
  unfold incD
  rw [List.take_add_one, List.getElem?_eq_getElem hk, List.map_append]
  simp
theorem incD_map (D : List Dg) (k : Nat) : (incD D k).map Dg.b = D.map Dg.b := by
  unfold incD
  rw [List.map_append, List.map_map]
  have : (Dg.b ∘ upD) = Dg.b := by funext d; rfl
  rw [this, ← List.map_append, List.take_append_drop]
theorem own_inc {jb : Nat} {o : Option Addr} {D : List Dg} {k q : Nat} (h : ownJ jb o (incD D k) q) : ownJ jb o D q := by
  rcases h with h | h | ⟨x, hx, h⟩
  · exact Or.inl h
  · exact Or.inr (Or.inl h)
  · rcases List.mem_append.1 hx with hx | hx
    · obtain ⟨y, hy, rfl⟩ := List.mem_map.1 hx
      exact Or.inr (Or.inr ⟨y, List.take_subset _ _ hy, h⟩)
    · exact Or.inr (Or.inr ⟨x, List.drop_subset _ _ hx, h⟩)
theorem own_sub {jb : Nat} {o : Option Addr} {D D' : List Dg} (hs : ∀ x ∈ D', x ∈ D) {q : Nat} (h : ownJ jb o D' q) : ownJ jb o D q := by
  rcases h with h | h | ⟨x, hx, h⟩
  · exact Or.inl h
  · exact Or.inr (Or.inl h)
  · exact Or.inr (Or.inr ⟨x, hs x hx, h⟩)
def oldB (lim : Int) (d : Dg) : Bool := decide (lim ≤ d.age)
def tickD (lim : Int) (D : List Dg) : List Dg := (D.map upD).filter (fun d => !oldB lim d)
def ageOf (D : List Dg) (b : Nat) : Int := ((D.find? (fun d => d.b == b)).map Dg.age).getD 0
theorem ageOf_mem : ∀ {D : List Dg}, D.Pairwise Apart → ∀ {d : Dg}, d ∈ D → ageOf D d.b = d.age
  | [], _, d, h => by cases h
  | x :: l, hp, d, h => by
    unfold ageOf
    rw [List.find?_cons]
    rw [List.pairwise_cons] at hp
    by_cases e : x.b = d.b
    · have : (x.b == d.b) = true := by simp [e]
      rw [this]
      rcases List.mem_cons.1 h with h | h
      · subst h; rfl
      · exact absurd e (hp.1 d h).1
    · have : (x.b == d.b) = false := by simp [e]
      rw [this]
      rcases List.mem_cons.1 h with h | h
      · subst h; exact absurd rfl e
      · exact ageOf_mem hp.2 h
theorem filter_ages {lim : Int} {D : List Dg} (h : D.Pairwise Apart) : (D.map Dg.b).filter (fun b => !decide (lim ≤ ageOf D b)) = (D.filter (fun d => !oldB lim d)).map Dg.b := by
  rw [List.filter_map]
  congr 1
  refine List.filter_congr fun d hd => ?_
  simp only [Function.comp, oldB]
  rw [ageOf_mem h hd]
theorem JS.filtered {w w' : World} {B jb : Nat} {lim : Int} {g c : Nat} {D : List Dg} (h : JS w B jb lim (some ⟨g, 0, none⟩) c D) (D' : List Dg) (hs : D'.Sublist D)
    (hj : At w' jb 56 (joC lim (.slice (some ⟨g, 0, none⟩) D'.length c))) (hr : PtrRow w' B g c (D'.map Dg.b)) (hf : Fr (fun k => k = jb ∨ k = g) w w') : JS w' B jb lim (some ⟨g, 0, none⟩) c D' := by
  refine ⟨hj, h.lo, Or.inr ⟨g, rfl, hr⟩, fun x hx => ?_, h.ap.sublist hs⟩
  have hxD := hs.subset hx
  have k := h.dg x hxD
  have n := h.ne_jb hxD
  exact k.same (hf.block _ k.blk.lt (fun e => e.elim n.1 (fun e => n.2.2.2.1 (by rw [e])))) (fun q e => hf.block q (k.row.lt e) (fun e' => e'.elim (fun e' => n.2.1 (by rw [e, e'])) (fun e' => n.2.2.2.2.2 q e (by rw [e']))))
theorem delD_nil (f : Nat) (lb : Array Value) (w : World) : Calls Try.prog 47 #[.slice none 0 0, .func (.func f) #[] lb] w fun e w' => e = .returned (.slice none 0 0) ∧ w' = w := by
  go_enter Try.func47, Try.ntmps47
  go_wp2_with fail
  refine (idxD_nil f lb w).mono ?_
  rintro e w' ⟨rfl, hw⟩
  subst hw
  go_wp2
  go_ret
  exact ⟨rfl, rfl⟩
theorem jo_cell1 {w : World} {B jb : Nat} {lim : Int} {o : Option Addr} {c : Nat} {D : List Dg} (h : JS w B jb lim o c D) : w.cell? ⟨jb, 1, none⟩ = some (.slice o D.length c) := by rw [h.j.blk.cell]; rfl
theorem tickDel {w : World} {B jb g c pb : Nat} {lim : Int} {D : List Dg} (h : JS w B jb lim (some ⟨g, 0, none⟩) c D) (h4 : D.length ≤ 4) (hp : Blk w pb 34 #[ptr jb]) (hpo : ¬ ownJ jb (some ⟨g, 0, none⟩) D pb) :
    Calls Try.prog 47 #[.slice (some ⟨g, 0, none⟩) D.length c, .func (.func 48) #[] #[.pointer (some ⟨pb, 0, none⟩)]] w fun e w' => e = .returned (.slice (some ⟨g, 0, none⟩) (D.filter (fun d => !oldB lim d)).length c) ∧ PtrRow w' B g c ((D.filter (fun d => !oldB lim d)).map Dg.b) ∧ w.grownBy w' (some g) := by
  have eg : ∀ args w, (callFunc 48 args).run Try.prog w = .ok (.enter 48 args) w := enters_of Try.func48 (by kernel_rfl) rfl
  have hr : PtrRow w B g c (D.map Dg.b) := by
    rcases h.row with ⟨e, _⟩ | ⟨g', e, h⟩
    · cases e
    · injection e with e
      injection e with e
      subst e
      exact h
  have hpred : PredD 48 #[.pointer (some ⟨pb, 0, none⟩)] (fun b => decide (lim ≤ ageOf D b)) (D.map Dg.b) g w := fun W b hb hg => by
    obtain ⟨d, hd, rfl⟩ := List.mem_map.1 hb
    have k := h.dg d hd
    have n := h.ne_jb hd
    have hpg : pb ≠ g := fun e => hpo (Or.inr (Or.inl (by rw [e])))
    have hjg : jb ≠ g := fun e => n.2.2.1 (by rw [e])
    have hbg : d.b ≠ g := fun e => n.2.2.2.1 (by rw [e])
    have t := tickD1_any lim (ageOf D d.b) d.b pb jb W (by
      rw [ageOf_mem h.ap hd]
      exact (dt_cells ((k.blk.same (hg.block _ k.blk.lt (fun e => hbg (Option.some.inj e)))).blk)).2) (by
      have := (hp.of_heap (hg.block pb hp.lt (fun e => hpg (Option.some.inj e)))).cell 0
      exact this) (by
      have := (h.j.same (hg.block jb h.j.lt (fun e => hjg (Option.some.inj e)))).blk.cell 0
      exact this)
    exact t
  have hlen : (D.map Dg.b).length = D.length := List.length_map _
  refine Calls.mono ?_ (fun e w' hh => hh)
  have hd := delD_any 48 #[.pointer (some ⟨pb, 0, none⟩)] eg (fun b => decide (lim ≤ ageOf D b)) (D.map Dg.b) B g c (by omega) w hr hpred
  rw [hlen, filter_ages h.ap, List.length_map] at hd
  exact hd

set_option maxHeartbeats 8000000 in
theorem tickJ_any {w : World} {B jb : Nat} {lim : Int} {o : Option Addr} {c : Nat} {D : List Dg} (h : JS w B jb lim o c D) (h4 : D.length ≤ 4) (hl : 0 < lim) (hag : ∀ d ∈ D, 0 ≤ d.age ∧ d.age ≤ 1048576) :
    Calls Try.prog 24 #[ptr jb] w fun e w' => e = .returned (.tuple #[]) ∧ JS w' B jb lim o c (tickD lim D) ∧ Fr (ownJ jb o D) w w' := by
  have HAG := Lib.hid hag
  have HOWN := Lib.hid (fun k (hk : ownJ jb o D k) => (h.own_lt hk).2)
  have hb1 := (Below.refl w.heap.size w).alloc (Nat.le_refl _) (.cells #[ptr jb] 34)
  have HP1 := Lib.hid (Blk.new w 34 #[ptr jb] 0 0 (Or.inl (Nat.le_refl _)))
  have HB1 := Lib.hid hb1
  have HJ1 := Lib.hid (h.below hb1)
  clear h hb1 hag
  go_enter Try.func24, Try.ntmps24
  go_upto_region 1 with fail
  generalize World.alloc _ _ = w1 at HP1 HB1 HJ1 ⊢
  obtain ⟨pb, hpb⟩ : ∃ q, q = w.heap.size := ⟨_, rfl⟩
  rw [← hpb] at HP1 ⊢
  have HPO : Hid (¬ ownJ jb o D pb) := Lib.hid (fun hk => by have := HOWN.out _ hk; omega)
  have HPB := Lib.hid hpb
  clear hpb
  have hcp := HP1.out.cell 0
  go_wp2_with fail
  refine (noneJ_any lim jb hl _ (jo_cell HJ1.out)).mono ?_
  rintro e w' ⟨rfl, hw⟩
  rw [hw]
  clear hw
  have c1 := jo_cell1 HJ1.out
  obtain ⟨n, hn⟩ : ∃ n, n = D.length := ⟨_, rfl⟩
  rw [← hn] at c1
  have HNN := Lib.hid hn
  clear hn
  go_upto_region 3 with fail
  clear hcp c1
  go_loopg [11] n (fun kx s11 wr => ∃ k : Nat, s11 = .int .i64 k ∧ k ≤ n ∧ n - k ≤ kx ∧ Hid (JS wr B jb lim o c (incD D k)) ∧ Hid (Blk wr pb 34 #[ptr jb]) ∧ Hid (Fr (ownJ jb o D) w wr))
  case atStart => exact ⟨0, rfl, Nat.zero_le _, by omega, Lib.hid (by rw [incD_zero]; exact HJ1.out), HP1, Lib.hid (Fr.below HB1.out)⟩
  case round =>
    obtain ⟨k, rfl, hk, hkx, HJ, HP, HF⟩ := hrel
    by_cases hlt : k < n
    · have hltz : (k : Int) < (n : Int) := by omega
      have hkD : k < D.length := by have := HNN.out; omega
      obtain ⟨g, rfl, hrow⟩ : ∃ g, o = some ⟨g, 0, none⟩ ∧ PtrRow wr B g c (D.map Dg.b) := by
        have := HJ.out.row
        rw [incD_map] at this
        rcases this with ⟨_, _, h0⟩ | h
        · have : (D.map Dg.b).length = 0 := by rw [h0]; rfl
          rw [List.length_map] at this
          omega
        · exact h
      have hc : wr.cell? ⟨g, k, none⟩ = some (ptr D[k].b) := by
        have := hrow.cell k (by rw [List.length_map]; exact hkD)
        rw [List.getElem_map] at this
        exact this
      have HJm : Hid (JS wr B jb lim (some ⟨g, 0, none⟩) c ((D.take k).map upD ++ D[k] :: D.drop (k + 1))) := Lib.hid (by rw [← incD_at D k hkD]; exact HJ.out)
      have HDG := Lib.hid (HJm.out.dg D[k] mem_self)
      have ca := (dt_cells HDG.out.blk.blk).2
      have fa := HDG.out.blk.blk.free 11 (by rw [dtC_size]; decide)
      have hag := HAG.out D[k] (List.getElem_mem _)
      have hwa : IntKind.i64.wrap (D[k].age + 1) = D[k].age + 1 := IntWalk.i64_in _ ⟨by omega, by omega⟩
      have hset := HDG.out.blk.set 11 (.int .i64 (D[k].age + 1))
      rw [dt_set11] at hset
      have HF1 : Hid (Fr (fun q => q = D[k].b) wr (wr.setCell ⟨D[k].b, 11, none⟩ (.int .i64 (D[k].age + 1)))) := Lib.hid (Fr.set wr D[k].b 11 _)
      have HNX : Hid (JS (wr.setCell ⟨D[k].b, 11, none⟩ (.int .i64 (D[k].age + 1))) B jb lim (some ⟨g, 0, none⟩) c (incD D (k + 1))) := Lib.hid (by
        rw [incD_next D k hkD]
        refine HJm.out.repl (upD D[k]) rfl ⟨hset, HDG.out.row.same (fun q e => HF1.out.block q (HDG.out.row.lt e) (fun e' => (HJm.out.ne_jb mem_self).2.2.2.2.1 (by rw [e, e']))), HDG.out.lo, HDG.out.ro⟩ (HF1.out.mono (fun q _ h => Or.inl h)) (Or.inl rfl))
      have HPX : Hid (Blk (wr.setCell ⟨D[k].b, 11, none⟩ (.int .i64 (D[k].age + 1))) pb 34 #[ptr jb]) := Lib.hid (HP.out.set_other ⟨D[k].b, 11, none⟩ _ (fun e => HPO.out (Or.inr (Or.inr ⟨D[k], List.getElem_mem _, Or.inl e⟩))))
      have HFX : Hid (Fr (ownJ jb (some ⟨g, 0, none⟩) D) w (wr.setCell ⟨D[k].b, 11, none⟩ (.int .i64 (D[k].age + 1)))) := Lib.hid (HF.out.tail HF1.out (fun q hq => Or.inl (Or.inr (Or.inr ⟨D[k], List.getElem_mem _, Or.inl hq⟩))))
      clear hset hrow HJ HP HF HJm HDG HF1 HAG HJ1
      generalize D[k] = d at hc ca fa hag hwa HNX HPX HFX
      obtain ⟨db, hdb⟩ : ∃ x, x = d.b := ⟨_, rfl⟩
      obtain ⟨da, hda⟩ : ∃ x, x = d.age := ⟨_, rfl⟩
      rw [← hdb] at hc ca fa HNX HPX HFX
      rw [← hda] at ca hag hwa HNX HPX HFX
      clear hdb hda
      go_wp2
      go_roundg (n - (k + 1))
      case measure => omega
      case rel => exact ⟨k + 1, by go_num, by omega, Nat.le_refl _, HNX, HPX, HFX⟩
    · have hltz : ¬ (k : Int) < (n : Int) := by omega
      have hkn : k = D.length := by have := HNN.out; omega
      have HJa : Hid (JS wr B jb lim o c (D.map upD)) := Lib.hid (by rw [← incD_all, ← hkn]; exact HJ.out)
      have HPd := Lib.hid HP.out.drew
      have HFd : Hid (Fr (ownJ jb o D) w wr.drew) := Lib.hid (HF.out.trans (Fr.drewN _ wr 1))
      have HJd : Hid (JS wr.drew B jb lim o c (D.map upD)) := Lib.hid (HJa.out.same (fun _ _ => rfl))
      have HPOd : Hid (¬ ownJ jb o (D.map upD) pb) := Lib.hid (fun hk => HPO.out (own_inc (k := D.length) (by rw [incD_all]; exact hk)))
      have hln : (D.map upD).length = n := by rw [List.length_map]; exact HNN.out.symm
      have HLN := Lib.hid hln
      have HLE : Hid (n ≤ 4) := Lib.hid (by have := HNN.out; omega)
      clear hkn HJ HP HF HJ1 HJa hln
      have HTV : Hid (tickD lim D = (D.map upD).filter (fun d => !oldB lim d)) := Lib.hid rfl
      have HOX : Hid (∀ q, ownJ jb o (D.map upD) q → ownJ jb o D q) := Lib.hid (fun q hq => own_inc (k := D.length) (by rw [incD_all]; exact hq))
      generalize D.map upD = E at HJd HPOd HLN HTV HOX
      have HPC : Hid (pb ≠ jb) := Lib.hid (fun e => HPOd.out (Or.inl e))
      rcases HJd.out.row with ⟨rfl, rfl, hE⟩ | ⟨g, rfl, hrow⟩
      · have hE0 : E = [] := List.map_eq_nil_iff.1 hE
        subst hE0
        have hn0 : n = 0 := HLN.out.symm
        clear hE HLN
        go_upto_region 7 with fail
        refine wp_region_noPanic ?_
        refine wp_region_held_drew (S := (fun w' => w'.cell? ⟨pb, 0, none⟩ = some (ptr jb))) (by kernel_rfl) (by first | exact HPd.out.cell 0) (fun hHeld => ?_)
        refine wpAnyH_take (i := 0) (oi := _) (v := ?vr1n0_1) rfl (by kernel_rfl) (by kernel_rfl) (by kernel_rfl) (fun _ _ _ h => h) (Or.inl ⟨by kernel_rfl, ?hr1n0_1⟩) hHeld ?_
        case hr1n0_1 => (intro w hSw; (try dsimp only at hSw); go_simp; try (with_reducible rfl))
        try simp only [List.getElem_toArray, List.getElem_cons_zero, List.getElem_cons_succ, Act.put, List.setIfInBounds_toArray, List.set_cons_zero, List.set_cons_succ]
        refine wpAnyH_take (i := 1) (oi := _) (v := ?vr1n1_2) rfl (by kernel_rfl) (by kernel_rfl) (by kernel_rfl) (fun _ _ _ h => h) (Or.inl ⟨by kernel_rfl, ?hr1n1_2⟩) hHeld ?_
        case hr1n1_2 => (intro w hSw; (try dsimp only at hSw); go_simp; try (with_reducible rfl))
        try simp only [List.getElem_toArray, List.getElem_cons_zero, List.getElem_cons_succ, Act.put, List.setIfInBounds_toArray, List.set_cons_zero, List.set_cons_succ]
        refine wpAnyH_take (i := 2) (oi := _) (v := ?vr1n2_3) rfl (by kernel_rfl) (by kernel_rfl) (by kernel_rfl) (fun _ _ _ h => h) (Or.inl ⟨by kernel_rfl, ?hr1n2_3⟩) hHeld ?_
        case hr1n2_3 => (intro w hSw; (try dsimp only at hSw); go_simp; try (with_reducible rfl))
        try simp only [List.getElem_toArray, List.getElem_cons_zero, List.getElem_cons_succ, Act.put, List.setIfInBounds_toArray, List.set_cons_zero, List.set_cons_succ]
        refine wpAnyH_take (i := 3) (oi := _) (v := ?vr1n3_4) rfl (by kernel_rfl) (by kernel_rfl) (by kernel_rfl) (fun _ _ _ h => h) (Or.inl ⟨by kernel_rfl, ?hr1n3_4⟩) hHeld ?_
        case hr1n3_4 => (intro w hSw; (try dsimp only at hSw); go_simp; try (with_reducible rfl))
        try simp only [List.getElem_toArray, List.getElem_cons_zero, List.getElem_cons_succ, Act.put, List.setIfInBounds_toArray, List.set_cons_zero, List.set_cons_succ]
        refine wpAnyH_take (i := 5) (oi := _) (v := ?vr1n5_5) rfl (by kernel_rfl) (by kernel_rfl) (by kernel_rfl) (fun _ _ _ h => h) (Or.inl ⟨by kernel_rfl, ?hr1n5_5⟩) hHeld ?_
        case hr1n5_5 => (intro w hSw; (try dsimp only at hSw); go_simp; try (with_reducible rfl))
        try simp only [List.getElem_toArray, List.getElem_cons_zero, List.getElem_cons_succ, Act.put, List.setIfInBounds_toArray, List.set_cons_zero, List.set_cons_succ]
        refine wpAnyH_ready (rs := [4]) (by kernel_rfl) (by simp) ?_
        refine AllReadyH.cons (o := _) rfl (fun K hK => ?_) AllReadyH.nil
        (have c1 := jo_cell1 HJd.out)
        go_simp
        (clear c1)
        refine hK.out _ _ ?_ (fun hHeld1 => ?_)
        · (first | exact HPd.out.cell 0)
        clear hHeld hK K
        try simp only [List.getElem_toArray, List.getElem_cons_zero, List.getElem_cons_succ, Act.put, List.setIfInBounds_toArray, List.set_cons_zero, List.set_cons_succ]
        refine wpAnyH_ready (rs := [6]) (by kernel_rfl) (by simp) ?_
        refine AllReadyH.cons (o := _) rfl (fun K hK => ?_) AllReadyH.nil
        go_simp
        (go_at_call 47; refine (delD_nil _ _ _).mono ?_; rintro e w6 ⟨rfl, hw6⟩; rw [hw6]; clear hw6)
        refine hK.out _ _ ?_ (fun hHeld2 => ?_)
        · (first | exact HPd.out.cell 0)
        clear hHeld1 hK K
        try simp only [List.getElem_toArray, List.getElem_cons_zero, List.getElem_cons_succ, Act.put, List.setIfInBounds_toArray, List.set_cons_zero, List.set_cons_succ]
        refine wpAnyH_take (i := 7) (oi := _) (v := ?vr1n7_6) rfl (by kernel_rfl) (by kernel_rfl) (by kernel_rfl) (fun _ _ _ h => h) (Or.inl ⟨by kernel_rfl, ?hr1n7_6⟩) hHeld2 ?_
        case hr1n7_6 => (intro w hSw; (try dsimp only at hSw); go_simp; try (with_reducible rfl))
        try simp only [List.getElem_toArray, List.getElem_cons_zero, List.getElem_cons_succ, Act.put, List.setIfInBounds_toArray, List.set_cons_zero, List.set_cons_succ]
        refine wpAnyH_take (i := 8) (oi := _) (v := ?vr1n8_7) rfl (by kernel_rfl) (by kernel_rfl) (by kernel_rfl) (fun _ _ _ h => h) (Or.inl ⟨by kernel_rfl, ?hr1n8_7⟩) hHeld2 ?_
        case hr1n8_7 => (intro w hSw; (try dsimp only at hSw); go_simp; try (with_reducible rfl))
        try simp only [List.getElem_toArray, List.getElem_cons_zero, List.getElem_cons_succ, Act.put, List.setIfInBounds_toArray, List.set_cons_zero, List.set_cons_succ]
        refine wpAnyH_ready (rs := [9]) (by kernel_rfl) (by simp) ?_
        refine AllReadyH.cons (o := _) rfl (fun K hK => ?_) AllReadyH.nil
        (have c1 := jo_cell1 HJd.out; have f1 := HJd.out.j.blk.free 1 (show 1 < 2 from by decide); have HPs := Lib.hid (HPd.out.set_other ⟨jb, 1, none⟩ (.slice none 0 0) HPC.out))
        go_simp
        (clear c1 f1)
        refine hK.out _ _ ?_ (fun hHeld3 => ?_)
        · (first | exact HPs.out.cell 0)
        clear hHeld2 hK K
        try simp only [List.getElem_toArray, List.getElem_cons_zero, List.getElem_cons_succ, Act.put, List.setIfInBounds_toArray, List.set_cons_zero, List.set_cons_succ]
        refine wpAnyH_done (by kernel_rfl) ?_ _
        refine NoPanic.normal ?_
        go_wp2_with fail
        refine bodyPost_end (results_none Try.results24 _ _ _) rfl ⟨rfl, ?_, HFd.out.trans ((Fr.set _ jb 1 _).mono (fun q _ hq => Or.inl hq))⟩
        rw [HTV.out]
        exact ⟨HJd.out.j.set 1 _, HJd.out.lo, Or.inl ⟨rfl, rfl, rfl⟩, fun d hd => (by cases hd), List.Pairwise.nil⟩
      · have DEL := Lib.hid (tickDel HJd.out (by rw [HLN.out]; exact HLE.out) HPd.out HPOd.out)
        rw [HLN.out] at DEL
        clear hrow
        generalize hK : E.filter (fun d => !oldB lim d) = KK at DEL HTV
        have HKS : Hid (KK.Sublist E) := Lib.hid (by rw [← hK]; exact List.filter_sublist)
        clear hK
        go_upto_region 7 with fail
        refine wp_region_noPanic ?_
        refine wp_region_held_drew (S := (fun w' => w'.cell? ⟨pb, 0, none⟩ = some (ptr jb))) (by kernel_rfl) (by first | exact HPd.out.cell 0) (fun hHeld => ?_)
        refine wpAnyH_take (i := 0) (oi := _) (v := ?vr2n0_8) rfl (by kernel_rfl) (by kernel_rfl) (by kernel_rfl) (fun _ _ _ h => h) (Or.inl ⟨by kernel_rfl, ?hr2n0_8⟩) hHeld ?_
        case hr2n0_8 => (intro w hSw; (try dsimp only at hSw); go_simp; try (with_reducible rfl))
        try simp only [List.getElem_toArray, List.getElem_cons_zero, List.getElem_cons_succ, Act.put, List.setIfInBounds_toArray, List.set_cons_zero, List.set_cons_succ]
        refine wpAnyH_take (i := 1) (oi := _) (v := ?vr2n1_9) rfl (by kernel_rfl) (by kernel_rfl) (by kernel_rfl) (fun _ _ _ h => h) (Or.inl ⟨by kernel_rfl, ?hr2n1_9⟩) hHeld ?_
        case hr2n1_9 => (intro w hSw; (try dsimp only at hSw); go_simp; try (with_reducible rfl))
        try simp only [List.getElem_toArray, List.getElem_cons_zero, List.getElem_cons_succ, Act.put, List.setIfInBounds_toArray, List.set_cons_zero, List.set_cons_succ]
        refine wpAnyH_take (i := 2) (oi := _) (v := ?vr2n2_10) rfl (by kernel_rfl) (by kernel_rfl) (by kernel_rfl) (fun _ _ _ h => h) (Or.inl ⟨by kernel_rfl, ?hr2n2_10⟩) hHeld ?_
        case hr2n2_10 => (intro w hSw; (try dsimp only at hSw); go_simp; try (with_reducible rfl))
        try simp only [List.getElem_toArray, List.getElem_cons_zero, List.getElem_cons_succ, Act.put, List.setIfInBounds_toArray, List.set_cons_zero, List.set_cons_succ]
        refine wpAnyH_take (i := 3) (oi := _) (v := ?vr2n3_11) rfl (by kernel_rfl) (by kernel_rfl) (by kernel_rfl) (fun _ _ _ h => h) (Or.inl ⟨by kernel_rfl, ?hr2n3_11⟩) hHeld ?_
        case hr2n3_11 => (intro w hSw; (try dsimp only at hSw); go_simp; try (with_reducible rfl))
        try simp only [List.getElem_toArray, List.getElem_cons_zero, List.getElem_cons_succ, Act.put, List.setIfInBounds_toArray, List.set_cons_zero, List.set_cons_succ]
        refine wpAnyH_take (i := 5) (oi := _) (v := ?vr2n5_12) rfl (by kernel_rfl) (by kernel_rfl) (by kernel_rfl) (fun _ _ _ h => h) (Or.inl ⟨by kernel_rfl, ?hr2n5_12⟩) hHeld ?_
        case hr2n5_12 => (intro w hSw; (try dsimp only at hSw); go_simp; try (with_reducible rfl))
        try simp only [List.getElem_toArray, List.getElem_cons_zero, List.getElem_cons_succ, Act.put, List.setIfInBounds_toArray, List.set_cons_zero, List.set_cons_succ]
        refine wpAnyH_ready (rs := [4]) (by kernel_rfl) (by simp) ?_
        refine AllReadyH.cons (o := _) rfl (fun K hK => ?_) AllReadyH.nil
        (have c1 := jo_cell1 HJd.out; rw [HLN.out] at c1)
        go_simp
        (clear c1)
        refine hK.out _ _ ?_ (fun hHeld1 => ?_)
        · (first | exact HPd.out.cell 0)
        clear hHeld hK K
        try simp only [List.getElem_toArray, List.getElem_cons_zero, List.getElem_cons_succ, Act.put, List.setIfInBounds_toArray, List.set_cons_zero, List.set_cons_succ]
        refine wpAnyH_ready (rs := [6]) (by kernel_rfl) (by simp) ?_
        refine AllReadyH.cons (o := _) rfl (fun K hK => ?_) AllReadyH.nil
        go_simp
        (go_at_call 47; refine DEL.out.mono ?_; rintro e w6 ⟨rfl, hr6, hg6⟩; have HR6 := Lib.hid hr6; have HJ6 : Hid (At w6 jb 56 (joC lim (.slice (some ⟨g, 0, none⟩) n c))) := Lib.hid ((by rw [← HLN.out]; exact HJd.out.j : At wr.drew jb 56 (joC lim (.slice (some ⟨g, 0, none⟩) n c))).same (hg6.block jb HJd.out.j.lt (fun e => by obtain ⟨C, hC⟩ := HJd.out.row.tag rfl; exact HJd.out.j.ne hC (by decide) (Option.some.inj e)))); have HP6 : Hid (Blk w6 pb 34 #[ptr jb]) := Lib.hid (HPd.out.of_heap (hg6.block pb HPd.out.lt (fun e => HPOd.out (Or.inr (Or.inl (by rw [Option.some.inj e])))))); have HF6 : Hid (Fr (fun k => k = jb ∨ k = g) wr.drew w6) := Lib.hid ((Fr.grown hg6).mono (fun k _ h => Or.inr h)); clear hr6 hg6)
        refine hK.out _ _ ?_ (fun hHeld2 => ?_)
        · (first | exact HP6.out.cell 0)
        clear hHeld1 hK K
        try simp only [List.getElem_toArray, List.getElem_cons_zero, List.getElem_cons_succ, Act.put, List.setIfInBounds_toArray, List.set_cons_zero, List.set_cons_succ]
        refine wpAnyH_take (i := 7) (oi := _) (v := ?vr2n7_13) rfl (by kernel_rfl) (by kernel_rfl) (by kernel_rfl) (fun _ _ _ h => h) (Or.inl ⟨by kernel_rfl, ?hr2n7_13⟩) hHeld2 ?_
        case hr2n7_13 => (intro w hSw; (try dsimp only at hSw); go_simp; try (with_reducible rfl))
        try simp only [List.getElem_toArray, List.getElem_cons_zero, List.getElem_cons_succ, Act.put, List.setIfInBounds_toArray, List.set_cons_zero, List.set_cons_succ]
        refine wpAnyH_take (i := 8) (oi := _) (v := ?vr2n8_14) rfl (by kernel_rfl) (by kernel_rfl) (by kernel_rfl) (fun _ _ _ h => h) (Or.inl ⟨by kernel_rfl, ?hr2n8_14⟩) hHeld2 ?_
        case hr2n8_14 => (intro w hSw; (try dsimp only at hSw); go_simp; try (with_reducible rfl))
        try simp only [List.getElem_toArray, List.getElem_cons_zero, List.getElem_cons_succ, Act.put, List.setIfInBounds_toArray, List.set_cons_zero, List.set_cons_succ]
        refine wpAnyH_ready (rs := [9]) (by kernel_rfl) (by simp) ?_
        refine AllReadyH.cons (o := _) rfl (fun K hK => ?_) AllReadyH.nil
        (have c1 := HJ6.out.blk.cell 1; have f1 := HJ6.out.blk.free 1 (show 1 < 2 from by decide); have HPs := Lib.hid (HP6.out.set_other ⟨jb, 1, none⟩ (.slice (some ⟨g, 0, none⟩) KK.length c) HPC.out))
        go_simp
        (clear c1 f1)
        refine hK.out _ _ ?_ (fun hHeld3 => ?_)
        · (first | exact HPs.out.cell 0)
        clear hHeld2 hK K
        try simp only [List.getElem_toArray, List.getElem_cons_zero, List.getElem_cons_succ, Act.put, List.setIfInBounds_toArray, List.set_cons_zero, List.set_cons_succ]
        refine wpAnyH_done (by kernel_rfl) ?_ _
        refine NoPanic.normal ?_
        go_wp2_with fail
        have HF7 := HF6.out.trans ((Fr.set w6 jb 1 (.slice (some ⟨g, 0, none⟩) KK.length c)).mono (T := fun k => k = jb ∨ k = g) (fun q _ hq => Or.inl hq))
        refine bodyPost_end (results_none Try.results24 _ _ _) rfl ⟨rfl, ?_, HFd.out.tail HF7 (fun q hq => Or.inl (HOX.out q (hq.elim Or.inl (fun h => Or.inr (Or.inl (by rw [h]))))))⟩
        rw [HTV.out]
        exact HJd.out.filtered KK HKS.out (HJ6.out.set 1 _) (HR6.out.same ((Fr.set w6 jb 1 _).block g HR6.out.lt.2 (fun e => by obtain ⟨C, hC⟩ := HJd.out.row.tag rfl; exact HJd.out.j.ne hC (by decide) e.symm))) HF7
end Go.Proofs.Yticchchcobjpdaa
