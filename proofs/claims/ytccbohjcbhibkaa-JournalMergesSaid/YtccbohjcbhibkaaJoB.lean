/- number and put of the reference; rows of its records. Conditions: texts of 64 bytes, rows that a memory can hold. -/
import Derived.Test.YtccbohjcbhibkaaJnZ
namespace Go.Proofs.Ytccbohjcbhibkaa
set_option linter.unusedVariables false
set_option linter.unusedSimpArgs false
set_option maxRecDepth 100000
open Go.RowKit Go.ChangeShapes Go.WideShapes Go.Deep
attribute [local go_sem ↓] Go.wp_at_zero Go.wp_at_succ
attribute [local go_sem ↓] ix_dat ld_rec

theorem str_getD (l : List UInt8) (i : Nat) (h : i < l.length) : (⟨l.toArray⟩ : ByteArray)[i]'h = l.getD i 0 := by
  rw [List.getD_eq_getElem?_getD, List.getElem?_eq_getElem h]
  rfl
set_option maxHeartbeats 1000000 in
theorem refNum_any (l : List UInt8) (hl : l.length = 64) (o : Nat) (ho : o + 3 < 64) (w : World) :
    Calls Try.prog 44 #[.string ⟨l.toArray⟩, .int .i64 (o : Int)] w fun e w' => e = .returned (.int .i64 (nmA l o : Int)) ∧ Below w.heap.size w w' := by
  have g0 := str_getD l o (by omega)
  have g1 := str_getD l (o + 1) (by omega)
  have g2 := str_getD l (o + 2) (by omega)
  have g3 := str_getD l (o + 3) (by omega)
  have HV : Hid (nmA l o = nm4 (l.getD o 0) (l.getD (o + 1) 0) (l.getD (o + 2) 0) (l.getD (o + 3) 0)) := Lib.hid rfl
  have b0 := (l.getD o 0).toNat_lt
  have b1 := (l.getD (o + 1) 0).toNat_lt
  have b2 := (l.getD (o + 2) 0).toNat_lt
  have b3 := (l.getD (o + 3) 0).toNat_lt
  unfold nm4 at HV
  generalize l.getD o 0 = x0 at g0 HV b0
  generalize l.getD (o + 1) 0 = x1 at g1 HV b1
  generalize l.getD (o + 2) 0 = x2 at g2 HV b2
  generalize l.getD (o + 3) 0 = x3 at g3 HV b3
  have hz : (0 : Int) ≤ (o : Int) := by omega
  have hz1 : (0 : Int) ≤ (o : Int) + 1 := by omega
  have hz2 : (0 : Int) ≤ (o : Int) + 2 := by omega
  have hz3 : (0 : Int) ≤ (o : Int) + 3 := by omega
  have hk0 : (o : Int) < (l.length : Int) := by omega
  have hk1 : (o : Int) + 1 < (l.length : Int) := by omega
  have hk2 : (o : Int) + 2 < (l.length : Int) := by omega
  have hk3 : (o : Int) + 3 < (l.length : Int) := by omega
  have ht1 : ((o : Int) + 1).toNat = o + 1 := by omega
  have ht2 : ((o : Int) + 2).toNat = o + 2 := by omega
  have ht3 : ((o : Int) + 3).toNat = o + 3 := by omega
  have hw1 : IntKind.i64.wrap ((o : Int) + 1) = (o : Int) + 1 := IntWalk.i64_in _ ⟨by omega, by omega⟩
  have hw2 : IntKind.i64.wrap ((o : Int) + 2) = (o : Int) + 2 := IntWalk.i64_in _ ⟨by omega, by omega⟩
  have hw3 : IntKind.i64.wrap ((o : Int) + 3) = (o : Int) + 3 := IntWalk.i64_in _ ⟨by omega, by omega⟩
  have hv0 : IntKind.i64.wrap ((x0.toNat : Nat) : Int) = ((x0.toNat : Nat) : Int) := IntWalk.i64_in _ ⟨by omega, by omega⟩
  have hv1 : IntKind.i64.wrap ((x1.toNat : Nat) : Int) = ((x1.toNat : Nat) : Int) := IntWalk.i64_in _ ⟨by omega, by omega⟩
  have hv2 : IntKind.i64.wrap ((x2.toNat : Nat) : Int) = ((x2.toNat : Nat) : Int) := IntWalk.i64_in _ ⟨by omega, by omega⟩
  have hv3 : IntKind.i64.wrap ((x3.toNat : Nat) : Int) = ((x3.toNat : Nat) : Int) := IntWalk.i64_in _ ⟨by omega, by omega⟩
  go_enter Try.func44, Try.ntmps44
  go_upto_region 1 with fail
  go_quiet (fail)
  go_wp2
  go_ret
  exact ⟨ret_int (by rw [HV.out]; omega), Below.drewN (Below.refl _ _) _⟩

/-! ### rows of the reference's records -/
theorem rec_infoQ : (Try.prog.info? 36).map (fun i => (i.zero, i.size, i.bytes)) = some (some (.agg zrec), 7, 88) := by kernel_rfl
theorem ld_ref (v : Value) : Instr.loadAt 36 v = Ld 36 v := rfl
attribute [local go_sem ↓] ld_ref
theorem Blk.ldQ {w : World} {b : Nat} {e : TypeId} {r : Rc} (h : Blk w b e (rcC r)) : (Ld 36 (.pointer (some ⟨b, 0, none⟩))).run Try.prog w = .ok (.agg (rcC r)) w := by
  have hr := h.range
  unfold Ld
  have hl := run_loadVar_mid (P := Try.prog) w b 0 36 (rcC r).toList _ hr Try.underlying36 rfl (by rw [Array.length_toList, rcC_size]; exact size_ref)
  simp only [Array.toArray_toList] at hl
  simp only [Instr.loadAt, Instr.sureAddr, Sem.run_bind, Sem.run_pure, Result.andThen_ok, hl]
theorem RsAt.ldQ {w : World} {B b o : Nat} {L : List Rc} (h : ∀ j (hj : j < L.length), w.rangeAt b (o + j * 7) (encR L[j])) (i : Nat) (hi : i < L.length) :
    (Ld 36 (.pointer (some ⟨b, o + i * 7, none⟩))).run Try.prog w = .ok (.agg (rcC L[i])) w := by
  have hr := h i hi
  unfold Ld
  have hl := run_loadVar_mid (P := Try.prog) w b (o + i * 7) 36 (rcC L[i]).toList _ hr Try.underlying36 rfl (by rw [Array.length_toList, rcC_size]; exact size_ref)
  simp only [Array.toArray_toList] at hl
  simp only [Instr.loadAt, Instr.sureAddr, Sem.run_bind, Sem.run_pure, Result.andThen_ok, hl]
theorem wpList_bsQ {ops : Array Oper} {rest : List Oper} {o : Oper} {a : Act} {w : World} {Q : Exit → Act → World → Prop} (hg : o.guard = none) (x : Operand) (ho : o.op = .buildSlice 45 1 #[(0, x)])
    (X : Rc) (hx : a.eval x = .agg (rcC X)) (h : wpList Try.prog ops Q rest (a.put o.dst (.slice (some ⟨w.heap.size, 0, none⟩) 1 1)) (w.alloc (.cells (rcC X) 36))) : wpList Try.prog ops Q (o :: rest) a w := by
  obtain ⟨i0, hi, hz0, hz1, hz2⟩ := info_parts rec_infoQ
  refine wpList_buildSlice hg 45 36 1 #[(0, x)] ho (rcC X) i0 (.agg zrec) Try.underlying45 hi hz0 (by rw [hz1]; decide) (by rw [hz1]; decide) ?_ h
  rw [hz1]
  have e : (#[(0, x)].map fun (i, x) => (i, a.eval x)).toList = [(0, a.eval x)] := by simp
  rw [e, hx]
  exact fill_rec X
theorem own_recs {w : World} {B n : Nat} {e : TypeId} {v : Value} {L : List Rc} (h : w.ownsRow B e 7 v n (flat L)) :
    ∃ A c, v = .slice A L.length c ∧ n = L.length ∧ RsAt w w.heap.size A L ∧ L.length ≤ c ∧ c ≤ maxLen ∧ (A = none → L = [] ∧ c = 0) := by
  obtain ⟨hl, h⟩ := h
  rw [flat_len] at hl
  have hn : n = L.length := by omega
  subst hn
  rcases h with ⟨rfl, h0⟩ | ⟨g, cap, cur, rfl, hB, hg, hn, hm, hsz, htk⟩
  · have := List.length_eq_zero_iff.1 h0
    subst this
    exact ⟨none, 0, rfl, rfl, Or.inl rfl, Nat.le_refl _, by simp [maxLen], fun _ => ⟨rfl, rfl⟩⟩
  · refine ⟨some ⟨g, 0, none⟩, cap, rfl, rfl, Or.inr ⟨g, 0, rfl, (Array.getElem?_eq_some_iff.1 hg).1, fun j hj i v hv => ?_⟩, hn, hm, fun h => by cases h⟩
    have hi : i < 7 := by
      have h1 := (List.getElem?_eq_some_iff.1 hv).1
      have h2 : (encR L[j]).length = 7 := rfl
      omega
    have hjl : j * 7 + i < L.length * 7 := by omega
    have e1 := flat_get L (j * 7 + i) hjl
    have e2 : (j * 7 + i) / 7 = j := by omega
    have e3 : (j * 7 + i) % 7 = i := by omega
    have e4 : L.toArray[j]! = L[j] := by simp [hj]
    rw [e2, e3, e4, List.getElem!_eq_getElem?_getD, hv] at e1
    rw [← htk, List.getElem?_take, if_pos hjl] at e1
    have e5 : w.cell? ⟨g, 0 + j * 7 + i, none⟩ = cur[j * 7 + i]? := by simp [World.cell?, hg]
    rw [e5]
    simpa using e1
theorem ownQ_new (w : World) (B : Nat) (X : Rc) (hB : B ≤ w.heap.size) :
    (w.alloc (.cells (rcC X) 36)).ownsRow B 36 7 (.slice (some ⟨w.heap.size, 0, none⟩) 1 1) 1 (flat [X]) :=
  ⟨by rw [flat_len]; rfl, Or.inr ⟨w.heap.size, 1, rcC X, rfl, hB, heap_alloc_new w _, Nat.le_refl _, by simp [maxLen], by rw [rcC_size], rfl⟩⟩
theorem ownQ_none (w : World) (B : Nat) (hB : B ≤ w.heap.size) :
    (w.alloc (.cells #[] 36)).ownsRow B 36 7 (.slice (some ⟨w.heap.size, 0, none⟩) 0 0) 0 (flat []) :=
  ⟨by rw [flat_len]; rfl, Or.inr ⟨w.heap.size, 0, #[], rfl, hB, heap_alloc_new w _, Nat.le_refl _, by simp [maxLen], rfl, rfl⟩⟩
theorem rs_oneQ (w : World) (r : Rc) : RsAt (w.alloc (.cells (rcC r) 36)) (w.alloc (.cells (rcC r) 36)).heap.size (some ⟨w.heap.size, 0, none⟩) [r] := by
  obtain ⟨A, c, e, _, h, _⟩ := own_recs (ownQ_new w 0 r (Nat.zero_le _))
  injection e with e1
  rw [e1]
  exact h
/-- 'append(own, some...)' of records, whatever the source is -/
theorem wpList_appQs {w : World} {ops : Array Oper} {rest : List Oper} {o : Oper} {a : Act} {Q : Exit → Act → World → Prop} (hgd : o.guard = none) (s x : Operand)
    (ho : o.op = .call { callee := .builtin .append, args := #[s, x], argTypes := #[45, 45] })
    (base : Nat) (v : Value) (n : Nat) (xs : List Rc) (hs : a.eval s = v) (hown : w.ownsRow base 36 7 v n (flat xs))
    (A : Option Addr) (m c : Nat) (L : List Rc) (hx : a.eval x = .slice A m c) (hm : m = L.length) (hst : RsAt w w.heap.size A L) (hnil : A = none → L = [] ∧ c = 0) (h16 : (n + m) * 88 ≤ 140737488355328) (hbase : base ≤ w.heap.size)
    (h : ∀ v' w', w'.ownsRow base 36 7 v' (n + m) (flat (xs ++ L)) → w.grownBy w' v.ownBlock → wpList Try.prog ops Q rest (a.put o.dst v') w') : wpList Try.prog ops Q (o :: rest) a w := by
  obtain ⟨i0, hi, hz0, hz1, hz2⟩ := info_parts rec_infoQ
  subst hm
  rcases A with _ | ad
  · obtain ⟨hL, hc⟩ := hnil rfl
    subst hL
    subst hc
    refine wpList_append_own_none hgd s x 45 ho base 36 i0 7 Try.underlying45 hi v n _ hs hown hx ?_
    exact h v w (by rw [List.append_nil]; exact hown) ⟨rfl, rfl, rfl, Nat.le_refl _, fun _ _ _ => rfl⟩
  · refine wpList_append_own w hgd s x 45 ho base 36 i0 (.agg zrec) 7 88 Try.underlying45 hi hz0 hz1 hz2 rfl (by decide) v n _ hs hown ad L.length c (flat L) hx (flat_len L) ?_ (flat_ones L) (by unfold maxLen; omega) h16 hbase ?_
    · intro j u hj
      obtain ⟨hjl, hju⟩ := flat_at L j u hj
      rcases hst with h | ⟨b, o, h1, _, h3⟩
      · subst h; simp at hjl
      · obtain rfl : ad = ⟨b, o, none⟩ := Option.some.inj h1
        rw [addr_add, ← h3 (j / 7) hjl (j % 7) u hju]
        congr 2
        omega
    · intro v' w' hown' hg _
      rw [← flat_app] at hown'
      exact h v' w' hown' hg


/-- a part of a row -/
theorem RsAt.wide {w : World} {B B' : Nat} {A : Option Addr} {L : List Rc} (h : RsAt w B A L) (hB : B ≤ B') : RsAt w B' A L := by
  rcases h with h | ⟨b, o, e1, e2, e3⟩
  · exact Or.inl h
  · exact Or.inr ⟨b, o, e1, Nat.lt_of_lt_of_le e2 hB, e3⟩
theorem RsAt.take {w : World} {B : Nat} {A : Option Addr} {L : List Rc} (h : RsAt w B A L) (k : Nat) : RsAt w B A (L.take k) := by
  rcases h with h | ⟨b, o, h1, h2, h3⟩
  · exact Or.inl (by rw [h]; simp)
  · refine Or.inr ⟨b, o, h1, h2, fun j hj => ?_⟩
    rw [List.length_take] at hj
    rw [List.getElem_take]
    exact h3 j (by omega)
theorem RsAt.drop {w : World} {B b o : Nat} {L : List Rc} (h : RsAt w B (some ⟨b, o, none⟩) L) (k : Nat) : RsAt w B (some ⟨b, o + k * 7, none⟩) (L.drop k) := by
  rcases h with h | ⟨b', o', h1, h2, h3⟩
  · exact Or.inl (by rw [h]; simp)
  · have h1 := Option.some.inj h1
    injection h1 with e1 e2
    subst e1
    subst e2
    refine Or.inr ⟨b, o + k * 7, rfl, h2, fun j hj => ?_⟩
    rw [List.length_drop] at hj
    rw [List.getElem_drop]
    have := h3 (k + j) (by omega)
    rw [show o + (k + j) * 7 = o + k * 7 + j * 7 by omega] at this
    exact this

/-! ### put: a plain law -/
theorem put_split (r : Rc) : ∀ (t s : List Rc), (∀ x ∈ t, r.sq < x.sq) → put (s ++ t) r = put s r ++ t := by
  intro t
  induction t with
  | nil => intro s _; simp
  | cons x t ih =>
    intro s h
    have e : s ++ x :: t = (s ++ [x]) ++ t := by simp
    rw [e, ih _ (fun y hy => h y (List.mem_cons_of_mem _ hy)), put_gt _ _ _ (h x (List.mem_cons_self ..))]
    simp
theorem put_end (r : Rc) (s : List Rc) (h : s = [] ∨ ∃ (k : Nat) (hk : k < s.length), k + 1 = s.length ∧ ¬ r.sq < s[k].sq) : put s r = s ++ [r] := by
  rcases h with rfl | ⟨k, hk, e, h⟩
  · rfl
  · obtain ⟨l, x, rfl⟩ : ∃ l x, s = l ++ [x] := by
      rcases List.eq_nil_or_concat s with h | ⟨l, x, h⟩
      · rw [h] at hk; simp at hk
      · exact ⟨l, x, by simpa using h⟩
    have hk2 : k = l.length := by simp at e; omega
    subst hk2
    simp at h
    rw [put_le _ _ _ (by omega)]
    simp
theorem put_at (L : List Rc) (r : Rc) (k : Nat) (hk : k ≤ L.length) (h1 : ∀ j (hj : j < L.length), k ≤ j → r.sq < L[j].sq) (h2 : k = 0 ∨ ∃ (i : Nat) (hi : i < L.length), i + 1 = k ∧ ¬ r.sq < L[i].sq) :
    put L r = L.take k ++ [r] ++ L.drop k := by
  have e : put L r = put (L.take k ++ L.drop k) r := by rw [List.take_append_drop]
  rw [e, put_split r (L.drop k) (L.take k) ?_, put_end r (L.take k) ?_]
  · rcases h2 with rfl | ⟨i, hi, rfl, h⟩
    · exact Or.inl rfl
    · refine Or.inr ⟨i, by rw [List.length_take]; omega, by rw [List.length_take]; omega, ?_⟩
      rw [List.getElem_take]
      exact h
  · intro x hx
    obtain ⟨j, hj, rfl⟩ := List.getElem_of_mem hx
    rw [List.length_drop] at hj
    rw [List.getElem_drop]
    exact h1 (k + j) (by omega) (by omega)

/-- goes the place on to the front? -/
def stepB (L : List Rc) (r : Rc) (k : Nat) : Bool := decide (k ≠ 0 ∧ r.sq < (L.getD (k - 1) rc0).sq)
theorem stepB_zero (L : List Rc) (r : Rc) : stepB L r 0 = false := by simp [stepB]
theorem stepB_succ (L : List Rc) (r : Rc) (m : Nat) (hm : m < L.length) : stepB L r (m + 1) = decide (r.sq < L[m].sq) := by
  simp [stepB, List.getD_eq_getElem?_getD, List.getElem?_eq_getElem hm]
theorem stepB_stop (L : List Rc) (r : Rc) (k : Nat) (hk : k ≤ L.length) (h : stepB L r k = false) : k = 0 ∨ ∃ (i : Nat) (hi : i < L.length), i + 1 = k ∧ ¬ r.sq < L[i].sq := by
  cases k with
  | zero => exact Or.inl rfl
  | succ m =>
    rw [stepB_succ L r m (by omega)] at h
    exact Or.inr ⟨m, by omega, rfl, of_decide_eq_false h⟩
theorem stepB_go (L : List Rc) (r : Rc) (k : Nat) (hk : k ≤ L.length) (h : stepB L r k = true) : ∃ (i : Nat) (hi : i < L.length), i + 1 = k ∧ r.sq < L[i].sq := by
  cases k with
  | zero => rw [stepB_zero] at h; cases h
  | succ m =>
    rw [stepB_succ L r m (by omega)] at h
    exact ⟨m, by omega, rfl, of_decide_eq_true h⟩

set_option maxHeartbeats 4000000 in
theorem refPut_any (b o c : Nat) (L : List Rc) (r : Rc) (hL : L.length ≤ 1000) (hc1 : L.length ≤ c) (hc2 : c ≤ maxLen) (w : World) (hA : RsAt w w.heap.size (some ⟨b, o, none⟩) L) :
    Calls Try.prog 45 #[.slice (some ⟨b, o, none⟩) L.length c, .agg (rcC r)] w fun e w' => ∃ v, e = .returned v ∧ w'.ownsRow w.heap.size 36 7 v (L.length + 1) (flat (put L r)) ∧ Below w.heap.size w w' := by
  have HK := Lib.hid (Blk.new w 36 (rcC r) 0 0 (Or.inl (Nat.le_refl _)))
  have HB := Lib.hid ((Below.refl _ w).alloc (Nat.le_refl _) (.cells (rcC r) 36))
  have HA := Lib.hid hA
  have hcm : c ≤ 9223372036854775807 := hc2
  have hci : (c : Int) ≤ 9223372036854775807 := by omega
  have hl2 : L.length ≤ 9223372036854775807 := by omega
  clear hA hc2
  go_enter Try.func45, Try.ntmps45
  go_upto_region 1 with fail
  generalize hpr : w.heap.size = pr at HK ⊢
  generalize World.alloc _ _ = w1 at HK HB ⊢
  go_wp2
  go_loopw [5] (fun i wr => ∃ k : Nat, k ≤ L.length ∧ i = .int .i64 k ∧ Below w1.heap.size w1 wr ∧ ∀ (j : Nat) (hj : j < L.length), k ≤ j → r.sq < L[j].sq) (fun i _ => (intOf i).toNat)
  case atStart => exact ⟨L.length, Nat.le_refl _, rfl, Below.refl _ _, fun j hj h => by omega⟩
  case round =>
    obtain ⟨k, hk, rfl, hb, hall⟩ := hrel
    have HBk := Lib.hid hb
    have HAL := Lib.hid hall
    have HKk := Lib.hid (HK.out.step hb)
    have HAk := Lib.hid ((HA.out.below (hpr ▸ HB.out)).below (hb.mono HB.out.size))
    clear hb hall
    go_upto_region 2 with fail
    go_cut [21] from 9 to 20 (fun v wx => v = .bool (stepB L r k) ∧ Below wr.heap.size wr wx)
    case first =>
      cases k with
      | zero =>
        refine wp_region_noPanic ?_
        refine wp_region_held_drew (S := (fun w' => True)) (by kernel_rfl) (by first | trivial) (fun hHeld => ?_)
        refine wpAnyH_take (i := 0) (oi := _) (v := ?vr1n0_1) rfl (by kernel_rfl) (by kernel_rfl) (by kernel_rfl) (fun _ _ _ h => h) (Or.inl ⟨by kernel_rfl, ?hr1n0_1⟩) hHeld ?_
        case hr1n0_1 => (intro w hSw; (try dsimp only at hSw); go_simp; try (with_reducible rfl))
        try simp only [List.getElem_toArray, List.getElem_cons_zero, List.getElem_cons_succ, Act.put, List.setIfInBounds_toArray, List.set_cons_zero, List.set_cons_succ]
        refine wpAnyH_take (i := 1) (oi := _) (v := ?vr1n1_2) rfl (by kernel_rfl) (by kernel_rfl) (by kernel_rfl) (fun _ _ _ h => h) (Or.inl ⟨by kernel_rfl, ?hr1n1_2⟩) hHeld ?_
        case hr1n1_2 => (intro w hSw; (try dsimp only at hSw); go_simp; try (with_reducible rfl))
        try simp only [List.getElem_toArray, List.getElem_cons_zero, List.getElem_cons_succ, Act.put, List.setIfInBounds_toArray, List.set_cons_zero, List.set_cons_succ]
        refine wpAnyH_take (i := 2) (oi := _) (v := ?vr1n2_3) rfl (by kernel_rfl) (by kernel_rfl) (by kernel_rfl) (fun _ _ _ h => h) (Or.inl ⟨by kernel_rfl, ?hr1n2_3⟩) hHeld ?_
        case hr1n2_3 => (intro w hSw; (try dsimp only at hSw); go_simp; try (with_reducible rfl))
        try simp only [List.getElem_toArray, List.getElem_cons_zero, List.getElem_cons_succ, Act.put, List.setIfInBounds_toArray, List.set_cons_zero, List.set_cons_succ]
        refine wpAnyH_take (i := 3) (oi := _) (v := undef) rfl (by kernel_rfl) (by kernel_rfl) (by kernel_rfl) (fun _ _ _ h => h) (Or.inr ⟨by kernel_rfl, rfl⟩) hHeld ?_
        try simp only [List.getElem_toArray, List.getElem_cons_zero, List.getElem_cons_succ, Act.put, List.setIfInBounds_toArray, List.set_cons_zero, List.set_cons_succ]
        refine wpAnyH_take (i := 4) (oi := _) (v := undef) rfl (by kernel_rfl) (by kernel_rfl) (by kernel_rfl) (fun _ _ _ h => h) (Or.inr ⟨by kernel_rfl, rfl⟩) hHeld ?_
        try simp only [List.getElem_toArray, List.getElem_cons_zero, List.getElem_cons_succ, Act.put, List.setIfInBounds_toArray, List.set_cons_zero, List.set_cons_succ]
        refine wpAnyH_take (i := 5) (oi := _) (v := undef) rfl (by kernel_rfl) (by kernel_rfl) (by kernel_rfl) (fun _ _ _ h => h) (Or.inr ⟨by kernel_rfl, rfl⟩) hHeld ?_
        try simp only [List.getElem_toArray, List.getElem_cons_zero, List.getElem_cons_succ, Act.put, List.setIfInBounds_toArray, List.set_cons_zero, List.set_cons_succ]
        refine wpAnyH_take (i := 6) (oi := _) (v := undef) rfl (by kernel_rfl) (by kernel_rfl) (by kernel_rfl) (fun _ _ _ h => h) (Or.inr ⟨by kernel_rfl, rfl⟩) hHeld ?_
        try simp only [List.getElem_toArray, List.getElem_cons_zero, List.getElem_cons_succ, Act.put, List.setIfInBounds_toArray, List.set_cons_zero, List.set_cons_succ]
        refine wpAnyH_take (i := 7) (oi := _) (v := undef) rfl (by kernel_rfl) (by kernel_rfl) (by kernel_rfl) (fun _ _ _ h => h) (Or.inr ⟨by kernel_rfl, rfl⟩) hHeld ?_
        try simp only [List.getElem_toArray, List.getElem_cons_zero, List.getElem_cons_succ, Act.put, List.setIfInBounds_toArray, List.set_cons_zero, List.set_cons_succ]
        refine wpAnyH_take (i := 8) (oi := _) (v := undef) rfl (by kernel_rfl) (by kernel_rfl) (by kernel_rfl) (fun _ _ _ h => h) (Or.inr ⟨by kernel_rfl, rfl⟩) hHeld ?_
        try simp only [List.getElem_toArray, List.getElem_cons_zero, List.getElem_cons_succ, Act.put, List.setIfInBounds_toArray, List.set_cons_zero, List.set_cons_succ]
        refine wpAnyH_take (i := 9) (oi := _) (v := undef) rfl (by kernel_rfl) (by kernel_rfl) (by kernel_rfl) (fun _ _ _ h => h) (Or.inr ⟨by kernel_rfl, rfl⟩) hHeld ?_
        try simp only [List.getElem_toArray, List.getElem_cons_zero, List.getElem_cons_succ, Act.put, List.setIfInBounds_toArray, List.set_cons_zero, List.set_cons_succ]
        refine wpAnyH_take (i := 10) (oi := _) (v := undef) rfl (by kernel_rfl) (by kernel_rfl) (by kernel_rfl) (fun _ _ _ h => h) (Or.inr ⟨by kernel_rfl, rfl⟩) hHeld ?_
        try simp only [List.getElem_toArray, List.getElem_cons_zero, List.getElem_cons_succ, Act.put, List.setIfInBounds_toArray, List.set_cons_zero, List.set_cons_succ]
        refine wpAnyH_take (i := 11) (oi := _) (v := undef) rfl (by kernel_rfl) (by kernel_rfl) (by kernel_rfl) (fun _ _ _ h => h) (Or.inr ⟨by kernel_rfl, rfl⟩) hHeld ?_
        try simp only [List.getElem_toArray, List.getElem_cons_zero, List.getElem_cons_succ, Act.put, List.setIfInBounds_toArray, List.set_cons_zero, List.set_cons_succ]
        refine wpAnyH_take (i := 12) (oi := _) (v := ?vr1n12_4) rfl (by kernel_rfl) (by kernel_rfl) (by kernel_rfl) (fun _ _ _ h => h) (Or.inl ⟨by kernel_rfl, ?hr1n12_4⟩) hHeld ?_
        case hr1n12_4 => (intro w hSw; (try dsimp only at hSw); go_simp; try (with_reducible rfl))
        try simp only [List.getElem_toArray, List.getElem_cons_zero, List.getElem_cons_succ, Act.put, List.setIfInBounds_toArray, List.set_cons_zero, List.set_cons_succ]
        refine wpAnyH_done (by kernel_rfl) ?_ _
        refine NoPanic.normal ?_
        go_wp2_with fail
        go_meet
        exact ⟨by rw [stepB_zero], Below.drewN (Below.refl _ wr) _⟩
      | succ m =>
        have hm : m < L.length := by omega
        have hcx : wr.cell? ⟨b, o + m * 7 + 1, none⟩ = some (.int .i64 L[m].sq) := by
          rcases HAk.out with h | ⟨b2, o2, e, _, hc⟩
          · rw [h] at hm; simp at hm
          · have e := Option.some.inj e
            injection e with e1 e2
            subst e1
            subst e2
            exact hc m hm 1 _ rfl
        have HSC : Hid (wr.cell? ⟨b, o + m * 7 + 1, none⟩ = some (.int .i64 L[m].sq) ∧ wr.cell? ⟨pr, 1, none⟩ = some (.int .i64 r.sq)) := Lib.hid ⟨hcx, HKk.out.cell 1⟩
        have HST := Lib.hid (stepB_succ L r m hm)
        clear hcx
        have hwm : IntKind.i64.wrap ((m : Int) + 1 - 1) = (m : Int) := by rw [show (m : Int) + 1 - 1 = m by omega]; exact IntWalk.i64_in _ ⟨by omega, by omega⟩
        have hwm2 : IntKind.i64.wrap (m : Int) = (m : Int) := IntWalk.i64_in _ ⟨by omega, by omega⟩
        have hml : (m : Int) < L.length := by omega
        generalize L[m].sq = x at HSC HST
        generalize r.sq = y at HSC HST
        by_cases hxy : y < x
        · skip
          refine wp_region_noPanic ?_
          refine wp_region_held_drew (S := (fun w' => w'.cell? ⟨b, o + m * 7 + 1, none⟩ = some (.int .i64 x) ∧ w'.cell? ⟨pr, 1, none⟩ = some (.int .i64 y))) (by kernel_rfl) (by first | exact HSC.out) (fun hHeld => ?_)
          refine wpAnyH_take (i := 0) (oi := _) (v := ?vr1n0_5) rfl (by kernel_rfl) (by kernel_rfl) (by kernel_rfl) (fun _ _ _ h => h) (Or.inl ⟨by kernel_rfl, ?hr1n0_5⟩) hHeld ?_
          case hr1n0_5 => (intro w hSw; (try dsimp only at hSw); go_simp; try (with_reducible rfl))
          try simp only [List.getElem_toArray, List.getElem_cons_zero, List.getElem_cons_succ, Act.put, List.setIfInBounds_toArray, List.set_cons_zero, List.set_cons_succ]
          refine wpAnyH_take (i := 1) (oi := _) (v := ?vr1n1_6) rfl (by kernel_rfl) (by kernel_rfl) (by kernel_rfl) (fun _ _ _ h => h) (Or.inl ⟨by kernel_rfl, ?hr1n1_6⟩) hHeld ?_
          case hr1n1_6 => (intro w hSw; (try dsimp only at hSw); go_simp; try (with_reducible rfl))
          try simp only [List.getElem_toArray, List.getElem_cons_zero, List.getElem_cons_succ, Act.put, List.setIfInBounds_toArray, List.set_cons_zero, List.set_cons_succ]
          refine wpAnyH_take (i := 2) (oi := _) (v := ?vr1n2_7) rfl (by kernel_rfl) (by kernel_rfl) (by kernel_rfl) (fun _ _ _ h => h) (Or.inl ⟨by kernel_rfl, ?hr1n2_7⟩) hHeld ?_
          case hr1n2_7 => (intro w hSw; (try dsimp only at hSw); go_simp; try (with_reducible rfl))
          try simp only [List.getElem_toArray, List.getElem_cons_zero, List.getElem_cons_succ, Act.put, List.setIfInBounds_toArray, List.set_cons_zero, List.set_cons_succ]
          refine wpAnyH_take (i := 3) (oi := _) (v := ?vr1n3_8) rfl (by kernel_rfl) (by kernel_rfl) (by kernel_rfl) (fun _ _ _ h => h) (Or.inl ⟨by kernel_rfl, ?hr1n3_8⟩) hHeld ?_
          case hr1n3_8 => (intro w hSw; (try dsimp only at hSw); go_simp; try (with_reducible rfl))
          try simp only [List.getElem_toArray, List.getElem_cons_zero, List.getElem_cons_succ, Act.put, List.setIfInBounds_toArray, List.set_cons_zero, List.set_cons_succ]
          refine wpAnyH_take (i := 4) (oi := _) (v := ?vr1n4_9) rfl (by kernel_rfl) (by kernel_rfl) (by kernel_rfl) (fun _ _ _ h => h) (Or.inl ⟨by kernel_rfl, ?hr1n4_9⟩) hHeld ?_
          case hr1n4_9 => (intro w hSw; (try dsimp only at hSw); go_simp; try (with_reducible rfl))
          try simp only [List.getElem_toArray, List.getElem_cons_zero, List.getElem_cons_succ, Act.put, List.setIfInBounds_toArray, List.set_cons_zero, List.set_cons_succ]
          refine wpAnyH_take (i := 5) (oi := _) (v := ?vr1n5_10) rfl (by kernel_rfl) (by kernel_rfl) (by kernel_rfl) (fun _ _ _ h => h) (Or.inl ⟨by kernel_rfl, ?hr1n5_10⟩) hHeld ?_
          case hr1n5_10 => (intro w hSw; (try dsimp only at hSw); go_simp; try (with_reducible rfl))
          try simp only [List.getElem_toArray, List.getElem_cons_zero, List.getElem_cons_succ, Act.put, List.setIfInBounds_toArray, List.set_cons_zero, List.set_cons_succ]
          refine wpAnyH_take (i := 6) (oi := _) (v := ?vr1n6_11) rfl (by kernel_rfl) (by kernel_rfl) (by kernel_rfl) (fun _ _ _ h => h) (Or.inl ⟨by kernel_rfl, ?hr1n6_11⟩) hHeld ?_
          case hr1n6_11 => (intro w hSw; (try dsimp only at hSw); go_simp; try (with_reducible rfl))
          try simp only [List.getElem_toArray, List.getElem_cons_zero, List.getElem_cons_succ, Act.put, List.setIfInBounds_toArray, List.set_cons_zero, List.set_cons_succ]
          refine wpAnyH_take (i := 7) (oi := _) (v := ?vr1n7_12) rfl (by kernel_rfl) (by kernel_rfl) (by kernel_rfl) (fun _ _ _ h => h) (Or.inl ⟨by kernel_rfl, ?hr1n7_12⟩) hHeld ?_
          case hr1n7_12 => (intro w hSw; (try dsimp only at hSw); go_simp; try (with_reducible rfl))
          try simp only [List.getElem_toArray, List.getElem_cons_zero, List.getElem_cons_succ, Act.put, List.setIfInBounds_toArray, List.set_cons_zero, List.set_cons_succ]
          refine wpAnyH_take (i := 8) (oi := _) (v := ?vr1n8_13) rfl (by kernel_rfl) (by kernel_rfl) (by kernel_rfl) (fun _ _ _ h => h) (Or.inl ⟨by kernel_rfl, ?hr1n8_13⟩) hHeld ?_
          case hr1n8_13 => (intro w hSw; (try dsimp only at hSw); go_simp; try (with_reducible rfl))
          try simp only [List.getElem_toArray, List.getElem_cons_zero, List.getElem_cons_succ, Act.put, List.setIfInBounds_toArray, List.set_cons_zero, List.set_cons_succ]
          refine wpAnyH_take (i := 9) (oi := _) (v := ?vr1n9_14) rfl (by kernel_rfl) (by kernel_rfl) (by kernel_rfl) (fun _ _ _ h => h) (Or.inl ⟨by kernel_rfl, ?hr1n9_14⟩) hHeld ?_
          case hr1n9_14 => (intro w hSw; (try dsimp only at hSw); go_simp; try (with_reducible rfl))
          try simp only [List.getElem_toArray, List.getElem_cons_zero, List.getElem_cons_succ, Act.put, List.setIfInBounds_toArray, List.set_cons_zero, List.set_cons_succ]
          refine wpAnyH_take (i := 10) (oi := _) (v := ?vr1n10_15) rfl (by kernel_rfl) (by kernel_rfl) (by kernel_rfl) (fun _ _ _ h => h) (Or.inl ⟨by kernel_rfl, ?hr1n10_15⟩) hHeld ?_
          case hr1n10_15 => (intro w hSw; (try dsimp only at hSw); go_simp; try (with_reducible rfl))
          try simp only [List.getElem_toArray, List.getElem_cons_zero, List.getElem_cons_succ, Act.put, List.setIfInBounds_toArray, List.set_cons_zero, List.set_cons_succ]
          refine wpAnyH_take (i := 11) (oi := _) (v := ?vr1n11_16) rfl (by kernel_rfl) (by kernel_rfl) (by kernel_rfl) (fun _ _ _ h => h) (Or.inl ⟨by kernel_rfl, ?hr1n11_16⟩) hHeld ?_
          case hr1n11_16 => (intro w hSw; (try dsimp only at hSw); go_simp; try (with_reducible rfl))
          try simp only [List.getElem_toArray, List.getElem_cons_zero, List.getElem_cons_succ, Act.put, List.setIfInBounds_toArray, List.set_cons_zero, List.set_cons_succ]
          refine wpAnyH_take (i := 12) (oi := _) (v := ?vr1n12_17) rfl (by kernel_rfl) (by kernel_rfl) (by kernel_rfl) (fun _ _ _ h => h) (Or.inl ⟨by kernel_rfl, ?hr1n12_17⟩) hHeld ?_
          case hr1n12_17 => (intro w hSw; (try dsimp only at hSw); go_simp; try (with_reducible rfl))
          try simp only [List.getElem_toArray, List.getElem_cons_zero, List.getElem_cons_succ, Act.put, List.setIfInBounds_toArray, List.set_cons_zero, List.set_cons_succ]
          refine wpAnyH_done (by kernel_rfl) ?_ _
          refine NoPanic.normal ?_
          go_wp2_with fail
          go_meet
          exact ⟨by rw [HST.out]; simp [hxy], Below.drewN (Below.refl _ wr) _⟩
        · skip
          refine wp_region_noPanic ?_
          refine wp_region_held_drew (S := (fun w' => w'.cell? ⟨b, o + m * 7 + 1, none⟩ = some (.int .i64 x) ∧ w'.cell? ⟨pr, 1, none⟩ = some (.int .i64 y))) (by kernel_rfl) (by first | exact HSC.out) (fun hHeld => ?_)
          refine wpAnyH_take (i := 0) (oi := _) (v := ?vr1n0_18) rfl (by kernel_rfl) (by kernel_rfl) (by kernel_rfl) (fun _ _ _ h => h) (Or.inl ⟨by kernel_rfl, ?hr1n0_18⟩) hHeld ?_
          case hr1n0_18 => (intro w hSw; (try dsimp only at hSw); go_simp; try (with_reducible rfl))
          try simp only [List.getElem_toArray, List.getElem_cons_zero, List.getElem_cons_succ, Act.put, List.setIfInBounds_toArray, List.set_cons_zero, List.set_cons_succ]
          refine wpAnyH_take (i := 1) (oi := _) (v := ?vr1n1_19) rfl (by kernel_rfl) (by kernel_rfl) (by kernel_rfl) (fun _ _ _ h => h) (Or.inl ⟨by kernel_rfl, ?hr1n1_19⟩) hHeld ?_
          case hr1n1_19 => (intro w hSw; (try dsimp only at hSw); go_simp; try (with_reducible rfl))
          try simp only [List.getElem_toArray, List.getElem_cons_zero, List.getElem_cons_succ, Act.put, List.setIfInBounds_toArray, List.set_cons_zero, List.set_cons_succ]
          refine wpAnyH_take (i := 2) (oi := _) (v := ?vr1n2_20) rfl (by kernel_rfl) (by kernel_rfl) (by kernel_rfl) (fun _ _ _ h => h) (Or.inl ⟨by kernel_rfl, ?hr1n2_20⟩) hHeld ?_
          case hr1n2_20 => (intro w hSw; (try dsimp only at hSw); go_simp; try (with_reducible rfl))
          try simp only [List.getElem_toArray, List.getElem_cons_zero, List.getElem_cons_succ, Act.put, List.setIfInBounds_toArray, List.set_cons_zero, List.set_cons_succ]
          refine wpAnyH_take (i := 3) (oi := _) (v := ?vr1n3_21) rfl (by kernel_rfl) (by kernel_rfl) (by kernel_rfl) (fun _ _ _ h => h) (Or.inl ⟨by kernel_rfl, ?hr1n3_21⟩) hHeld ?_
          case hr1n3_21 => (intro w hSw; (try dsimp only at hSw); go_simp; try (with_reducible rfl))
          try simp only [List.getElem_toArray, List.getElem_cons_zero, List.getElem_cons_succ, Act.put, List.setIfInBounds_toArray, List.set_cons_zero, List.set_cons_succ]
          refine wpAnyH_take (i := 4) (oi := _) (v := ?vr1n4_22) rfl (by kernel_rfl) (by kernel_rfl) (by kernel_rfl) (fun _ _ _ h => h) (Or.inl ⟨by kernel_rfl, ?hr1n4_22⟩) hHeld ?_
          case hr1n4_22 => (intro w hSw; (try dsimp only at hSw); go_simp; try (with_reducible rfl))
          try simp only [List.getElem_toArray, List.getElem_cons_zero, List.getElem_cons_succ, Act.put, List.setIfInBounds_toArray, List.set_cons_zero, List.set_cons_succ]
          refine wpAnyH_take (i := 5) (oi := _) (v := ?vr1n5_23) rfl (by kernel_rfl) (by kernel_rfl) (by kernel_rfl) (fun _ _ _ h => h) (Or.inl ⟨by kernel_rfl, ?hr1n5_23⟩) hHeld ?_
          case hr1n5_23 => (intro w hSw; (try dsimp only at hSw); go_simp; try (with_reducible rfl))
          try simp only [List.getElem_toArray, List.getElem_cons_zero, List.getElem_cons_succ, Act.put, List.setIfInBounds_toArray, List.set_cons_zero, List.set_cons_succ]
          refine wpAnyH_take (i := 6) (oi := _) (v := ?vr1n6_24) rfl (by kernel_rfl) (by kernel_rfl) (by kernel_rfl) (fun _ _ _ h => h) (Or.inl ⟨by kernel_rfl, ?hr1n6_24⟩) hHeld ?_
          case hr1n6_24 => (intro w hSw; (try dsimp only at hSw); go_simp; try (with_reducible rfl))
          try simp only [List.getElem_toArray, List.getElem_cons_zero, List.getElem_cons_succ, Act.put, List.setIfInBounds_toArray, List.set_cons_zero, List.set_cons_succ]
          refine wpAnyH_take (i := 7) (oi := _) (v := ?vr1n7_25) rfl (by kernel_rfl) (by kernel_rfl) (by kernel_rfl) (fun _ _ _ h => h) (Or.inl ⟨by kernel_rfl, ?hr1n7_25⟩) hHeld ?_
          case hr1n7_25 => (intro w hSw; (try dsimp only at hSw); go_simp; try (with_reducible rfl))
          try simp only [List.getElem_toArray, List.getElem_cons_zero, List.getElem_cons_succ, Act.put, List.setIfInBounds_toArray, List.set_cons_zero, List.set_cons_succ]
          refine wpAnyH_take (i := 8) (oi := _) (v := ?vr1n8_26) rfl (by kernel_rfl) (by kernel_rfl) (by kernel_rfl) (fun _ _ _ h => h) (Or.inl ⟨by kernel_rfl, ?hr1n8_26⟩) hHeld ?_
          case hr1n8_26 => (intro w hSw; (try dsimp only at hSw); go_simp; try (with_reducible rfl))
          try simp only [List.getElem_toArray, List.getElem_cons_zero, List.getElem_cons_succ, Act.put, List.setIfInBounds_toArray, List.set_cons_zero, List.set_cons_succ]
          refine wpAnyH_take (i := 9) (oi := _) (v := ?vr1n9_27) rfl (by kernel_rfl) (by kernel_rfl) (by kernel_rfl) (fun _ _ _ h => h) (Or.inl ⟨by kernel_rfl, ?hr1n9_27⟩) hHeld ?_
          case hr1n9_27 => (intro w hSw; (try dsimp only at hSw); go_simp; try (with_reducible rfl))
          try simp only [List.getElem_toArray, List.getElem_cons_zero, List.getElem_cons_succ, Act.put, List.setIfInBounds_toArray, List.set_cons_zero, List.set_cons_succ]
          refine wpAnyH_take (i := 10) (oi := _) (v := ?vr1n10_28) rfl (by kernel_rfl) (by kernel_rfl) (by kernel_rfl) (fun _ _ _ h => h) (Or.inl ⟨by kernel_rfl, ?hr1n10_28⟩) hHeld ?_
          case hr1n10_28 => (intro w hSw; (try dsimp only at hSw); go_simp; try (with_reducible rfl))
          try simp only [List.getElem_toArray, List.getElem_cons_zero, List.getElem_cons_succ, Act.put, List.setIfInBounds_toArray, List.set_cons_zero, List.set_cons_succ]
          refine wpAnyH_take (i := 11) (oi := _) (v := ?vr1n11_29) rfl (by kernel_rfl) (by kernel_rfl) (by kernel_rfl) (fun _ _ _ h => h) (Or.inl ⟨by kernel_rfl, ?hr1n11_29⟩) hHeld ?_
          case hr1n11_29 => (intro w hSw; (try dsimp only at hSw); go_simp; try (with_reducible rfl))
          try simp only [List.getElem_toArray, List.getElem_cons_zero, List.getElem_cons_succ, Act.put, List.setIfInBounds_toArray, List.set_cons_zero, List.set_cons_succ]
          refine wpAnyH_take (i := 12) (oi := _) (v := ?vr1n12_30) rfl (by kernel_rfl) (by kernel_rfl) (by kernel_rfl) (fun _ _ _ h => h) (Or.inl ⟨by kernel_rfl, ?hr1n12_30⟩) hHeld ?_
          case hr1n12_30 => (intro w hSw; (try dsimp only at hSw); go_simp; try (with_reducible rfl))
          try simp only [List.getElem_toArray, List.getElem_cons_zero, List.getElem_cons_succ, Act.put, List.setIfInBounds_toArray, List.set_cons_zero, List.set_cons_succ]
          refine wpAnyH_done (by kernel_rfl) ?_ _
          refine NoPanic.normal ?_
          go_wp2_with fail
          go_meet
          exact ⟨by rw [HST.out]; simp [hxy], Below.drewN (Below.refl _ wr) _⟩
    case rest =>
      obtain ⟨rfl, hb⟩ := hcut
      have HBc := Lib.hid ((HBk.out).trans (hb.mono HBk.out.size))
      have HKc := Lib.hid (HKk.out.step hb)
      have HAc := Lib.hid (HAk.out.below (hb.mono (Nat.le_trans HB.out.size HBk.out.size)))
      clear hb HAk HKk HBk
      cases hB : stepB L r k
      rotate_left
      · obtain ⟨i, hi, rfl, hlt⟩ := stepB_go L r k hk hB
        go_wp2
        go_roundw
        case rel => exact ⟨i, by omega, by go_num, HBc.out, fun j hj hij => by
          rcases Nat.lt_or_ge i j with h | h
          · exact HAL.out j hj h
          · have : i = j := by omega
            subst this
            exact hlt⟩
        case measure => simp [intOf] <;> omega
      · have HP := Lib.hid (put_at L r k hk HAL.out (stepB_stop L r k hk hB))
        have hki : (k : Int) ≤ c := by omega
        have hkc : k ≤ c := by omega
        have hkl : (k : Int) ≤ L.length := by omega
        have hlt1 : (L.take k).length = k := by rw [List.length_take]; omega
        have hlt2 : (L.drop k).length = L.length - k := by rw [List.length_drop]
        have HT := Lib.hid (And.intro hlt1 hlt2)
        have HBw := Lib.hid (HB.out.trans (HBc.out.mono HB.out.size))
        clear hB hlt1 hlt2
        have HN0 := Lib.hid (ownQ_none wc wc.heap.size (Nat.le_refl _))
        have hal := (Below.refl wc.heap.size wc).alloc (Nat.le_refl _) (.cells #[] 36)
        have HX0 := Lib.hid (RsAt.take (RsAt.wide (RsAt.below HAc.out (hal.mono HBw.out.size)) (Nat.le_trans HBw.out.size hal.size)) k)
        have HZ0 := Lib.hid hal.size
        have HB0 := Lib.hid hal
        clear hal
        have tokB : True := trivial
        go_upto_region 5 with (have _t := tokB; clear tokB; at_builtin; go_loud (refine wpList_appQs rfl (.tmp 24) (.tmp 27) rfl wc.heap.size _ 0 [] rfl HN0.out (some ⟨b, o, none⟩) k c (L.take k) rfl HT.out.1.symm HX0.out (fun h => by cases h) (by omega) HZ0.out ?_; intro v1 v1w hown hg; have HO1 := Lib.hid hown; have HB1 := Lib.hid (HB0.out.grown hg HZ0.out (fun q hq => (HN0.out.lt q hq).1)); clear hown hg HN0 HX0 HZ0 HB0))
        have HK1 := Lib.hid (HKc.out.step HB1.out)
        have hld := HK1.out.ldQ
        have HO2 := Lib.hid (HO1.out.alloc (.cells (rcC r) 36))
        have HX2 := Lib.hid (rs_oneQ v1w r)
        have HB2 := Lib.hid (HB1.out.alloc HB1.out.size (.cells (rcC r) 36))
        have HZ2 := Lib.hid HB2.out.size
        have tokB : True := trivial
        go_upto_region 6 with (first | (have _t := tokB; refine wpList_bsQ rfl (.tmp 30) rfl r rfl ?_; clear tokB; have tokC : True := trivial) | (have _t := tokC; clear tokC; at_builtin; go_loud (refine wpList_appQs rfl (.tmp 29) (.tmp 31) rfl wc.heap.size _ (0 + k) (L.take k) rfl HO2.out (some ⟨v1w.heap.size, 0, none⟩) 1 1 [r] rfl rfl HX2.out (fun h => by cases h) (by omega) HZ2.out ?_; intro v3 v3w hown hg; have HO3 := Lib.hid hown; have HB3 := Lib.hid (HB2.out.grown hg HZ2.out (fun q hq => (HO2.out.lt q hq).1)); clear hown hg HO2 HX2 HZ2 HB2)))
        clear hld
        have HX3 := Lib.hid (RsAt.drop ((HAc.out).below ((HBw.out.size : w.heap.size ≤ wc.heap.size) |> fun h => HB3.out.mono h)) k)
        have HX4 : Hid (RsAt v3w v3w.heap.size (if c = k then some ⟨b, o, none⟩ else some ⟨b, o + k * 7, none⟩) (L.drop k)) := Lib.hid (by
          split
          · exact Or.inl (by rw [List.drop_eq_nil_iff]; omega)
          · exact RsAt.wide HX3.out (Nat.le_trans HBw.out.size HB3.out.size))
        have HNE : Hid ((if c = k then some ⟨b, o, none⟩ else some ⟨b, o + k * 7, none⟩ : Option Addr) = none → L.drop k = [] ∧ c - k = 0) := Lib.hid (fun h => by split at h <;> cases h)
        have HZ3 := Lib.hid HB3.out.size
        have tokB : True := trivial
        go_wp2_with (have _t := tokB; clear tokB; at_builtin; go_loud (refine wpList_appQs rfl (.tmp 33) (.tmp 36) rfl wc.heap.size _ (0 + k + 1) (L.take k ++ [r]) rfl HO3.out (if c = k then some ⟨b, o, none⟩ else some ⟨b, o + k * 7, none⟩) (L.length - k) (c - k) (L.drop k) rfl HT.out.2.symm HX4.out HNE.out (by omega) HZ3.out ?_; intro v5 v5w hown hg; have HO5 := Lib.hid hown; have HB5 := Lib.hid (HB3.out.grown hg HZ3.out (fun q hq => (HO3.out.lt q hq).1)); clear hown hg HO3 HX3 HX4 HZ3 HB3))
        all_goals
          subst hpr
          have e : 0 + k + 1 + (L.length - k) = L.length + 1 := by omega
          rw [e] at HO5
          go_ret
          exact ⟨_, rfl, by rw [HP.out]; exact own_weak HO5.out HBw.out.size, HBw.out.trans (HB5.out.mono HBw.out.size)⟩

set_option maxHeartbeats 4000000 in
theorem refPut_nil (r : Rc) (w : World) :
    Calls Try.prog 45 #[.slice none 0 0, .agg (rcC r)] w fun e w' => ∃ v, e = .returned v ∧ w'.ownsRow w.heap.size 36 7 v 1 (flat (put [] r)) ∧ Below w.heap.size w w' := by
  have HK := Lib.hid (Blk.new w 36 (rcC r) 0 0 (Or.inl (Nat.le_refl _)))
  have HB := Lib.hid ((Below.refl _ w).alloc (Nat.le_refl _) (.cells (rcC r) 36))
  go_enter Try.func45, Try.ntmps45
  go_upto_region 1 with fail
  generalize hpr : w.heap.size = pr at HK ⊢
  generalize World.alloc _ _ = w1 at HK HB ⊢
  go_wp2
  go_loopw [5] (fun i wr => i = .int .i64 0 ∧ Below w1.heap.size w1 wr) (fun i _ => (intOf i).toNat)
  case atStart => exact ⟨rfl, Below.refl _ _⟩
  case round =>
    obtain ⟨rfl, hb⟩ := hrel
    have HBk := Lib.hid (HB.out.trans (hb.mono HB.out.size))
    have HKk := Lib.hid (HK.out.step hb)
    clear hb
    go_upto_region 2 with fail
    go_cut [21] from 9 to 20 (fun v wx => v = .bool false ∧ Below wr.heap.size wr wx)
    case first =>
      refine wp_region_noPanic ?_
      refine wp_region_held_drew (S := (fun w' => True)) (by kernel_rfl) (by first | trivial) (fun hHeld => ?_)
      refine wpAnyH_take (i := 0) (oi := _) (v := ?vr2n0_31) rfl (by kernel_rfl) (by kernel_rfl) (by kernel_rfl) (fun _ _ _ h => h) (Or.inl ⟨by kernel_rfl, ?hr2n0_31⟩) hHeld ?_
      case hr2n0_31 => (intro w hSw; (try dsimp only at hSw); go_simp; try (with_reducible rfl))
      try simp only [List.getElem_toArray, List.getElem_cons_zero, List.getElem_cons_succ, Act.put, List.setIfInBounds_toArray, List.set_cons_zero, List.set_cons_succ]
      refine wpAnyH_take (i := 1) (oi := _) (v := ?vr2n1_32) rfl (by kernel_rfl) (by kernel_rfl) (by kernel_rfl) (fun _ _ _ h => h) (Or.inl ⟨by kernel_rfl, ?hr2n1_32⟩) hHeld ?_
      case hr2n1_32 => (intro w hSw; (try dsimp only at hSw); go_simp; try (with_reducible rfl))
      try simp only [List.getElem_toArray, List.getElem_cons_zero, List.getElem_cons_succ, Act.put, List.setIfInBounds_toArray, List.set_cons_zero, List.set_cons_succ]
      refine wpAnyH_take (i := 2) (oi := _) (v := ?vr2n2_33) rfl (by kernel_rfl) (by kernel_rfl) (by kernel_rfl) (fun _ _ _ h => h) (Or.inl ⟨by kernel_rfl, ?hr2n2_33⟩) hHeld ?_
      case hr2n2_33 => (intro w hSw; (try dsimp only at hSw); go_simp; try (with_reducible rfl))
      try simp only [List.getElem_toArray, List.getElem_cons_zero, List.getElem_cons_succ, Act.put, List.setIfInBounds_toArray, List.set_cons_zero, List.set_cons_succ]
      refine wpAnyH_take (i := 3) (oi := _) (v := undef) rfl (by kernel_rfl) (by kernel_rfl) (by kernel_rfl) (fun _ _ _ h => h) (Or.inr ⟨by kernel_rfl, rfl⟩) hHeld ?_
      try simp only [List.getElem_toArray, List.getElem_cons_zero, List.getElem_cons_succ, Act.put, List.setIfInBounds_toArray, List.set_cons_zero, List.set_cons_succ]
      refine wpAnyH_take (i := 4) (oi := _) (v := undef) rfl (by kernel_rfl) (by kernel_rfl) (by kernel_rfl) (fun _ _ _ h => h) (Or.inr ⟨by kernel_rfl, rfl⟩) hHeld ?_
      try simp only [List.getElem_toArray, List.getElem_cons_zero, List.getElem_cons_succ, Act.put, List.setIfInBounds_toArray, List.set_cons_zero, List.set_cons_succ]
      refine wpAnyH_take (i := 5) (oi := _) (v := undef) rfl (by kernel_rfl) (by kernel_rfl) (by kernel_rfl) (fun _ _ _ h => h) (Or.inr ⟨by kernel_rfl, rfl⟩) hHeld ?_
      try simp only [List.getElem_toArray, List.getElem_cons_zero, List.getElem_cons_succ, Act.put, List.setIfInBounds_toArray, List.set_cons_zero, List.set_cons_succ]
      refine wpAnyH_take (i := 6) (oi := _) (v := undef) rfl (by kernel_rfl) (by kernel_rfl) (by kernel_rfl) (fun _ _ _ h => h) (Or.inr ⟨by kernel_rfl, rfl⟩) hHeld ?_
      try simp only [List.getElem_toArray, List.getElem_cons_zero, List.getElem_cons_succ, Act.put, List.setIfInBounds_toArray, List.set_cons_zero, List.set_cons_succ]
      refine wpAnyH_take (i := 7) (oi := _) (v := undef) rfl (by kernel_rfl) (by kernel_rfl) (by kernel_rfl) (fun _ _ _ h => h) (Or.inr ⟨by kernel_rfl, rfl⟩) hHeld ?_
      try simp only [List.getElem_toArray, List.getElem_cons_zero, List.getElem_cons_succ, Act.put, List.setIfInBounds_toArray, List.set_cons_zero, List.set_cons_succ]
      refine wpAnyH_take (i := 8) (oi := _) (v := undef) rfl (by kernel_rfl) (by kernel_rfl) (by kernel_rfl) (fun _ _ _ h => h) (Or.inr ⟨by kernel_rfl, rfl⟩) hHeld ?_
      try simp only [List.getElem_toArray, List.getElem_cons_zero, List.getElem_cons_succ, Act.put, List.setIfInBounds_toArray, List.set_cons_zero, List.set_cons_succ]
      refine wpAnyH_take (i := 9) (oi := _) (v := undef) rfl (by kernel_rfl) (by kernel_rfl) (by kernel_rfl) (fun _ _ _ h => h) (Or.inr ⟨by kernel_rfl, rfl⟩) hHeld ?_
      try simp only [List.getElem_toArray, List.getElem_cons_zero, List.getElem_cons_succ, Act.put, List.setIfInBounds_toArray, List.set_cons_zero, List.set_cons_succ]
      refine wpAnyH_take (i := 10) (oi := _) (v := undef) rfl (by kernel_rfl) (by kernel_rfl) (by kernel_rfl) (fun _ _ _ h => h) (Or.inr ⟨by kernel_rfl, rfl⟩) hHeld ?_
      try simp only [List.getElem_toArray, List.getElem_cons_zero, List.getElem_cons_succ, Act.put, List.setIfInBounds_toArray, List.set_cons_zero, List.set_cons_succ]
      refine wpAnyH_take (i := 11) (oi := _) (v := undef) rfl (by kernel_rfl) (by kernel_rfl) (by kernel_rfl) (fun _ _ _ h => h) (Or.inr ⟨by kernel_rfl, rfl⟩) hHeld ?_
      try simp only [List.getElem_toArray, List.getElem_cons_zero, List.getElem_cons_succ, Act.put, List.setIfInBounds_toArray, List.set_cons_zero, List.set_cons_succ]
      refine wpAnyH_take (i := 12) (oi := _) (v := ?vr2n12_34) rfl (by kernel_rfl) (by kernel_rfl) (by kernel_rfl) (fun _ _ _ h => h) (Or.inl ⟨by kernel_rfl, ?hr2n12_34⟩) hHeld ?_
      case hr2n12_34 => (intro w hSw; (try dsimp only at hSw); go_simp; try (with_reducible rfl))
      try simp only [List.getElem_toArray, List.getElem_cons_zero, List.getElem_cons_succ, Act.put, List.setIfInBounds_toArray, List.set_cons_zero, List.set_cons_succ]
      refine wpAnyH_done (by kernel_rfl) ?_ _
      refine NoPanic.normal ?_
      go_wp2_with fail
      go_meet
      exact ⟨rfl, Below.drewN (Below.refl _ wr) _⟩
    case rest =>
      obtain ⟨rfl, hb⟩ := hcut
      have HBw := Lib.hid (HBk.out.trans (hb.mono HBk.out.size))
      have HKc := Lib.hid (HKk.out.step hb)
      clear hb HBk HKk
      have HN0 := Lib.hid (ownQ_none wc wc.heap.size (Nat.le_refl _))
      have hal := (Below.refl wc.heap.size wc).alloc (Nat.le_refl _) (.cells #[] 36)
      have HX0 : Hid (RsAt (wc.alloc (.cells #[] 36)) (wc.alloc (.cells #[] 36)).heap.size none []) := Lib.hid (Or.inl rfl)
      have HZ0 := Lib.hid hal.size
      have HB0 := Lib.hid hal
      clear hal
      have tokB : True := trivial
      go_upto_region 5 with (have _t := tokB; clear tokB; at_builtin; go_loud (refine wpList_appQs rfl (.tmp 24) (.tmp 27) rfl wc.heap.size _ 0 [] rfl HN0.out none 0 0 [] rfl rfl HX0.out (fun h => ⟨rfl, rfl⟩) (by omega) HZ0.out ?_; intro v1 v1w hown hg; have HO1 := Lib.hid hown; have HB1 := Lib.hid (HB0.out.grown hg HZ0.out (fun q hq => (HN0.out.lt q hq).1)); clear hown hg HN0 HX0 HZ0 HB0))
      have HK1 := Lib.hid (HKc.out.step HB1.out)
      have hld := HK1.out.ldQ
      have HO2 := Lib.hid (HO1.out.alloc (.cells (rcC r) 36))
      have HX2 := Lib.hid (rs_oneQ v1w r)
      have HB2 := Lib.hid (HB1.out.alloc HB1.out.size (.cells (rcC r) 36))
      have HZ2 := Lib.hid HB2.out.size
      have tokB : True := trivial
      go_upto_region 6 with (first | (have _t := tokB; refine wpList_bsQ rfl (.tmp 30) rfl r rfl ?_; clear tokB; have tokC : True := trivial) | (have _t := tokC; clear tokC; at_builtin; go_loud (refine wpList_appQs rfl (.tmp 29) (.tmp 31) rfl wc.heap.size _ 0 [] rfl HO2.out (some ⟨v1w.heap.size, 0, none⟩) 1 1 [r] rfl rfl HX2.out (fun h => by cases h) (by omega) HZ2.out ?_; intro v3 v3w hown hg; have HO3 := Lib.hid hown; have HB3 := Lib.hid (HB2.out.grown hg HZ2.out (fun q hq => (HO2.out.lt q hq).1)); clear hown hg HO2 HX2 HZ2 HB2)))
      clear hld
      have HX4 : Hid (RsAt v3w v3w.heap.size none []) := Lib.hid (Or.inl rfl)
      have HZ3 := Lib.hid HB3.out.size
      have tokB : True := trivial
      go_wp2_with (have _t := tokB; clear tokB; at_builtin; go_loud (refine wpList_appQs rfl (.tmp 33) (.tmp 36) rfl wc.heap.size _ (0 + 1) ([] ++ [r]) rfl HO3.out none 0 0 [] rfl rfl HX4.out (fun h => ⟨rfl, rfl⟩) (by omega) HZ3.out ?_; intro v5 v5w hown hg; have HO5 := Lib.hid hown; have HB5 := Lib.hid (HB3.out.grown hg HZ3.out (fun q hq => (HO3.out.lt q hq).1)); clear hown hg HO3 HX4 HZ3 HB3))
      all_goals
        subst hpr
        go_ret
        exact ⟨_, rfl, own_weak HO5.out HBw.out.size, HBw.out.trans (HB5.out.mono HBw.out.size)⟩
/-- put of the reference: of a row, or of none -/
theorem refPut_all (A : Option Addr) (c : Nat) (L : List Rc) (r : Rc) (hL : L.length ≤ 1000) (hc1 : L.length ≤ c) (hc2 : c ≤ maxLen) (hn : A = none → L = [] ∧ c = 0) (w : World) (hA : RsAt w w.heap.size A L) (hA2 : ∀ ad, A = some ad → ∃ b o, ad = ⟨b, o, none⟩) :
    Calls Try.prog 45 #[.slice A L.length c, .agg (rcC r)] w fun e w' => ∃ v, e = .returned v ∧ w'.ownsRow w.heap.size 36 7 v (L.length + 1) (flat (put L r)) ∧ Below w.heap.size w w' := by
  cases A with
  | none =>
    obtain ⟨rfl, rfl⟩ := hn rfl
    exact refPut_nil r w
  | some ad =>
    obtain ⟨b, o, rfl⟩ := hA2 ad rfl
    exact refPut_any b o c L r hL hc1 hc2 w hA
end Go.Proofs.Ytccbohjcbhibkaa
