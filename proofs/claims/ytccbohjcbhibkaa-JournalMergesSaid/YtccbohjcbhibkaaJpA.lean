/- journal.Merge: what it answers, of rows of records. Condition: at most 1000 records in all. -/
import Derived.Test.YtccbohjcbhibkaaJnX
import Derived.Test.YtccbohjcbhibkaaStG
import Derived.Test.YtccbohjcbhibkaaGrw
namespace Go.Proofs.Ytccbohjcbhibkaa
set_option linter.unusedVariables false
set_option linter.unusedSimpArgs false
set_option maxRecDepth 100000
open Go.RowKit Go.Proofs Go.Shelf Go.Lib Go.Sort
attribute [local go_sem ↓] Go.wp_at_zero Go.wp_at_succ ix_dat ld_rec

abbrev keyR (r : Rc) : Int := r.sq
def eqR (x y : Rc) : Bool := x.sq == y.sq
/-- what Merge makes of all its records -/
def MergeOf (L M : List Rc) : Prop := ∃ S, Srt keyR S ∧ Stb keyR L S ∧ M = compG eqR S

theorem cmpM_any (x y : Rc) (w : World) : Calls Try.prog 32 #[.agg (rcC x), .agg (rcC y)] w fun e w' => e = .returned (.int .i64 (cfR x y)) ∧ ∃ q os', w' = grow (w.drewN q) os' := by
  have C := Lib.hid (fun w => cmp_any x.sq y.sq w)
  have hx := (Blk.new w 29 (rcC x) 0 0 (Or.inl (Nat.le_refl _))).alloc (.cells (rcC y) 29)
  have hy := Blk.new (w.alloc (.cells (rcC x) 29)) 29 (rcC y) 0 0 (Or.inl (Nat.le_refl _))
  rw [size_alloc] at hy
  have c1 := hx.rc.2.1
  have c2 := hy.rc.2.1
  clear hx hy
  have HV : Hid (cfR x y = cmpI x.sq y.sq) := rfl
  generalize cmpI x.sq y.sq = r at C HV
  go_enter Try.func32, Try.ntmps32
  go_wp2_with fail
  refine (C.out _).mono ?_
  rintro e w1 ⟨rfl, hw⟩
  subst hw
  go_wp2
  go_ret
  exact ⟨by rw [HV.out]; rfl, 0, _, by rw [alloc_eq_grow, alloc_eq_grow, grow_grow]; rfl⟩
theorem eqM_any (x y : Rc) (w : World) : Calls Try.prog 35 #[.agg (rcC x), .agg (rcC y)] w fun e w' => e = .returned (.bool (eqR x y)) ∧ ∃ q os', w' = grow (w.drewN q) os' := by
  have hx := (Blk.new w 29 (rcC x) 0 0 (Or.inl (Nat.le_refl _))).alloc (.cells (rcC y) 29)
  have hy := Blk.new (w.alloc (.cells (rcC x) 29)) 29 (rcC y) 0 0 (Or.inl (Nat.le_refl _))
  rw [size_alloc] at hy
  have c1 := hx.rc.2.1
  have c2 := hy.rc.2.1
  clear hx hy
  go_enter Try.func35, Try.ntmps35
  go_wp2
  go_ret
  exact ⟨rfl, 0, _, by rw [alloc_eq_grow, alloc_eq_grow, grow_grow]; rfl⟩
theorem cmpM_lays (blk off size : Nat) (w : World) : CmpLays Try.prog 32 #[] encR stK cfR blk off size w :=
  fun m os dk _ x y => by
    show Calls Try.prog 32 #[.agg (rcC x), .agg (rcC y)] _ _
    exact cmpM_any x y _
theorem eqM_lays (blk off size : Nat) (w : World) : EqLays Try.prog 35 #[] encR stK eqR blk off size w :=
  fun m os dk _ x y => by
    show Calls Try.prog 35 #[.agg (rcC x), .agg (rcC y)] _ _
    exact eqM_any x y _
theorem keyOnR : KeyOn cfR keyR (fun _ => True) := fun x y _ _ => by
  show cmpI x.sq y.sq < 0 ↔ x.sq < y.sq
  unfold cmpI
  split
  · omega
  · split <;> omega
theorem rowR {w : World} {g : Nat} {d : Array Rc} (h : HoldsK encR 7 w g 0 d) (hg : g < w.heap.size) : RowK encR stK w g 0 d :=
  ⟨fun _ => rfl, fun x v hv => List.all_eq_true.1 (rcC_one x) v hv, h, hg⟩

/-! ### the sort -/
theorem insM_nil (w : World) : Calls Try.prog 62 #[.slice none 0 0, .int .i64 0, .int .i64 0, .func (.func 32) #[] #[]] w fun e w' => e = .returned (.tuple #[]) ∧ w' = w := by
  go_enter Try.func62, Try.ntmps62
  go_wp2
  go_loopw [8] (fun i wr => i = .int .i64 1 ∧ wr = w) (fun i _ => 0)
  case atStart => exact ⟨rfl, rfl⟩
  case round =>
    obtain ⟨rfl, rfl⟩ := hrel
    go_wp2
    go_end0
    exact ⟨rfl, rfl⟩
theorem stabM_nil (w : World) : Calls Try.prog 53 #[.slice none 0 0, .int .i64 0, .func (.func 32) #[] #[]] w fun e w' => e = .returned (.tuple #[]) ∧ w' = w := by
  have I := Lib.hid (insM_nil w)
  go_enter Try.func53, Try.ntmps53
  go_wp2
  go_loopw [7, 8] (fun a i wr => a = .int .i64 0 ∧ i = .int .i64 20 ∧ wr = w) (fun _ i _ => 0)
  case atStart => exact ⟨rfl, rfl, rfl⟩
  case round =>
    obtain ⟨rfl, rfl, rfl⟩ := hrel
    go_wp2_with fail
    refine I.out.mono ?_
    rintro e w2 ⟨rfl, rfl⟩
    go_wp2
    go_loopw [6] (fun i w3 => i = .int .i64 20 ∧ w3 = w2) (fun i _ => 0)
    case atStart => exact ⟨rfl, rfl⟩
    case round =>
      obtain ⟨rfl, rfl⟩ := hrel
      go_wp2
      go_end0
      exact ⟨rfl, rfl⟩
theorem sortM_nil (w : World) : Calls Try.prog 31 #[.slice none 0 0, .func (.func 32) #[] #[]] w fun e w' => e = .returned (.tuple #[]) ∧ w' = w := by
  have I := Lib.hid (stabM_nil w)
  go_enter Try.func31, Try.ntmps31
  go_wp2_with fail
  refine I.out.mono ?_
  rintro e w2 ⟨rfl, rfl⟩
  go_wp2
  go_end0
  exact ⟨rfl, rfl⟩
theorem sortM_any (B : Nat) (v : Value) (L : List Rc) (hL : L.length ≤ 1000) (w : World) (hv : RecAt w B v L) :
    Calls Try.prog 31 #[v, .func (.func 32) #[] #[]] w
      fun e w' => e = .returned (.tuple #[]) ∧ ∃ S, Srt keyR S ∧ Stb keyR L S ∧ RecAt w' B v S ∧ Go.RowKit.Below B w w' := by
  rcases hv with ⟨rfl, rfl⟩ | ⟨g, cap, rfl, hB, hg, hc, hm, hH⟩
  · refine (sortM_nil w).mono ?_
    rintro e w' ⟨rfl, rfl⟩
    exact ⟨rfl, [], List.Pairwise.nil, Stb.refl _ _, Or.inl ⟨rfl, rfl⟩, Below.refl _ _⟩
  · have eg : ∀ args w, (callFunc 32 args).run Try.prog w = .ok (.enter 32 args) w := enters_of Try.func32 (by kernel_rfl) rfl
    have hsz : L.toArray.size = L.length := List.size_toArray
    have h := sortStable_any (cb := #[]) (rowR hH hg) eg (cmpM_lays g 0 _ w) keyOnR L.length cap hsz (by omega) L rfl (fun _ _ => trivial) w (SWK.start hH)
    refine h.mono ?_
    rintro e w' ⟨rfl, S, h1, h2, n, os, rfl⟩
    have hlen : S.length = L.length := h2.len
    have hbl := below_sorted B w g n S.toArray os hB hg
    refine ⟨rfl, S, h1, h2, Or.inr ⟨g, cap, by rw [hlen], hB, Nat.lt_of_lt_of_le hg hbl.size, by omega, hm, ?_⟩, hbl⟩
    exact holdsK_sortWorldK_c encR 7 w g 0 L.toArray S.toArray n os hH hg (by rw [List.size_toArray, List.size_toArray, hlen])

/-! ### compacting -/
theorem zeros_len (n : Nat) : (Builtin.zeroCells zrec n).toList.length = n * 7 := by
  show (Builtin.zeroCells zrec n).size = _
  simp [Builtin.zeroCells, zrec]
theorem zeros_one (n : Nat) : ∀ u ∈ (Builtin.zeroCells zrec n).toList, u.oneCell' = true := by
  intro u hu
  unfold Builtin.zeroCells at hu
  simp only [Array.toList_map, List.mem_map] at hu
  obtain ⟨i, _, rfl⟩ := hu
  have h7 : zrec.size = 7 := rfl
  rw [h7]
  have h : ∀ j, j < 7 → (zrec[j]!).oneCell' = true := by decide +kernel
  exact h _ (Nat.mod_lt _ (by decide))
theorem run_clear_rec (w : World) (ty : TypeId) (b o n c : Nat) (hn : 0 < n) (ht : w.there b o (n * 7)) :
    (Builtin.clear_ #[22] ty #[.slice (some ⟨b, o, none⟩) n c]).run Try.prog w = .ok (.tuple #[]) (w.setCells b o (Builtin.zeroCells zrec n).toList) := by
  have hlen := zeros_len n
  have hst := run_storeCells_cells (P := Try.prog) b o (Builtin.zeroCells zrec n).toList 0 w (fun j hj => by rw [Nat.add_zero]; exact (ht j (by omega)).1) (fun j hj => by rw [Nat.add_zero]; exact (ht j (by omega)).2) (zeros_one n)
  simp only [Nat.add_zero] at hst
  have hz : ∀ w, (zeroValue 29).run Try.prog w = .ok (.agg zrec) w := Try.zeroValue29
  obtain ⟨m, rfl⟩ : ∃ m, n = m + 1 := ⟨n - 1, by omega⟩
  simp [Builtin.clear_, run_underlying Try.underlying22, hz, Value.cells, hst]
theorem holds_there {w : World} {g : Nat} {d : Array Rc} (h : HoldsK encR 7 w g 0 d) (m n : Nat) (hmn : m + n ≤ d.size) : w.there g (0 + m * 7) (n * 7) := by
  intro j hj
  have hb : (m + n) * 7 ≤ d.size * 7 := Nat.mul_le_mul_right 7 hmn
  have := h (m * 7 + j) (by rw [size_flatK]; omega)
  rw [show 0 + m * 7 + j = 0 + (m * 7 + j) by omega]
  exact ⟨by rw [this.1]; rfl, this.2⟩
theorem holds_pre {w : World} {g : Nat} {D : Array Rc} (h : HoldsK encR 7 w g 0 D) (M : List Rc) (hM : D.toList.take M.length = M) : HoldsK encR 7 w g 0 M.toArray := by
  intro t ht
  rw [size_flatK, List.size_toArray] at ht
  have hle : M.length ≤ D.size := by
    have h1 := congrArg List.length hM
    have h2 : D.toList.length = D.size := Array.length_toList
    rw [List.length_take, h2] at h1
    omega
  have hle7 : M.length * 7 ≤ D.size * 7 := Nat.mul_le_mul_right 7 hle
  have := h t (by rw [size_flatK]; omega)
  refine ⟨?_, this.2⟩
  rw [this.1, get_flatK _ _ _ _ (by omega), get_flatK _ _ _ _ (by rw [List.size_toArray]; exact ht)]
  have hd : t / 7 < M.length := by omega
  have e : D[t / 7]! = M.toArray[t / 7]! := by
    have h1 : (D.toList.take M.length)[t / 7]? = M[t / 7]? := by rw [hM]
    rw [List.getElem?_take, if_pos hd] at h1
    simp only [getElem!_def]
    rw [← Array.getElem?_toList, h1]
    simp
  rw [e]
theorem holds_set {w : World} {g m : Nat} {M : Array Rc} (h : HoldsK encR 7 w g 0 M) (hm : M.size ≤ m) (Z : List Value) : HoldsK encR 7 (w.setCells g (0 + m * 7) Z) g 0 M := by
  intro t ht
  have := h t ht
  rw [size_flatK] at ht
  refine ⟨?_, by rw [World.frozen?_setCells]; exact this.2⟩
  rw [World.cell?_setCells_out g _ _ _ _ (fun _ _ => Or.inl (by
    have : M.size * 7 ≤ m * 7 := Nat.mul_le_mul_right 7 hm
    show 0 + t < 0 + m * 7
    omega))]
  exact this.1
end Go.Proofs.Ytccbohjcbhibkaa
