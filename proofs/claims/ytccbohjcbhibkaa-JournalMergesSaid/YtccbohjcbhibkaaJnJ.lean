/- Records sorted by their numbers: cmp.Compare, the comparing closure, insertionSortCmpFunc (by the library's contract), stableCmpFunc, SortStableFunc, for fewer than 20 records. -/
import Derived.Test.YtccbohjcbhibkaaJnH
import Derived.Test.YtccbohjcbhibkaaIns
namespace Go.Proofs.Ytccbohjcbhibkaa
set_option linter.unusedVariables false
set_option linter.unusedSimpArgs false
set_option maxRecDepth 100000
open Go.RowKit Go.Sort
attribute [local go_sem ↓] Go.wp_at_zero Go.wp_at_succ ix_dat ld_rec

def cmpI (a b : Int) : Int := if a < b then -1 else if b < a then 1 else 0
theorem nan_any (a : Int) (w : World) : Calls Try.prog 54 #[.int .i64 a] w fun e w' => e = .returned (.bool false) ∧ w' = w := by
  go_enter Try.func54, Try.ntmps54
  go_wp2
  go_ret
  exact ⟨by simp, rfl⟩
theorem cmp_any (a b : Int) (w : World) : Calls Try.prog 33 #[.int .i64 a, .int .i64 b] w fun e w' => e = .returned (.int .i64 (cmpI a b)) ∧ w' = w := by
  have N := Lib.hid (fun a w => nan_any a w)
  have HC : Hid (cmpI a b = if a < b then -1 else if b < a then 1 else 0) := rfl
  have h3 : a < b ∨ (¬ a < b ∧ b < a) ∨ (¬ a < b ∧ ¬ b < a) := by omega
  rcases h3 with h1 | ⟨h1, h2⟩ | ⟨h1, h2⟩
  all_goals
    go_enter Try.func33, Try.ntmps33
    go_wp2_with fail
    refine (N.out _ _).mono ?_
    rintro e w1 ⟨rfl, hw⟩
    subst hw
    go_wp2_with fail
    refine (N.out _ _).mono ?_
    rintro e w1 ⟨rfl, hw⟩
    subst hw
    go_wp2
    go_ret
  · exact ⟨ret_int (by rw [HC.out, if_pos h1]), rfl⟩
  · exact ⟨ret_int (by rw [HC.out, if_neg (by omega), if_pos h2]), rfl⟩
  · exact ⟨ret_int (by rw [HC.out, if_neg (by omega), if_neg (by omega)]), rfl⟩

def cfR (x y : Rc) : Int := cmpI x.sq y.sq
abbrev encR (r : Rc) : List Value := (rcC r).toList
instance : Inhabited Rc := ⟨rc0⟩

theorem cmpR_any (x y : Rc) (w : World) : Calls Try.prog 43 #[.agg (rcC x), .agg (rcC y)] w fun e w' => e = .returned (.int .i64 (cfR x y)) ∧ ∃ q os', w' = grow (w.drewN q) os' := by
  have C := Lib.hid (fun w => cmp_any x.sq y.sq w)
  have hx := (Blk.new w 29 (rcC x) 0 0 (Or.inl (Nat.le_refl _))).alloc (.cells (rcC y) 29)
  have hy := Blk.new (w.alloc (.cells (rcC x) 29)) 29 (rcC y) 0 0 (Or.inl (Nat.le_refl _))
  rw [size_alloc] at hy
  have c1 := hx.rc.2.1
  have c2 := hy.rc.2.1
  clear hx hy
  have HV : Hid (cfR x y = cmpI x.sq y.sq) := rfl
  generalize cmpI x.sq y.sq = r at C HV
  go_enter Try.func43, Try.ntmps43
  go_wp2_with fail
  refine (C.out _).mono ?_
  rintro e w1 ⟨rfl, hw⟩
  subst hw
  go_wp2
  go_ret
  exact ⟨by rw [HV.out]; rfl, 0, _, by rw [alloc_eq_grow, alloc_eq_grow, grow_grow]; rfl⟩
theorem cmpR_lays (blk off size : Nat) (w : World) : CmpLays Try.prog 43 #[] encR 7 cfR blk off size w :=
  fun m os dk _ x y => by
    show Calls Try.prog 43 #[.agg (rcC x), .agg (rcC y)] _ _
    exact cmpR_any x y _

/-- the sorted records -/
def srt (d : Array Rc) : Array Rc := Sort.insertionSort (ltOf cfR) d 0 d.size
theorem ins_any (blk cap : Nat) (d : Array Rc) (w : World) (hH : HoldsK encR 7 w blk 0 d) (hblk : blk < w.heap.size) (hsz : d.size < 4611686018427387904) :
    Calls Try.prog 62 #[.slice (some ⟨blk, 0, none⟩) d.size cap, .int .i64 0, .int .i64 (d.size : Int), .func (.func 43) #[] #[]] w
      fun e w' => e = .returned (.tuple #[]) ∧ ∃ n os, w' = sortWorldK encR 7 w blk 0 n (srt d) os := by
  have eg : ∀ args w, (callFunc 43 args).run Try.prog w = .ok (.enter 43 args) w := enters_of Try.func43 (by kernel_rfl) rfl
  exact AnyQ.insertionSortCmpFunc sh_insl 7 Try.isAgg29 Try.sizeOf29 encR (fun _ => rfl) (fun x v hv => List.all_eq_true.1 (rcC_one x) v hv) cfR 43 #[] blk 0 cap 0 d.size d w eg (cmpR_lays blk 0 d.size w) hH hblk (Nat.zero_le _) (Nat.le_refl _) hsz
theorem ins_nil (w : World) : Calls Try.prog 62 #[.slice none 0 0, .int .i64 0, .int .i64 0, .func (.func 43) #[] #[]] w fun e w' => e = .returned (.tuple #[]) ∧ w' = w := by
  go_enter Try.func62, Try.ntmps62
  go_wp2
  go_loopw [8] (fun i wr => i = .int .i64 1 ∧ wr = w) (fun i _ => 0)
  case atStart => exact ⟨rfl, rfl⟩
  case round =>
    obtain ⟨rfl, rfl⟩ := hrel
    go_wp2
    go_end0
    exact ⟨rfl, rfl⟩

theorem below_sorted (B : Nat) (w : World) (blk n : Nat) (d : Array Rc) (os : Array Obj) (hB : B ≤ blk) (hlt : blk < w.heap.size) : Go.RowKit.Below B w (sortWorldK encR 7 w blk 0 n d os) := by
  unfold sortWorldK putRowK putRow mapBlock grow Sort.ahead
  refine ⟨rfl, rfl, rfl, ?_, ?_⟩
  · simp
  · intro k hk
    have h1 : blk ≠ k := by omega
    have h2 : k < w.heap.size := by omega
    simp [Array.getElem?_append, Array.getElem?_modify, Array.getElem_modify, h1, h2]
theorem insInner_size (lt : Rc → Rc → Bool) (a : Nat) : ∀ (j : Nat) (d : Array Rc), (insInner lt a j d).size = d.size
  | 0, d => rfl
  | j + 1, d => by
    rw [insInner]
    split
    · rw [insInner_size lt a j, size_swp]
    · rfl
theorem insOuter_size (lt : Rc → Rc → Bool) (a b : Nat) : ∀ (n i : Nat) (d : Array Rc), b - i = n → (insOuter lt a b i d).size = d.size
  | 0, i, d, h => by
    rw [insOuter, if_neg (by omega)]
  | n + 1, i, d, h => by
    rw [insOuter, if_pos (by omega), insOuter_size lt a b n (i + 1) _ (by omega), insInner_size]
theorem srt_size (d : Array Rc) : (srt d).size = d.size := insOuter_size _ _ _ _ _ _ rfl

/-- records lie in a row of the call's own, or there are none -/
def RecAt (w : World) (B : Nat) (v : Value) (L : List Rc) : Prop :=
  (L = [] ∧ v = .slice none 0 0) ∨ ∃ g cap, v = .slice (some ⟨g, 0, none⟩) L.length cap ∧ B ≤ g ∧ g < w.heap.size ∧ L.length ≤ cap ∧ cap ≤ maxLen ∧ HoldsK encR 7 w g 0 L.toArray
theorem flat_get : ∀ (L : List Rc) (t : Nat), t < L.length * 7 → (flat L)[t]? = some ((encR (L.toArray)[t / 7]!)[t % 7]!)
  | [], t, h => by simp at h
  | r :: l, t, h => by
    rw [List.length_cons] at h
    have e : flat (r :: l) = encR r ++ flat l := rfl
    have hr : (encR r).length = 7 := rfl
    rw [e]
    by_cases ht : t < 7
    · rw [List.getElem?_append_left (by omega)]
      have e1 : t / 7 = 0 := by omega
      have e2 : t % 7 = t := by omega
      rw [e1, e2]
      have e3 : ((r :: l).toArray)[0]! = r := by simp
      rw [e3, List.getElem?_eq_getElem (by omega : t < (encR r).length)]
      congr 1
      rw [List.getElem!_eq_getElem?_getD, List.getElem?_eq_getElem (by omega : t < (encR r).length)]
      rfl
    · rw [List.getElem?_append_right (by omega), hr, flat_get l (t - 7) (by omega)]
      have e1 : t / 7 = (t - 7) / 7 + 1 := by omega
      have e2 : t % 7 = (t - 7) % 7 := by omega
      rw [e1, e2]
      congr 3
      simp
theorem RecAt.of_own {w : World} {B n : Nat} {v : Value} {L : List Rc} (h : w.ownsRow B 29 7 v n (flat L)) : n = L.length ∧ RecAt w B v L := by
  obtain ⟨hl, h⟩ := h
  rw [flat_len] at hl
  have hn : n = L.length := by omega
  subst hn
  refine ⟨rfl, ?_⟩
  rcases h with ⟨rfl, h0⟩ | ⟨g, cap, cur, rfl, hB, hg, hn, hm, hsz, htk⟩
  · exact Or.inl ⟨List.length_eq_zero_iff.1 h0, rfl⟩
  · refine Or.inr ⟨g, cap, rfl, hB, (Array.getElem?_eq_some_iff.1 hg).1, hn, hm, fun t ht => ?_⟩
    rw [size_flatK, List.size_toArray] at ht
    refine ⟨?_, by simp [World.frozen?, hg]⟩
    rw [get_flatK encR 7 L.toArray t (by rw [List.size_toArray]; exact ht)]
    have e : (cur.toList.take (L.length * 7))[t]? = some ((encR (L.toArray)[t / 7]!)[t % 7]!) := by rw [htk, flat_get L t ht]
    rw [List.getElem?_take, if_pos ht] at e
    have e2 : cur[t]? = some ((encR (L.toArray)[t / 7]!)[t % 7]!) := by simpa using e
    have e3 : w.cell? ⟨g, 0 + t, none⟩ = cur[t]? := by simp [World.cell?, hg]
    rw [e3, e2]
    rfl

/-- the sort of a row, or of none -/
theorem ins_all (B : Nat) (v : Value) (L : List Rc) (hL : L.length < 20) (w : World) (hv : RecAt w B v L) :
    Calls Try.prog 62 #[v, .int .i64 0, .int .i64 (L.length : Int), .func (.func 43) #[] #[]] w
      fun e w' => e = .returned (.tuple #[]) ∧ RecAt w' B v (srt L.toArray).toList ∧ Go.RowKit.Below B w w' := by
  rcases hv with ⟨rfl, rfl⟩ | ⟨g, cap, rfl, hB, hg, hc, hm, hH⟩
  · refine (ins_nil w).mono ?_
    rintro e w' ⟨rfl, rfl⟩
    refine ⟨rfl, Or.inl ⟨?_, rfl⟩, Below.refl _ _⟩
    have h := srt_size ([] : List Rc).toArray
    exact List.length_eq_zero_iff.1 (by rw [Array.length_toList, h]; rfl)
  · have hsz : L.toArray.size = L.length := List.size_toArray
    have h := ins_any g cap L.toArray w hH hg (by rw [hsz]; omega)
    rw [hsz] at h
    refine h.mono ?_
    rintro e w' ⟨rfl, n, os, rfl⟩
    have hs := srt_size L.toArray
    have hlen : (srt L.toArray).toList.length = L.length := by rw [Array.length_toList, hs, hsz]
    have hbl := below_sorted B w g n (srt L.toArray) os hB hg
    refine ⟨rfl, Or.inr ⟨g, cap, by rw [hlen], hB, Nat.lt_of_lt_of_le hg hbl.size, by rw [hlen]; exact hc, hm, ?_⟩, hbl⟩
    have hh := holdsK_sortWorldK_c encR 7 w g 0 L.toArray (srt L.toArray) n os hH hg hs
    simpa using hh
set_option maxHeartbeats 1000000 in
theorem stableCmp_any (B : Nat) (v : Value) (L : List Rc) (hL : L.length < 20) (w : World) (hv : RecAt w B v L) :
    Calls Try.prog 53 #[v, .int .i64 (L.length : Int), .func (.func 43) #[] #[]] w
      fun e w' => e = .returned (.tuple #[]) ∧ RecAt w' B v (srt L.toArray).toList ∧ Go.RowKit.Below B w w' := by
  have I := Lib.hid (ins_all B v L hL w hv)
  have hn : (L.length : Int) < 20 := by omega
  have hn2 : (L.length : Int) ≤ 19 := by omega
  clear hv
  go_enter Try.func53, Try.ntmps53
  go_wp2
  go_loopw [7, 8] (fun a i wr => a = .int .i64 0 ∧ i = .int .i64 20 ∧ wr = w) (fun _ i _ => 0)
  case atStart => exact ⟨rfl, rfl, rfl⟩
  case round =>
    obtain ⟨rfl, rfl, rfl⟩ := hrel
    go_wp2_with fail
    refine I.out.mono ?_
    rintro e w2 ⟨rfl, hr, hb⟩
    have HR := Lib.hid hr
    have HB := Lib.hid hb
    clear hr hb I
    go_wp2
    go_loopw [6] (fun i w3 => i = .int .i64 20 ∧ w3 = w2) (fun i _ => 0)
    case atStart => exact ⟨rfl, rfl⟩
    case round =>
      obtain ⟨rfl, rfl⟩ := hrel
      go_wp2
      go_end0
      exact ⟨rfl, HR.out, HB.out⟩
theorem stable_any (B : Nat) (v : Value) (L : List Rc) (hL : L.length < 20) (w : World) (hv : RecAt w B v L) :
    Calls Try.prog 31 #[v, .func (.func 43) #[] #[]] w
      fun e w' => e = .returned (.tuple #[]) ∧ RecAt w' B v (srt L.toArray).toList ∧ Go.RowKit.Below B w w' := by
  have I := Lib.hid (stableCmp_any B v L hL w hv)
  obtain ⟨A, cap, rfl⟩ : ∃ A cap, v = .slice A L.length cap := by
    rcases hv with ⟨rfl, rfl⟩ | ⟨g, cap, rfl, _⟩
    · exact ⟨none, 0, rfl⟩
    · exact ⟨_, cap, rfl⟩
  clear hv hL
  go_enter Try.func31, Try.ntmps31
  go_wp2_with fail
  refine I.out.mono ?_
  rintro e w2 ⟨rfl, hr, hb⟩
  have HR := Lib.hid hr
  have HB := Lib.hid hb
  clear hr hb I
  go_wp2
  go_end0
  exact ⟨rfl, HR.out, HB.out⟩
end Go.Proofs.Ytccbohjcbhibkaa
