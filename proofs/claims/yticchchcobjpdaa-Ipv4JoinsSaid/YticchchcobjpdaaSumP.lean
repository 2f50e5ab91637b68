/- Plain facts on sums and on rows of bytes. No program is in sight. (For seats without Icmp and Arp; the same lemmas stand there in IcmpP and ArpB.) -/
import Derived.Test.YticchchcobjpdaaSum
import Derived.Lib.AppendStr
namespace Go.Proofs.Yticchchcobjpdaa
set_option linter.unusedVariables false
open Go.RowKit

theorem wsum_app : ∀ (a b : List UInt8), a.length % 2 = 0 → wsum (a ++ b) = wsum a + wsum b
  | [], b, _ => by simp [wsum]
  | [x], b, h => by simp at h
  | x :: y :: r, b, h => by
    have := wsum_app r b (by simp only [List.length_cons] at h; omega)
    simp only [List.cons_append, wsum, this]; omega

theorem be2 (x : Int) (h : 0 ≤ x ∧ x ≤ 65535) : (litN x 2).reverse = [UInt8.ofNat (x.toNat / 256), UInt8.ofNat x.toNat] := by
  rw [litN, if_pos (by omega)]
  simp [lit, List.range_succ]
theorem be4 (x : Int) : (litN x 4).reverse = [UInt8.ofNat (x.toNat / 16777216), UInt8.ofNat (x.toNat / 65536), UInt8.ofNat (x.toNat / 256), UInt8.ofNat x.toNat] := by
  rw [litN, if_pos (by omega)]
  simp [lit, List.range_succ]
theorem wsum_be2 (x : Int) (h : 0 ≤ x ∧ x ≤ 65535) : wsum (litN x 2).reverse = x.toNat := by
  rw [be2 x h]
  simp only [wsum, UInt8.toNat_ofNat']
  omega

theorem sumE_list (l : List UInt8) : sumE ⟨l.toArray⟩ = 65535 - (fld (wsum l) : Int) := by simp [sumE, wrest]
theorem fld_whole (n : Nat) : fld (n + (65535 - fld n)) = 65535 := by
  unfold fld
  by_cases h : n = 0
  · subst h; rfl
  · rw [if_neg h, if_neg (by omega)]; omega

theorem sum_whole (A B : List UInt8) (hA : A.length % 2 = 0) : sumE ⟨(A ++ (litN (sumE ⟨(A ++ B).toArray⟩) 2).reverse ++ B).toArray⟩ = 0 := by
  have h1 := sumE_list (A ++ B)
  obtain ⟨x, hx⟩ : ∃ x, x = sumE ⟨(A ++ B).toArray⟩ := ⟨_, rfl⟩
  have hin := sumE_in ⟨(A ++ B).toArray⟩
  rw [← hx] at h1 hin ⊢
  rw [sumE_list, List.append_assoc, wsum_app _ _ hA, wsum_app _ _ (by rw [be2 x hin]; simp), wsum_be2 x hin]
  rw [wsum_app _ _ hA] at h1
  have hf := fld_le (wsum A + wsum B)
  have e : wsum A + (x.toNat + wsum B) = (wsum A + wsum B) + (65535 - fld (wsum A + wsum B)) := by omega
  rw [e, fld_whole]
  rfl

theorem sum_noughts (A B : List UInt8) (hA : A.length % 2 = 0) : sumE ⟨(A ++ [0, 0] ++ B).toArray⟩ = sumE ⟨(A ++ B).toArray⟩ := by
  rw [sumE_list, sumE_list, List.append_assoc, wsum_app _ _ hA, wsum_app _ _ hA, wsum_app [0, 0] B rfl]
  simp [wsum]

/-- a row of the call's own that holds bytes -/
theorem Byt.of_row {w : World} {base : Nat} {e : TypeId} {v : Value} {n : Nat} {l : List UInt8} (h : w.ownsRow base e 1 v n (l.map ubv)) (hn : 0 < n) :
    ∃ g cap, v = .slice (some ⟨g, 0, none⟩) n cap ∧ base ≤ g ∧ Byt w e g l ∧ l.length = n := by
  obtain ⟨hl, h⟩ := h
  rw [List.length_map, Nat.mul_one] at hl
  rcases h with ⟨_, h0⟩ | ⟨g, cap, cur, rfl, hb, hh, hc, hm, hs, ht⟩
  · omega
  · refine ⟨g, cap, rfl, hb, ⟨cur, ⟨0, 0, hh, Or.inl (Nat.le_refl _)⟩, fun j hj => ?_⟩, hl⟩
    have h1 : (cur.toList.take (n * 1))[j]? = (l.map ubv)[j]? := by rw [ht]
    rw [List.getElem?_take, if_pos (by omega), List.getElem?_map, List.getElem?_eq_getElem hj] at h1
    simpa using h1

theorem row_new (w : World) (e : TypeId) (l : List UInt8) (C : Array Value) (hC : C = (l.map ubv).toArray) (h : l.length ≤ maxLen) :
    (w.alloc (.cells C e)).ownsRow w.heap.size e 1 (.slice (some ⟨w.heap.size, 0, none⟩) l.length l.length) l.length (l.map ubv) := by
  subst hC
  refine ⟨by simp, Or.inr ⟨w.heap.size, l.length, (l.map ubv).toArray, rfl, Nat.le_refl _, heap_alloc_new w _, Nat.le_refl _, h, by simp, ?_⟩⟩
  simp only [Nat.mul_one]
  rw [List.take_of_length_le (by simp)]

theorem row_ne {w : World} {base : Nat} {e t : TypeId} {v : Value} {n : Nat} {xs : List Value} {b : Nat} (h : w.ownsRow base e 1 v n xs) (hb : b < base) : v.ownBlock ≠ some b := by
  intro he
  have := h.lt b he
  omega

theorem Blk.grown {w w' : World} {row : Option Nat} {b : Nat} {e : TypeId} {C : Array Value} (h : Blk w b e C) (hg : w.grownBy w' row) (hne : row ≠ some b) : Blk w' b e C :=
  h.of_heap (hg.block b h.lt (fun e => hne e.symm))

theorem map_snoc (P X : List UInt8) (k : Nat) (h : k < X.length) : (P ++ X.take k).map ubv ++ [.int .u8 ((X[k]).toNat : Int)] = (P ++ X.take (k + 1)).map ubv := by
  rw [take_snoc X k h, ← List.append_assoc, List.map_append (l₂ := [X[k]])]
  rfl

theorem one_cell (w : World) (e : TypeId) (x : Value) : ∀ j u, ([x] : List Value)[j]? = some u → (w.alloc (.cells #[x] e)).cell? ((⟨w.heap.size, 0, none⟩ : Addr).add j) = some u := by
  intro j u hj
  match j, hj with
  | 0, hj =>
    rw [addr_add, (Blk.new w e #[x] 0 0 (Or.inl (Nat.le_refl _))).cell]
    exact hj
theorem one_one (k : IntKind) (b : Int) : ∀ u ∈ [Value.int k b], u.oneCell' = true := by
  intro u hu
  rw [List.mem_singleton] at hu
  subst hu
  rfl


theorem ofNat_toNat (n : Nat) (h : n < 256) : (UInt8.ofNat n).toNat = n := by rw [UInt8.toNat_ofNat']; omega

theorem all_eq (m m' : List UInt8) (n : Nat) (h : m.length = n) (h' : m'.length = n) :
    (List.range' 0 n).all (fun j => ((m.getD j 0).toNat : Int) == ((m'.getD j 0).toNat : Int)) = (m == m') := by
  rw [Bool.eq_iff_iff, List.all_eq_true, beq_iff_eq]
  constructor
  · intro hq
    apply List.ext_getElem (by omega)
    intro j h1 h2
    have := hq j (by rw [List.mem_range']; exact ⟨j, by omega, by omega⟩)
    rw [beq_iff_eq] at this
    have e1 : m.getD j 0 = m[j] := by simp [h1]
    have e2 : m'.getD j 0 = m'[j] := by simp [h2]
    rw [e1, e2] at this
    exact UInt8.toNat_inj.1 (by omega)
  · rintro rfl j _
    simp

theorem size_u8 : (Try.prog.info? 5).map (·.size) = some 1 := by kernel_rfl
/-- an array of bytes as a value -/
abbrev arrV (l : List UInt8) : Value := .agg (l.map ubv).toArray
/-- the comparison of two arrays of bytes -/
theorem run_eq_arr (w : World) (d : Nat) (t : TypeId) (n : Nat) (ht : Try.prog.underlying t = some (.array n 5)) (m m' : List UInt8) (h : m.length = n) (h' : m'.length = n) :
    (Op.equalIn (d + 2) t (arrV m) (arrV m')).run Try.prog w = .ok (m == m') w := by
  rw [run_equalIn_row w d t 5 n ht Try.underlying5 size_u8 _ _ (fun j => ((m.getD j 0).toNat : Int)) (fun j => ((m'.getD j 0).toNat : Int)) ?_]
  · rw [all_eq m m' n h h']
  · intro j hj
    have h1 : j < m.length := by omega
    have h2 : j < m'.length := by omega
    refine ⟨?_, ?_⟩
    · rw [List.getElem?_toArray, List.getElem?_map, List.getElem?_eq_getElem h1]; simp [h1]
    · rw [List.getElem?_toArray, List.getElem?_map, List.getElem?_eq_getElem h2]; simp [h2]
theorem list4 {l : List UInt8} (h : l.length = 4) : ∃ a b c d, l = [a, b, c, d] := by
  match l, h with
  | [a, b, c, d], _ => exact ⟨a, b, c, d, rfl⟩

/-- the load of a whole struct or array, under a name of its own -/
noncomputable def Ld (ty : TypeId) (v : Value) : Sem Value := Instr.loadAt ty v
theorem Blk.ld {w : World} {b : Nat} {e : TypeId} {C : Array Value} (h : Blk w b e C) (ty : TypeId) (d : TypeDesc) (hu : Try.prog.underlying ty = some d) (hd : d.isRow = true) (o : Nat) (cs : List Value) (hcs : (C.toList.drop o).take cs.length = cs)
    (hi : (Try.prog.info? ty).map (·.size) = some cs.length) : (Ld ty (.pointer (some ⟨b, o, none⟩))).run Try.prog w = .ok (.agg cs.toArray) w := by
  suffices hr : w.rangeAt b o cs by
    unfold Ld
    simp only [Instr.loadAt, Instr.sureAddr, Sem.run_bind, Sem.run_pure, Result.andThen_ok, run_loadVar_mid w b o ty cs d hr hu hd hi]
  intro j v hv
  rw [h.cell]
  rw [← hcs, List.getElem?_take] at hv
  split at hv
  · rw [List.getElem?_drop] at hv; simpa using hv
  · cases hv
theorem Blk.ld_row {w : World} {b : Nat} {e : TypeId} {C : Array Value} (h : Blk w b e C) (ty : TypeId) (n o : Nat) (hu : Try.prog.underlying ty = some (.array n 5)) (hi : (Try.prog.info? ty).map (·.size) = some n) (l : List UInt8) (hl : l.length = n)
    (hc : ∀ j (hj : j < l.length), C[o + j]? = some (ubv l[j])) : (Ld ty (.pointer (some ⟨b, o, none⟩))).run Try.prog w = .ok (arrV l) w := by
  refine h.ld ty _ hu rfl o (l.map ubv) ?_ (by rw [List.length_map, hl]; exact hi)
  apply List.ext_getElem?
  intro j
  rw [List.getElem?_take, List.length_map]
  by_cases hj : j < l.length
  · rw [if_pos hj, List.getElem?_drop, List.getElem?_map, List.getElem?_eq_getElem hj]
    have := hc j hj
    simpa using this
  · rw [if_neg hj, List.getElem?_map, List.getElem?_eq_none (by omega)]
    rfl

theorem seg_put (A M B M' : List Value) (o : Nat) (hA : A.length = o) (h : M'.length = M.length) : (A ++ M ++ B).take o ++ M' ++ (A ++ M ++ B).drop (o + M'.length) = A ++ M' ++ B := by
  subst hA
  rw [h, ← List.drop_drop, List.append_assoc A M B, List.take_left, List.drop_left, List.drop_left]

theorem rdTwo (s : ByteArray) (a : Nat) (h : a + 2 ≤ s.size) : rdBig s (a : Int) 2 = (((bat s a).toNat * 256 + (bat s (a + 1)).toNat : Nat) : Int) := by
  have h1 : rdOk s a 2 = true := by simp [rdOk]; omega
  rw [rdBig, if_pos h1, Int.toNat_natCast]
  have : pieceL s a (2 : Int).toNat = [bat s a, bat s (a + 1)] := by
    show pieceL s a 2 = _
    unfold pieceL
    rw [take_from s a 2 h]
    rfl
  rw [this]
  simp [bigv]
end Go.Proofs.Yticchchcobjpdaa
