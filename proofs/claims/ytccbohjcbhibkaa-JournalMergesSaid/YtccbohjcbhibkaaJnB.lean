/- Rows of bytes that a call has made, marked behind their end or not: what an append makes of them; bytes of a text. No condition but that they fit a memory. -/
import Derived.Test.YtccbohjcbhibkaaJnR
import Derived.Lib.ConvBytes
import Derived.ArgAppend
namespace Go.Proofs.Ytccbohjcbhibkaa
set_option linter.unusedVariables false
set_option linter.unusedSimpArgs false
set_option maxRecDepth 100000
open Go.RowKit

theorem info_u8 : (Try.prog.info? 5).map (fun i => (i.zero, i.size, i.bytes)) = some (some (.int .u8 0), 1, 1) := by kernel_rfl
/-- a row of bytes of the call's own: its cells are free, whatever stands behind them -/
def RowM (w : World) (B : Nat) (v : Value) (l : List UInt8) : Prop :=
  ∃ g cap C, v = .slice (some ⟨g, 0, none⟩) l.length cap ∧ B ≤ g ∧ Blk w g 5 C ∧ l.length ≤ cap ∧ cap ≤ maxLen ∧ C.size = cap ∧ C.toList.take l.length = l.map ubv
theorem own_weak {w : World} {B B' : Nat} {e : TypeId} {size : Nat} {v : Value} {n : Nat} {xs : List Value} (h : w.ownsRow B e size v n xs) (hB : B' ≤ B) : w.ownsRow B' e size v n xs := by
  refine ⟨h.1, ?_⟩
  rcases h.2 with h | ⟨g, cap, cur, h1, h2, h3⟩
  · exact Or.inl h
  · exact Or.inr ⟨g, cap, cur, h1, Nat.le_trans hB h2, h3⟩
theorem RowM.of_own {w : World} {B : Nat} {v : Value} {n : Nat} {l : List UInt8} (h : w.ownsRow B 5 1 v n (l.map ubv)) (hn : 0 < n) : RowM w B v l := by
  obtain ⟨hl, h⟩ := h
  rw [List.length_map, Nat.mul_one] at hl
  rcases h with ⟨_, h0⟩ | ⟨g, cap, cur, rfl, hb, hh, hc, hm, hs, ht⟩
  · omega
  · subst hl
    exact ⟨g, cap, cur, rfl, hb, ⟨0, 0, hh, Or.inl (Nat.le_refl _)⟩, hc, hm, by rw [hs, Nat.mul_one], by rw [← ht, Nat.mul_one]⟩
theorem RowM.lt {w : World} {B : Nat} {v : Value} {l : List UInt8} (h : RowM w B v l) : ∀ q, v.ownBlock = some q → B ≤ q ∧ q < w.heap.size := by
  obtain ⟨g, cap, C, rfl, hB, hk, _⟩ := h
  intro q hq
  have : g = q := Option.some.inj hq
  subst this
  exact ⟨hB, hk.lt⟩
theorem RowM.kept {w w' : World} {B : Nat} {v : Value} {l : List UInt8} (h : RowM w B v l) (hb : Below w.heap.size w w') : RowM w' B v l := by
  obtain ⟨g, cap, C, e1, e2, hk, e3⟩ := h
  exact ⟨g, cap, C, e1, e2, hk.step hb, e3⟩
theorem RowM.byt {w : World} {B : Nat} {v : Value} {l : List UInt8} (h : RowM w B v l) : ∃ g cap, v = .slice (some ⟨g, 0, none⟩) l.length cap ∧ B ≤ g ∧ Byt w 5 g l := by
  obtain ⟨g, cap, C, e1, e2, hk, hn, hm, hs, ht⟩ := h
  refine ⟨g, cap, e1, e2, C, hk, fun j hj => ?_⟩
  have h1 : (C.toList.take l.length)[j]? = (l.map ubv)[j]? := by rw [ht]
  rw [List.getElem?_take, if_pos hj, List.getElem?_map, List.getElem?_eq_getElem hj] at h1
  simpa using h1
theorem ubv_one (K : List UInt8) : ∀ u ∈ K.map ubv, u.oneCell' = true := by
  intro u hu
  obtain ⟨x, _, rfl⟩ := List.mem_map.1 hu
  rfl
theorem Blk.grownM {w w' : World} {b : Nat} {e : TypeId} {C : Array Value} {row : Option Nat} (h : Blk w b e C) (hg : w.grownBy w' row) (hne : ∀ q, row = some q → b < q) : Blk w' b e C :=
  h.of_heap (hg.block b h.lt (fun he => by have := hne b he.symm; omega))
theorem grownM_setCells (w : World) (g o : Nat) (vs : List Value) : w.grownBy (w.setCells g o vs) (some g) := by
  have hb := Below.setCells (Below.refl g w) (Nat.le_refl g) o vs
  exact ⟨hb.os, hb.tape, hb.output, hb.size, fun k hk hne => heap_setCells g vs o w k (fun e => hne (by rw [e]))⟩

/-- 'append' of bytes that lie somewhere -/
theorem wpList_appM {w : World} {ops : Array Oper} {rest : List Oper} {o : Oper} {a : Act} {Q : Exit → Act → World → Prop} (hgd : o.guard = none) (s x : Operand)
    (ho : o.op = .call { callee := .builtin .append, args := #[s, x], argTypes := #[75, 75] })
    (B : Nat) (v : Value) (l : List UInt8) (hs : a.eval s = v) (hr : RowM w B v l)
    (ad : Addr) (m c : Nat) (K : List UInt8) (hx : a.eval x = .slice (some ad) m c) (hm : m = K.length) (hc : ∀ j u, (K.map ubv)[j]? = some u → w.cell? (ad.add j) = some u) (h16 : l.length + m ≤ 140737488355328) (hB : B ≤ w.heap.size)
    (h : ∀ v' w', RowM w' B v' (l ++ K) → w.grownBy w' v.ownBlock → wpList Try.prog ops Q rest (a.put o.dst v') w') : wpList Try.prog ops Q (o :: rest) a w := by
  obtain ⟨i0, hi, hz0, hz1, hz2⟩ := info_parts info_u8
  obtain ⟨g, cap, C, rfl, hBg, hk, hn, hmx, hsz, htk⟩ := hr
  subst hm
  have hcell : ∀ j u, (l.map ubv)[j]? = some u → w.cell? ⟨g, 0 + j, none⟩ = some u := by
    intro j u hj
    obtain ⟨y, hy1, hy2⟩ := Option.map_eq_some_iff.1 (by rw [List.getElem?_map] at hj; exact hj)
    obtain ⟨hjl, rfl⟩ := List.getElem?_eq_some_iff.1 hy1
    rw [hk.cell, Nat.zero_add]
    have h1 : (C.toList.take l.length)[j]? = (l.map ubv)[j]? := by rw [htk]
    rw [List.getElem?_take, if_pos hjl, hj] at h1
    simpa using h1
  refine wpList_append_arg w hgd s x 75 ho 5 i0 (.int .u8 0) 1 1 Try.underlying75 hi hz0 hz1 hz2 rfl (by decide) g 0 l.length cap (l.map ubv) hs (by simp) hcell ad K.length c (K.map ubv) hx (by simp) hc (ubv_one K) ?_ (by unfold maxLen; omega) (by omega) ?_ ?_
  · intro hroom j hj
    rw [List.length_map] at hj
    rw [Nat.zero_add, Nat.mul_one]
    refine ⟨?_, hk.free _ (by omega)⟩
    rw [hk.cell, Array.getElem?_eq_getElem (by omega)]
    rfl
  · intro hroom
    rw [Nat.zero_add, Nat.mul_one]
    have hk2 := hk.setPart (C' := (C.toList.take l.length ++ K.map ubv ++ C.toList.drop (l.length + (K.map ubv).length)).toArray) l.length (K.map ubv) (by rw [List.length_map]; omega) rfl
    refine h _ _ ⟨g, cap, _, by rw [List.length_append], hBg, hk2, by rw [List.length_append]; exact hroom, hmx, ?_, ?_⟩ (grownM_setCells w g l.length (K.map ubv))
    · simp only [List.size_toArray, List.length_append, List.length_take, List.length_drop, List.length_map, Array.length_toList]
      omega
    · simp only [List.toList_toArray]
      rw [htk, ← List.map_append, List.take_left' (by rw [List.length_map])]
  · intro hgrow v' w' hown hg
    rw [← List.map_append] at hown
    have hown' := own_weak hown hB
    by_cases h0 : 0 < l.length + K.length
    · exact h v' w' (RowM.of_own hown' h0) ⟨hg.os, hg.tape, hg.output, hg.size, fun k hk2 _ => hg.block k hk2 (by simp)⟩
    · omega
theorem ubv4 (w : World) (e : TypeId) (a b c d : UInt8) (x y z t : Value) (h : #[x, y, z, t] = ([a, b, c, d].map ubv).toArray) : ∀ j u, ([a, b, c, d].map ubv)[j]? = some u → (w.alloc (.cells #[x, y, z, t] e)).cell? ((⟨w.heap.size, 0, none⟩ : Addr).add j) = some u := by
  intro j u hj
  rw [addr_add, (Blk.new w e #[x, y, z, t] 0 0 (Or.inl (Nat.le_refl _))).cell, Nat.zero_add, h, List.getElem?_toArray, hj]

/-- the bytes of a text, as a row -/
theorem conv_row (w : World) (l : List UInt8) (hl : l.length ≤ maxLen) :
    (convert 9 75 (sv l)).run Try.prog w = .ok (.slice (some ⟨w.heap.size, 0, none⟩) l.length (grownCap w l.length 0 5)) (Lib.bytesWorld w 5 ⟨l.toArray⟩) ∧
    RowM (Lib.bytesWorld w 5 ⟨l.toArray⟩) w.heap.size (.slice (some ⟨w.heap.size, 0, none⟩) l.length (grownCap w l.length 0 5)) l ∧
    Below w.heap.size w (Lib.bytesWorld w 5 ⟨l.toArray⟩) := by
  refine ⟨Lib.run_convert_string_bytes w 9 75 5 ⟨l.toArray⟩ Try.underlying9 Try.underlying75 Try.underlying5, ?_, ?_⟩
  · have hge := grownCap_ge w l.length 0 5
    have hcm : grownCap w l.length 0 5 ≤ maxLen := grownCap_le_maxLen w l.length 0 5 hl
    refine ⟨w.heap.size, _, Lib.bytesCells w 5 ⟨l.toArray⟩, rfl, Nat.le_refl _, ⟨_, _, Lib.bytesWorld_at_new w 5 ⟨l.toArray⟩, Or.inr (Nat.le_refl _)⟩, hge, hcm, ?_, ?_⟩
    · unfold Lib.bytesCells
      simp only [Array.size_append, Array.size_map, Array.size_replicate]
      show l.toArray.size + (grownCap w l.toArray.size 0 5 - l.toArray.size) = _
      rw [List.size_toArray]
      omega
    · unfold Lib.bytesCells
      simp only [Array.toList_append, Array.toList_map]
      rw [List.take_left' (by simp)]
  · refine ⟨?_, ?_, ?_, ?_, ?_⟩
    · simp [Lib.bytesWorld, World.freeze, World.alloc, World.drew, -World.alloc_eq, -World.drew_eq]
    · simp [Lib.bytesWorld, World.freeze, World.alloc, World.drew, -World.alloc_eq, -World.drew_eq]
    · simp [Lib.bytesWorld, World.freeze, World.alloc, World.drew, -World.alloc_eq, -World.drew_eq]
    · rw [Lib.bytesWorld_size]; omega
    · intro j hj
      exact Lib.bytesWorld_at_old w 5 ⟨l.toArray⟩ j hj
end Go.Proofs.Ytccbohjcbhibkaa
