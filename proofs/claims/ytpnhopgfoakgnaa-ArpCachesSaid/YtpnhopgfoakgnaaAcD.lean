/- Rows of entries that are written to in place; what a call may touch; an entry built and stored. No condition. -/
import Derived.Test.YtpnhopgfoakgnaaAcC
import Derived.Laws.OwnMore
import Derived.Deep.MidRow
namespace Go.Proofs.Ytpnhopgfoakgnaa
set_option linter.unusedVariables false
set_option linter.unusedSimpArgs false
set_option maxRecDepth 100000
open Go.RowKit Go.Proofs Go.Shelf
attribute [local go_sem ↓] ld_arp ld_mac ld_ip

theorem own_storedK {B size n cap g : Nat} {e : TypeId} : ∀ (vs : List Value) (o : Nat) (w : World) (xs : List Value), w.ownsRow B e size (.slice (some ⟨g, 0, none⟩) n cap) n xs → o + vs.length ≤ xs.length →
    (w.setCells g o vs).ownsRow B e size (.slice (some ⟨g, 0, none⟩) n cap) n (xs.take o ++ vs ++ xs.drop (o + vs.length))
  | [], o, w, xs, h, _ => by
    have : xs.take o ++ ([] : List Value) ++ xs.drop (o + 0) = xs := by simp
    simp only [World.setCells, List.length_nil]
    rw [this]
    exact h
  | v :: r, o, w, xs, h, hl => by
    have hl0 : o + (r.length + 1) ≤ xs.length := by simpa using hl
    have ih := own_storedK r (o + 1) (w.setCell ⟨g, o, none⟩ v) (xs.set o v) (h.stored o v).1 (by rw [List.length_set]; omega)
    rw [World.setCells]
    have e1 : (xs.set o v).take (o + 1) ++ r ++ (xs.set o v).drop (o + 1 + r.length) = xs.take o ++ (v :: r) ++ xs.drop (o + (v :: r).length) := by
      rw [List.drop_set_of_lt (by omega), List.length_cons, show o + (r.length + 1) = o + 1 + r.length by omega]
      have e2 : (xs.set o v).take (o + 1) = xs.take o ++ [v] := by
        rw [List.take_add_one, List.getElem?_set_self (by omega), List.take_set, List.set_eq_of_length_le (by simp; omega)]
        rfl
      rw [e2]
      simp
    rw [e1] at ih
    exact ih
theorem own_shrink {w : World} {B size n cap g : Nat} {e : TypeId} {xs : List Value} (h : w.ownsRow B e size (.slice (some ⟨g, 0, none⟩) n cap) n xs) (m : Nat) (hm : m ≤ n) :
    w.ownsRow B e size (.slice (some ⟨g, 0, none⟩) m cap) m (xs.take (m * size)) := by
  obtain ⟨hl, h⟩ := h
  have hms : m * size ≤ n * size := Nat.mul_le_mul_right _ hm
  rcases h with ⟨h', _⟩ | ⟨g', cap', cur, h', hb, hg, hnc, hcm, hcs, htake⟩
  · simp at h'
  · simp only [Value.slice.injEq, Option.some.injEq, Addr.mk.injEq, and_true, true_and] at h'
    obtain ⟨rfl, rfl⟩ := h'
    refine ⟨by rw [List.length_take, hl]; omega, .inr ⟨g, cap, cur, rfl, hb, hg, by omega, hcm, hcs, ?_⟩⟩
    rw [← htake, List.take_take, Nat.min_eq_left hms]
theorem flatE_drop (L : List En) (n : Nat) : (flatE L).drop (n * 11) = flatE (L.drop n) := by
  induction L generalizing n with
  | nil => simp [flatE]
  | cons r l ih =>
    cases n with
    | zero => simp [flatE]
    | succ n =>
      rw [show flatE (r :: l) = enE r ++ flatE l from rfl, List.drop_succ_cons, ← ih, List.drop_append, enE_len, List.drop_eq_nil_of_le (by rw [enE_len]; omega), show (n + 1) * 11 - 11 = n * 11 by omega, List.nil_append]
/-- an entry stored in place -/
theorem own_setE {w : World} {B cap g : Nat} {e : TypeId} {L : List En} (h : w.ownsRow B e 11 (.slice (some ⟨g, 0, none⟩) L.length cap) L.length (flatE L)) (k : Nat) (hk : k < L.length) (x : En) :
    (w.setCells g (k * 11) (enE x)).ownsRow B e 11 (.slice (some ⟨g, 0, none⟩) L.length cap) L.length (flatE (L.set k x)) := by
  have h2 := own_storedK (enE x) (k * 11) w _ h (by rw [flatE_len, enE_len]; omega)
  have e1 : (flatE L).take (k * 11) ++ enE x ++ (flatE L).drop (k * 11 + (enE x).length) = flatE (L.set k x) := by
    rw [enE_len, show k * 11 + 11 = (k + 1) * 11 by omega, flatE_take, flatE_drop, List.set_eq_take_append_cons_drop, if_pos hk, flatE_app]
    show flatE (L.take k) ++ enE x ++ flatE (L.drop (k + 1)) = flatE (L.take k) ++ (enE x ++ flatE (L.drop (k + 1)))
    rw [List.append_assoc]
  rw [e1] at h2
  exact h2

/-! ### what a call of a cache's may touch -/
structure Ap (cb : Nat) (o : Option Nat) (w w' : World) : Prop where
  os : w'.os = w.os
  tape : w'.tape = w.tape
  output : w'.output = w.output
  size : w.heap.size ≤ w'.heap.size
  block : ∀ k, k < w.heap.size → k ≠ cb → some k ≠ o → w'.heap[k]? = w.heap[k]?
theorem Ap.of_below {cb : Nat} {o : Option Nat} {w w' : World} (h : Below w.heap.size w w') : Ap cb o w w' := ⟨h.os, h.tape, h.output, h.size, fun k hk _ _ => h.block k hk⟩
theorem Ap.trans {cb : Nat} {o o' : Option Nat} {w w' w'' : World} (h : Ap cb o w w') (k : Ap cb o' w' w'') (ho : ∀ g, o' = some g → o = some g ∨ w.heap.size ≤ g) : Ap cb o w w'' :=
  ⟨k.os.trans h.os, k.tape.trans h.tape, k.output.trans h.output, Nat.le_trans h.size k.size, fun q hq h1 h2 => (k.block q (Nat.lt_of_lt_of_le hq h.size) h1 (fun e => by
    rcases ho q e.symm with h3 | h3
    · exact h2 h3.symm
    · omega)).trans (h.block q hq h1 h2)⟩
theorem Ap.below {B cb : Nat} {o : Option Nat} {w w' : World} (h : Ap cb o w w') (hc : B ≤ cb) (ho : ∀ g, o = some g → B ≤ g) (hB : B ≤ w.heap.size) : Below B w w' :=
  ⟨h.os, h.tape, h.output, h.size, fun k hk => h.block k (by omega) (by omega) (fun e => by have := ho k e.symm; omega)⟩
theorem Ap.cells {cb g o : Nat} {w : World} (vs : List Value) : Ap cb (some g) w (w.setCells g o vs) := by
  have hb := Below.setCells (Below.refl 0 w) (Nat.zero_le g) o vs
  exact ⟨hb.os, hb.tape, hb.output, hb.size, fun k _ _ h => heap_setCells g vs o w k (fun e => h (by rw [e]))⟩
theorem Ap.field {cb k : Nat} {o : Option Nat} {w : World} (v : Value) : Ap cb o w (w.setCell ⟨cb, k, none⟩ v) := by
  have hb := Below.setCell (p := ⟨cb, k, none⟩) (Below.refl 0 w) (Nat.zero_le _) v
  exact ⟨hb.os, hb.tape, hb.output, hb.size, fun q _ h _ => by
    have := heap_setCells cb [v] k w q h
    exact this⟩

/-! ### an entry built, stored, loaded -/
noncomputable def Bde (a b : Value) : Sem Value := Instr.build 96 #[(0, a), (1, b)]
theorem bld_en (a b : Value) : Instr.build 96 #[(0, a), (1, b)] = Bde a b := rfl
theorem run_bde (i m : List UInt8) (hi : i.length = 4) (hm : m.length = 6) (w : World) : (Bde (arrV i) (arrV m)).run Try.prog w = .ok (.agg (enC (mkE i m 0))) w := by
  obtain ⟨a, b, c, d, rfl⟩ := list4 hi
  obtain ⟨p, q, r, s, t, u, rfl⟩ := list6 hm
  have h : (Instr.build 96 #[(0, .agg #[ubv a, ubv b, ubv c, ubv d]), (1, .agg #[ubv p, ubv q, ubv r, ubv s, ubv t, ubv u])]).run Try.prog w = .ok (.agg #[ubv a, ubv b, ubv c, ubv d, ubv p, ubv q, ubv r, ubv s, ubv t, ubv u, .int .i64 0]) w := by kernel_rfl
  unfold Bde
  exact h
noncomputable def Ste (p v : Value) : Sem Unit := Instr.storeAt 96 p v
theorem st_en (p v : Value) : Instr.storeAt 96 p v = Ste p v := rfl
theorem size_en : (Try.prog.info? 96).map (·.size) = some 11 := by kernel_rfl
theorem run_ste {w : World} {g o : Nat} (x : En) (ht : w.there g o 11) : (Ste (.pointer (some ⟨g, o, none⟩)) (.agg (enC x))).run Try.prog w = .ok () (w.setCells g o (enE x)) :=
  run_storeAt_mid (P := Try.prog) w g o 96 (enC x) ht size_en (by have := enC_one x; simpa using this)
theorem own_there {w : World} {B cap g n : Nat} {e : TypeId} {xs : List Value} (h : w.ownsRow B e 11 (.slice (some ⟨g, 0, none⟩) n cap) n xs) (k : Nat) (hk : k < n) : w.there g (k * 11) 11 := by
  intro j hj
  have hl := h.1
  refine ⟨?_, h.frozenAt _⟩
  rw [h.cellAt (k * 11 + j) (by omega), List.getElem?_eq_getElem (by omega)]
  rfl
theorem ld_ent (v : Value) : Instr.loadAt 96 v = Ld 96 v := rfl
theorem run_lde {w : World} {g o : Nat} {x : En} (hc : ∀ i v, (enE x)[i]? = some v → w.cell? ⟨g, o + i, none⟩ = some v) : (Ld 96 (.pointer (some ⟨g, o, none⟩))).run Try.prog w = .ok (.agg (enC x)) w := by
  have hr : w.rangeAt g o (enE x) := fun j v hv => hc j v hv
  unfold Ld
  have hl := run_loadVar_mid (P := Try.prog) w g o 96 (enE x) _ hr Try.underlying96 rfl (by rw [enE_len]; exact size_en)
  simp only [Instr.loadAt, Instr.sureAddr, Sem.run_bind, Sem.run_pure, Result.andThen_ok, hl]
  rfl
end Go.Proofs.Ytpnhopgfoakgnaa
