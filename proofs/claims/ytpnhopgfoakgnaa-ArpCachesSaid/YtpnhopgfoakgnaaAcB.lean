/- The cache of package arp in memory: its rows, its closure, at, Find, Len, New. No condition but that it fits a memory. -/
import Derived.Test.YtpnhopgfoakgnaaAcA
import Derived.Test.YtpnhopgfoakgnaaIdx
namespace Go.Proofs.Ytpnhopgfoakgnaa
set_option linter.unusedVariables false
set_option linter.unusedSimpArgs false
set_option maxRecDepth 100000
open Go.RowKit Go.Proofs Go.Shelf
attribute [local go_sem ↓] ld_arp ld_mac ld_ip

/-- entries lie from an address on, below block B -/
def EsAt (w : World) (B : Nat) (A : Option Addr) (L : List En) : Prop :=
  L = [] ∨ ∃ b o, A = some ⟨b, o, none⟩ ∧ b < B ∧ ∀ j (hj : j < L.length) i v, (enE L[j])[i]? = some v → w.cell? ⟨b, o + j * 11 + i, none⟩ = some v
theorem EsAt.below {w w' : World} {B : Nat} {A : Option Addr} {L : List En} (h : EsAt w B A L) (hb : Below B w w') : EsAt w' B A L := by
  rcases h with h | ⟨b, o, e1, e2, e3⟩
  · exact Or.inl h
  · exact Or.inr ⟨b, o, e1, e2, fun j hj i v hv => (hb.cell (p := ⟨b, o + j * 11 + i, none⟩) e2).trans (e3 j hj i v hv)⟩
theorem EsAt.up {w w' : World} {A : Option Addr} {L : List En} (h : EsAt w w.heap.size A L) (hb : Below w.heap.size w w') : EsAt w' w'.heap.size A L := by
  rcases h.below hb with h | ⟨b, o, e1, e2, e3⟩
  · exact Or.inl h
  · exact Or.inr ⟨b, o, e1, Nat.lt_of_lt_of_le e2 hb.size, e3⟩
theorem own_es {w : World} {B n : Nat} {e : TypeId} {v : Value} {L : List En} (h : w.ownsRow B e 11 v n (flatE L)) :
    n = L.length ∧ ((L = [] ∧ v = .slice none 0 0) ∨ ∃ g c, v = .slice (some ⟨g, 0, none⟩) L.length c ∧ B ≤ g ∧ g < w.heap.size ∧ L.length ≤ c ∧ c ≤ maxLen ∧ ∀ j (hj : j < L.length) i v, (enE L[j])[i]? = some v → w.cell? ⟨g, 0 + j * 11 + i, none⟩ = some v) := by
  obtain ⟨hl, h⟩ := h
  rw [flatE_len] at hl
  have hn : n = L.length := by omega
  subst hn
  refine ⟨rfl, ?_⟩
  rcases h with ⟨rfl, h0⟩ | ⟨g, cap, cur, rfl, hB, hg, hn, hm, hsz, htk⟩
  · exact Or.inl ⟨List.length_eq_zero_iff.1 h0, rfl⟩
  · refine Or.inr ⟨g, cap, rfl, hB, (Array.getElem?_eq_some_iff.1 hg).1, hn, hm, fun j hj i v hv => ?_⟩
    have hi : i < 11 := by
      have h1 := (List.getElem?_eq_some_iff.1 hv).1
      rw [enE_len] at h1
      exact h1
    have e1 := flatE_get L j i hj hi
    rw [← htk, List.getElem?_take, if_pos (by omega), hv] at e1
    have e5 : w.cell? ⟨g, 0 + j * 11 + i, none⟩ = cur[j * 11 + i]? := by simp [World.cell?, hg]
    rw [e5]
    simpa using e1

/-! ### the closure of 'at' -/
set_option maxHeartbeats 1000000 in
theorem at1_any (i : List UInt8) (hi : i.length = 4) (P : Nat) (x : En) (w : World) (h : Blk w P 40 (i.map ubv).toArray) :
    Calls Try.prog 63 #[.agg (enC x), .pointer (some ⟨P, 0, none⟩)] w fun e w' => e = .returned (.bool (ipIs i x)) ∧ Below w.heap.size w w' := by
  have hK := Blk.new w 96 (enC x) 0 0 (Or.inl (Nat.le_refl _))
  have hB := Lib.hid ((Below.refl _ w).alloc (Nat.le_refl _) (.cells (enC x) 96))
  have h2 := h.alloc (.cells (enC x) 96)
  have l1 := hK.ld_row 40 4 0 Try.underlying40 size_ip x.ip rfl (enC_ip x)
  have l2 := h2.ld_arr4 hi
  have q := fun w => run_ip_eql w x.ip i rfl hi
  have HV : Hid (ipIs i x = (x.ip == i)) := Lib.hid rfl
  clear hK h2 h
  generalize x.ip = p at l1 q HV
  go_enter Try.func63, Try.ntmps63
  go_wp2
  go_ret
  exact ⟨by rw [HV.out]; rfl, hB.out⟩
theorem pred_at (i : List UInt8) (hi : i.length = 4) (P : Nat) (w : World) (hP : P < w.heap.size) (h : Blk w P 40 (i.map ubv).toArray) :
    PredBelow Try.prog 63 #[.pointer (some ⟨P, 0, none⟩)] (fun x => .agg (enE x).toArray) (ipIs i) w := fun W x hb => by
  have hW : Blk W P 40 (i.map ubv).toArray := h.step hb
  exact (at1_any i hi P x W hW).mono fun e w' ⟨he, hb'⟩ => ⟨he, Below.step hb hb'⟩

/-! ### the cache -/
structure CaAt (w : World) (B cb : Nat) (lim : Int) (v : Value) (L : List En) : Prop where
  blk : Blk w cb 62 #[.int .i64 lim, v]
  ge : B ≤ cb
  own : w.ownsRow B 96 11 v L.length (flatE L)
  ne : v.ownBlock ≠ some cb
theorem CaAt.step {w w' : World} {B cb : Nat} {lim : Int} {v : Value} {L : List En} (h : CaAt w B cb lim v L) (hb : Below w.heap.size w w') : CaAt w' B cb lim v L := by
  have hg : w.grownBy w' none := ⟨hb.os, hb.tape, hb.output, hb.size, fun q hq _ => hb.block q hq⟩
  exact ⟨h.blk.step hb, h.ge, h.own.kept hg (by cases Value.ownBlock _ <;> simp), h.ne⟩
theorem CaAt.alloc {w : World} {B cb : Nat} {lim : Int} {v : Value} {L : List En} (h : CaAt w B cb lim v L) (o : Obj) : CaAt (w.alloc o) B cb lim v L :=
  h.step ((Below.refl _ w).alloc (Nat.le_refl _) o)
theorem CaAt.len {w : World} {B cb : Nat} {lim : Int} {v : Value} {L : List En} (h : CaAt w B cb lim v L) : ∃ A c, v = .slice A L.length c := by
  rcases (own_es h.own).2 with ⟨h1, h2⟩ | ⟨g, c, h2, _⟩
  · exact ⟨none, 0, by rw [h2, h1]; rfl⟩
  · exact ⟨_, _, h2⟩

theorem none_no {w : World} {B cb : Nat} {lim : Int} {v : Value} {L : List En} (h : CaAt w B cb lim v L) (hl : 1 ≤ lim) :
    Calls Try.prog 46 #[.pointer (some ⟨cb, 0, none⟩)] w fun e w' => e = .returned (.bool false) ∧ w' = w := by
  have c0 := h.blk.cell 0
  have hn : (lim == 0) = false := beq_eq_false_iff_ne.2 (by omega)
  have hn2 : ¬ lim = 0 := by omega
  clear h
  go_enter Try.func46, Try.ntmps46
  go_wp2
  go_ret
  exact ⟨rfl, rfl⟩
theorem len_any {w : World} {B cb : Nat} {lim : Int} {v : Value} {L : List En} (h : CaAt w B cb lim v L) (hl : 1 ≤ lim) :
    Calls Try.prog 33 #[.pointer (some ⟨cb, 0, none⟩)] w fun e w' => e = .returned (.int .i64 L.length) ∧ w' = w := by
  have HN := Lib.hid (none_no h hl)
  have c1 := h.blk.cell 1
  obtain ⟨A, c, rfl⟩ := h.len
  clear h
  go_enter Try.func33, Try.ntmps33
  go_wp2_with fail
  refine HN.out.mono ?_
  rintro e w' ⟨rfl, hw⟩
  rw [hw]
  clear hw
  go_wp2
  go_ret
  exact ⟨rfl, rfl⟩
theorem new_any (lim : Int) (h1 : 1 ≤ lim) (h2 : lim ≤ 1048576) (w : World) :
    Calls Try.prog 34 #[.int .i64 lim] w fun e w' => e = .returned (.tuple #[.pointer (some ⟨w.heap.size, 0, none⟩), .int .i64 0]) ∧ CaAt w' w.heap.size w.heap.size lim (.slice none 0 0) [] ∧ Below w.heap.size w w' := by
  have hK := Lib.hid (Blk.new w 62 #[.int .i64 lim, .slice none 0 0] 0 0 (Or.inl (Nat.le_refl _)))
  have hB := Lib.hid ((Below.refl _ w).alloc (Nat.le_refl _) (.cells #[.int .i64 lim, .slice none 0 0] 62))
  have n1 : ¬ lim < 1 := by omega
  have n2 : ¬ 1048576 < lim := by omega
  go_enter Try.func34, Try.ntmps34
  go_wp2
  exact bodyPost_ret (results_tmp2 Try.results34 _ _ _) rfl ⟨rfl, ⟨hK.out, Nat.le_refl _, ⟨rfl, Or.inl ⟨rfl, rfl⟩⟩, by simp [Value.ownBlock]⟩, hB.out⟩

theorem idx_nil (fv : Value) (w : World) : Calls Try.prog 62 #[.slice none 0 0, fv] w fun e w' => e = .returned (.int .i64 (-1)) ∧ w' = w := by
  go_enter Try.func62, Try.ntmps62
  go_wp2
  go_loopw [8] (fun i wr => i = .int .i64 0 ∧ wr = w) (fun _ _ => 0)
  case atStart => exact ⟨rfl, rfl⟩
  case round =>
    obtain ⟨rfl, hw⟩ := hrel
    subst hw
    go_wp2
    go_ret
    exact ⟨rfl, rfl⟩
set_option maxHeartbeats 2000000 in
theorem at_any {w : World} {B cb : Nat} {lim : Int} {v : Value} {L : List En} (h : CaAt w B cb lim v L) (hL : L.length ≤ 8) (i : List UInt8) (hi : i.length = 4) :
    Calls Try.prog 47 #[.pointer (some ⟨cb, 0, none⟩), arrV i] w fun e w' => e = .returned (.int .i64 (Lib.idxBy (fun _ y => ipIs i y) L default)) ∧ Below w.heap.size w w' := by
  have eg : ∀ args w, (callFunc 63 args).run Try.prog w = .ok (.enter 63 args) w := enters_of Try.func63 (by kernel_rfl) rfl
  have hI := Blk.new w 40 (i.map ubv).toArray 0 0 (Or.inl (Nat.le_refl _))
  have hb := (Below.refl _ w).alloc (Nat.le_refl _) (.cells (i.map ubv).toArray 40)
  have hlt : w.heap.size < (w.alloc (.cells (i.map ubv).toArray 40)).heap.size := by simp
  have h2 := h.alloc (.cells (i.map ubv).toArray 40)
  have hcon : Hid (Calls Try.prog 62 #[v, .func (.func 63) #[] #[.pointer (some ⟨w.heap.size, 0, none⟩)]] (w.alloc (.cells (i.map ubv).toArray 40)) fun e w' => e = .returned (.int .i64 (Lib.idxBy (fun _ y => ipIs i y) L default)) ∧ Below (w.alloc (.cells (i.map ubv).toArray 40)).heap.size (w.alloc (.cells (i.map ubv).toArray 40)) w') := by
    rcases (own_es h2.own).2 with ⟨e1, e2⟩ | ⟨g, c, e2, hB, hg, hc1, hc2, hcell⟩
    · subst e1
      rw [e2]
      have hcon := idx_nil (.func (.func 63) #[] #[.pointer (some ⟨w.heap.size, 0, none⟩)]) (w.alloc (.cells (i.map ubv).toArray 40))
      exact hcon.mono fun e w' ⟨he, hw⟩ => ⟨he, hw ▸ Below.refl _ _⟩
    · rw [e2]
      have hcon := AnyQ.slices_IndexFunc sh_idxf 11 Try.isAgg96 Try.sizeOf96 enE (fun _ => rfl) (ipIs i) 63 #[.pointer (some ⟨w.heap.size, 0, none⟩)] eg g 0 L.length c L (w.alloc (.cells (i.map ubv).toArray 40)) (pred_at i hi w.heap.size _ hlt hI) (Nat.le_refl _) (by omega) hg (fun j hj k u hu => by
        rw [getElem!_pos L j hj] at hu
        exact hcell j hj k u hu)
      rw [List.take_of_length_le (Nat.le_refl _)] at hcon
      exact hcon
  have c1 := h2.blk.cell 1
  have HB := Lib.hid hb
  obtain ⟨A, c, hv⟩ := h.len
  subst hv
  clear hI hb h h2 hlt eg
  generalize Lib.idxBy (fun _ y => ipIs i y) L default = r at hcon ⊢
  go_enter Try.func47, Try.ntmps47
  go_wp2_with fail
  refine hcon.out.mono ?_
  rintro e w' ⟨rfl, hb'⟩
  have HB2 := Lib.hid (Below.step HB.out hb')
  clear hb'
  go_wp2
  go_ret
  exact ⟨rfl, HB2.out⟩
end Go.Proofs.Ytpnhopgfoakgnaa
