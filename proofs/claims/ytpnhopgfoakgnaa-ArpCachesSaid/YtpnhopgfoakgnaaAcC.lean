/- Find of package arp's cache. No condition but that it fits a memory. -/
import Derived.Test.YtpnhopgfoakgnaaAcB
namespace Go.Proofs.Ytpnhopgfoakgnaa
set_option linter.unusedVariables false
set_option linter.unusedSimpArgs false
set_option maxRecDepth 100000
open Go.RowKit Go.Proofs Go.Shelf
attribute [local go_sem ↓] ld_arp ld_mac ld_ip

/-- the load of a part of an entry -/
theorem ld_part {w : World} {g o : Nat} {x : En} (hc : ∀ i v, (enE x)[i]? = some v → w.cell? ⟨g, o + i, none⟩ = some v) (ty : TypeId) (n k : Nat) (hu : Try.prog.underlying ty = some (.array n 5)) (hi : (Try.prog.info? ty).map (·.size) = some n) (l : List UInt8) (hl : l.length = n)
    (hp : ∀ j (hj : j < l.length), (enC x)[k + j]? = some (ubv l[j])) : (Ld ty (.pointer (some ⟨g, o + k, none⟩))).run Try.prog w = .ok (arrV l) w := by
  have hr : w.rangeAt g (o + k) (l.map ubv) := by
    intro j v hv
    have hj : j < l.length := by have := (List.getElem?_eq_some_iff.1 hv).1; simpa using this
    rw [List.getElem?_map, List.getElem?_eq_getElem hj] at hv
    rw [show o + k + j = o + (k + j) by omega]
    refine hc (k + j) v ?_
    rw [enE, Array.getElem?_toList, hp j hj]
    exact hv
  unfold Ld
  have hz : (l.map ubv).length = n := by rw [List.length_map, hl]
  have hl := run_loadVar_mid (P := Try.prog) w g (o + k) ty (l.map ubv) _ hr hu rfl (by rw [hz]; exact hi)
  simp only [Instr.loadAt, Instr.sureAddr, Sem.run_bind, Sem.run_pure, Result.andThen_ok, hl]
theorem ld_macE {w : World} {g o : Nat} {x : En} (hc : ∀ i v, (enE x)[i]? = some v → w.cell? ⟨g, o + i, none⟩ = some v) : (Ld 38 (.pointer (some ⟨g, o + 4, none⟩))).run Try.prog w = .ok (arrV x.mac) w :=
  ld_part hc 38 6 4 Try.underlying38 size_mac x.mac rfl (enC_mac x)

theorem find_len (L : List En) (i : List UInt8) : (findV L i).1.length = 6 := by
  unfold findV
  cases L.find? (ipIs i) <;> rfl

set_option maxHeartbeats 2000000 in
theorem find_any {w : World} {B cb : Nat} {lim : Int} {v : Value} {L : List En} (h : CaAt w B cb lim v L) (hl : 1 ≤ lim) (hL : L.length ≤ 8) (i : List UInt8) (hi : i.length = 4) :
    Calls Try.prog 32 #[.pointer (some ⟨cb, 0, none⟩), arrV i] w fun e w' => e = .returned (.tuple #[arrV (findV L i).1, .bool (findV L i).2]) ∧ Below w.heap.size w w' := by
  have HA := Lib.hid ((h.alloc (.cells (i.map ubv).toArray 40)).alloc (.cells mac0 38))
  have HB := Lib.hid (((Below.refl _ w).alloc (Nat.le_refl _) (.cells (i.map ubv).toArray 40)).alloc (by simp) (.cells mac0 38))
  have HI := Lib.hid ((Blk.new w 40 (i.map ubv).toArray 0 0 (Or.inl (Nat.le_refl _))).alloc (.cells mac0 38))
  have HK : RowKit.Hid (Blk ((w.alloc (.cells (i.map ubv).toArray 40)).alloc (.cells mac0 38)) (w.heap.size + 1) 38 mac0) := by
    have := Blk.new (w.alloc (.cells (i.map ubv).toArray 40)) 38 mac0 0 0 (Or.inl (Nat.le_refl _))
    rw [size_alloc] at this
    exact this
  clear h
  go_enter Try.func32, Try.ntmps32
  go_upto_region 1 with fail
  generalize World.alloc _ _ = w1 at HA HB HI HK ⊢
  go_wp2_with fail
  refine (none_no HA.out hl).mono ?_
  rintro e w' ⟨rfl, hw⟩
  rw [hw]
  clear hw
  have hip := HI.out.ld_arr4 hi
  go_wp2_with fail
  refine (at_any HA.out hL i hi).mono ?_
  rintro e w2 ⟨rfl, hb⟩
  have HA2 := Lib.hid (HA.out.step hb)
  have HB2 := Lib.hid (Below.step HB.out hb)
  have HK2 := Lib.hid (HK.out.step hb)
  clear hip hb HI HA HB HK
  obtain ⟨pm, hpm⟩ : ∃ pm, pm = w.heap.size + 1 := ⟨_, rfl⟩
  rw [← hpm] at HK2 ⊢
  have HPM : Hid (w.heap.size ≤ pm) := Lib.hid (by omega)
  clear hpm
  rcases idx_spec (ipIs i) L with ⟨e1, ha⟩ | ⟨k, hk, e1, ht, ha⟩
  · have HF : Hid (findV L i = ([0, 0, 0, 0, 0, 0], false)) := Lib.hid (by unfold findV; rw [(find_miss ha).1])
    rw [e1]
    clear ha e1
    go_wp2_with (refine wpList_store_blk rfl 38 _ _ rfl pm mac0 rfl rfl mac0 38 HK2.out rfl size_mac rfl ?_)
    exact bodyPost_ret (results_blk Try.results32 _ _ pm _ _ _ rfl (HK2.out.setAll rfl) Try.underlying38 rfl size_mac) rfl ⟨by rw [HF.out]; rfl, Below.setCells HB2.out HPM.out _ _⟩
  · have HF : Hid (findV L i = (L[k].mac, true)) := Lib.hid (by unfold findV; rw [(find_hit hk ht ha).1])
    rw [e1]
    clear ha e1 ht
    have c1 := HA2.out.blk.cell 1
    obtain ⟨g, c, rfl, hBg, hg, hc1, hc2, hcell⟩ : ∃ g c, v = .slice (some ⟨g, 0, none⟩) L.length c ∧ B ≤ g ∧ g < w2.heap.size ∧ L.length ≤ c ∧ c ≤ maxLen ∧ ∀ j (hj : j < L.length) i v, (enE L[j])[i]? = some v → w2.cell? ⟨g, 0 + j * 11 + i, none⟩ = some v := by
      rcases (own_es HA2.out.own).2 with ⟨e1, e2⟩ | h
      · rw [e1] at hk; simp at hk
      · exact h
    have lm := ld_macE (hcell k hk)
    rw [Nat.zero_add] at lm
    have hki : (k : Int) < (L.length : Int) := by omega
    have hk0 : 0 ≤ (k : Int) := by omega
    clear hcell hg hc1 hc2 hBg
    generalize L[k] = x at lm HF
    have hml : ((x.mac.map ubv).toArray).size = 6 := rfl
    have hone : ((x.mac.map ubv).toArray).toList.all (·.oneCell') = true := rfl
    generalize x.mac = p at lm HF hml hone
    go_wp2_with (refine wpList_store_blk rfl 38 _ _ rfl pm (p.map ubv).toArray rfl rfl mac0 38 HK2.out (by rw [hml]; rfl) (by rw [hml]; exact size_mac) hone ?_)
    exact bodyPost_ret (results_blk Try.results32 _ _ pm _ _ _ rfl (HK2.out.setAll (by rw [hml]; rfl)) Try.underlying38 rfl (by rw [hml]; exact size_mac)) rfl ⟨by rw [HF.out]; rfl, Below.setCells HB2.out HPM.out _ _⟩
end Go.Proofs.Ytpnhopgfoakgnaa
