/- The walk through the law ArpNobody: it answers true. -/
import Derived.Test.YtpnhopgfoakgnaaArpA
import Derived.Test.YtpnhopgfoakgnaaArpE
namespace Go.Proofs.Ytpnhopgfoakgnaa
set_option linter.unusedVariables false
set_option linter.unusedSimpArgs false
set_option maxRecDepth 100000
open Go.RowKit
attribute [local go_sem ↓] Go.wp_at_zero Go.wp_at_succ
attribute [local go_sem ↓] ld_mac ld_ip

def ca0 : Array Value := #[.int .i64 0, .slice none 0 0]
/-- a cache that is none: nil, or one that was not made -/
def NoneAt (w : World) (v : Value) : Prop := v = .pointer none ∨ ∃ b, v = .pointer (some ⟨b, 0, none⟩) ∧ Blk w b 62 ca0
theorem NoneAt.step {w w' : World} {v : Value} (h : NoneAt w v) (k : Below w.heap.size w w') : NoneAt w' v := by
  rcases h with h | ⟨b, h, hb⟩
  · exact Or.inl h
  · exact Or.inr ⟨b, h, hb.step k⟩
theorem none_nil (w : World) : NoneAt w (.pointer none) := Or.inl rfl
theorem NoneAt.alloc {w : World} {v : Value} (h : NoneAt w v) (o : Obj) : NoneAt (w.alloc o) v := by
  rcases h with h | ⟨b, h, hb⟩
  · exact Or.inl h
  · exact Or.inr ⟨b, h, hb.alloc o⟩
theorem NoneAt.set {w : World} {v : Value} {g : Nat} (h : NoneAt w v) (hg : w.heap.size ≤ g) (o : Obj) (k : Nat) (vs : List Value) : NoneAt ((w.alloc o).setCells g k vs) v := by
  rcases h with h | ⟨b, h, hb⟩
  · exact Or.inl h
  · have hl := hb.lt
    exact Or.inr ⟨b, h, (hb.alloc o).setCells_other g k vs (by omega)⟩

theorem ca_none {w : World} {v : Value} (h : NoneAt w v) : Calls Try.prog 46 #[v] w fun e w' => e = .returned (.bool true) ∧ w' = w := by
  rcases h with rfl | ⟨b, rfl, hb⟩
  · go_enter Try.func46, Try.ntmps46
    go_wp2
    go_ret
    exact ⟨rfl, rfl⟩
  · have c : w.cell? ⟨b, 0, none⟩ = some (.int .i64 0) := by rw [hb.cell]; rfl
    go_enter Try.func46, Try.ntmps46
    go_wp2
    go_ret
    exact ⟨rfl, rfl⟩
theorem ca_len {w : World} {v : Value} (h : NoneAt w v) : Calls Try.prog 33 #[v] w fun e w' => e = .returned (.int .i64 0) ∧ w' = w := by
  go_enter Try.func33, Try.ntmps33
  go_wp2_with fail
  refine (ca_none h).mono ?_
  rintro e w' ⟨rfl, rfl⟩
  go_wp2
  go_ret
  exact ⟨rfl, rfl⟩
theorem ca_ptr {w : World} {v : Value} (h : NoneAt w v) : ∃ a, v = .pointer a := by
  rcases h with rfl | ⟨b, rfl, hb⟩
  · exact ⟨_, rfl⟩
  · exact ⟨_, rfl⟩
theorem ca_tick {w : World} {v : Value} (h : NoneAt w v) : Calls Try.prog 31 #[v] w fun e w' => e = .returned (.tuple #[]) ∧ Below w.heap.size w w' := by
  have h1 := Lib.hid (h.alloc (.cells #[v] 59))
  have hK := Blk.new w 59 #[v] 0 0 (Or.inl (Nat.le_refl _))
  have c : (w.alloc (.cells #[v] 59)).cell? ⟨w.heap.size, 0, none⟩ = some v := by rw [hK.cell]; rfl
  have HB := Lib.hid ((Below.refl _ w).alloc (Nat.le_refl _) (.cells #[v] 59))
  obtain ⟨a, rfl⟩ := ca_ptr h
  clear h hK
  go_enter Try.func31, Try.ntmps31
  go_upto_region 1 with fail
  generalize World.alloc _ _ = w1 at h1 c HB ⊢
  go_wp2_with fail
  refine (ca_none h1.out).mono ?_
  rintro e w' ⟨rfl, rfl⟩
  go_wp2
  exact bodyPost_ret (results_none Try.results31 _ _ _) rfl ⟨rfl, HB.out⟩

set_option maxHeartbeats 1000000 in
theorem ca_learn {w : World} {v : Value} (h : NoneAt w v) (i m : List UInt8) : Calls Try.prog 30 #[v, arrV i, arrV m] w fun e w' => e = .returned (.tuple #[]) ∧ Below w.heap.size w w' := by
  have h1 := Lib.hid (((h.alloc (.cells #[v] 59)).alloc (.cells (i.map ubv).toArray 40)).alloc (.cells (m.map ubv).toArray 38))
  have h2 := Lib.hid ((h.alloc (.cells (i.map ubv).toArray 40)).alloc (.cells (m.map ubv).toArray 38))
  have HB := Lib.hid (((Below.refl _ w).alloc (Nat.le_refl _) (.cells (i.map ubv).toArray 40)).alloc (by simp) (.cells (m.map ubv).toArray 38))
  obtain ⟨a, rfl⟩ := ca_ptr h
  clear h
  go_enter Try.func30, Try.ntmps30
  go_upto_region 1 with fail
  generalize World.alloc _ _ = w1 at h2 HB ⊢
  go_wp2_with fail
  refine (ca_none h2.out).mono ?_
  rintro e w' ⟨rfl, rfl⟩
  go_wp2
  exact bodyPost_ret (results_none Try.results30 _ _ _) rfl ⟨rfl, HB.out⟩

abbrev mac0 : Array Value := #[.int .u8 0, .int .u8 0, .int .u8 0, .int .u8 0, .int .u8 0, .int .u8 0]
set_option maxHeartbeats 1000000 in
theorem ca_find {w : World} {v : Value} (h : NoneAt w v) (i : List UInt8) : Calls Try.prog 32 #[v, arrV i] w fun e w' => e = .returned (.tuple #[.agg mac0, .bool false]) ∧ Below w.heap.size w w' := by
  have h1 := Lib.hid ((h.alloc (.cells (i.map ubv).toArray 40)).alloc (.cells mac0 38))
  have HB := Lib.hid (((Below.refl _ w).alloc (Nat.le_refl _) (.cells (i.map ubv).toArray 40)).alloc (by simp) (.cells mac0 38))
  have HK : RowKit.Hid (Blk ((w.alloc (.cells (i.map ubv).toArray 40)).alloc (.cells mac0 38)) (w.heap.size + 1) 38 mac0) := by
    have := Blk.new (w.alloc (.cells (i.map ubv).toArray 40)) 38 mac0 0 0 (Or.inl (Nat.le_refl _))
    rw [size_alloc] at this
    exact this
  obtain ⟨a, rfl⟩ := ca_ptr h
  clear h
  go_enter Try.func32, Try.ntmps32
  go_upto_region 1 with fail
  generalize World.alloc _ _ = w1 at h1 HB HK ⊢
  go_wp2_with fail
  refine (ca_none h1.out).mono ?_
  rintro e w' ⟨rfl, rfl⟩
  have HK2 : RowKit.Hid (Blk w' (w.heap.size + 1) 38 mac0) := HK.out
  go_wp2_with (refine wpList_store_blk rfl 38 _ _ rfl (w.heap.size + 1) mac0 rfl rfl mac0 38 HK2.out rfl size_mac rfl ?_)
  exact bodyPost_ret (results_blk Try.results32 _ _ (w.heap.size + 1) _ _ _ rfl (HK2.out.setAll rfl) Try.underlying38 rfl size_mac) rfl ⟨rfl, Below.setCells HB.out (by omega) _ _⟩

/-- the addresses' blocks, and what was there before -/
structure NoS (w0 : World) (i m : List UInt8) (w : World) : Prop where
  i : Blk w w0.heap.size 40 (i.map ubv).toArray
  m : Blk w (w0.heap.size + 1) 38 (m.map ubv).toArray
  bel : Below w0.heap.size w0 w
theorem NoS.step {w0 w w' : World} {i m : List UInt8} (h : NoS w0 i m w) (k : Below w.heap.size w w') : NoS w0 i m w' := ⟨h.i.step k, h.m.step k, Below.step h.bel k⟩
theorem NoS.alloc {w0 w : World} {i m : List UInt8} (h : NoS w0 i m w) (o : Obj) : NoS w0 i m (w.alloc o) := ⟨h.i.alloc o, h.m.alloc o, h.bel.alloc h.bel.size o⟩
theorem NoS.set {w0 w : World} {i m : List UInt8} {g : Nat} (h : NoS w0 i m w) (hg : w.heap.size ≤ g) (o : Obj) (k : Nat) (vs : List Value) : NoS w0 i m ((w.alloc o).setCells g k vs) := by
  have h1 := h.i.lt
  have h2 := h.m.lt
  have h3 := h.bel.size
  exact ⟨(h.i.alloc o).setCells_other g k vs (by omega), (h.m.alloc o).setCells_other g k vs (by omega), Below.setCells (h.bel.alloc h3 o) (by omega) k vs⟩
theorem nos_new (w : World) (i m : List UInt8) : NoS w i m ((w.alloc (.cells (i.map ubv).toArray 40)).alloc (.cells (m.map ubv).toArray 38)) := by
  refine ⟨(Blk.new w 40 _ 0 0 (Or.inl (Nat.le_refl _))).alloc _, ?_, ((Below.refl _ w).alloc (Nat.le_refl _) _).alloc (by simp) _⟩
  have := Blk.new (w.alloc (.cells (i.map ubv).toArray 40)) 38 (m.map ubv).toArray 0 0 (Or.inl (Nat.le_refl _))
  rw [size_alloc] at this
  exact this
theorem ip_load {w : World} {b : Nat} {e : TypeId} {f : List UInt8} (h : Blk w b e (f.map ubv).toArray) (hf : f.length = 4) : (Ld 40 (.pointer (some ⟨b, 0, none⟩))).run Try.prog w = .ok (arrV f) w :=
  h.ld_row 40 4 0 Try.underlying40 size_ip f hf (fun j hj => by simp [List.getElem?_eq_getElem hj])
theorem mac_load {w : World} {b : Nat} {e : TypeId} {f : List UInt8} (h : Blk w b e (f.map ubv).toArray) (hf : f.length = 6) : (Ld 38 (.pointer (some ⟨b, 0, none⟩))).run Try.prog w = .ok (arrV f) w :=
  h.ld_row 38 6 0 Try.underlying38 size_mac f hf (fun j hj => by simp [List.getElem?_eq_getElem hj])

set_option maxHeartbeats 1000000 in
theorem arpNobody_walk (i m : List UInt8) (hi : i.length = 4) (hm : m.length = 6) (w : World) :
    Calls Try.prog 11 #[arrV i, arrV m] w fun e w' => e = .returned (.bool true) ∧ Below w.heap.size w w' := by
  have Q := Lib.hid (nos_new w i m)
  go_enter Try.func11, Try.ntmps11
  go_upto_region 1 with fail
  generalize World.alloc _ _ = w1 at Q ⊢
  go_wp2_with fail
  refine (arawake_any _).mono ?_
  rintro e w2 ⟨rfl, hb⟩
  have Q1 := Lib.hid (Q.out.step hb)
  clear hb Q
  go_upto_region 5 with fail
  have HJ2 := Lib.hid (Blk.new w2 62 ca0 0 0 (Or.inl (Nat.le_refl _)))
  have Q2 := Lib.hid (Q1.out.alloc (.cells ca0 62))
  have e0 : ca0 = #[.int .i64 0, .slice none 0 0] := rfl
  rw [e0] at HJ2 Q2
  have HN2 : RowKit.Hid (NoneAt (w2.alloc (.cells #[.int .i64 0, .slice none 0 0] 62)) (.pointer (some ⟨w2.heap.size, 0, none⟩))) := Or.inr ⟨_, rfl, HJ2.out⟩
  generalize World.alloc _ _ = w3 at HN2 Q2 ⊢
  generalize w2.heap.size = g at HN2 ⊢
  clear HJ2 e0 Q1
  have di := ip_load Q2.out.i hi
  have dm := mac_load Q2.out.m hm
  go_wp2_with fail
  refine (ca_learn (none_nil _) i m).mono ?_
  rintro e w4 ⟨rfl, hb⟩
  have Q3 := Lib.hid (Q2.out.step hb)
  have HN3 := Lib.hid (HN2.out.step hb)
  clear hb di dm Q2 HN2
  have di := ip_load Q3.out.i hi
  have dm := mac_load Q3.out.m hm
  go_wp2_with fail
  refine (ca_learn HN3.out i m).mono ?_
  rintro e w5 ⟨rfl, hb⟩
  have Q4 := Lib.hid (Q3.out.step hb)
  have HN4 := Lib.hid (HN3.out.step hb)
  clear hb di dm Q3 HN3
  go_wp2_with fail
  refine (ca_tick (none_nil _)).mono ?_
  rintro e w6 ⟨rfl, hb⟩
  have Q5 := Lib.hid (Q4.out.step hb)
  have HN5 := Lib.hid (HN4.out.step hb)
  clear hb Q4 HN4
  go_wp2_with fail
  refine (ca_tick HN5.out).mono ?_
  rintro e w7 ⟨rfl, hb⟩
  have Q6 := Lib.hid (Q5.out.step hb)
  have HN6 := Lib.hid (HN5.out.step hb)
  clear hb Q5 HN5
  have di := ip_load Q6.out.i hi
  go_wp2_with fail
  refine (ca_find (none_nil _) i).mono ?_
  rintro e v8 ⟨rfl, hb⟩
  have Q7 := Lib.hid (Q6.out.step hb)
  have HN7 := Lib.hid (HN6.out.step hb)
  have HNw := Lib.hid (Blk.new v8 38 mac0 0 0 (Or.inl (Nat.le_refl _)))
  have Q8 := Lib.hid (Q7.out.set (Nat.le_refl _) (.cells mac0 38) 0 mac0.toList)
  have HN8 := Lib.hid (HN7.out.set (Nat.le_refl _) (.cells mac0 38) 0 mac0.toList)
  have tokA : True := trivial
  clear hb di Q6 HN6
  go_wp2_with (have _t := tokA; refine wpList_store_blk rfl 38 _ _ rfl v8.heap.size mac0 rfl rfl mac0 38 HNw.out rfl size_mac rfl ?_; clear tokA HNw; generalize World.setCells _ _ _ _ = W8 at Q8 HN8 ⊢; have di := ip_load Q8.out.i hi)
  refine (ca_find HN8.out i).mono ?_
  rintro e v9 ⟨rfl, hb⟩
  have Q9 := Lib.hid (Q8.out.step hb)
  have HN9 := Lib.hid (HN8.out.step hb)
  have HNw := Lib.hid (Blk.new v9 38 mac0 0 0 (Or.inl (Nat.le_refl _)))
  have Q10 := Lib.hid (Q9.out.set (Nat.le_refl _) (.cells mac0 38) 0 mac0.toList)
  have HN10 := Lib.hid (HN9.out.set (Nat.le_refl _) (.cells mac0 38) 0 mac0.toList)
  have tokB : True := trivial
  clear hb di Q8 HN8
  go_wp2_with (have _t := tokB; refine wpList_store_blk rfl 38 _ _ rfl v9.heap.size mac0 rfl rfl mac0 38 HNw.out rfl size_mac rfl ?_; clear tokB HNw; generalize World.setCells _ _ _ _ = W10 at Q10 HN10 ⊢)
  refine (ca_len (none_nil _)).mono ?_
  rintro e u ⟨rfl, rfl⟩
  go_wp2_with fail
  refine (ca_len HN10.out).mono ?_
  rintro e u2 ⟨rfl, rfl⟩
  go_wp2
  go_ret
  exact ⟨rfl, Q10.out.bel⟩
end Go.Proofs.Ytpnhopgfoakgnaa
