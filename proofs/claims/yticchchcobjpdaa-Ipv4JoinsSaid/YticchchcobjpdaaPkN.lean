/- The walk through the law Ipv4Nobody: it answers true. -/
import Derived.Test.YticchchcobjpdaaPkA
namespace Go.Proofs.Yticchchcobjpdaa
set_option linter.unusedVariables false
set_option linter.unusedSimpArgs false
set_option maxRecDepth 100000
open Go.RowKit
attribute [local go_sem ↓] Go.wp_at_zero Go.wp_at_succ
attribute [local go_sem ↓] ld_pk ld_ip

def jo0 : Array Value := #[.int .i64 0, .slice none 0 0]
/-- a joiner that is none: nil, or one that was not made -/
def NoneAt (w : World) (v : Value) : Prop := v = .pointer none ∨ ∃ b, v = .pointer (some ⟨b, 0, none⟩) ∧ Blk w b 56 jo0
theorem NoneAt.step {w w' : World} {v : Value} (h : NoneAt w v) (k : Below w.heap.size w w') : NoneAt w' v := by
  rcases h with h | ⟨b, h, hb⟩
  · exact Or.inl h
  · exact Or.inr ⟨b, h, hb.step k⟩
theorem none_nil (w : World) : NoneAt w (.pointer none) := Or.inl rfl
theorem NoneAt.alloc {w : World} {v : Value} (h : NoneAt w v) (o : Obj) : NoneAt (w.alloc o) v := by
  rcases h with h | ⟨b, h, hb⟩
  · exact Or.inl h
  · exact Or.inr ⟨b, h, hb.alloc o⟩

theorem jo_none {w : World} {v : Value} (h : NoneAt w v) : Calls Try.prog 32 #[v] w fun e w' => e = .returned (.bool true) ∧ w' = w := by
  rcases h with rfl | ⟨b, rfl, hb⟩
  · go_enter Try.func32, Try.ntmps32
    go_wp2
    go_ret
    exact ⟨rfl, rfl⟩
  · have c : w.cell? ⟨b, 0, none⟩ = some (.int .i64 0) := by rw [hb.cell]; rfl
    go_enter Try.func32, Try.ntmps32
    go_wp2
    go_ret
    exact ⟨rfl, rfl⟩
theorem jo_len {w : World} {v : Value} (h : NoneAt w v) : Calls Try.prog 21 #[v] w fun e w' => e = .returned (.int .i64 0) ∧ w' = w := by
  go_enter Try.func21, Try.ntmps21
  go_wp2_with fail
  refine (jo_none h).mono ?_
  rintro e w' ⟨rfl, rfl⟩
  go_wp2
  go_ret
  exact ⟨rfl, rfl⟩
theorem jo_tick {w : World} {v : Value} (h : NoneAt w v) : Calls Try.prog 24 #[v] w fun e w' => e = .returned (.tuple #[]) ∧ Below w.heap.size w w' := by
  have h1 := Lib.hid (h.alloc (.cells #[v] 34))
  have hK := Blk.new w 34 #[v] 0 0 (Or.inl (Nat.le_refl _))
  have c : (w.alloc (.cells #[v] 34)).cell? ⟨w.heap.size, 0, none⟩ = some v := by rw [hK.cell]; rfl
  have HB := Lib.hid ((Below.refl _ w).alloc (Nat.le_refl _) (.cells #[v] 34))
  have hv : (∃ a, v = .pointer a) := by
    rcases h with rfl | ⟨b, rfl, hb⟩
    · exact ⟨_, rfl⟩
    · exact ⟨_, rfl⟩
  obtain ⟨a, rfl⟩ := hv
  clear h hK
  go_enter Try.func24, Try.ntmps24
  go_upto_region 1 with fail
  generalize World.alloc _ _ = w1 at h1 c HB ⊢
  go_wp2_with fail
  refine (jo_none h1.out).mono ?_
  rintro e w' ⟨rfl, rfl⟩
  go_wp2
  exact bodyPost_ret (results_none Try.results24 _ _ _) rfl ⟨rfl, HB.out⟩

set_option maxHeartbeats 1000000 in
theorem jo_put {w : World} {v : Value} (h : NoneAt w v) (C : Array Value) : Calls Try.prog 19 #[v, .agg C] w fun e w' => e = .returned (.tuple #[.agg (pkC 0 zz4 zz4 0 0 0 false []), .bool false]) ∧ Below w.heap.size w w' := by
  have h1 := Lib.hid ((h.alloc (.cells C 25)).alloc (.cells pk0 25))
  have HB := Lib.hid (((Below.refl _ w).alloc (Nat.le_refl _) (.cells C 25)).alloc (by simp) (.cells pk0 25))
  have hK : Blk ((w.alloc (.cells C 25)).alloc (.cells pk0 25)) (w.heap.size + 1) 25 pk0 := by
    have := Blk.new (w.alloc (.cells C 25)) 25 pk0 0 0 (Or.inl (Nat.le_refl _))
    rw [size_alloc] at this
    exact this
  have HK := Lib.hid hK
  rw [pk0_lit] at h1 HB HK
  clear h hK
  go_enter Try.func19, Try.ntmps19
  go_upto_region 1 with fail
  generalize World.alloc _ _ = w1 at h1 HB HK ⊢
  go_wp2_with fail
  refine (jo_none h1.out).mono ?_
  rintro e w' ⟨rfl, rfl⟩
  have HK2 : RowKit.Hid (Blk w' (w.heap.size + 1) 25 pk0) := HK.out
  go_wp2_with (refine wpList_store_blk rfl 25 _ _ rfl (w.heap.size + 1) pk0 rfl rfl pk0 25 HK2.out rfl size_pk rfl ?_)
  exact bodyPost_ret (results_blk Try.results19 _ _ (w.heap.size + 1) _ _ _ rfl (HK2.out.setAll rfl) Try.underlying25 rfl size_pk) rfl ⟨rfl, Below.setCells HB.out (by omega) _ _⟩

set_option maxHeartbeats 1000000 in
theorem ipv4Nobody_walk (id : Int) (f t : List UInt8) (pr tt a : Int) (mo : Bool) (d : List UInt8) (hL : PkL f t) (hd : d.length ≤ 9223372036854775807) (w : World) :
    Calls Try.prog 10 #[.agg (pkC id f t pr tt a mo d)] w fun e w' => e = .returned (.bool true) ∧ Below w.heap.size w w' := by
  have HB := Lib.hid ((Below.refl w.heap.size w).alloc (Nat.le_refl _) (.cells (pkC id f t pr tt a mo d) 25))
  have HK := Lib.hid (Blk.new w 25 (pkC id f t pr tt a mo d) 0 0 (Or.inl (Nat.le_refl _)))
  have HL := Lib.hid hL
  by_cases h1 : 3000 < (d.length : Int)
  · go_enter Try.func10, Try.ntmps10
    go_wp2_with fail
    refine (pkawake_any _).mono ?_
    rintro e w1 ⟨rfl, hb1⟩
    have HB1 := Lib.hid (Below.step HB.out hb1)
    have c13 := (pk_at (HK.out.step hb1) HL.out).d
    clear hb1
    go_wp2
    go_ret
    exact ⟨rfl, HB1.out⟩
  have h1' : (d.length : Int) ≤ 3000 := by omega
  go_enter Try.func10, Try.ntmps10
  go_wp2_with fail
  refine (pkawake_any _).mono ?_
  rintro e w1 ⟨rfl, hb1⟩
  have HB1 := Lib.hid (Below.step HB.out hb1)
  have HK1 := Lib.hid (HK.out.step hb1)
  have c13 := (pk_at HK1.out HL.out).d
  clear hb1
  go_upto_region 7 with fail
  have HJ2 := Lib.hid (Blk.new w1 56 jo0 0 0 (Or.inl (Nat.le_refl _)))
  have HB2 := Lib.hid (HB1.out.alloc HB1.out.size (.cells jo0 56))
  have HK2 := Lib.hid (HK1.out.alloc (.cells jo0 56))
  have e0 : jo0 = #[.int .i64 0, .slice none 0 0] := rfl
  rw [e0] at HJ2 HB2 HK2
  have HN2 : RowKit.Hid (NoneAt (w1.alloc (.cells #[.int .i64 0, .slice none 0 0] 56)) (.pointer (some ⟨w1.heap.size, 0, none⟩))) := Or.inr ⟨_, rfl, HJ2.out⟩
  generalize World.alloc _ _ = w2 at HN2 HB2 HK2 ⊢
  generalize w1.heap.size = g at HN2 ⊢
  clear HJ2 e0 c13
  go_wp2_with fail
  refine (jo_tick (none_nil _)).mono ?_
  rintro e w3 ⟨rfl, hb⟩
  have HB3 := Lib.hid (Below.step HB2.out hb)
  have HK3 := Lib.hid (HK2.out.step hb)
  have HN3 := Lib.hid (HN2.out.step hb)
  clear hb
  go_wp2_with fail
  refine (jo_tick HN3.out).mono ?_
  rintro e w4 ⟨rfl, hb⟩
  have HB4 := Lib.hid (Below.step HB3.out hb)
  have HK4 := Lib.hid (HK3.out.step hb)
  have HN4 := Lib.hid (HN3.out.step hb)
  have dl := HK4.out.ld_pk HL.out
  clear hb
  go_wp2_with fail
  refine (jo_put (none_nil _) _).mono ?_
  rintro e v5 ⟨rfl, hb⟩
  have HB5 := Lib.hid (Below.step HB4.out hb)
  have HK5 := Lib.hid (HK4.out.step hb)
  have HN5 := Lib.hid (HN4.out.step hb)
  have hlt := HK5.out.lt
  have HNw := Lib.hid (Blk.new v5 25 pk0 0 0 (Or.inl (Nat.le_refl _)))
  have HK6 := Lib.hid ((HK5.out.alloc (.cells pk0 25)).setCells_other v5.heap.size 0 (pkC 0 zz4 zz4 0 0 0 false []).toList (by omega))
  have HB6 := Lib.hid (Below.setCells (HB5.out.alloc HB5.out.size (.cells pk0 25)) HB5.out.size 0 (pkC 0 zz4 zz4 0 0 0 false []).toList)
  have HN6 : RowKit.Hid (NoneAt ((v5.alloc (.cells pk0 25)).setCells v5.heap.size 0 (pkC 0 zz4 zz4 0 0 0 false []).toList) (.pointer (some ⟨g, 0, none⟩))) := by
    rcases HN5.out with h | ⟨b, h, hbk⟩
    · cases h
    · have hbl := hbk.lt
      exact Or.inr ⟨b, h, (hbk.alloc _).setCells_other v5.heap.size 0 _ (by omega)⟩
  rw [pk0_lit] at HK6 HB6 HN6
  have tokA : True := trivial
  clear hb dl hlt
  go_wp2_with (have _t := tokA; refine wp_st_pk rfl _ _ rfl v5.heap.size 0 zz4 zz4 0 0 0 false [] pk0_L HNw rfl rfl ?_; clear tokA HNw; generalize World.setCells _ _ _ _ = W6 at HK6 HB6 HN6 ⊢; have dl := HK6.out.ld_pk HL.out)
  refine (jo_put HN6.out _).mono ?_
  rintro e v7 ⟨rfl, hb⟩
  have HB7 := Lib.hid (Below.step HB6.out hb)
  have HN7 := Lib.hid (HN6.out.step hb)
  have HNw := Lib.hid (Blk.new v7 25 pk0 0 0 (Or.inl (Nat.le_refl _)))
  have HB8 := Lib.hid (Below.setCells (HB7.out.alloc HB7.out.size (.cells pk0 25)) HB7.out.size 0 (pkC 0 zz4 zz4 0 0 0 false []).toList)
  have HN8 : RowKit.Hid (NoneAt ((v7.alloc (.cells pk0 25)).setCells v7.heap.size 0 (pkC 0 zz4 zz4 0 0 0 false []).toList) (.pointer (some ⟨g, 0, none⟩))) := by
    rcases HN7.out with h | ⟨b, h, hbk⟩
    · cases h
    · have hbl := hbk.lt
      exact Or.inr ⟨b, h, (hbk.alloc _).setCells_other v7.heap.size 0 _ (by omega)⟩
  rw [pk0_lit] at HB8 HN8
  have tokB : True := trivial
  clear hb dl
  go_wp2_with (have _t := tokB; refine wp_st_pk rfl _ _ rfl v7.heap.size 0 zz4 zz4 0 0 0 false [] pk0_L HNw rfl rfl ?_; clear tokB HNw; generalize World.setCells _ _ _ _ = W8 at HB8 HN8 ⊢)
  refine (jo_len (none_nil _)).mono ?_
  rintro e w9 ⟨rfl, rfl⟩
  go_wp2_with fail
  refine (jo_len HN8.out).mono ?_
  rintro e w9 ⟨rfl, rfl⟩
  go_wp2
  go_ret
  exact ⟨rfl, HB8.out⟩
end Go.Proofs.Yticchchcobjpdaa
