/- The walk through the law ArpCaches: it answers true. Condition: a slice that a memory can hold. -/
import Derived.Test.YtpnhopgfoakgnaaAcN
import Derived.Test.YtpnhopgfoakgnaaAcK
import Derived.Deep.CutBlock
namespace Go.Proofs.Ytpnhopgfoakgnaa
set_option linter.unusedVariables false
set_option linter.unusedSimpArgs false
set_option maxRecDepth 100000
open Go.RowKit Go.Proofs Go.Shelf
theorem ld_act (v : Value) : Instr.loadAt 75 v = Ld 75 v := rfl
theorem size_act : (Try.prog.info? 75).map (·.size) = some 11 := by kernel_rfl
theorem run_lda {w : World} {b o : Nat} {d : Int} {x : En} (hr : w.rangeAt b o (actE d x)) : (Ld 75 (.pointer (some ⟨b, o, none⟩))).run Try.prog w = .ok (.agg (actE d x).toArray) w := by
  unfold Ld
  have hl := run_loadVar_mid (P := Try.prog) w b o 75 (actE d x) _ hr Try.underlying75 rfl (by rw [actE_len]; exact size_act)
  simp only [Instr.loadAt, Instr.sureAddr, Sem.run_bind, Sem.run_pure, Result.andThen_ok, hl]
theorem act_ip (d : Int) (x : En) (j : Nat) (h : j < x.ip.length) : ((actE d x).toArray)[1 + j]? = some (ubv x.ip[j]) := by
  have hj : j < 4 := h
  obtain rfl | rfl | rfl | rfl : j = 0 ∨ j = 1 ∨ j = 2 ∨ j = 3 := by omega
  all_goals rfl
theorem act_mac (d : Int) (x : En) (j : Nat) (h : j < x.mac.length) : ((actE d x).toArray)[5 + j]? = some (ubv x.mac[j]) := by
  have hj : j < 6 := h
  obtain rfl | rfl | rfl | rfl | rfl | rfl : j = 0 ∨ j = 1 ∨ j = 2 ∨ j = 3 ∨ j = 4 ∨ j = 5 := by omega
  all_goals rfl
theorem act_do (d : Int) (x : En) : ((actE d x).toArray)[0]? = some (.int .i64 d) := rfl
abbrev zact : Array Value := #[.int .i64 0, .int .u8 0, .int .u8 0, .int .u8 0, .int .u8 0, .int .u8 0, .int .u8 0, .int .u8 0, .int .u8 0, .int .u8 0, .int .u8 0]
/-- the reference's row, apart from the cache, its row, and the block that holds the reference's cache -/
structure RSep (w : World) (B cb : Nat) (v vr : Value) (L : List En) (p7 : Nat) : Prop where
  own : w.ownsRow B 79 11 vr L.length (flatE L)
  n1 : vr.ownBlock ≠ some cb
  n2 : ∀ g, vr.ownBlock = some g → v.ownBlock ≠ some g
  n3 : vr.ownBlock ≠ some p7
theorem RSep.step {w w' : World} {B cb : Nat} {v vr : Value} {L : List En} {p7 : Nat} (h : RSep w B cb v vr L p7) (hb : Below w.heap.size w w') : RSep w' B cb v vr L p7 :=
  ⟨h.own.kept (show w.grownBy w' none from ⟨hb.os, hb.tape, hb.output, hb.size, fun q hq _ => hb.block q hq⟩) (by cases Value.ownBlock _ <;> simp), h.n1, h.n2, h.n3⟩
theorem RSep.ap {w w' : World} {B cb : Nat} {v v' vr : Value} {L : List En} {p7 : Nat} (h : RSep w B cb v vr L p7) (ha : Ap cb v.ownBlock w w') (hv : v'.ownBlock = v.ownBlock ∨ ∃ g', v'.ownBlock = some g' ∧ w.heap.size ≤ g') : RSep w' B cb v' vr L p7 := by
  have hn2 : ∀ g, vr.ownBlock = some g → v'.ownBlock ≠ some g := fun g hg e => by
    rcases hv with h1 | ⟨g', h1, h2⟩
    · exact h.n2 g hg (by rw [← h1]; exact e)
    · rw [h1] at e
      have h3 := Option.some.inj e
      have h4 := (h.own.lt g hg).2
      omega
  refine ⟨⟨h.own.1, ?_⟩, h.n1, hn2, h.n3⟩
  rcases h.own.2 with h1 | ⟨g, cap, cur, h1, h2, h3, h4⟩
  · exact Or.inl h1
  · have hg : vr.ownBlock = some g := by rw [h1]; rfl
    refine Or.inr ⟨g, cap, cur, h1, h2, ?_, h4⟩
    rw [ha.block g (h.own.lt g hg).2 (fun e => h.n1 (by rw [hg, e])) (fun e => h.n2 g hg e.symm)]
    exact h3
theorem RSep.new {w w' : World} {B0 B cb : Nat} {lim : Int} {v vr : Value} {L0 L : List En} {p7 : Nat} (hc : CaAt w B0 cb lim v L0) (hp : p7 < w.heap.size) (hB : B ≤ w.heap.size) (ho : w'.ownsRow w.heap.size 79 11 vr L.length (flatE L)) : RSep w' B cb v vr L p7 :=
  ⟨own_weakE ho hB, fun e => by have := (ho.lt cb e).1; have := hc.blk.lt; omega, fun g hg e => by have := (ho.lt g hg).1; have := (hc.lt g e).2.1; omega, fun e => by have := (ho.lt p7 e).1; omega⟩
theorem CaAt.other {w : World} {B cb : Nat} {lim : Int} {v : Value} {L : List En} (h : CaAt w B cb lim v L) {p : Nat} (o : Nat) (vs : List Value) (hp : p ≠ cb) (ho : v.ownBlock ≠ some p) : CaAt (w.setCells p o vs) B cb lim v L :=
  ⟨h.blk.setCells_other p o vs hp.symm, h.ge, h.own.kept (own_grow w p vs) (by cases hb : v.ownBlock with
    | none => exact Or.inl rfl
    | some k => exact Or.inr (fun e => ho (by rw [hb]; exact e))), h.ne⟩
theorem Sep.other {w : World} {cb : Nat} {v : Value} {b : Nat} {T : TypeId} {C : Array Value} (h : Sep w cb v b T C) {p : Nat} (o : Nat) (vs : List Value) (hp : b ≠ p) : Sep (w.setCells p o vs) cb v b T C :=
  ⟨h.blk.setCells_other p o vs hp, h.ne, h.own⟩
theorem run_mac_same (w : World) (x : List UInt8) (h : x.length = 6) : (binOp .neq 38 (arrV x) (arrV x)).run Try.prog w = .ok (.bool false) w := by
  rw [run_neq_struct, run_eq_arr w 9998 38 6 Try.underlying38 x x h h]
  have e : (x == x) = true := beq_iff_eq.2 rfl
  rw [e]
  rfl
theorem RSep.put {w : World} {B cb : Nat} {v vr : Value} {L : List En} {p7 : Nat} (h : RSep w B cb v vr L p7) (o : Nat) (vs : List Value) : RSep (w.setCells p7 o vs) B cb v vr L p7 :=
  ⟨h.own.kept (own_grow w p7 vs) (by cases hb : vr.ownBlock with
    | none => exact Or.inl rfl
    | some k => exact Or.inr (fun e => h.n3 (by rw [hb]; exact e))), h.n1, h.n2, h.n3⟩
attribute [local go_sem ↓] ld_arp ld_mac ld_ip ld_caQ ld_act

set_option maxHeartbeats 8000000 in
theorem arpCaches_walk (lim : Int) (A : Option Addr) (n c : Nat) (hn : n ≤ maxLen) (w : World) (hA : AtA w w.heap.size A n) :
    Calls Try.prog 12 #[.int .i64 lim, .slice A n c] w fun e w' => e = .returned (.bool true) ∧ Below w.heap.size w w' := by
  have hn2 : n ≤ 9223372036854775807 := hn
  have HA := Lib.hid hA
  clear hA hn
  go_enter Try.func12, Try.ntmps12
  go_wp2_with fail
  refine (arawake_any _).mono ?_
  rintro e w1 ⟨rfl, hb⟩
  have HB1 := Lib.hid hb
  clear hb
  by_cases h300 : 300 < n
  · have h3 : (300 : Int) < n := by omega
    go_wp2
    go_ret
    exact ⟨rfl, HB1.out⟩
  have h3 : ¬ (300 : Int) < n := by omega
  by_cases hbad : lim < 1 ∨ 1048576 < lim
  · go_wp2_with fail
    refine (new_bad lim hbad _).mono ?_
    rintro e w2 ⟨rfl, hw⟩
    rw [hw]
    clear hw
    by_cases h1 : lim < 1
    · clear hbad
      go_wp2
      go_ret
      exact ⟨rfl, HB1.out⟩
    · have h2 : 1048576 < lim := by omega
      clear hbad
      go_wp2
      go_ret
      exact ⟨rfl, HB1.out⟩
  have h1 : ¬ lim < 1 := fun h => hbad (Or.inl h)
  have h2 : ¬ 1048576 < lim := fun h => hbad (Or.inr h)
  clear hbad
  have hl1 : 1 ≤ lim := by omega
  have hl2 : lim ≤ 1048576 := by omega
  go_wp2_with fail
  refine (new_any lim hl1 hl2 _).mono ?_
  rintro e w2 ⟨rfl, hca, hb⟩
  have HCA := Lib.hid hca
  have HLO : Hid (w.heap.size ≤ w1.heap.size) := Lib.hid HB1.out.size
  have HB2 := Lib.hid (Below.step HB1.out hb)
  have hw2s := Lib.hid HB2.out.size
  clear hca hb HB1
  generalize w1.heap.size = cb at HCA HLO ⊢
  have tokA : True := trivial
  go_upto_region 11 with (have _t := tokA; refine wpList_store_blk rfl 73 _ _ rfl w2.heap.size #[.slice none 0 0, .int .i64 lim] rfl rfl #[.slice none 0 0, .int .i64 0] 73 (Blk.new w2 73 #[.slice none 0 0, .int .i64 0] 0 0 (Or.inl (Nat.le_refl _))) rfl size_caQ rfl ?_; clear tokA)
  have hal := (Below.refl w2.heap.size w2).alloc (Nat.le_refl _) (.cells #[.slice none 0 0, .int .i64 0] 73)
  have HBX := Lib.hid (Below.setCells hal (Nat.le_refl _) 0 (#[.slice none 0 0, .int .i64 lim] : Array Value).toList)
  have HCA3 := Lib.hid (HCA.out.step HBX.out)
  have HP7 := Lib.hid (Sep.new HCA.out ((Blk.new w2 73 #[.slice none 0 0, .int .i64 0] 0 0 (Or.inl (Nat.le_refl _))).setAll (cs := #[.slice none 0 0, .int .i64 lim]) rfl) (Nat.le_refl _))
  have HB3 := Lib.hid (Below.step HB2.out HBX.out)
  clear hal HBX HCA HB2
  generalize World.setCells _ _ _ _ = w3 at HCA3 HP7 HB3 ⊢
  have HPW : Hid (w.heap.size ≤ w2.heap.size) := Lib.hid hw2s.out
  generalize w2.heap.size = p7 at HP7 HPW ⊢
  go_wp2
  go_loopw [8] (fun j wr => ∃ (k : Nat) (v vr : Value) (L : List En), k ≤ n ∧ j = .int .i64 k ∧ CaAt wr cb cb lim v L ∧ Good lim L ∧ Sep wr cb v p7 73 #[vr, .int .i64 lim] ∧ RSep wr w.heap.size cb v vr L p7 ∧ Below w.heap.size w wr) (fun j _ => 300 - (intOf j).toNat)
  case atStart => exact ⟨0, _, _, [], by omega, rfl, HCA3.out, good_nil lim, HP7.out, ⟨⟨rfl, Or.inl ⟨rfl, rfl⟩⟩, by simp [Value.ownBlock], fun g hg => by simp [Value.ownBlock] at hg, by simp [Value.ownBlock]⟩, HB3.out⟩
  case round =>
    obtain ⟨k, v, vr, L, hk, rfl, hca, hgd, hp7, hrs, hb⟩ := hrel
    have HCA := Lib.hid hca
    have HGD := Lib.hid hgd
    have HP := Lib.hid hp7
    have HRS := Lib.hid hrs
    have HB := Lib.hid hb
    clear hca hgd hp7 hrs hb HCA3 HP7 HB3
    by_cases hlt : k < n
    · have hlt' : (k : Int) < (n : Int) := by omega
      have hk0 : 0 ≤ (k : Int) := by omega
      obtain ⟨b, o, rfl, hbw, hacts⟩ := (HA.out.below HB.out) (by omega)
      obtain ⟨d, x, hr⟩ := hacts k hlt
      have lda := run_lda hr
      clear hr hacts
      have tokA : True := trivial
      go_upto_region 15 with (have _t := tokA; refine wpList_store_blk rfl 75 _ _ rfl wr.heap.size (actE d x).toArray rfl rfl zact 75 (Blk.new wr 75 zact 0 0 (Or.inl (Nat.le_refl _))) rfl size_act (actE_one d x) ?_; clear tokA)
      have hal := (Below.refl wr.heap.size wr).alloc (Nat.le_refl _) (.cells zact 75)
      have HBX := Lib.hid (Below.setCells hal (Nat.le_refl _) 0 (actE d x).toArray.toList)
      have HPA := Lib.hid (Sep.new HCA.out ((Blk.new wr 75 zact 0 0 (Or.inl (Nat.le_refl _))).setAll (cs := (actE d x).toArray) rfl) (Nat.le_refl _))
      have HCA5 := Lib.hid (HCA.out.step HBX.out)
      have HP5 := Lib.hid (HP.out.step HBX.out)
      have HRS5 := Lib.hid (HRS.out.step HBX.out)
      have HB5 := Lib.hid (Below.step HB.out HBX.out)
      have HP0 := Lib.hid HP.out.blk.lt
      clear hal HBX HCA HP HRS HB lda
      generalize World.setCells _ _ _ _ = w5 at HPA HCA5 HP5 HRS5 HB5 ⊢
      have HPP : Hid (p7 ≠ wr.heap.size) := Lib.hid (Nat.ne_of_lt HP0.out)
      generalize wr.heap.size = pa at HPA HPP ⊢
      have cd := HPA.out.blk.cell 0
      rw [act_do] at cd
      go_upto_block 2 with fail
      clear cd
      go_cut [54] from 55 to 74 (fun u wx => u = .int .i64 d ∧ ∃ (v vr : Value) (L : List En), CaAt wx cb cb lim v L ∧ Good lim L ∧ Sep wx cb v p7 73 #[vr, .int .i64 lim] ∧ RSep wx w.heap.size cb v vr L p7 ∧ Sep wx cb v pa 75 (actE d x).toArray ∧ Below w.heap.size w wx)
      case first =>
        by_cases hd0 : d = 0
        · subst hd0
          have l1 := HPA.out.blk.ld_row 40 4 1 Try.underlying40 size_ip x.ip rfl (act_ip _ x)
          have l2 := HPA.out.blk.ld_row 38 6 5 Try.underlying38 size_mac x.mac rfl (act_mac _ x)
          go_wp2_with fail
          refine (learn_any HCA5.out hl1 HGD.out x.ip x.mac rfl rfl).mono ?_
          rintro e w6 ⟨rfl, v6, hca, hap, hv⟩
          have HCA6 := Lib.hid hca
          have HP6 := Lib.hid (HP5.out.ap hap hv)
          have HRS6 := Lib.hid (HRS5.out.ap hap hv)
          have HPA6 := Lib.hid (HPA.out.ap hap hv)
          have HB6 := Lib.hid (HB5.out.trans ((CaAt.bel HCA5.out (Nat.le_of_lt HCA5.out.blk.lt) hap).mono HLO.out))
          clear hca hap hv l1 l2 HCA5 HP5 HRS5 HPA HB5
          have ldc := run_ldc HP6.out.blk
          have l1 := HPA6.out.blk.ld_row 40 4 1 Try.underlying40 size_ip x.ip rfl (act_ip _ x)
          have l2 := HPA6.out.blk.ld_row 38 6 5 Try.underlying38 size_mac x.mac rfl (act_mac _ x)
          go_wp2_with fail
          refine (refLearn_any (lim := lim) HRS6.out.own HGD.out.len x.ip x.mac rfl rfl).mono ?_
          rintro e w7 ⟨vr7, rfl, ho, hb⟩
          obtain ⟨A7, c7, hv7⟩ := own_sl ho
          subst hv7
          have HCA7 := Lib.hid ((HCA6.out.step hb).other (p := p7) 0 [.slice A7 (learnV L x.ip x.mac).length c7, .int .i64 lim] HP6.out.ne HP6.out.own)
          have HP7 := Lib.hid (HP6.out.step hb)
          have HRS7 : Hid (RSep (w7.setCells p7 0 [.slice A7 (learnV L x.ip x.mac).length c7, .int .i64 lim]) w.heap.size cb v6 (.slice A7 (learnV L x.ip x.mac).length c7) (learnV L x.ip x.mac) p7) := Lib.hid ((RSep.new HCA6.out HP6.out.blk.lt HB6.out.size ho).put 0 _)
          have HPA7 := Lib.hid ((HPA6.out.step hb).other 0 [.slice A7 (learnV L x.ip x.mac).length c7, .int .i64 lim] HPP.out.symm)
          have HP8 : Hid (Sep (w7.setCells p7 0 [.slice A7 (learnV L x.ip x.mac).length c7, .int .i64 lim]) cb v6 p7 73 #[.slice A7 (learnV L x.ip x.mac).length c7, .int .i64 lim]) := Lib.hid ⟨HP7.out.blk.setAll (cs := #[.slice A7 (learnV L x.ip x.mac).length c7, .int .i64 lim]) rfl, HP7.out.ne, HP7.out.own⟩
          have HB8 := Lib.hid (Below.setCells (Below.step HB6.out hb) HPW.out 0 [.slice A7 (learnV L x.ip x.mac).length c7, .int .i64 lim])
          have HGL := Lib.hid (good_learn HGD.out hl1 (i := x.ip) (m := x.mac) rfl)
          clear ho hb ldc l1 l2 HCA6 HP6 HRS6 HPA6 HB6
          go_wp2_with (refine wpList_store_blk rfl 73 _ _ rfl p7 #[.slice A7 (learnV L x.ip x.mac).length c7, .int .i64 lim] rfl rfl #[vr, .int .i64 lim] 73 HP7.out.blk rfl size_caQ rfl ?_)
          go_meet
          exact ⟨rfl, v6, _, _, HCA7.out, HGL.out, HP8.out, HRS7.out, HPA7.out, HB8.out⟩
        by_cases hd1 : d = 1
        · subst hd1
          have l1 := HPA.out.blk.ld_row 40 4 1 Try.underlying40 size_ip x.ip rfl (act_ip _ x)
          have l2 := HPA.out.blk.ld_row 38 6 5 Try.underlying38 size_mac x.mac rfl (act_mac _ x)
          go_wp2_with fail
          refine (tick_any HCA5.out hl1 hl2 HGD.out).mono ?_
          rintro e w6 ⟨rfl, v6, hca, hap, hv⟩
          have hv := (Or.inl hv : v6.ownBlock = v.ownBlock ∨ ∃ g', v6.ownBlock = some g' ∧ w5.heap.size ≤ g')
          have HCA6 := Lib.hid hca
          have HP6 := Lib.hid (HP5.out.ap hap hv)
          have HRS6 := Lib.hid (HRS5.out.ap hap hv)
          have HPA6 := Lib.hid (HPA.out.ap hap hv)
          have HB6 := Lib.hid (HB5.out.trans ((CaAt.bel HCA5.out (Nat.le_of_lt HCA5.out.blk.lt) hap).mono HLO.out))
          clear hca hap hv l1 l2 HCA5 HP5 HRS5 HPA HB5
          have ldc := run_ldc HP6.out.blk
          have l1 := HPA6.out.blk.ld_row 40 4 1 Try.underlying40 size_ip x.ip rfl (act_ip _ x)
          have l2 := HPA6.out.blk.ld_row 38 6 5 Try.underlying38 size_mac x.mac rfl (act_mac _ x)
          go_wp2_with fail
          refine (refTick_any (lim := lim) HRS6.out.own hl2 HGD.out).mono ?_
          rintro e w7 ⟨vr7, rfl, ho, hb⟩
          obtain ⟨A7, c7, hv7⟩ := own_sl ho
          subst hv7
          have HCA7 := Lib.hid ((HCA6.out.step hb).other (p := p7) 0 [.slice A7 (tickV lim L).length c7, .int .i64 lim] HP6.out.ne HP6.out.own)
          have HP7 := Lib.hid (HP6.out.step hb)
          have HRS7 : Hid (RSep (w7.setCells p7 0 [.slice A7 (tickV lim L).length c7, .int .i64 lim]) w.heap.size cb v6 (.slice A7 (tickV lim L).length c7) (tickV lim L) p7) := Lib.hid ((RSep.new HCA6.out HP6.out.blk.lt HB6.out.size ho).put 0 _)
          have HPA7 := Lib.hid ((HPA6.out.step hb).other 0 [.slice A7 (tickV lim L).length c7, .int .i64 lim] HPP.out.symm)
          have HP8 : Hid (Sep (w7.setCells p7 0 [.slice A7 (tickV lim L).length c7, .int .i64 lim]) cb v6 p7 73 #[.slice A7 (tickV lim L).length c7, .int .i64 lim]) := Lib.hid ⟨HP7.out.blk.setAll (cs := #[.slice A7 (tickV lim L).length c7, .int .i64 lim]) rfl, HP7.out.ne, HP7.out.own⟩
          have HB8 := Lib.hid (Below.setCells (Below.step HB6.out hb) HPW.out 0 [.slice A7 (tickV lim L).length c7, .int .i64 lim])
          have HGL := Lib.hid (good_tick HGD.out)
          clear ho hb ldc l1 l2 HCA6 HP6 HRS6 HPA6 HB6
          go_wp2_with (refine wpList_store_blk rfl 73 _ _ rfl p7 #[.slice A7 (tickV lim L).length c7, .int .i64 lim] rfl rfl #[vr, .int .i64 lim] 73 HP7.out.blk rfl size_caQ rfl ?_)
          go_meet
          exact ⟨rfl, v6, _, _, HCA7.out, HGL.out, HP8.out, HRS7.out, HPA7.out, HB8.out⟩
        have hd0b : (d == 0) = false := beq_eq_false_iff_ne.2 hd0
        have hd1b : (d == 1) = false := beq_eq_false_iff_ne.2 hd1
        go_wp2_with fail
        go_meet
        exact ⟨rfl, v, vr, L, HCA5.out, HGD.out, HP5.out, HRS5.out, HPA.out, HB5.out⟩
      case rest =>
        obtain ⟨rfl, v2, vr2, M, hca, hgd, hp7, hrs, hpa, hb⟩ := hcut
        obtain ⟨A2, c2, hv2⟩ := own_sl hrs.own
        subst hv2
        clear HCA5 HP5 HRS5 HPA HB5 HGD
        have HG := Lib.hid hgd
        have HC0 := Lib.hid hca
        have HP0 := Lib.hid hp7
        have HR0 := Lib.hid hrs
        have HA0 := Lib.hid hpa
        have HB0 := Lib.hid hb
        clear hca hgd hp7 hrs hpa hb
        have l1 := HA0.out.blk.ld_row 40 4 1 Try.underlying40 size_ip x.ip rfl (act_ip _ x)
        go_wp2_with fail
        refine (find_any HC0.out hl1 HG.out.len x.ip rfl).mono ?_
        rintro e w6 ⟨rfl, hb⟩
        clear l1
        have HC6 := Lib.hid (HC0.out.step hb)
        have HP6 := Lib.hid (HP0.out.step hb)
        have HR6 := Lib.hid (HR0.out.step hb)
        have HA6 := Lib.hid (HA0.out.step hb)
        have HB6 := Lib.hid (Below.step HB0.out hb)
        clear HC0 HP0 HR0 HA0 HB0
        clear hb
        obtain ⟨fa, hfa⟩ : ∃ q, q = (findV M x.ip).1 := ⟨_, rfl⟩
        obtain ⟨fb, hfb⟩ : ∃ q, q = (findV M x.ip).2 := ⟨_, rfl⟩
        have HLF : Hid (fa.length = 6) := Lib.hid (by rw [hfa]; exact find_len _ _)
        have RF := Lib.hid (fun w h => refFind_any (w := w) (B := w.heap.size) (lim := lim) (v := .slice A2 M.length c2) (L := M) h HG.out.len x.ip rfl)
        have RF2 : Hid (∀ W, W.ownsRow w.heap.size 79 11 (.slice A2 M.length c2) M.length (flatE M) → Calls Try.prog 37 #[.agg #[.slice A2 M.length c2, .int .i64 lim], arrV x.ip] W fun e w' => e = .returned (.tuple #[arrV fa, .bool fb]) ∧ Below W.heap.size W w') := Lib.hid (fun W h => by rw [hfa, hfb]; exact refFind_any h HG.out.len x.ip rfl)
        rw [← hfa, ← hfb]
        clear hfa hfb RF
        have tokA : True := trivial
        go_upto_region 23 with (have _t := tokA; refine wpList_store_blk rfl 38 _ _ rfl w6.heap.size (fa.map ubv).toArray rfl rfl mac0 38 (Blk.new w6 38 mac0 0 0 (Or.inl (Nat.le_refl _))) (by rw [six_size HLF.out]; rfl) (by rw [six_size HLF.out]; exact size_mac) (ubv_one _) ?_; clear tokA)
        have hal := (Below.refl w6.heap.size w6).alloc (Nat.le_refl _) (.cells mac0 38)
        have HBX := Lib.hid (Below.setCells hal (Nat.le_refl _) 0 ((fa.map ubv).toArray).toList)
        have HX7 := Lib.hid (Sep.new HC6.out ((Blk.new w6 38 mac0 0 0 (Or.inl (Nat.le_refl _))).setAll (cs := (fa.map ubv).toArray) (by rw [six_size HLF.out]; rfl)) (Nat.le_refl _))
        have HC7 := Lib.hid (HC6.out.step HBX.out)
        have HP7 := Lib.hid (HP6.out.step HBX.out)
        have HR7 := Lib.hid (HR6.out.step HBX.out)
        have HA7 := Lib.hid (HA6.out.step HBX.out)
        have HB7 := Lib.hid (Below.step HB6.out HBX.out)
        clear HC6 HP6 HR6 HA6 HB6
        clear hal HBX
        generalize World.setCells _ _ _ _ = w7 at HC7 HP7 HR7 HA7 HB7 HX7 ⊢
        generalize w6.heap.size = p10 at HX7 ⊢
        have ldc := run_ldc HP7.out.blk
        have l1 := HA7.out.blk.ld_row 40 4 1 Try.underlying40 size_ip x.ip rfl (act_ip _ x)
        go_wp2_with fail
        refine (RF2.out _ HR7.out.own).mono ?_
        rintro e w8 ⟨rfl, hb⟩
        clear ldc l1
        have HC8 := Lib.hid (HC7.out.step hb)
        have HP8 := Lib.hid (HP7.out.step hb)
        have HR8 := Lib.hid (HR7.out.step hb)
        have HA8 := Lib.hid (HA7.out.step hb)
        have HB8 := Lib.hid (Below.step HB7.out hb)
        clear HC7 HP7 HR7 HA7 HB7
        have HX8 := Lib.hid (HX7.out.step hb)
        clear hb HX7 RF2
        have tokA : True := trivial
        go_upto_region 24 with (have _t := tokA; refine wpList_store_blk rfl 38 _ _ rfl w8.heap.size (fa.map ubv).toArray rfl rfl mac0 38 (Blk.new w8 38 mac0 0 0 (Or.inl (Nat.le_refl _))) (by rw [six_size HLF.out]; rfl) (by rw [six_size HLF.out]; exact size_mac) (ubv_one _) ?_; clear tokA)
        have hal := (Below.refl w8.heap.size w8).alloc (Nat.le_refl _) (.cells mac0 38)
        have HBX := Lib.hid (Below.setCells hal (Nat.le_refl _) 0 ((fa.map ubv).toArray).toList)
        have HY9 := Lib.hid ((Blk.new w8 38 mac0 0 0 (Or.inl (Nat.le_refl _))).setAll (cs := (fa.map ubv).toArray) (by rw [six_size HLF.out]; rfl))
        have HX9 := Lib.hid (HX8.out.step HBX.out)
        have HC9 := Lib.hid (HC8.out.step HBX.out)
        have HP9 := Lib.hid (HP8.out.step HBX.out)
        have HR9 := Lib.hid (HR8.out.step HBX.out)
        have HA9 := Lib.hid (HA8.out.step HBX.out)
        have HB9 := Lib.hid (Below.step HB8.out HBX.out)
        clear HC8 HP8 HR8 HA8 HB8
        clear hal HBX HX8
        generalize World.setCells _ _ _ _ = w9 at HC9 HP9 HR9 HA9 HB9 HX9 HY9 ⊢
        generalize w8.heap.size = p12 at HY9 ⊢
        have HL1 := Lib.hid (HX9.out.blk.drew.ld_arr6 HLF.out)
        have HL2 := Lib.hid (HY9.out.drew.ld_arr6 HLF.out)
        have HL3 : Hid (w9.drew.cell? ⟨p7, 0, none⟩ = some (.slice A2 M.length c2)) := Lib.hid (HP9.out.blk.drew.cell 0)
        have HCD := Lib.hid (HC9.out.step (Below.drewN (Below.refl _ w9) 1))
        have hq1 := fun w => run_mac_same w fa HLF.out
        have hml : (M.length : Int) ≤ 8 := by have := HG.out.len; omega
        go_cut [104] from 89 to 103 (fun u wx => u = .bool false ∧ Below w9.heap.size w9 wx)
        case first =>
          refine wp_region_noPanic ?_
          refine wp_region_held_drew (S := (fun w' => (Ld 38 (.pointer (some ⟨p10, 0, none⟩))).run Try.prog w' = .ok (arrV fa) w' ∧ (Ld 38 (.pointer (some ⟨p12, 0, none⟩))).run Try.prog w' = .ok (arrV fa) w' ∧ w'.cell? ⟨p7, 0, none⟩ = some (.slice A2 M.length c2))) (by kernel_rfl) (by first | exact ⟨HL1.out, HL2.out, HL3.out⟩) (fun hHeld => ?_)
          refine wpAnyH_take (i := 0) (oi := _) (v := ?vr1n0_1) rfl (by kernel_rfl) (by kernel_rfl) (by kernel_rfl) (fun _ _ _ h => h) (Or.inl ⟨by kernel_rfl, ?hr1n0_1⟩) hHeld ?_
          case hr1n0_1 => (intro w hSw; (try dsimp only at hSw); go_simp; try (with_reducible rfl))
          try simp only [List.getElem_toArray, List.getElem_cons_zero, List.getElem_cons_succ, Act.put, List.setIfInBounds_toArray, List.set_cons_zero, List.set_cons_succ]
          refine wpAnyH_take (i := 1) (oi := _) (v := ?vr1n1_2) rfl (by kernel_rfl) (by kernel_rfl) (by kernel_rfl) (fun _ _ _ h => h) (Or.inl ⟨by kernel_rfl, ?hr1n1_2⟩) hHeld ?_
          case hr1n1_2 => (intro w hSw; (try dsimp only at hSw); go_simp; try (with_reducible rfl))
          try simp only [List.getElem_toArray, List.getElem_cons_zero, List.getElem_cons_succ, Act.put, List.setIfInBounds_toArray, List.set_cons_zero, List.set_cons_succ]
          refine wpAnyH_take (i := 2) (oi := _) (v := ?vr1n2_3) rfl (by kernel_rfl) (by kernel_rfl) (by kernel_rfl) (fun _ _ _ h => h) (Or.inl ⟨by kernel_rfl, ?hr1n2_3⟩) hHeld ?_
          case hr1n2_3 => (intro w hSw; (try dsimp only at hSw); go_simp; try (with_reducible rfl))
          try simp only [List.getElem_toArray, List.getElem_cons_zero, List.getElem_cons_succ, Act.put, List.setIfInBounds_toArray, List.set_cons_zero, List.set_cons_succ]
          refine wpAnyH_take (i := 3) (oi := _) (v := ?vr1n3_4) rfl (by kernel_rfl) (by kernel_rfl) (by kernel_rfl) (fun _ _ _ h => h) (Or.inl ⟨by kernel_rfl, ?hr1n3_4⟩) hHeld ?_
          case hr1n3_4 => (intro w hSw; (try dsimp only at hSw); go_simp; try (with_reducible rfl))
          try simp only [List.getElem_toArray, List.getElem_cons_zero, List.getElem_cons_succ, Act.put, List.setIfInBounds_toArray, List.set_cons_zero, List.set_cons_succ]
          refine wpAnyH_take (i := 4) (oi := _) (v := ?vr1n4_5) rfl (by kernel_rfl) (by kernel_rfl) (by kernel_rfl) (fun _ _ _ h => h) (Or.inl ⟨by kernel_rfl, ?hr1n4_5⟩) hHeld ?_
          case hr1n4_5 => (intro w hSw; (try dsimp only at hSw); go_simp; try (with_reducible rfl))
          try simp only [List.getElem_toArray, List.getElem_cons_zero, List.getElem_cons_succ, Act.put, List.setIfInBounds_toArray, List.set_cons_zero, List.set_cons_succ]
          refine wpAnyH_take (i := 5) (oi := _) (v := ?vr1n5_6) rfl (by kernel_rfl) (by kernel_rfl) (by kernel_rfl) (fun _ _ _ h => h) (Or.inl ⟨by kernel_rfl, ?hr1n5_6⟩) hHeld ?_
          case hr1n5_6 => (intro w hSw; (try dsimp only at hSw); go_simp; try (with_reducible rfl))
          try simp only [List.getElem_toArray, List.getElem_cons_zero, List.getElem_cons_succ, Act.put, List.setIfInBounds_toArray, List.set_cons_zero, List.set_cons_succ]
          refine wpAnyH_take (i := 6) (oi := _) (v := ?vr1n6_7) rfl (by kernel_rfl) (by kernel_rfl) (by kernel_rfl) (fun _ _ _ h => h) (Or.inl ⟨by kernel_rfl, ?hr1n6_7⟩) hHeld ?_
          case hr1n6_7 => (intro w hSw; (try dsimp only at hSw); go_simp; try (with_reducible rfl))
          try simp only [List.getElem_toArray, List.getElem_cons_zero, List.getElem_cons_succ, Act.put, List.setIfInBounds_toArray, List.set_cons_zero, List.set_cons_succ]
          refine wpAnyH_take (i := 7) (oi := _) (v := ?vr1n7_8) rfl (by kernel_rfl) (by kernel_rfl) (by kernel_rfl) (fun _ _ _ h => h) (Or.inl ⟨by kernel_rfl, ?hr1n7_8⟩) hHeld ?_
          case hr1n7_8 => (intro w hSw; (try dsimp only at hSw); go_simp; try (with_reducible rfl))
          try simp only [List.getElem_toArray, List.getElem_cons_zero, List.getElem_cons_succ, Act.put, List.setIfInBounds_toArray, List.set_cons_zero, List.set_cons_succ]
          refine wpAnyH_take (i := 8) (oi := _) (v := ?vr1n8_9) rfl (by kernel_rfl) (by kernel_rfl) (by kernel_rfl) (fun _ _ _ h => h) (Or.inl ⟨by kernel_rfl, ?hr1n8_9⟩) hHeld ?_
          case hr1n8_9 => (intro w hSw; (try dsimp only at hSw); go_simp; try (with_reducible rfl))
          try simp only [List.getElem_toArray, List.getElem_cons_zero, List.getElem_cons_succ, Act.put, List.setIfInBounds_toArray, List.set_cons_zero, List.set_cons_succ]
          refine wpAnyH_take (i := 9) (oi := _) (v := ?vr1n9_10) rfl (by kernel_rfl) (by kernel_rfl) (by kernel_rfl) (fun _ _ _ h => h) (Or.inl ⟨by kernel_rfl, ?hr1n9_10⟩) hHeld ?_
          case hr1n9_10 => (intro w hSw; (try dsimp only at hSw); go_simp; try (with_reducible rfl))
          try simp only [List.getElem_toArray, List.getElem_cons_zero, List.getElem_cons_succ, Act.put, List.setIfInBounds_toArray, List.set_cons_zero, List.set_cons_succ]
          refine wpAnyH_take (i := 11) (oi := _) (v := ?vr1n11_11) rfl (by kernel_rfl) (by kernel_rfl) (by kernel_rfl) (fun _ _ _ h => h) (Or.inl ⟨by kernel_rfl, ?hr1n11_11⟩) hHeld ?_
          case hr1n11_11 => (intro w hSw; (try dsimp only at hSw); go_simp; try (with_reducible rfl))
          try simp only [List.getElem_toArray, List.getElem_cons_zero, List.getElem_cons_succ, Act.put, List.setIfInBounds_toArray, List.set_cons_zero, List.set_cons_succ]
          refine wpAnyH_take (i := 12) (oi := _) (v := ?vr1n12_12) rfl (by kernel_rfl) (by kernel_rfl) (by kernel_rfl) (fun _ _ _ h => h) (Or.inl ⟨by kernel_rfl, ?hr1n12_12⟩) hHeld ?_
          case hr1n12_12 => (intro w hSw; (try dsimp only at hSw); go_simp; try (with_reducible rfl))
          try simp only [List.getElem_toArray, List.getElem_cons_zero, List.getElem_cons_succ, Act.put, List.setIfInBounds_toArray, List.set_cons_zero, List.set_cons_succ]
          refine wpAnyH_take (i := 13) (oi := _) (v := ?vr1n13_13) rfl (by kernel_rfl) (by kernel_rfl) (by kernel_rfl) (fun _ _ _ h => h) (Or.inl ⟨by kernel_rfl, ?hr1n13_13⟩) hHeld ?_
          case hr1n13_13 => (intro w hSw; (try dsimp only at hSw); go_simp; try (with_reducible rfl))
          try simp only [List.getElem_toArray, List.getElem_cons_zero, List.getElem_cons_succ, Act.put, List.setIfInBounds_toArray, List.set_cons_zero, List.set_cons_succ]
          refine wpAnyH_ready (rs := [10]) (by kernel_rfl) (by simp) ?_
          refine AllReadyH.cons (o := _) rfl (fun K hK => ?_) AllReadyH.nil
          go_simp
          (go_at_call 33; refine (len_any HCD.out hl1).mono ?_; rintro e w99 ⟨rfl, hw⟩; rw [hw]; clear hw)
          refine hK.out _ _ ?_ (fun hHeld1 => ?_)
          · (first | exact ⟨HL1.out, HL2.out, HL3.out⟩)
          clear hHeld hK K
          try simp only [List.getElem_toArray, List.getElem_cons_zero, List.getElem_cons_succ, Act.put, List.setIfInBounds_toArray, List.set_cons_zero, List.set_cons_succ]
          refine wpAnyH_take (i := 14) (oi := _) (v := ?vr1n14_14) rfl (by kernel_rfl) (by kernel_rfl) (by kernel_rfl) (fun _ _ _ h => h) (Or.inl ⟨by kernel_rfl, ?hr1n14_14⟩) hHeld1 ?_
          case hr1n14_14 => (intro w hSw; (try dsimp only at hSw); go_simp; try (with_reducible rfl))
          try simp only [List.getElem_toArray, List.getElem_cons_zero, List.getElem_cons_succ, Act.put, List.setIfInBounds_toArray, List.set_cons_zero, List.set_cons_succ]
          refine wpAnyH_take (i := 15) (oi := _) (v := ?vr1n15_15) rfl (by kernel_rfl) (by kernel_rfl) (by kernel_rfl) (fun _ _ _ h => h) (Or.inl ⟨by kernel_rfl, ?hr1n15_15⟩) hHeld1 ?_
          case hr1n15_15 => (intro w hSw; (try dsimp only at hSw); go_simp; try (with_reducible rfl))
          try simp only [List.getElem_toArray, List.getElem_cons_zero, List.getElem_cons_succ, Act.put, List.setIfInBounds_toArray, List.set_cons_zero, List.set_cons_succ]
          refine wpAnyH_done (by kernel_rfl) ?_ _
          refine NoPanic.normal ?_
          go_wp2_with fail
          go_meet
          exact ⟨rfl, Below.drewN (Below.refl _ w9) 1⟩
        case rest =>
          obtain ⟨rfl, hb⟩ := hcut
          clear HL1 HL2 HL3 HCD hq1 HX9 HY9
          have HC10 := Lib.hid (HC9.out.step hb)
          have HP10 := Lib.hid (HP9.out.step hb)
          have HR10 := Lib.hid (HR9.out.step hb)
          have HA10 := Lib.hid (HA9.out.step hb)
          have HB10 := Lib.hid (Below.step HB9.out hb)
          clear HC9 HP9 HR9 HA9 HB9
          clear hb
          obtain ⟨wi, rfl⟩ : ∃ wo : World, wo = wc := ⟨_, rfl⟩
          go_wp2
          go_loopw [14] (fun j wr => ∃ q : Nat, q ≤ M.length ∧ j = .int .i64 q ∧ Below wi.heap.size wi wr) (fun j _ => 8 - (intOf j).toNat)
          case atStart => exact ⟨0, by omega, rfl, Below.refl _ _⟩
          case round =>
            obtain ⟨q, hq, rfl, hb⟩ := hrel
            have HCr := Lib.hid (HC10.out.step hb)
            have HPr := Lib.hid (HP10.out.step hb)
            have HRr := Lib.hid (HR10.out.step hb)
            have HBr := Lib.hid hb
            clear hb
            have hm8 := HG.out.len
            by_cases hlq : q < M.length
            · have hlq' : (q : Int) < (M.length : Int) := by omega
              have hq0 : 0 ≤ (q : Int) := by omega
              obtain ⟨g, rfl⟩ : ∃ g, A2 = some ⟨g, 0, none⟩ := by
                rcases (own_es HRr.out.own).2 with ⟨e1, _⟩ | ⟨g, c', e, _⟩
                · rw [e1] at hlq; simp at hlq
                · injection e with e1 e2 e3
                  exact ⟨g, e1⟩
              have HCE : Hid (∀ W, RSep W w.heap.size cb v2 (.slice (some ⟨g, 0, none⟩) M.length c2) M p7 → ∀ i v, (enE M[q])[i]? = some v → W.cell? ⟨g, q * 11 + i, none⟩ = some v) := Lib.hid (fun W h i v hv => by
                rcases (own_es h.own).2 with ⟨e1, _⟩ | ⟨g', c', e, _, _, _, _, hcell⟩
                · rw [e1] at hlq; simp at hlq
                · injection e with e1 e2 e3
                  injection e1 with e1
                  injection e1 with e1
                  subst e1
                  have := hcell q hlq i v hv
                  rw [Nat.zero_add] at this
                  exact this)
              have FD := Lib.hid (find_any HCr.out hl1 hm8 M[q].ip rfl)
              rw [find_at HG.out hlq] at FD
              have l0 := HPr.out.blk.cell 0
              have l1 := ld_ipE (HCE.out _ HRr.out)
              have HML : Hid (M[q].mac.length = 6) := Lib.hid rfl
              have HLM : Hid (∀ W, RSep W w.heap.size cb v2 (.slice (some ⟨g, 0, none⟩) M.length c2) M p7 → (Ld 38 (.pointer (some ⟨g, q * 11 + 4, none⟩))).run Try.prog W = .ok (arrV M[q].mac) W) := Lib.hid (fun W h => ld_macE (HCE.out W h))
              clear HCE
              generalize M[q].ip = xi at FD l1
              generalize M[q].mac = xm at FD HML HLM
              go_wp2_with fail
              refine FD.out.mono ?_
              rintro e w20 ⟨rfl, hb⟩
              have HPs := Lib.hid (HPr.out.step hb)
              have HRs := Lib.hid (HRr.out.step hb)
              have HBs := Lib.hid (Below.step HBr.out hb)
              clear hb l0 l1 HCr HPr HRr HBr FD
              have tokA : True := trivial
              go_upto_region 30 with (have _t := tokA; refine wpList_store_blk rfl 38 _ _ rfl w20.heap.size (xm.map ubv).toArray rfl rfl mac0 38 (Blk.new w20 38 mac0 0 0 (Or.inl (Nat.le_refl _))) (by rw [six_size HML.out]; rfl) (by rw [six_size HML.out]; exact size_mac) (ubv_one _) ?_; clear tokA)
              have hal := (Below.refl w20.heap.size w20).alloc (Nat.le_refl _) (.cells mac0 38)
              have HBX := Lib.hid (Below.setCells hal (Nat.le_refl _) 0 ((xm.map ubv).toArray).toList)
              have HYt := Lib.hid ((Blk.new w20 38 mac0 0 0 (Or.inl (Nat.le_refl _))).setAll (cs := (xm.map ubv).toArray) (by rw [six_size HML.out]; rfl))
              have HPt := Lib.hid (HPs.out.step HBX.out)
              have HRt := Lib.hid (HRs.out.step HBX.out)
              have HBt := Lib.hid (Below.step HBs.out HBX.out)
              clear hal HBX HPs HRs HBs
              generalize World.setCells _ _ _ _ = w21 at HYt HPt HRt HBt ⊢
              generalize w20.heap.size = p15 at HYt ⊢
              have HL1 := Lib.hid (HYt.out.drew.ld_arr6 HML.out)
              have HL2 : Hid (w21.drew.cell? ⟨p7, 0, none⟩ = some (.slice (some ⟨g, 0, none⟩) M.length c2)) := Lib.hid (HPt.out.blk.drew.cell 0)
              have HL3 := Lib.hid (HLM.out _ (HRt.out.step (Below.drewN (Below.refl _ w21) 1)))
              have HBu : Hid (Below wi.heap.size wi w21.drew) := Lib.hid HBt.out.drew
              have hq1 := fun w => run_mac_same w xm HML.out
              clear HYt HPt HRt HBt HLM
              go_cut [134] from 123 to 133 (fun u wx => u = .bool false ∧ Below wi.heap.size wi wx)
              case first =>
                refine wp_region_noPanic ?_
                refine wp_region_held_drew (S := (fun w' => (Ld 38 (.pointer (some ⟨p15, 0, none⟩))).run Try.prog w' = .ok (arrV xm) w' ∧ w'.cell? ⟨p7, 0, none⟩ = some (.slice (some ⟨g, 0, none⟩) M.length c2) ∧ (Ld 38 (.pointer (some ⟨g, q * 11 + 4, none⟩))).run Try.prog w' = .ok (arrV xm) w')) (by kernel_rfl) (by first | exact ⟨HL1.out, HL2.out, HL3.out⟩) (fun hHeld => ?_)
                refine wpAnyH_take (i := 0) (oi := _) (v := ?vr2n0_16) rfl (by kernel_rfl) (by kernel_rfl) (by kernel_rfl) (fun _ _ _ h => h) (Or.inl ⟨by kernel_rfl, ?hr2n0_16⟩) hHeld ?_
                case hr2n0_16 => (intro w hSw; (try dsimp only at hSw); go_simp; try (with_reducible rfl))
                try simp only [List.getElem_toArray, List.getElem_cons_zero, List.getElem_cons_succ, Act.put, List.setIfInBounds_toArray, List.set_cons_zero, List.set_cons_succ]
                refine wpAnyH_take (i := 1) (oi := _) (v := ?vr2n1_17) rfl (by kernel_rfl) (by kernel_rfl) (by kernel_rfl) (fun _ _ _ h => h) (Or.inl ⟨by kernel_rfl, ?hr2n1_17⟩) hHeld ?_
                case hr2n1_17 => (intro w hSw; (try dsimp only at hSw); go_simp; try (with_reducible rfl))
                try simp only [List.getElem_toArray, List.getElem_cons_zero, List.getElem_cons_succ, Act.put, List.setIfInBounds_toArray, List.set_cons_zero, List.set_cons_succ]
                refine wpAnyH_take (i := 2) (oi := _) (v := ?vr2n2_18) rfl (by kernel_rfl) (by kernel_rfl) (by kernel_rfl) (fun _ _ _ h => h) (Or.inl ⟨by kernel_rfl, ?hr2n2_18⟩) hHeld ?_
                case hr2n2_18 => (intro w hSw; (try dsimp only at hSw); go_simp; try (with_reducible rfl))
                try simp only [List.getElem_toArray, List.getElem_cons_zero, List.getElem_cons_succ, Act.put, List.setIfInBounds_toArray, List.set_cons_zero, List.set_cons_succ]
                refine wpAnyH_take (i := 3) (oi := _) (v := ?vr2n3_19) rfl (by kernel_rfl) (by kernel_rfl) (by kernel_rfl) (fun _ _ _ h => h) (Or.inl ⟨by kernel_rfl, ?hr2n3_19⟩) hHeld ?_
                case hr2n3_19 => (intro w hSw; (try dsimp only at hSw); go_simp; try (with_reducible rfl))
                try simp only [List.getElem_toArray, List.getElem_cons_zero, List.getElem_cons_succ, Act.put, List.setIfInBounds_toArray, List.set_cons_zero, List.set_cons_succ]
                refine wpAnyH_take (i := 4) (oi := _) (v := ?vr2n4_20) rfl (by kernel_rfl) (by kernel_rfl) (by kernel_rfl) (fun _ _ _ h => h) (Or.inl ⟨by kernel_rfl, ?hr2n4_20⟩) hHeld ?_
                case hr2n4_20 => (intro w hSw; (try dsimp only at hSw); go_simp; try (with_reducible rfl))
                try simp only [List.getElem_toArray, List.getElem_cons_zero, List.getElem_cons_succ, Act.put, List.setIfInBounds_toArray, List.set_cons_zero, List.set_cons_succ]
                refine wpAnyH_take (i := 5) (oi := _) (v := ?vr2n5_21) rfl (by kernel_rfl) (by kernel_rfl) (by kernel_rfl) (fun _ _ _ h => h) (Or.inl ⟨by kernel_rfl, ?hr2n5_21⟩) hHeld ?_
                case hr2n5_21 => (intro w hSw; (try dsimp only at hSw); go_simp; try (with_reducible rfl))
                try simp only [List.getElem_toArray, List.getElem_cons_zero, List.getElem_cons_succ, Act.put, List.setIfInBounds_toArray, List.set_cons_zero, List.set_cons_succ]
                refine wpAnyH_take (i := 6) (oi := _) (v := ?vr2n6_22) rfl (by kernel_rfl) (by kernel_rfl) (by kernel_rfl) (fun _ _ _ h => h) (Or.inl ⟨by kernel_rfl, ?hr2n6_22⟩) hHeld ?_
                case hr2n6_22 => (intro w hSw; (try dsimp only at hSw); go_simp; try (with_reducible rfl))
                try simp only [List.getElem_toArray, List.getElem_cons_zero, List.getElem_cons_succ, Act.put, List.setIfInBounds_toArray, List.set_cons_zero, List.set_cons_succ]
                refine wpAnyH_take (i := 7) (oi := _) (v := ?vr2n7_23) rfl (by kernel_rfl) (by kernel_rfl) (by kernel_rfl) (fun _ _ _ h => h) (Or.inl ⟨by kernel_rfl, ?hr2n7_23⟩) hHeld ?_
                case hr2n7_23 => (intro w hSw; (try dsimp only at hSw); go_simp; try (with_reducible rfl))
                try simp only [List.getElem_toArray, List.getElem_cons_zero, List.getElem_cons_succ, Act.put, List.setIfInBounds_toArray, List.set_cons_zero, List.set_cons_succ]
                refine wpAnyH_take (i := 8) (oi := _) (v := ?vr2n8_24) rfl (by kernel_rfl) (by kernel_rfl) (by kernel_rfl) (fun _ _ _ h => h) (Or.inl ⟨by kernel_rfl, ?hr2n8_24⟩) hHeld ?_
                case hr2n8_24 => (intro w hSw; (try dsimp only at hSw); go_simp; try (with_reducible rfl))
                try simp only [List.getElem_toArray, List.getElem_cons_zero, List.getElem_cons_succ, Act.put, List.setIfInBounds_toArray, List.set_cons_zero, List.set_cons_succ]
                refine wpAnyH_take (i := 9) (oi := _) (v := ?vr2n9_25) rfl (by kernel_rfl) (by kernel_rfl) (by kernel_rfl) (fun _ _ _ h => h) (Or.inl ⟨by kernel_rfl, ?hr2n9_25⟩) hHeld ?_
                case hr2n9_25 => (intro w hSw; (try dsimp only at hSw); go_simp; try (with_reducible rfl))
                try simp only [List.getElem_toArray, List.getElem_cons_zero, List.getElem_cons_succ, Act.put, List.setIfInBounds_toArray, List.set_cons_zero, List.set_cons_succ]
                refine wpAnyH_take (i := 10) (oi := _) (v := ?vr2n10_26) rfl (by kernel_rfl) (by kernel_rfl) (by kernel_rfl) (fun _ _ _ h => h) (Or.inl ⟨by kernel_rfl, ?hr2n10_26⟩) hHeld ?_
                case hr2n10_26 => (intro w hSw; (try dsimp only at hSw); go_simp; try (with_reducible rfl))
                try simp only [List.getElem_toArray, List.getElem_cons_zero, List.getElem_cons_succ, Act.put, List.setIfInBounds_toArray, List.set_cons_zero, List.set_cons_succ]
                refine wpAnyH_take (i := 11) (oi := _) (v := ?vr2n11_27) rfl (by kernel_rfl) (by kernel_rfl) (by kernel_rfl) (fun _ _ _ h => h) (Or.inl ⟨by kernel_rfl, ?hr2n11_27⟩) hHeld ?_
                case hr2n11_27 => (intro w hSw; (try dsimp only at hSw); go_simp; try (with_reducible rfl))
                try simp only [List.getElem_toArray, List.getElem_cons_zero, List.getElem_cons_succ, Act.put, List.setIfInBounds_toArray, List.set_cons_zero, List.set_cons_succ]
                refine wpAnyH_done (by kernel_rfl) ?_ _
                refine NoPanic.normal ?_
                go_wp2_with fail
                go_meet
                exact ⟨rfl, HBu.out⟩
              case rest =>
                obtain ⟨rfl, hb⟩ := hcut
                have HBv := Lib.hid hb
                clear hb HL1 HL2 HL3 hq1 HBu
                go_wp2
                go_roundw
                case rel => exact ⟨q + 1, by omega, by go_num, HBv.out⟩
                case measure => simp [intOf] <;> omega
            · have hlq' : ¬ (q : Int) < (M.length : Int) := by omega
              have l0 := HPr.out.blk.cell 0
              have HBo := Lib.hid (Below.step HB10.out HBr.out)
              go_wp2
              go_roundw
              case rel => exact ⟨k + 1, v2, _, M, by omega, by go_num, HCr.out, HG.out, HPr.out, HRr.out, HBo.out⟩
              case measure => simp [intOf] <;> omega
    · have hlt' : ¬ (k : Int) < (n : Int) := by omega
      go_wp2
      go_ret
      exact ⟨rfl, HB.out⟩
end Go.Proofs.Ytpnhopgfoakgnaa
