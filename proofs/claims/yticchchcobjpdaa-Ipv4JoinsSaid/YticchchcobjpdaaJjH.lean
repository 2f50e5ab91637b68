/- The acts of the law Ipv4Joins, as they come in; whether they are too many; the joiner and the document's, side by side. No condition beyond what each lemma says. -/
import Derived.Test.YticchchcobjpdaaJjG
import Derived.Test.YticchchcobjpdaaJiP
namespace Go.Proofs.Yticchchcobjpdaa
set_option linter.unusedVariables false
set_option linter.unusedSimpArgs false
set_option maxRecDepth 100000
open Go.RowKit Go.ChangeShapes Go.WideShapes Go.Deep Go.Proofs Go.Shelf Go.Lib Go.Sort
attribute [local go_sem ↓] Go.wp_at_zero Go.wp_at_succ
attribute [local go_sem ↓] ld_pk ld_ip ld_wh
/-- an act's cells -/
def actJ (d : Int) (p : Pkt) : List Value := .int .i64 d :: encP p
theorem actJ_len (d : Int) (p : Pkt) : (actJ d p).length = 15 := by unfold actJ; rw [List.length_cons, encP_len]
/-- n acts lie from an address on, below block B -/
def AtJ (w : World) (B : Nat) (A : Option Addr) (n : Nat) (ds : Nat → Int) (ps : Nat → Pkt) : Prop :=
  0 < n → ∃ b o, A = some ⟨b, o, none⟩ ∧ b < B ∧ ∀ i, i < n → w.rangeAt b (o + i * 15) (actJ (ds i) (ps i))
theorem AtJ.below {w w' : World} {B : Nat} {A : Option Addr} {n : Nat} {ds : Nat → Int} {ps : Nat → Pkt} (h : AtJ w B A n ds ps) (hb : Below B w w') : AtJ w' B A n ds ps := by
  intro hn
  obtain ⟨b, o, hA, hlt, hi⟩ := h hn
  exact ⟨b, o, hA, hlt, fun i him j v hv => (hb.cell (p := ⟨b, o + i * 15 + j, none⟩) hlt).trans (hi i him j v hv)⟩
theorem AtJ.at {w : World} {B : Nat} {A : Option Addr} {n : Nat} {ds : Nat → Int} {ps : Nat → Pkt} (h : AtJ w B A n ds ps) {i : Nat} (hi : i < n) : ∃ b o, A = some ⟨b, o, none⟩ ∧ b < B ∧ ∀ W, Below B w W → W.cell? ⟨b, o + i * 15, none⟩ = some (.int .i64 (ds i)) ∧ (Ld 25 (.pointer (some ⟨b, o + i * 15 + 1, none⟩))).run Try.prog W = .ok (.agg (ps i).c) W ∧ W.cell? ⟨b, o + i * 15 + 14, none⟩ = some (.string ⟨(ps i).d.toArray⟩) := by
  obtain ⟨b, o, hA, hlt, hall⟩ := h (by omega)
  refine ⟨b, o, hA, hlt, fun W hb => ?_⟩
  have hr : W.rangeAt b (o + i * 15) (actJ (ds i) (ps i)) := fun j v hv => (hb.cell (p := ⟨b, o + i * 15 + j, none⟩) hlt).trans (hall i hi j v hv)
  refine ⟨hr 0 _ rfl, ?_, ?_⟩
  · have hp : W.rangeAt b (o + i * 15 + 1) (encP (ps i)) := fun j v hv => by
      have := hr (j + 1) v (by unfold actJ; rw [List.getElem?_cons_succ]; exact hv)
      rw [show o + i * 15 + (j + 1) = o + i * 15 + 1 + j by omega] at this
      exact this
    unfold Ld
    have hl := run_loadVar_mid (P := Try.prog) W b (o + i * 15 + 1) 25 (ps i).c.toList _ hp Try.underlying25 rfl (by rw [encP_len]; exact size_pk)
    simp only [Array.toArray_toList] at hl
    simp only [Instr.loadAt, Instr.sureAddr, Sem.run_bind, Sem.run_pure, Result.andThen_ok, hl]
  · exact hr 14 _ (by unfold actJ; rw [List.getElem?_cons_succ]; exact (enc_cells (ps i)).2.2)
theorem wf_u8J {n : Int} (h : (Lit.int .u8 n).wf = true) : 0 ≤ n ∧ n ≤ 255 := by
  simpa [Lit.wf, IntKind.has, IntKind.min, IntKind.max, IntKind.signed, IntKind.bits] using h
theorem wf_i64J {n : Int} (h : (Lit.int .i64 n).wf = true) : -9223372036854775808 ≤ n ∧ n ≤ 9223372036854775807 := by
  simpa [Lit.wf, IntKind.has, IntKind.min, IntKind.max, IntKind.signed, IntKind.bits] using h
theorem add_of_addJ (a : Addr) (i j : Nat) : (a.add i).add j = a.add (i + j) := by
  unfold Addr.add
  by_cases hi : i = 0 <;> by_cases hj : j = 0 <;> simp [hi, hj, Nat.add_assoc]
theorem bytes_ofJ : ∀ cs : List Value, (∀ x ∈ cs, ∃ b : UInt8, x = ubv b) → ∃ l : List UInt8, cs = l.map ubv
  | [], _ => ⟨[], rfl⟩
  | c :: r, h => by
    obtain ⟨b, hb⟩ := h c (by simp)
    obtain ⟨l, hl⟩ := bytes_ofJ r (fun x hx => h x (by simp [hx]))
    exact ⟨b :: l, by rw [hb, hl]; rfl⟩
theorem bytes_arrJ {H : Type} {enc : TypeId × Value → H} {w : World} {fuel n : Nat} {t : TypeId} {cs : List Value} {x : DataW H × List MemPlace} (hu : Try.prog.underlying t = some (.array n 5)) (hn : Try.prog.cellsOf t = n)
    (h : DataW.trod enc Try.prog w 0 (fun _ => true) true fuel t cs = some x) : ∃ l : List UInt8, cs = l.map ubv ∧ l.length = n := by
  obtain ⟨xs, m, _, _, hcl, hxl, hg⟩ := DataW.trod_array hu h
  have k1 : Try.prog.cellsOf 5 = 1 := by kernel_rfl
  rw [hn] at hcl
  obtain ⟨l, hl⟩ := bytes_ofJ cs (fun v hv => by
    obtain ⟨i, hi, rfl⟩ := List.mem_iff_getElem.1 hv
    have g := hg i (by omega)
    rw [k1, Nat.mul_one, List.drop_eq_getElem_cons hi, List.take_succ_cons, List.take_zero, List.getElem?_eq_getElem (by omega)] at g
    obtain ⟨v0, e0, _, w0⟩ := DataW.trod_int Try.underlying5 g
    obtain ⟨h0, h1⟩ := wf_u8J w0
    simp only [List.cons.injEq, and_true] at e0
    refine ⟨UInt8.ofNat v0.toNat, ?_⟩
    rw [e0]
    have e : (UInt8.ofNat v0.toNat).toNat = v0.toNat := by rw [UInt8.toNat_ofNat']; exact Nat.mod_eq_of_lt (by omega)
    show Value.int .u8 v0 = .int .u8 ((UInt8.ofNat v0.toNat).toNat : Int)
    rw [e]
    congr 1
    omega)
  refine ⟨l, hl, ?_⟩
  have := congrArg List.length hl
  simp at this
  omega
/-- a packet in memory -/
theorem pkt_of {H : Type} {enc : TypeId × Value → H} {w : World} {fuel : Nat} {cs : List Value} {x : DataW H × List MemPlace} (hl : cs.length = 14)
    (h : DataW.trod enc Try.prog w 0 (fun _ => true) true fuel 25 cs = some x) : ∃ p : Pkt, cs = encP p ∧ Pin p := by
  obtain ⟨xs, n', _, _, _, hxl, hg⟩ := DataW.trod_struct Try.underlying25 h
  have hxl' : xs.length = 8 := hxl
  have k1 : Try.prog.cellsOf 3 = 1 := by kernel_rfl
  have k2 : Try.prog.cellsOf 23 = 4 := by kernel_rfl
  have k3 : Try.prog.cellsOf 4 = 1 := by kernel_rfl
  have k4 : Try.prog.cellsOf 9 = 1 := by kernel_rfl
  match cs, hl with
  | [c0, c1, c2, c3, c4, c5, c6, c7, c8, c9, c10, c11, c12, c13], _ =>
    have g0 : DataW.trod enc Try.prog w 0 (fun _ => true) true n' 3 (([c0, c1, c2, c3, c4, c5, c6, c7, c8, c9, c10, c11, c12, c13].drop 0).take (Try.prog.cellsOf 3)) = xs[0]? := hg 0 _ rfl
    have g1 : DataW.trod enc Try.prog w 0 (fun _ => true) true n' 23 (([c0, c1, c2, c3, c4, c5, c6, c7, c8, c9, c10, c11, c12, c13].drop 1).take (Try.prog.cellsOf 23)) = xs[1]? := hg 1 _ rfl
    have g2 : DataW.trod enc Try.prog w 0 (fun _ => true) true n' 23 (([c0, c1, c2, c3, c4, c5, c6, c7, c8, c9, c10, c11, c12, c13].drop 5).take (Try.prog.cellsOf 23)) = xs[2]? := hg 2 _ rfl
    have g3 : DataW.trod enc Try.prog w 0 (fun _ => true) true n' 3 (([c0, c1, c2, c3, c4, c5, c6, c7, c8, c9, c10, c11, c12, c13].drop 9).take (Try.prog.cellsOf 3)) = xs[3]? := hg 3 _ rfl
    have g4 : DataW.trod enc Try.prog w 0 (fun _ => true) true n' 3 (([c0, c1, c2, c3, c4, c5, c6, c7, c8, c9, c10, c11, c12, c13].drop 10).take (Try.prog.cellsOf 3)) = xs[4]? := hg 4 _ rfl
    have g5 : DataW.trod enc Try.prog w 0 (fun _ => true) true n' 3 (([c0, c1, c2, c3, c4, c5, c6, c7, c8, c9, c10, c11, c12, c13].drop 11).take (Try.prog.cellsOf 3)) = xs[5]? := hg 5 _ rfl
    have g6 : DataW.trod enc Try.prog w 0 (fun _ => true) true n' 4 (([c0, c1, c2, c3, c4, c5, c6, c7, c8, c9, c10, c11, c12, c13].drop 12).take (Try.prog.cellsOf 4)) = xs[6]? := hg 6 _ rfl
    have g7 : DataW.trod enc Try.prog w 0 (fun _ => true) true n' 9 (([c0, c1, c2, c3, c4, c5, c6, c7, c8, c9, c10, c11, c12, c13].drop 13).take (Try.prog.cellsOf 9)) = xs[7]? := hg 7 _ rfl
    rw [k1, List.getElem?_eq_getElem (by omega)] at g0 g3 g4 g5
    rw [k2, List.getElem?_eq_getElem (by omega)] at g1 g2
    rw [k3, List.getElem?_eq_getElem (by omega)] at g6
    rw [k4, List.getElem?_eq_getElem (by omega)] at g7
    obtain ⟨i0, e0, _, b0⟩ := DataW.trod_int Try.underlying3 g0
    obtain ⟨i3, e3, _, b3⟩ := DataW.trod_int Try.underlying3 g3
    obtain ⟨i4, e4, _, b4⟩ := DataW.trod_int Try.underlying3 g4
    obtain ⟨i5, e5, _, b5⟩ := DataW.trod_int Try.underlying3 g5
    obtain ⟨l1, e1, hl1⟩ := bytes_arrJ Try.underlying23 k2 g1
    obtain ⟨l2, e2, hl2⟩ := bytes_arrJ Try.underlying23 k2 g2
    obtain ⟨b6, e6, _⟩ := DataW.trod_bool Try.underlying4 g6
    obtain ⟨s7, e7, _, hs⟩ := DataW.trod_string Try.underlying9 g7
    simp only [List.drop_zero, List.drop_succ_cons, List.take_succ_cons, List.take_zero, List.cons.injEq, and_true] at e0 e1 e2 e3 e4 e5 e6 e7
    refine ⟨⟨i0, l1, l2, i3, i4, i5, b6, s7.data.toList, ⟨hl1, hl2⟩⟩, ?_, ⟨wf_i64J b0, wf_i64J b3, wf_i64J b4, wf_i64J b5, ?_⟩⟩
    · show _ = (pkC i0 l1 l2 i3 i4 i5 b6 s7.data.toList).toList
      unfold pkC
      rw [List.toList_toArray, List.map_append, ← e1, ← e2, e0, e3, e4, e5, e6, e7]
      rfl
    · have h63 : s7.size ≤ 9223372036854775807 := hs
      show s7.data.toList.length ≤ _
      rw [Array.length_toList]
      exact h63
theorem cells_actJ : Try.prog.cellsOf 64 = 15 := by kernel_rfl
/-- the acts of an argument -/
theorem actsJ_of {H : Type} {enc : TypeId × Value → H} {w : World} {v : Value} {d : DataW H} {p : List MemPlace} {r : Reach} {base : Nat} (hv : Value.okWide Try.prog w r base 58 v)
    (h : DataW.Trod enc Try.prog w 0 (fun _ => true) true 58 v d p) :
    ∃ (A : Option Addr) (n c : Nat) (ds : Nat → Int) (ps : Nat → Pkt), v = .slice A n c ∧ n ≤ maxLen ∧ AtJ w w.heap.size A n ds ps ∧ ∀ i, i < n → Pin (ps i) := by
  obtain ⟨A0, n0, c0, rfl⟩ : ∃ A n c, v = .slice A n c := okWide_slice Try.underlying58 hv
  obtain ⟨fuel, hf⟩ := h
  rcases open_slice Try.underlying58 hf with ⟨h0, _⟩ | ⟨a, len, cap, m, n, D, Pl, hcs, hb, hl, hm, hmm, hx, hi⟩
  · obtain ⟨rfl, rfl, rfl⟩ : A0 = none ∧ n0 = 0 ∧ c0 = 0 := by simpa [Value.cells] using h0
    exact ⟨none, 0, 0, fun _ => 0, fun _ => pkt0, rfl, by simp [maxLen], fun h => absurd h (by omega), fun i h => absurd h (by omega)⟩
  · have hq : A0 = some a ∧ n0 = len ∧ c0 = cap := by simpa [Value.cells] using hcs
    obtain ⟨hq1, hq2, hq3⟩ := hq
    subst hq1
    subst hq2
    subst hq3
    have hml : n0 ≤ m := by rw [hmm]; simp; omega
    by_cases hn0 : n0 = 0
    · exact ⟨some a, n0, c0, fun _ => 0, fun _ => pkt0, rfl, by omega, fun h => absurd h (by omega), fun i h => absurd h (by omega)⟩
    have hsp : a.spot = none := by
      obtain ⟨cs', hc, _⟩ := hi 0 (by omega)
      rw [cells_actJ] at hc
      obtain ⟨_, hcl, hat⟩ := World.cells?_some hc
      have h0 := hat 0 (by omega)
      rw [Nat.zero_mul, add_of_addJ, Nat.add_zero] at h0
      have ha : a.add 0 = a := by unfold Addr.add; simp
      rw [ha, List.getElem?_eq_getElem (by omega)] at h0
      unfold World.cell? at h0
      split at h0
      · split at h0
        · cases h0
        · rename_i hns; simpa using hns
      · cases h0
    obtain ⟨b, o, sp⟩ := a
    obtain rfl : sp = none := hsp
    have each : ∀ i, i < n0 → ∃ (d : Int) (q : Pkt), w.rangeAt b (o + i * 15) (actJ d q) ∧ Pin q := by
      intro i him
      obtain ⟨cs', hc, ht'⟩ := hi i (by omega)
      rw [cells_actJ] at hc
      obtain ⟨_, hcl, hat⟩ := World.cells?_some hc
      obtain ⟨xs, n', _, _, _, hxl, hg⟩ := DataW.trod_struct Try.underlying64 ht'
      have hxl' : xs.length = 2 := hxl
      have k1 : Try.prog.cellsOf 3 = 1 := by kernel_rfl
      have k2 : Try.prog.cellsOf 25 = 14 := by kernel_rfl
      have g0 : DataW.trod enc Try.prog w 0 (fun _ => true) true n' 3 ((cs'.drop 0).take (Try.prog.cellsOf 3)) = xs[0]? := hg 0 _ rfl
      have g1 : DataW.trod enc Try.prog w 0 (fun _ => true) true n' 25 ((cs'.drop 1).take (Try.prog.cellsOf 25)) = xs[1]? := hg 1 _ rfl
      rw [k1, List.getElem?_eq_getElem (by omega)] at g0
      rw [k2, List.getElem?_eq_getElem (by omega)] at g1
      obtain ⟨d0, e0, _, _⟩ := DataW.trod_int Try.underlying3 g0
      obtain ⟨q, e1, hq⟩ := pkt_of (by rw [List.length_take, List.length_drop]; omega) g1
      have hcs : cs' = actJ d0 q := by
        unfold actJ
        rw [← e1]
        have h0 : cs'.take 1 = [.int .i64 d0] := by rw [← e0, List.drop_zero]
        have h1 : cs' = cs'.take 1 ++ (cs'.drop 1).take 14 := by
          rw [List.take_of_length_le (l := cs'.drop 1) (by rw [List.length_drop]; omega), List.take_append_drop]
        rw [h0] at h1
        exact h1
      refine ⟨d0, q, fun j v hv => ?_, hq⟩
      rw [← hcs] at hv
      have hj : j < 15 := by
        have := (List.getElem?_eq_some_iff.1 hv).1
        omega
      have h2 := hat j hj
      rw [add_of_addJ, addr_add] at h2
      rw [show o + i * 15 + j = o + (i * 15 + j) by omega, h2]
      exact hv
    refine ⟨some ⟨b, o, none⟩, n0, c0, fun i => if h : i < n0 then Classical.choose (each i h) else 0, fun i => if h : i < n0 then Classical.choose (Classical.choose_spec (each i h)) else pkt0, rfl, by omega, fun _ => ⟨b, o, rfl, ?_, fun i him => ?_⟩, fun i him => ?_⟩
    · obtain ⟨d, q, hr, _⟩ := each 0 (by omega)
      have := hr 0 _ rfl
      exact World.block_lt_of_cell? w ⟨b, o + 0 * 15 + 0, none⟩ this
    · simp only [dif_pos him]
      exact (Classical.choose_spec (Classical.choose_spec (each i him))).1
    · show Pin (if h : i < n0 then _ else _)
      rw [dif_pos him]
      exact (Classical.choose_spec (Classical.choose_spec (each i him))).2
/-! ### too many? -/
def GreatQ (n : Nat) (ps : Nat → Pkt) (e : Ending) : Prop := ∃ b, e = .returned (.bool b) ∧ (b = false → n ≤ 100 ∧ ∀ i, i < n → (ps i).d.length ≤ 60000)
theorem GreatQ.yes (n : Nat) (ps : Nat → Pkt) : GreatQ n ps (.returned (.bool true)) := ⟨true, rfl, fun h => by cases h⟩
theorem GreatQ.no (n : Nat) (ps : Nat → Pkt) (h : n ≤ 100) (k : ∀ i, i < n → (ps i).d.length ≤ 60000) : GreatQ n ps (.returned (.bool false)) := ⟨false, rfl, fun _ => ⟨h, k⟩⟩
set_option maxHeartbeats 4000000 in
theorem great_any (A : Option Addr) (n c : Nat) (ds : Nat → Int) (ps : Nat → Pkt) (hn : n ≤ maxLen) (hp : ∀ i, i < n → Pin (ps i)) (w : World) (hA : AtJ w w.heap.size A n ds ps) :
    Calls Try.prog 25 #[.slice A n c] w fun e w' => GreatQ n ps e ∧ w' = w := by
  have HA := Lib.hid hA
  have HP := Lib.hid hp
  unfold maxLen at hn
  clear hA hp
  go_enter Try.func25, Try.ntmps25
  go_wp2_with fail
  go_loopg [3, 4] n (fun kx s3 s4 wr => ∃ (i s : Nat), s3 = .int .i64 (s : Int) ∧ s4 = .int .i64 (i : Int) ∧ i ≤ n ∧ i ≤ 101 ∧ n - i ≤ kx ∧ s ≤ i * 60001 ∧ Hid (∀ j, j < i → (ps j).d.length ≤ s ∨ 60001 ≤ s) ∧ Hid (wr = w))
  case atStart => exact ⟨0, 0, rfl, rfl, Nat.zero_le _, by omega, by omega, by omega, Lib.hid (fun j h => by omega), Lib.hid rfl⟩
  case round =>
    obtain ⟨i, s, rfl, rfl, hi, hi1, hkx, hs, HS, HW⟩ := hrel
    have hw := HW.out
    clear HW
    obtain ⟨wo, rfl⟩ : ∃ wo : World, wo = wr := ⟨_, rfl⟩
    subst hw
    by_cases hlt : i < n
    · have hltz : (i : Int) < (n : Int) := by omega
      by_cases hle : i ≤ 100
      · have hlez : (i : Int) ≤ 100 := by omega
        have hi0 : 0 ≤ (i : Int) := by omega
        obtain ⟨b, o, rfl, hb, hall⟩ := HA.out.at hlt
        obtain ⟨_, _, hd⟩ := hall wo (Below.refl _ _)
        have hpd := (HP.out i hlt).d
        obtain ⟨dl, hdl⟩ : ∃ x, x = (ps i).d.length := ⟨_, rfl⟩
        obtain ⟨DD, hDD⟩ : ∃ D : ByteArray, (⟨(ps i).d.toArray⟩ : ByteArray) = D := ⟨_, rfl⟩
        have hsz : DD.size = dl := by rw [← hDD, hdl]; exact List.size_toArray ..
        rw [hDD] at hd
        rw [← hdl] at hpd
        have HDL := Lib.hid hdl
        clear hall hDD hdl
        by_cases hm : dl < 60001
        · have hmz : (dl : Int) < 60001 := by omega
          have hmz2 : (dl : Int) ≤ 60001 := by omega
          have hmin : min (dl : Int) 60001 = (dl : Int) := by omega
          have hw2 : IntKind.i64.wrap ((s : Int) + (dl : Int)) = (s : Int) + (dl : Int) := IntWalk.i64_in _ ⟨by omega, by omega⟩
          have HN : Hid (∀ j, j < i + 1 → (ps j).d.length ≤ s + dl ∨ 60001 ≤ s + dl) := Lib.hid (fun j hj => by
            by_cases e : j = i
            · subst e; left; rw [← HDL.out]; omega
            · have := HS.out j (by omega); omega)
          go_wp2
          go_roundg (n - (i + 1))
          case measure => omega
          case rel => exact ⟨i + 1, s + dl, by go_num, by go_num, by omega, by omega, Nat.le_refl _, by omega, HN, Lib.hid rfl⟩
        · have hmz : ¬ (dl : Int) < 60001 := by omega
          have hmz2 : (60001 : Int) ≤ (dl : Int) := by omega
          have hmin : min (dl : Int) 60001 = 60001 := by omega
          have hw2 : IntKind.i64.wrap ((s : Int) + 60001) = (s : Int) + 60001 := IntWalk.i64_in _ ⟨by omega, by omega⟩
          have HN : Hid (∀ j, j < i + 1 → (ps j).d.length ≤ s + 60001 ∨ 60001 ≤ s + 60001) := Lib.hid (fun j hj => Or.inr (by omega))
          go_wp2
          go_roundg (n - (i + 1))
          case measure => omega
          case rel => exact ⟨i + 1, s + 60001, by go_num, by go_num, by omega, by omega, Nat.le_refl _, by omega, HN, Lib.hid rfl⟩
      · have hlez : ¬ (i : Int) ≤ 100 := by omega
        have hn100 : (100 : Int) < (n : Int) := by omega
        go_wp2
        go_ret
        exact ⟨GreatQ.yes n ps, rfl⟩
    · have hltz : ¬ (i : Int) < (n : Int) := by omega
      by_cases hn100 : 100 < n
      · have hnz : (100 : Int) < (n : Int) := by omega
        go_wp2
        go_ret
        exact ⟨GreatQ.yes n ps, rfl⟩
      · have hnz : ¬ (100 : Int) < (n : Int) := by omega
        by_cases hs6 : 60000 < s
        · have hsz : (60000 : Int) < (s : Int) := by omega
          go_wp2
          go_ret
          exact ⟨GreatQ.yes n ps, rfl⟩
        · have hsz : ¬ (60000 : Int) < (s : Int) := by omega
          go_wp2
          go_ret
          exact ⟨GreatQ.no n ps (by omega) (fun j hj => by have := HS.out j (by omega); omega), rfl⟩
/-! ### the two states side by side -/
/-- the document's row and its pieces, none of them in the joiner's blocks nor in those of X -/
structure RN (w : World) (B jb : Nat) (o : Option Addr) (D : List Dg) (X : List Nat) (v : Value) (E : List Rd) : Prop where
  own : w.ownsRow B 100 2 v E.length (flatR E)
  rows : ∀ r ∈ E, PsK w (fun k => k < w.heap.size ∧ ¬ ownJ jb o D k ∧ ¬ k ∈ X) r.A r.L
  nv : ∀ g, v.ownBlock = some g → ¬ ownJ jb o D g ∧ ¬ g ∈ X
theorem RN.grow {w w' : World} {B jb : Nat} {o : Option Addr} {D : List Dg} {X X' : List Nat} {v : Value} {E : List Rd} (h : RN w B jb o D X v E) (hb : Below w.heap.size w w') (hx : ∀ k ∈ X', k ∈ X ∨ w.heap.size ≤ k) : RN w' B jb o D X' v E :=
  ⟨own_keptB h.own hb, fun r hr => (h.rows r hr).mono (fun k hk => hb.block k hk.1) (fun k hk => ⟨Nat.lt_of_lt_of_le hk.1 hb.size, hk.2.1, fun hX => (hx k hX).elim hk.2.2 (fun h2 => by have := hk.1; omega)⟩),
    fun g hg => ⟨(h.nv g hg).1, fun hX => (hx g hX).elim (h.nv g hg).2 (fun h2 => by have := (h.own.lt g hg).2; omega)⟩⟩
theorem RN.step {w w' : World} {B jb : Nat} {o : Option Addr} {D : List Dg} {X : List Nat} {v : Value} {E : List Rd} (h : RN w B jb o D X v E) (hb : Below w.heap.size w w') : RN w' B jb o D X v E := h.grow hb (fun k hk => Or.inl hk)
theorem RN.setX {w : World} {B jb : Nat} {o : Option Addr} {D : List Dg} {X : List Nat} {v : Value} {E : List Rd} (h : RN w B jb o D X v E) (q : Nat) (hq : q ∈ X) (k : Nat) (vs : List Value) : RN (w.setCells q k vs) B jb o D X v E :=
  ⟨own_same h.own (fun g hg => heap_setCells _ _ _ _ _ (fun e => (h.nv g hg).2 (e ▸ hq))), fun r hr => (h.rows r hr).mono (fun g hg => heap_setCells _ _ _ _ _ (fun e => hg.2.2 (e ▸ hq))) (fun g hg => ⟨by rw [size_setCells]; exact hg.1, hg.2⟩), h.nv⟩
theorem RN.swap {w : World} {B jb : Nat} {o : Option Addr} {D : List Dg} {X : List Nat} {v v' : Value} {E E' : List Rd} (h : RN w B jb o D X v E) (w0 : Nat) (ho : w.ownsRow w0 100 2 v' E'.length (flatR E')) (hB : B ≤ w0) (hs : ∀ k, ownJ jb o D k → k < w0) (hX : ∀ k ∈ X, k < w0) (hr : ∀ r' ∈ E', ∃ r ∈ E, r'.A = r.A ∧ r'.L = r.L) : RN w B jb o D X v' E' := by
  refine ⟨own_weakR ho hB, fun r' hr' => ?_, fun g hg => ?_⟩
  · obtain ⟨r, hrE, e1, e2⟩ := hr r' hr'
    rw [e1, e2]
    exact h.rows r hrE
  · have := (ho.lt g hg).1
    exact ⟨fun hx => by have := hs g hx; omega, fun hx => by have := hX g hx; omega⟩
theorem tickR_mem {lim : Int} {E : List Rd} : ∀ r' ∈ tickR lim E, ∃ r ∈ E, r'.A = r.A ∧ r'.L = r.L := by
  intro r' hr'
  obtain ⟨r, hr, rfl⟩ := List.mem_map.1 hr'
  exact ⟨r, (List.mem_filter.1 hr).1, rfl, rfl⟩
/-- behind a call of the joiner's -/
theorem RN.put {w w' : World} {B jb : Nat} {o o' : Option Addr} {D D' : List Dg} {X : List Nat} {v : Value} {E : List Rd} (h : RN w B jb o D X v E) (hf : Fr (ownJ jb o D) w w') (ho : ∀ k, ownJ jb o' D' k → ownJ jb o D k ∨ w.heap.size ≤ k) : RN w' B jb o' D' X v E := by
  refine ⟨own_same h.own (fun g hg => hf.block g (h.own.lt g hg).2 (h.nv g hg).1), fun r hr => (h.rows r hr).mono (fun k hk => hf.block k hk.1 hk.2.1) (fun k hk => ⟨Nat.lt_of_lt_of_le hk.1 hf.size, fun hx => (ho k hx).elim hk.2.1 (fun h2 => by have := hk.1; omega), hk.2.2⟩), fun g hg => ⟨fun hx => (ho g hx).elim (h.nv g hg).1 (fun h2 => by have := (h.own.lt g hg).2; omega), (h.nv g hg).2⟩⟩
/-- behind a call of the document's -/
theorem RN.ref {w w' : World} {B jb c : Nat} {lim : Int} {o : Option Addr} {D : List Dg} {X : List Nat} {v v' : Value} {E E' : List Rd} (h : RN w B jb o D X v E) (hj : JS w jb jb lim o c D) (hB : B ≤ w.heap.size) (hX : ∀ k ∈ X, k < w.heap.size) (hb : Below w.heap.size w w')
    (hc : (v' = v ∧ E' = E) ∨ (w'.ownsRow w.heap.size 100 2 v' E'.length (flatR E') ∧ ∀ r ∈ E', r ∈ E ∨ ∃ g, r.A = some ⟨g, 0, none⟩ ∧ w.heap.size ≤ g ∧ PkRow w' g r.c r.L)) : RN w' B jb o D X v' E' := by
  have hs := h.step hb
  rcases hc with ⟨rfl, rfl⟩ | ⟨h1, h2⟩
  · exact hs
  · refine ⟨own_weakR h1 hB, fun r hr => ?_, fun g hg => ⟨fun hx => ?_, fun e => ?_⟩⟩
    · rcases h2 r hr with h3 | ⟨g, e, hg, hrow⟩
      · exact hs.rows r h3
      · rcases hrow.ps with h4 | ⟨g', o', e1, e2, e3⟩
        · exact Or.inl h4
        · injection e1 with e1
          injection e1 with e1 e1'
          subst e1
          subst e1'
          exact Or.inr ⟨g, 0, e, ⟨hrow.1, fun hx => by have := (hj.own_lt hx).2; omega, fun hx => by have := hX g hx; omega⟩, e3⟩
    · have := (hj.own_lt hx).2
      have := (h1.lt g hg).1
      omega
    · have := (h1.lt g hg).1
      have := hX g e
      omega
theorem JOk.tick {N : Nat} {D : List Dg} (h : JOk N D) (lim : Int) : JOk (N + 1) (tickD lim D) := by
  refine ⟨Nat.le_trans (List.length_filter_le _ _) (by rw [List.length_map]; exact h.four), fun d hd => ?_⟩
  obtain ⟨d0, hd0, rfl⟩ := List.mem_map.1 (List.mem_filter.1 hd).1
  have := h.ok d0 hd0
  exact ⟨⟨Nat.le_trans this.1.len (by omega), this.1.may⟩, this.2⟩
def Ages (lim : Int) (D : List Dg) : Prop := ∀ d ∈ D, 0 ≤ d.age ∧ d.age < lim
theorem Ages.tick {lim : Int} {D : List Dg} (h : Ages lim D) : Ages lim (tickD lim D) := by
  intro d hd
  have h1 := List.mem_filter.1 hd
  obtain ⟨d0, hd0, rfl⟩ := List.mem_map.1 h1.1
  have h2 := h d0 hd0
  have h3 : ¬ lim ≤ d0.age + 1 := by
    have := h1.2
    unfold oldB at this
    intro hc
    have e : (upD d0).age = d0.age + 1 := rfl
    rw [e, decide_eq_true hc] at this
    cases this
  have e : (upD d0).age = d0.age + 1 := rfl
  rw [e]
  omega
theorem FindR.ages {lim : Int} {D : List Dg} {p : Pkt} {pre post : List Dg} {d : Dg} (hl : 0 < lim) (h : Ages lim D) (hf : FindR D p pre d post) : Ages lim (pre ++ post) ∧ (0 ≤ d.age ∧ d.age < lim) := by
  rcases hf with ⟨rfl, _⟩ | ⟨_, rfl, rfl, _, _, h3⟩
  · exact ⟨fun x hx => h x (mem_mid hx), h d mem_self⟩
  · refine ⟨fun x hx => ?_, by rw [h3]; omega⟩
    rw [List.append_nil] at hx
    exact h x ((keepD_sub D).subset hx)
theorem Ages.put {lim : Int} {D D' : List Dg} {p out : Pkt} {ok : Bool} (hl : 0 < lim) (h : Ages lim D) (hp : PutR D p D' out ok) : Ages lim D' := by
  cases hp with
  | bad _ => exact h
  | whole _ _ _ => exact h
  | @same pre post d _ _ hf _ =>
    intro x hx
    rcases mem_or hx with rfl | hx
    · exact (FindR.ages hl h hf).2
    · exact (FindR.ages hl h hf).1 x hx
  | @clash pre post d _ _ hf _ _ => exact (FindR.ages hl h hf).1
  | @part pre post d _ _ hf _ _ d' _ _ _ _ hag =>
    intro x hx
    rcases mem_or hx with rfl | hx
    · rw [hag]; exact (FindR.ages hl h hf).2
    · exact (FindR.ages hl h hf).1 x hx
  | @done pre post d _ _ hf _ _ S _ _ _ => exact (FindR.ages hl h hf).1
theorem run_pkt_neq (x : Pkt) (w : World) : (binOp .neq 25 (.agg x.c) (.agg x.c)).run Try.prog w = .ok (.bool false) w := by
  have := run_pk_equal w x.id x.f x.t x.pr x.tt x.a x.mo x.d x.id x.f x.t x.pr x.tt x.a x.mo x.d x.L x.L
  rw [pkEq_self] at this
  rw [run_neq_struct]
  have e : (Op.equalIn 10000 25 (.agg x.c) (.agg x.c)).run Try.prog w = .ok true w := this
  rw [e]
  rfl
end Go.Proofs.Yticchchcobjpdaa
