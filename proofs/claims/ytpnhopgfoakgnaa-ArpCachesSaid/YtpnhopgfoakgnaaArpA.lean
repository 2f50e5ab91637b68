/- The chapter's packet: what the statements of this layer ask first, 'awake', is true. -/
import Derived.Test.YtpnhopgfoakgnaaArpR
namespace Go.Proofs.Ytpnhopgfoakgnaa
set_option linter.unusedVariables false
open Go.RowKit
attribute [local go_sem ↓] Go.wp_at_zero Go.wp_at_succ

theorem all_eq (m m' : List UInt8) (n : Nat) (h : m.length = n) (h' : m'.length = n) :
    (List.range' 0 n).all (fun j => ((m.getD j 0).toNat : Int) == ((m'.getD j 0).toNat : Int)) = (m == m') := by
  rw [Bool.eq_iff_iff, List.all_eq_true, beq_iff_eq]
  constructor
  · intro hq
    apply List.ext_getElem (by omega)
    intro j h1 h2
    have := hq j (by rw [List.mem_range']; exact ⟨j, by omega, by omega⟩)
    rw [beq_iff_eq] at this
    have e1 : m.getD j 0 = m[j] := by simp [h1]
    have e2 : m'.getD j 0 = m'[j] := by simp [h2]
    rw [e1, e2] at this
    exact UInt8.toNat_inj.1 (by omega)
  · rintro rfl j _
    simp

/-- the comparison of two arrays of bytes -/
theorem run_eq_arr (w : World) (d : Nat) (t : TypeId) (n : Nat) (ht : Try.prog.underlying t = some (.array n 5)) (m m' : List UInt8) (h : m.length = n) (h' : m'.length = n) :
    (Op.equalIn (d + 2) t (.agg (m.map ubv).toArray) (.agg (m'.map ubv).toArray)).run Try.prog w = .ok (m == m') w := by
  rw [run_equalIn_row w d t 5 n ht Try.underlying5 size_u8 _ _ (fun j => ((m.getD j 0).toNat : Int)) (fun j => ((m'.getD j 0).toNat : Int)) ?_]
  · rw [all_eq m m' n h h']
  · intro j hj
    have h1 : j < m.length := by omega
    have h2 : j < m'.length := by omega
    refine ⟨?_, ?_⟩
    · rw [List.getElem?_toArray, List.getElem?_map, List.getElem?_eq_getElem h1]; simp [h1]
    · rw [List.getElem?_toArray, List.getElem?_map, List.getElem?_eq_getElem h2]; simp [h2]

def arEq (op : Int) (m i tm ti : List UInt8) (op' : Int) (m' i' tm' ti' : List UInt8) : Bool := op == op' && (m == m' && (i == i' && (tm == tm' && ti == ti')))
theorem arEq_self (op : Int) (m i tm ti : List UInt8) : arEq op m i tm ti op m i tm ti = true := by simp [arEq]

theorem list6 {l : List UInt8} (h : l.length = 6) : ∃ a b c d e f, l = [a, b, c, d, e, f] := by
  match l, h with
  | [a, b, c, d, e, f], _ => exact ⟨a, b, c, d, e, f, rfl⟩
theorem list4 {l : List UInt8} (h : l.length = 4) : ∃ a b c d, l = [a, b, c, d] := by
  match l, h with
  | [a, b, c, d], _ => exact ⟨a, b, c, d, rfl⟩

set_option maxHeartbeats 1000000 in
theorem run_ar_equal (w : World) (op : Int) (m i tm ti : List UInt8) (op' : Int) (m' i' tm' ti' : List UInt8) (h : ArL m i tm ti) (h' : ArL m' i' tm' ti') :
    (Op.equalIn 10000 42 (.agg (arC op m i tm ti)) (.agg (arC op' m' i' tm' ti'))).run Try.prog w = .ok (arEq op m i tm ti op' m' i' tm' ti') w := by
  have e1 := run_eq_arr w 9997 38 6 Try.underlying38 m m' h.m h'.m
  have e2 := run_eq_arr w 9997 40 4 Try.underlying40 i i' h.i h'.i
  have e3 := run_eq_arr w 9997 38 6 Try.underlying38 tm tm' h.tm h'.tm
  have e4 := run_eq_arr w 9997 40 4 Try.underlying40 ti ti' h.ti h'.ti
  unfold arEq
  generalize (m == m') = x1 at e1 ⊢
  generalize (i == i') = x2 at e2 ⊢
  generalize (tm == tm') = x3 at e3 ⊢
  generalize (ti == ti') = x4 at e4 ⊢
  obtain ⟨m0, m1, m2, m3, m4, m5, rfl⟩ := list6 h.m
  obtain ⟨i0, i1, i2, i3, rfl⟩ := list4 h.i
  obtain ⟨n0, n1, n2, n3, n4, n5, rfl⟩ := list6 h.tm
  obtain ⟨j0, j1, j2, j3, rfl⟩ := list4 h.ti
  obtain ⟨m0', m1', m2', m3', m4', m5', rfl⟩ := list6 h'.m
  obtain ⟨i0', i1', i2', i3', rfl⟩ := list4 h'.i
  obtain ⟨n0', n1', n2', n3', n4', n5', rfl⟩ := list6 h'.tm
  obtain ⟨j0', j1', j2', j3', rfl⟩ := list4 h'.ti
  simp only [arC, List.map_cons, List.map_nil, List.cons_append, List.nil_append, ubv] at e1 e2 e3 e4 ⊢
  by_cases ho : op = op' <;> cases x1 <;> cases x2 <;> cases x3 <;> cases x4 <;> (go_simp; try simp [e1, e2, e3, e4, ho])

theorem run_ar_eql (w : World) (op : Int) (m i tm ti : List UInt8) (op' : Int) (m' i' tm' ti' : List UInt8) (h : ArL m i tm ti) (h' : ArL m' i' tm' ti') :
    (binOp .eql 42 (.agg (arC op m i tm ti)) (.agg (arC op' m' i' tm' ti'))).run Try.prog w = .ok (.bool (arEq op m i tm ti op' m' i' tm' ti')) w := by
  rw [run_eql_struct, run_ar_equal w op m i tm ti op' m' i' tm' ti' h h']
  rfl

abbrev arExC : Array Value := #[.int .i64 1, .int .u8 2, .int .u8 0, .int .u8 0, .int .u8 0, .int .u8 0, .int .u8 1, .int .u8 10, .int .u8 0, .int .u8 0, .int .u8 1, .int .u8 0, .int .u8 0, .int .u8 0, .int .u8 0, .int .u8 0, .int .u8 0, .int .u8 10, .int .u8 0, .int .u8 0, .int .u8 2]
def exM : List UInt8 := [2, 0, 0, 0, 0, 1]
def exI : List UInt8 := [10, 0, 0, 1]
def exTI : List UInt8 := [10, 0, 0, 2]
theorem arEx_eq : arExC = arC 1 exM exI z6 exTI := rfl
theorem arEx_L : ArL exM exI z6 exTI := ⟨rfl, rfl, rfl, rfl⟩
def arExS : List UInt8 := [0, 1, 8, 0, 6, 4, 0, 1, 2, 0, 0, 0, 0, 1, 10, 0, 0, 1, 0, 0, 0, 0, 0, 0, 10, 0, 0, 2]

theorem arex_any (w : World) : Calls Try.prog 38 #[] w fun e w' => e = .returned (.agg arExC) ∧ Below w.heap.size w w' := by
  have HN := Lib.hid (Blk.new w 42 ar0C 0 0 (Or.inl (Nat.le_refl _)))
  go_enter Try.func38, Try.ntmps38
  go_wp2_with (refine wpList_store_blk rfl 42 _ _ rfl w.heap.size arExC rfl rfl ar0C 42 HN.out rfl size_ar rfl ?_)
  exact bodyPost_ret (results_cell1 Try.results38 _ _ w.heap.size _ _ _ rfl (HN.out.setAll rfl) Try.underlying42 rfl size_ar) rfl ⟨rfl, Below.setCells ((Below.refl _ _).alloc (Nat.le_refl _) _) (Nat.le_refl _) _ _⟩

theorem arex_bytes (w : World) : Calls Try.prog 22 #[.agg arExC] w fun e w' => e = .returned (.tuple #[.string ⟨arExS.toArray⟩, .int .i64 0]) ∧ Below w.heap.size w w' := by
  have h := ar_any 1 exM exI z6 exTI arEx_L w
  have e : arBytes 1 exM exI z6 exTI = (arExS, 0) := by decide +kernel
  rw [e] at h
  rw [arEx_eq]
  exact h

theorem arex_read (w : World) : Calls Try.prog 24 #[.string ⟨arExS.toArray⟩] w fun e w' => e = .returned (.tuple #[.agg arExC, .int .i64 0]) ∧ Below w.heap.size w w' := by
  have h := arr_ok arExS 0 1 exM exI z6 exTI [] arEx_L w (by decide) (by decide) (by decide) (by decide)
  rw [arEx_eq]
  exact h

/-- the load of a whole struct or array, under a name of its own -/
noncomputable def Ld (ty : TypeId) (v : Value) : Sem Value := Instr.loadAt ty v
theorem ld_arp (v : Value) : Instr.loadAt 42 v = Ld 42 v := rfl
theorem ld_mac (v : Value) : Instr.loadAt 38 v = Ld 38 v := rfl
theorem ld_ip (v : Value) : Instr.loadAt 40 v = Ld 40 v := rfl
attribute [local go_sem ↓] ld_arp ld_mac ld_ip

theorem Blk.ld {w : World} {b : Nat} {e : TypeId} {C : Array Value} (h : Blk w b e C) (ty : TypeId) (d : TypeDesc) (hu : Try.prog.underlying ty = some d) (hd : d.isRow = true) (o : Nat) (cs : List Value) (hcs : (C.toList.drop o).take cs.length = cs)
    (hi : (Try.prog.info? ty).map (·.size) = some cs.length) : (Ld ty (.pointer (some ⟨b, o, none⟩))).run Try.prog w = .ok (.agg cs.toArray) w := by
  suffices hr : w.rangeAt b o cs by
    unfold Ld
    simp only [Instr.loadAt, Instr.sureAddr, Sem.run_bind, Sem.run_pure, Result.andThen_ok, run_loadVar_mid w b o ty cs d hr hu hd hi]
  intro j v hv
  rw [h.cell]
  rw [← hcs, List.getElem?_take] at hv
  split at hv
  · rw [List.getElem?_drop] at hv; simpa using hv
  · cases hv

theorem Blk.ld_ar {w : World} {b : Nat} {e : TypeId} {op : Int} {m i tm ti : List UInt8} (h : Blk w b e (arC op m i tm ti)) (hL : ArL m i tm ti) : (Ld 42 (.pointer (some ⟨b, 0, none⟩))).run Try.prog w = .ok (.agg (arC op m i tm ti)) w := by
  have hz : (arC op m i tm ti).toList.length = 21 := by rw [← Array.size_eq_length_toList]; exact arC_size hL
  have := h.ld 42 _ Try.underlying42 rfl 0 (arC op m i tm ti).toList (by rw [List.drop_zero, List.take_of_length_le (Nat.le_refl _)]) (by rw [hz]; exact size_ar)
  simpa using this

theorem arex_load {w : World} {b : Nat} {e : TypeId} (h : Blk w b e arExC) : (Ld 42 (.pointer (some ⟨b, 0, none⟩))).run Try.prog w = .ok (.agg arExC) w := by
  rw [arEx_eq] at h ⊢
  exact h.ld_ar arEx_L

set_option maxRecDepth 100000 in
set_option maxHeartbeats 1000000 in
theorem arawake_any (w : World) : Calls Try.prog 21 #[] w fun e w' => e = .returned (.bool true) ∧ Below w.heap.size w w' := by
  have hself := fun w => run_ar_eql w 1 exM exI z6 exTI 1 exM exI z6 exTI arEx_L arEx_L
  rw [arEq_self, ← arEx_eq] at hself
  go_enter Try.func21, Try.ntmps21
  go_wp2_with fail
  refine (arex_any _).mono ?_
  rintro e w1 ⟨rfl, hb1⟩
  go_wp2_with fail
  refine (arex_bytes _).mono ?_
  rintro e w2 ⟨rfl, hb2⟩
  go_wp2_with fail
  refine (arex_read _).mono ?_
  rintro e w3 ⟨rfl, hb3⟩
  have hN := Blk.new w3 42 ar0C 0 0 (Or.inl (Nat.le_refl _))
  have hK := hN.setAll (cs := arExC) rfl
  have hb := Below.step (Below.step hb1 hb2) hb3
  have hB := Below.setCells (hb.alloc hb.size (.cells ar0C 42)) hb.size 0 arExC.toList
  have HN := Lib.hid hN
  have HK := Lib.hid hK
  have HB := Lib.hid hB
  have hle := hb.size
  have tokA : True := trivial
  clear hb1 hb2 hb3 hb hN hK hB
  go_wp2_with (have _t := tokA; refine wpList_store_blk rfl 42 _ _ rfl w3.heap.size arExC rfl rfl ar0C 42 HN.out rfl size_ar rfl ?_; clear tokA; generalize World.setCells _ _ _ _ = W at HK HB ⊢)
  have hlt := HK.out.lt
  go_region_held3 (fun w' => (Ld 42 (.pointer (some ⟨w3.heap.size, 0, none⟩))).run Try.prog w' = .ok (.agg arExC) w')
    (first | exact arex_load HK.out | exact arex_load (Blk.drew HK.out) | exact arex_load ((Blk.drew HK.out).below hb4.out hlt))
    ((go_at_call 38; refine (arex_any _).mono ?_; rintro e w4 ⟨rfl, hb0⟩; have hb4 := Lib.hid hb0; clear hb0))
  go_wp2
  go_ret
  exact ⟨rfl, HB.out.drew.trans (hb4.out.mono (show w.heap.size ≤ W.heap.size from by omega))⟩
end Go.Proofs.Ytpnhopgfoakgnaa
