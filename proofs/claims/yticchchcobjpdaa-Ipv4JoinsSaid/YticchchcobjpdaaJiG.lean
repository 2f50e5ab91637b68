/- Datagrams: their cells; the closures of of, drop and Tick. No condition beyond what each lemma says. -/
import Derived.Test.YticchchcobjpdaaJiF
import Derived.LaidEqlPtr
namespace Go.Proofs.Yticchchcobjpdaa
set_option linter.unusedVariables false
set_option linter.unusedSimpArgs false
set_option maxRecDepth 100000
open Go.RowKit Go.Proofs Go.Shelf Go.Lib Go.Sort
attribute [local go_sem ↓] Go.wp_at_zero Go.wp_at_succ
attribute [local go_sem ↓] ld_pk ld_ip
/-- a datagram's name: that of its packets -/
def whC (p : Pkt) : Array Value := ((p.f ++ p.t).map ubv ++ [Value.int .i64 p.pr, Value.int .i64 p.id]).toArray
def dtC (p : Pkt) (s : Value) (age : Int) : Array Value := ((p.f ++ p.t).map ubv ++ [Value.int .i64 p.pr, Value.int .i64 p.id, s, Value.int .i64 age]).toArray
def sameW (x p : Pkt) : Bool := ((x.f == p.f) && (x.t == p.t)) && ((decide (x.pr = p.pr)) && (decide (x.id = p.id)))
theorem whC_size (p : Pkt) : (whC p).size = 10 := by
  simp [whC, p.L.f, p.L.t]
theorem dtC_size (p : Pkt) (s : Value) (age : Int) : (dtC p s age).size = 12 := by
  simp [dtC, p.L.f, p.L.t]
theorem whC_one (p : Pkt) : (whC p).toList.all (·.oneCell') = true := by
  rw [whC, List.all_append, List.all_map]
  simp only [Bool.and_eq_true, List.all_eq_true]
  refine ⟨fun _ _ => rfl, ?_⟩
  intro x hx
  simp only [List.mem_cons, List.not_mem_nil, or_false] at hx
  rcases hx with rfl | rfl <;> rfl
theorem dtC_one (p : Pkt) (s : Value) (age : Int) (hs : s.oneCell' = true) : (dtC p s age).toList.all (·.oneCell') = true := by
  rw [dtC, List.all_append, List.all_map]
  simp only [Bool.and_eq_true, List.all_eq_true]
  refine ⟨fun _ _ => rfl, ?_⟩
  intro x hx
  simp only [List.mem_cons, List.not_mem_nil, or_false] at hx
  rcases hx with rfl | rfl | rfl | rfl
  · rfl
  · rfl
  · exact hs
  · rfl
theorem size_wh : (Try.prog.info? 76).map (·.size) = some 10 := by kernel_rfl
theorem size_dt : (Try.prog.info? 78).map (·.size) = some 12 := by kernel_rfl
theorem ld_wh (v : Value) : Instr.loadAt 76 v = Ld 76 v := rfl
theorem dt_cells {w : World} {b : Nat} {e : TypeId} {p : Pkt} {s : Value} {age : Int} (h : Blk w b e (dtC p s age)) : w.cell? ⟨b, 10, none⟩ = some s ∧ w.cell? ⟨b, 11, none⟩ = some (.int .i64 age) := by
  obtain ⟨id, f, t, pr, tt, a, mo, d, hL⟩ := p
  obtain ⟨f0, f1, f2, f3, t0, t1, t2, t3, rfl, rfl⟩ := pk_explicit hL
  exact ⟨by rw [h.cell]; rfl, by rw [h.cell]; rfl⟩
theorem dt_set10 (p : Pkt) (s v : Value) (age : Int) : (dtC p s age).setIfInBounds 10 v = dtC p v age := by
  obtain ⟨id, f, t, pr, tt, a, mo, d, hL⟩ := p
  obtain ⟨f0, f1, f2, f3, t0, t1, t2, t3, rfl, rfl⟩ := pk_explicit hL
  rfl
theorem dt_set11 (p : Pkt) (s : Value) (age a' : Int) : (dtC p s age).setIfInBounds 11 (.int .i64 a') = dtC p s a' := by
  obtain ⟨id, f, t, pr, tt, a, mo, d, hL⟩ := p
  obtain ⟨f0, f1, f2, f3, t0, t1, t2, t3, rfl, rfl⟩ := pk_explicit hL
  rfl
theorem Blk.ld_whole {w : World} {b : Nat} {e : TypeId} {p : Pkt} (h : Blk w b e (whC p)) : (Ld 76 (.pointer (some ⟨b, 0, none⟩))).run Try.prog w = .ok (.agg (whC p)) w := by
  have hz : (whC p).toList.length = 10 := by rw [← Array.size_eq_length_toList]; exact whC_size p
  have := h.ld 76 _ Try.underlying76 rfl 0 (whC p).toList (by rw [List.drop_zero, List.take_of_length_le (Nat.le_refl _)]) (by rw [hz]; exact size_wh)
  simpa using this
theorem Blk.ld_name {w : World} {b : Nat} {e : TypeId} {p : Pkt} {s : Value} {age : Int} (h : Blk w b e (dtC p s age)) : (Ld 76 (.pointer (some ⟨b, 0, none⟩))).run Try.prog w = .ok (.agg (whC p)) w := by
  have hz : (whC p).toList.length = 10 := by rw [← Array.size_eq_length_toList]; exact whC_size p
  have := h.ld 76 _ Try.underlying76 rfl 0 (whC p).toList (by
    obtain ⟨id, f, t, pr, tt, a, mo, d, hL⟩ := p
    obtain ⟨f0, f1, f2, f3, t0, t1, t2, t3, rfl, rfl⟩ := pk_explicit hL
    rfl) (by rw [hz]; exact size_wh)
  simpa using this
theorem run_wh_equal (w : World) (x p : Pkt) : (Op.equalIn 10000 76 (.agg (whC x)) (.agg (whC p))).run Try.prog w = .ok (sameW x p) w := by
  obtain ⟨id, f, t, pr, tt, a, mo, d, h⟩ := x
  obtain ⟨id', f', t', pr', tt', a', mo', d', h'⟩ := p
  have e1 := run_eq_arr w 9997 23 4 Try.underlying23 f f' h.f h'.f
  have e2 := run_eq_arr w 9997 23 4 Try.underlying23 t t' h.t h'.t
  unfold sameW
  dsimp only
  generalize (f == f') = x1 at e1 ⊢
  generalize (t == t') = x2 at e2 ⊢
  obtain ⟨f0, f1, f2, f3, t0, t1, t2, t3, rfl, rfl⟩ := pk_explicit h
  obtain ⟨g0, g1, g2, g3, u0, u1, u2, u3, rfl, rfl⟩ := pk_explicit h'
  simp only [whC, arrV, List.map_cons, List.map_nil, List.cons_append, List.nil_append, ubv] at e1 e2 ⊢
  by_cases k1 : pr = pr' <;> by_cases k2 : id = id' <;> cases x1 <;> cases x2 <;> (go_simp; try simp [e1, e2, k1, k2])
theorem run_wh_eql (w : World) (x p : Pkt) : (binOp .eql 76 (.agg (whC x)) (.agg (whC p))).run Try.prog w = .ok (.bool (sameW x p)) w := by
  rw [run_eql_struct, run_wh_equal w x p]
  rfl
attribute [local go_sem ↓] ld_wh
theorem of1_any (b wb : Nat) (x p : Pkt) (s : Value) (age : Int) (w : World) (hb : Blk w b 78 (dtC x s age)) (hw : Blk w wb 76 (whC p)) :
    Calls Try.prog 56 #[ptr b, .pointer (some ⟨wb, 0, none⟩)] w fun e w' => e = .returned (.bool (sameW x p)) ∧ ∃ q, w' = w.drewN q := by
  have lx : ∀ q, (Ld 76 (.pointer (some ⟨b, 0, none⟩))).run Try.prog (w.drewN q) = .ok (.agg (whC x)) (w.drewN q) := fun q => (hb.drewN q).ld_name
  have lp : ∀ q, (Ld 76 (.pointer (some ⟨wb, 0, none⟩))).run Try.prog (w.drewN q) = .ok (.agg (whC p)) (w.drewN q) := fun q => (hw.drewN q).ld_whole
  have le := fun w => run_wh_eql w x p
  have mixed : Try.prog.follows .mixedOrders = true := by kernel_rfl
  clear hb hw
  go_enter Try.func56, Try.ntmps56
  go_upto_region 1 with fail
  go_quiet (fail)
  go_wp2
  go_ret
  exact ⟨rfl, _, rfl⟩
/-- a datagram's block, whatever it holds -/
def Dz (w : World) (b : Nat) : Prop := ∃ C, w.heap[b]? = some (.cells C 78 (0, 0))
theorem run_ptr_eql (w : World) (b d : Nat) (hb : Dz w b) (hd : Dz w d) : (binOp .eql 72 (ptr b) (ptr d)).run Try.prog w = .ok (.bool (decide (b = d))) w := by
  obtain ⟨i, hi, hz⟩ := Option.map_eq_some_iff.1 size_dt
  obtain ⟨C, hb⟩ := hb
  obtain ⟨E, hd⟩ := hd
  by_cases e : b = d
  · subst e
    rw [decide_eq_true rfl]
    exact run_eql_ptr_same w ⟨b, 0, none⟩ Try.underlying72 hi
  · rw [decide_eq_false e]
    exact run_eql_ptr_other w Try.underlying72 hi (by rw [hz]; decide) (fun h => e (by injection h)) hb hd
theorem drop1_any (b d pb : Nat) (w : World) (h : w.cell? ⟨pb, 0, none⟩ = some (ptr d)) (hb : Dz w b) (hd : Dz w d) :
    Calls Try.prog 60 #[ptr b, .pointer (some ⟨pb, 0, none⟩)] w fun e w' => e = .returned (.bool (decide (b = d))) ∧ ∃ q, w' = w.drewN q := by
  have le := run_ptr_eql w b d hb hd
  clear hb hd
  go_enter Try.func60, Try.ntmps60
  go_wp2
  go_ret
  exact ⟨rfl, 0, rfl⟩
theorem tickD1_any (lim age : Int) (b pb jb : Nat) (w : World) (h1 : w.cell? ⟨b, 11, none⟩ = some (.int .i64 age)) (h2 : w.cell? ⟨pb, 0, none⟩ = some (ptr jb)) (h3 : w.cell? ⟨jb, 0, none⟩ = some (.int .i64 lim)) :
    Calls Try.prog 48 #[ptr b, .pointer (some ⟨pb, 0, none⟩)] w fun e w' => e = .returned (.bool (decide (lim ≤ age))) ∧ ∃ q, w' = w.drewN q := by
  have c1 : ∀ q, (w.drewN q).cell? ⟨b, 11, none⟩ = some (.int .i64 age) := fun q => h1
  have c2 : ∀ q, (w.drewN q).cell? ⟨pb, 0, none⟩ = some (ptr jb) := fun q => h2
  have c3 : ∀ q, (w.drewN q).cell? ⟨jb, 0, none⟩ = some (.int .i64 lim) := fun q => h3
  have mixed : Try.prog.follows .mixedOrders = true := by kernel_rfl
  clear h1 h2 h3
  go_enter Try.func48, Try.ntmps48
  go_upto_region 1 with fail
  go_quiet (fail)
  go_wp2
  go_ret
  exact ⟨rfl, _, rfl⟩
theorem noneJ_any (lim : Int) (jb : Nat) (hl : 0 < lim) (w : World) (h : w.cell? ⟨jb, 0, none⟩ = some (.int .i64 lim)) :
    Calls Try.prog 32 #[ptr jb] w fun e w' => e = .returned (.bool false) ∧ w' = w := by
  have hne : (lim == 0) = false := beq_eq_false_iff_ne.2 (by omega)
  have hne2 : ¬ lim = 0 := by omega
  go_enter Try.func32, Try.ntmps32
  go_wp2
  go_ret
  exact ⟨rfl, rfl⟩
theorem lenJ_any (lim : Int) (jb n c : Nat) (o : Option Addr) (hl : 0 < lim) (w : World) (h : w.cell? ⟨jb, 0, none⟩ = some (.int .i64 lim)) (h1 : w.cell? ⟨jb, 1, none⟩ = some (.slice o n c)) :
    Calls Try.prog 21 #[ptr jb] w fun e w' => e = .returned (.int .i64 (n : Int)) ∧ w' = w := by
  have HN := Lib.hid (noneJ_any lim jb hl w h)
  go_enter Try.func21, Try.ntmps21
  go_wp2_with fail
  refine HN.out.mono ?_
  rintro e w' ⟨rfl, rfl⟩
  go_wp2
  go_ret
  exact ⟨rfl, rfl⟩
end Go.Proofs.Yticchchcobjpdaa
