/- Parts of of: a row that may be nil; a packet's addresses; building a name and a datagram. No condition beyond what each lemma says. -/
import Derived.Test.YticchchcobjpdaaJiH
namespace Go.Proofs.Yticchchcobjpdaa
set_option linter.unusedVariables false
set_option linter.unusedSimpArgs false
set_option maxRecDepth 100000
open Go.RowKit Go.Proofs Go.Shelf Go.Lib Go.Sort
attribute [local go_sem ↓] Go.wp_at_zero Go.wp_at_succ
attribute [local go_sem ↓] ld_pk ld_ip ld_wh
theorem idxD_nil (f : Nat) (lb : Array Value) (w : World) : Calls Try.prog 55 #[.slice none 0 0, .func (.func f) #[] lb] w fun e w' => e = .returned (.int .i64 (-1)) ∧ w' = w := by
  go_enter Try.func55, Try.ntmps55
  go_wp2
  go_loopg [8] 0 (fun kx s8 wr => s8 = .int .i64 0 ∧ Hid (wr = w))
  case atStart => exact ⟨rfl, Lib.hid rfl⟩
  case round =>
    obtain ⟨rfl, HW⟩ := hrel
    go_wp2
    go_ret
    exact ⟨rfl, HW.out⟩
/-- a row of pointers, or none -/
def PtrO (w : World) (B : Nat) (o : Option Addr) (c : Nat) (L : List Nat) : Prop := (o = none ∧ c = 0 ∧ L = []) ∨ ∃ g, o = some ⟨g, 0, none⟩ ∧ PtrRow w B g c L
theorem PtrO.own {w : World} {B c : Nat} {o : Option Addr} {L : List Nat} (h : PtrO w B o c L) : w.ownsRow B 72 1 (.slice o L.length c) L.length (L.map ptr) := by
  rcases h with ⟨rfl, rfl, rfl⟩ | ⟨g, rfl, h⟩
  · exact ⟨rfl, Or.inl ⟨rfl, rfl⟩⟩
  · exact h.1
theorem PtrO.same {w w' : World} {B c : Nat} {o : Option Addr} {L : List Nat} (h : PtrO w B o c L) (hs : ∀ g, o = some ⟨g, 0, none⟩ → w'.heap[g]? = w.heap[g]?) : PtrO w' B o c L := by
  rcases h with h | ⟨g, rfl, h⟩
  · exact Or.inl h
  · exact Or.inr ⟨g, rfl, h.same (hs g rfl)⟩
theorem PtrO.lt {w : World} {B c g : Nat} {o : Option Addr} {L : List Nat} (h : PtrO w B o c L) (e : o = some ⟨g, 0, none⟩) : B ≤ g ∧ g < w.heap.size := by
  rcases h with ⟨rfl, _⟩ | ⟨g', rfl, h⟩
  · cases e
  · injection e with e
    injection e with e
    subst e
    exact h.lt
theorem PtrO.below {w w' : World} {B c : Nat} {o : Option Addr} {L : List Nat} (h : PtrO w B o c L) (hb : Below w.heap.size w w') : PtrO w' B o c L := h.same (fun g e => hb.block g (h.lt e).2)
theorem own_ptr {w : World} {B g c : Nat} {L : List Nat} (h : w.ownsRow B 72 1 (.slice (some ⟨g, 0, none⟩) L.length c) L.length (L.map ptr)) : PtrRow w B g c L := by
  refine ⟨h, ?_⟩
  rcases h.2 with ⟨e, _⟩ | ⟨g', c', cur, e, _, _, h1, h2, _⟩
  · exact absurd e (by simp)
  · injection e with _ _ e3
    subst e3
    exact ⟨h1, h2⟩
theorem Blk.ld_pf {w : World} {b : Nat} {e : TypeId} {p : Pkt} (h : Blk w b e p.c) : (Ld 23 (.pointer (some ⟨b, 1, none⟩))).run Try.prog w = .ok (arrV p.f) w := by
  obtain ⟨id, f, t, pr, tt, a, mo, d, hL⟩ := p
  exact h.ld_row _ 4 1 Try.underlying23 size_ip f hL.f (by
    obtain ⟨f0, f1, f2, f3, t0, t1, t2, t3, rfl, rfl⟩ := pk_explicit hL
    intro j hj
    match j, hj with
    | 0, _ | 1, _ | 2, _ | 3, _ => rfl)
theorem Blk.ld_pt {w : World} {b : Nat} {e : TypeId} {p : Pkt} (h : Blk w b e p.c) : (Ld 23 (.pointer (some ⟨b, 5, none⟩))).run Try.prog w = .ok (arrV p.t) w := by
  obtain ⟨id, f, t, pr, tt, a, mo, d, hL⟩ := p
  exact h.ld_row _ 4 5 Try.underlying23 size_ip t hL.t (by
    obtain ⟨f0, f1, f2, f3, t0, t1, t2, t3, rfl, rfl⟩ := pk_explicit hL
    intro j hj
    match j, hj with
    | 0, _ | 1, _ | 2, _ | 3, _ => rfl)
theorem pk_c3 {w : World} {b : Nat} {e : TypeId} {p : Pkt} (h : Blk w b e p.c) : w.cell? ⟨b, 0, none⟩ = some (.int .i64 p.id) ∧ w.cell? ⟨b, 9, none⟩ = some (.int .i64 p.pr) := by
  obtain ⟨id, f, t, pr, tt, a, mo, d, hL⟩ := p
  obtain ⟨f0, f1, f2, f3, t0, t1, t2, t3, rfl, rfl⟩ := pk_explicit hL
  exact ⟨by rw [h.cell]; rfl, by rw [h.cell]; rfl⟩
noncomputable def Bdw (a b c d : Value) : Sem Value := Instr.build 76 #[(0, a), (1, b), (2, c), (3, d)]
theorem bld_wh (a b c d : Value) : Instr.build 76 #[(0, a), (1, b), (2, c), (3, d)] = Bdw a b c d := rfl
theorem run_bdw (p : Pkt) (w : World) : (Bdw (arrV p.f) (arrV p.t) (.int .i64 p.pr) (.int .i64 p.id)).run Try.prog w = .ok (.agg (whC p)) w := by
  obtain ⟨id, f, t, pr, tt, a, mo, d, hL⟩ := p
  obtain ⟨f0, f1, f2, f3, t0, t1, t2, t3, rfl, rfl⟩ := pk_explicit hL
  have h : (Instr.build 76 #[(0, .agg #[ubv f0, ubv f1, ubv f2, ubv f3]), (1, .agg #[ubv t0, ubv t1, ubv t2, ubv t3]), (2, .int .i64 pr), (3, .int .i64 id)]).run Try.prog w = .ok (.agg #[ubv f0, ubv f1, ubv f2, ubv f3, ubv t0, ubv t1, ubv t2, ubv t3, .int .i64 pr, .int .i64 id]) w := by kernel_rfl
  unfold Bdw
  exact h
noncomputable def Bdd (a : Value) : Sem Value := Instr.build 78 #[(0, a)]
theorem bld_dt (a : Value) : Instr.build 78 #[(0, a)] = Bdd a := rfl
theorem run_bdd (p : Pkt) (w : World) : (Bdd (.agg (whC p))).run Try.prog w = .ok (.agg (dtC p (.slice none 0 0) 0)) w := by
  obtain ⟨id, f, t, pr, tt, a, mo, d, hL⟩ := p
  obtain ⟨f0, f1, f2, f3, t0, t1, t2, t3, rfl, rfl⟩ := pk_explicit hL
  have h : (Instr.build 78 #[(0, .agg #[ubv f0, ubv f1, ubv f2, ubv f3, ubv t0, ubv t1, ubv t2, ubv t3, .int .i64 pr, .int .i64 id])]).run Try.prog w = .ok (.agg #[ubv f0, ubv f1, ubv f2, ubv f3, ubv t0, ubv t1, ubv t2, ubv t3, .int .i64 pr, .int .i64 id, .slice none 0 0, .int .i64 0]) w := by kernel_rfl
  unfold Bdd
  exact h
/-- the datagrams that stay when a new one comes -/
def ofL (L : List Nat) : List Nat := if 4 ≤ L.length then L.filter (fun b => !decide (b = L.headD 0)) else L
end Go.Proofs.Yticchchcobjpdaa
