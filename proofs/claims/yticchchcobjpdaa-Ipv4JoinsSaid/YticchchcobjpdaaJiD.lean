/- The datagram of pieces, if all its bytes are there. Condition: packets that may be, at most 1000 of them. -/
import Derived.Test.YticchchcobjpdaaJiC
namespace Go.Proofs.Yticchchcobjpdaa
set_option linter.unusedVariables false
set_option linter.unusedSimpArgs false
set_option maxRecDepth 100000
open Go.RowKit Go.Proofs Go.Shelf Go.Lib Go.Sort
attribute [local go_sem ↓] Go.wp_at_zero Go.wp_at_succ
attribute [local go_sem ↓] ld_pk ld_ip
/-- the pieces, one behind the other -/
def chainD : List Pkt → List UInt8 → Option (List UInt8)
  | [], d => some d
  | x :: l, d => if x.a = (d.length : Int) then chainD l (d ++ x.d) else none
theorem chain_app : ∀ (l : List Pkt) (x : Pkt) (d : List UInt8), chainD (l ++ [x]) d = (chainD l d).bind (fun e => if x.a = (e.length : Int) then some (e ++ x.d) else none)
  | [], x, d => by
    show (if x.a = (d.length : Int) then chainD [] (d ++ x.d) else none) = _
    rfl
  | y :: l, x, d => by
    show (if y.a = (d.length : Int) then chainD (l ++ [x]) (d ++ y.d) else none) = (if y.a = (d.length : Int) then chainD l (d ++ y.d) else none).bind _
    split
    · exact chain_app l x _
    · rfl
theorem chain_none : ∀ (l m : List Pkt) (d : List UInt8), chainD l d = none → chainD (l ++ m) d = none
  | [], m, d, h => by simp [chainD] at h
  | y :: l, m, d, h => by
    rw [chainD] at h
    show (if y.a = (d.length : Int) then chainD (l ++ m) (d ++ y.d) else none) = none
    split
    · rename_i hy
      rw [if_pos hy] at h
      exact chain_none l m _ h
    · rfl
def withD (p : Pkt) (mo : Bool) (d : List UInt8) : Pkt := ⟨p.id, p.f, p.t, p.pr, p.tt, p.a, mo, d, p.L⟩
/-- what is told of sorted pieces -/
def doneV (S : List Pkt) : Pkt × Bool :=
  match chainD S [] with
  | none => (pkt0, false)
  | some d => (withD (S.headD pkt0) false d, S.any (fun x => !x.mo))
/-- the packet while pieces are added -/
def partP (S : List Pkt) (k : Nat) (d : List UInt8) : Pkt := if k = 0 then pkt0 else withD (S.headD pkt0) (S.headD pkt0).mo d
theorem take_snocP (S : List Pkt) (k : Nat) (h : k < S.length) : S.take (k + 1) = S.take k ++ [S[k]] := by rw [List.take_add_one, List.getElem?_eq_getElem h]; rfl
theorem chain_step (S : List Pkt) (k : Nat) (hk : k < S.length) (d : List UInt8) (h : chainD (S.take k) [] = some d) : chainD (S.take (k + 1)) [] = if S[k].a = (d.length : Int) then some (d ++ S[k].d) else none := by
  rw [take_snocP S k hk, chain_app, h]; rfl
theorem done_no (S : List Pkt) (k : Nat) (hk : k < S.length) (d : List UInt8) (h : chainD (S.take k) [] = some d) (hx : ¬ S[k].a = (d.length : Int)) : doneV S = (pkt0, false) := by
  have h1 : chainD (S.take (k + 1)) [] = none := by rw [chain_step S k hk d h, if_neg hx]
  have h2 := chain_none (S.take (k + 1)) (S.drop (k + 1)) [] h1
  rw [List.take_append_drop] at h2
  unfold doneV
  rw [h2]
theorem done_yes (S : List Pkt) (d : List UInt8) (h : chainD (S.take S.length) [] = some d) : doneV S = (withD (S.headD pkt0) false d, S.any (fun x => !x.mo)) := by
  rw [List.take_length] at h
  unfold doneV
  rw [h]
theorem any_take (S : List Pkt) (k : Nat) (hk : k < S.length) : (S.take (k + 1)).any (fun x => !x.mo) = ((S.take k).any (fun x => !x.mo) || !S[k].mo) := by
  rw [take_snocP S k hk, List.any_append]; simp

/-! ### rows of packets -/
/-- packets lie in a row of their own -/
def PkRow (w : World) (g cap : Nat) (L : List Pkt) : Prop := g < w.heap.size ∧ L.length ≤ cap ∧ cap ≤ maxLen ∧ HoldsK encP 14 w g 0 L.toArray ∧ ∃ cur, w.heap[g]? = some (.cells cur 25 (0, 0)) ∧ cur.size = cap * 14
theorem PkRow.ps {w : World} {g cap : Nat} {L : List Pkt} (h : PkRow w g cap L) : PsAt w w.heap.size (some ⟨g, 0, none⟩) L := by
  obtain ⟨h1, h2, h3, h4, _⟩ := h
  refine Or.inr ⟨g, 0, rfl, h1, fun j hj i v hv => ?_⟩
  have hi : i < 14 := by
    have := (List.getElem?_eq_some_iff.1 hv).1
    rwa [encP_len] at this
  have hc := (HoldsK.cell h4 (i := j) (c := i) (by rw [List.size_toArray]; exact hj) hi).1
  rw [hc]
  have e1 : L.toArray[j]! = L[j] := by simp [hj]
  rw [e1, List.getElem!_eq_getElem?_getD, hv]
  rfl
theorem grown_sorted (w : World) (g n : Nat) (d : Array Pkt) (os : Array Obj) (hlt : g < w.heap.size) : w.grownBy (sortWorldK encP stK w g 0 n d os) (some g) := by
  unfold sortWorldK putRowK putRow mapBlock grow Sort.ahead
  refine ⟨rfl, rfl, rfl, ?_, ?_⟩
  · simp
  · intro k hk hne
    have h1 : g ≠ k := fun e => hne (by rw [e])
    simp [Array.getElem?_append, Array.getElem?_modify, Array.getElem_modify, h1, hk]
theorem sorted_cells (w : World) (g n : Nat) (d : Array Pkt) (os : Array Obj) {cur : Array Value} {e : TypeId} {fr : Nat × Nat} {c : Nat} (h : w.heap[g]? = some (.cells cur e fr)) (hc : cur.size = c) : ∃ cur', (sortWorldK encP stK w g 0 n d os).heap[g]? = some (.cells cur' e fr) ∧ cur'.size = c := by
  have hlt : g < w.heap.size := (Array.getElem?_eq_some_iff.1 h).1
  refine ⟨putCells id 0 (flatK encP stK d) cur, ?_, by unfold putCells; rw [Array.size_mapIdx]; exact hc⟩
  unfold sortWorldK putRowK putRow mapBlock grow Sort.ahead
  show (w.heap.modify g _ ++ os)[g]? = _
  rw [Array.getElem?_append_left (by simpa using hlt), Array.getElem?_modify, if_pos rfl, h]
  rfl
theorem grown_trans {w w' w'' : World} {B : Nat} {row : Option Nat} (h : w.grownBy w' row) (hb : Below B w' w'') (hB : w.heap.size ≤ B) : w.grownBy w'' row :=
  ⟨hb.os.trans h.os, hb.tape.trans h.tape, hb.output.trans h.output, Nat.le_trans h.size hb.size, fun k hk hne => (hb.block k (Nat.lt_of_lt_of_le hk hB)).trans (h.block k hk hne)⟩
theorem below_grown {w w' w'' : World} {row : Option Nat} (h : Below w.heap.size w w') (hb : w'.grownBy w'' row) : w.grownBy w'' row :=
  ⟨hb.os.trans h.os, hb.tape.trans h.tape, hb.output.trans h.output, Nat.le_trans h.size hb.size, fun k hk hne => (hb.block k (Nat.lt_of_lt_of_le hk h.size) hne).trans (h.block k hk)⟩
theorem PkRow.below' {w w' : World} {B g cap : Nat} {L : List Pkt} (h : PkRow w g cap L) (hb : Below B w w') (hgB : g < B) : PkRow w' g cap L := by
  obtain ⟨h1, h2, h3, h4, cur, h6, h7⟩ := h
  refine ⟨Nat.lt_of_lt_of_le h1 hb.size, h2, h3, fun j hj => ?_, cur, (hb.block g hgB).trans h6, h7⟩
  have h5 := h4 j hj
  exact ⟨(hb.cell (p := ⟨g, 0 + j, none⟩) hgB).trans h5.1, (World.frozen?_of_block (a := ⟨g, 0 + j, none⟩) (hb.block g hgB)).trans h5.2⟩
theorem PkRow.below {w w' : World} {g cap : Nat} {L : List Pkt} (h : PkRow w g cap L) (hb : Below w.heap.size w w') : PkRow w' g cap L := h.below' hb h.1
theorem sortP_any (g cap : Nat) (L : List Pkt) (hL : ∀ x ∈ L, GoodP x) (h1000 : L.length ≤ 1000) (w : World) (h : PkRow w g cap L) :
    Calls Try.prog 61 #[.slice (some ⟨g, 0, none⟩) L.length cap, .func (.func 62) #[] #[]] w fun e w' => e = .returned (.tuple #[]) ∧ ∃ S, Srt keyP S ∧ Stb keyP L S ∧ PkRow w' g cap S ∧ w.grownBy w' (some g) := by
  obtain ⟨h1, h2, h3, h4, cur, h6, h7⟩ := h
  have eg : ∀ args w, (callFunc 62 args).run Try.prog w = .ok (.enter 62 args) w := enters_of Try.func62 (by kernel_rfl) rfl
  have hsz : L.toArray.size = L.length := List.size_toArray
  have h := sortStable_any (cb := #[]) (rowP h4 h1) eg (cmpP_lays g 0 _ w) keyOnP L.length cap hsz (by omega) L rfl hL w (SWK.start h4)
  refine h.mono ?_
  rintro e w' ⟨rfl, S, s1, s2, n, os, rfl⟩
  have hlen : S.length = L.length := s2.len
  have hg := grown_sorted w g n S.toArray os h1
  refine ⟨rfl, S, s1, s2, ⟨Nat.lt_of_lt_of_le h1 hg.size, by omega, h3, ?_, sorted_cells w g n S.toArray os h6 h7⟩, hg⟩
  exact holdsK_sortWorldK_c encP 14 w g 0 L.toArray S.toArray n os h4 h1 (by rw [List.size_toArray, List.size_toArray, hlen])
end Go.Proofs.Yticchchcobjpdaa
