/- Cutting a datagram: the law's list of pieces; what has come, as a map; slices of bytes that came in. No program is walked. -/
import Derived.Test.YticchchcobjpdaaJiS
import Derived.Test.YticchchcobjpdaaLaw
import Derived.ChangeSlices
import Derived.Deep.Slices
import Derived.Maps.Own
import Derived.Maps.OwnSet
import Derived.Maps.Views
import Derived.Great.BuildSlice
namespace Go.Proofs.Yticchchcobjpdaa
set_option linter.unusedVariables false
set_option linter.unusedSimpArgs false
set_option maxRecDepth 100000
open Go.RowKit Go.Proofs Go.Shelf Go.Lib Go.Sort Go.ChangeShapes Go.WideShapes Go.Deep
/-- the pieces up to a place -/
structure Cut1 (id : Int) (data : List UInt8) (l : List Pkt) (a : Nat) : Prop where
  chain : chainD l [] = some (data.take a)
  each : ∀ x ∈ l, x = pkB id x.a true x.d ∧ 0 < x.d.length ∧ x.d.length % 8 = 0 ∧ 0 ≤ x.a ∧ x.a % 8 = 0 ∧ x.a + x.d.length ≤ 1200
  le : a ≤ data.length
  m8 : a % 8 = 0
theorem Cut1.start (id : Int) (data : List UInt8) : Cut1 id data [] 0 := ⟨rfl, fun x hx => (by cases hx), Nat.zero_le _, rfl⟩
theorem Cut1.next {id : Int} {data : List UInt8} {l : List Pkt} {a n : Nat} (h : Cut1 id data l a) (hn : a + n < data.length) (h8 : n % 8 = 0) (h0 : 0 < n) (hd : data.length ≤ 1200) :
    Cut1 id data (l ++ [pkB id a true ((data.drop a).take n)]) (a + n) := by
  have hl : ((data.drop a).take n).length = n := by rw [List.length_take, List.length_drop]; omega
  refine ⟨?_, fun x hx => ?_, by omega, by have := h.m8; omega⟩
  · rw [chain_app, h.chain]
    show (if ((a : Nat) : Int) = ((data.take a).length : Int) then some (data.take a ++ (data.drop a).take n) else none) = _
    rw [if_pos (by rw [List.length_take]; omega), ← List.take_add]
  · rcases List.mem_append.1 hx with hx | hx
    · exact h.each x hx
    · rw [List.mem_singleton.1 hx]
      have := h.m8
      refine ⟨rfl, by rw [show (pkB id a true ((data.drop a).take n)).d = (data.drop a).take n from rfl, hl]; exact h0, by rw [show (pkB id a true ((data.drop a).take n)).d = (data.drop a).take n from rfl, hl]; exact h8, ?_, ?_, ?_⟩
      · show (0 : Int) ≤ ((a : Nat) : Int); omega
      · show ((a : Nat) : Int) % 8 = 0; omega
      · show ((a : Nat) : Int) + (((data.drop a).take n).length : Int) ≤ 1200
        rw [hl]; omega
theorem Cut1.last {id : Int} {data : List UInt8} {l : List Pkt} {a : Nat} (h : Cut1 id data l a) (hid : 0 ≤ id ∧ id ≤ 65535) (hd : data.length ≤ 1200) : Full id data (l ++ [pkB id a false (data.drop a)]) := by
  have hm := h.m8
  have hle := h.le
  have hdl : (data.drop a).length = data.length - a := List.length_drop
  refine ⟨fun x hx => ?_, ?_, ⟨l, _, rfl, fun x hx => ?_, rfl⟩⟩
  · rcases List.mem_append.1 hx with hx | hx
    · obtain ⟨h1, h2, h3, h4, h5, h6⟩ := h.each x hx
      have hmo : x.mo = true := by rw [h1]; rfl
      refine ⟨by rw [hmo]; exact h1, ?_, ?_⟩
      · show mayB x.id x.pr x.tt x.a x.mo x.d.length = true
        have e1 : x.id = id := by rw [h1]; rfl
        have e2 : x.pr = 6 := by rw [h1]; rfl
        have e3 : x.tt = 9 := by rw [h1]; rfl
        rw [hmo, e1, e2, e3]
        exact mayB_ok2 ⟨hid.1, hid.2, by decide, by decide, by decide, by decide, h4, by omega, h5, by omega⟩ ⟨h2, h3⟩
      · show x.a + x.d.length ≤ 1200
        exact h6
    · rw [List.mem_singleton.1 hx]
      refine ⟨rfl, ?_, ?_⟩
      · show mayB id 6 9 ((a : Nat) : Int) false (data.drop a).length = true
        exact mayB_ok1 ⟨hid.1, hid.2, by decide, by decide, by decide, by decide, by omega, by omega, by omega, by omega⟩
      · show ((a : Nat) : Int) + ((data.drop a).length : Int) ≤ 1200
        omega
  · rw [chain_app, h.chain]
    show (if ((a : Nat) : Int) = ((data.take a).length : Int) then some (data.take a ++ data.drop a) else none) = _
    rw [if_pos (by rw [List.length_take]; omega), List.take_append_drop]
  · obtain ⟨h1, h2, _⟩ := h.each x hx
    exact ⟨h2, by rw [h1]; rfl⟩
theorem ba_cut (l : List UInt8) (i j : Nat) : (⟨l.toArray⟩ : ByteArray).extract i j = ⟨((l.drop i).take (j - i)).toArray⟩ := by
  apply ByteArray.ext
  apply Array.toList_inj.1
  rw [extract_list]
/-! ### what has come -/
theorem cuts_step {id : Int} {data : List UInt8} {l : List Pkt} (h : Full id data l) {C : List Nat} (hC : C.Nodup) (hm : ∀ i ∈ C, i < l.length) (hlt : C.length < l.length) {D : List Dg} (hD : DC id l D C) {k : Nat} (hk : k < l.length)
    {D' : List Dg} {out : Pkt} {ok : Bool} (hp : PutR D l[k] D' out ok) :
    (ok = true ∧ D' = [] ∧ out = pkB id 0 false data ∧ k ∉ C ∧ C.length + 1 = l.length) ∨
    (ok = false ∧ ∃ C' : List Nat, C'.Nodup ∧ (∀ i ∈ C', i < l.length) ∧ C'.length < l.length ∧ DC id l D' C' ∧ (∀ i, i ∈ C' ↔ i ∈ C ∨ i = k) ∧ C'.length = if k ∈ C then C.length else C.length + 1) := by
  by_cases h1 : l.length = 1
  · have hk0 : k = 0 := by omega
    subst hk0
    have hC0 : C = [] := List.length_eq_zero_iff.1 (by omega)
    subst hC0
    have hD0 : D = [] := by
      rcases hD with ⟨_, h⟩ | ⟨_, _, _, _, h⟩
      · exact h
      · exact absurd rfl h
    subst hD0
    obtain ⟨e1, e2, e3⟩ := one_put h h1 hp
    exact Or.inl ⟨e1, e2, e3, by simp, by simp [h1]⟩
  · rcases cuts_put h (by omega) hC hm hD hk hp with ⟨a1, a2, a3⟩ | ⟨a1, ⟨b1, b2, b3, b4⟩ | ⟨b1, b2, b3⟩⟩
    · refine Or.inr ⟨a2, C, hC, hm, hlt, by rw [a3]; exact hD, fun i => ⟨Or.inl, fun h => h.elim (fun h => h) (fun e => e ▸ a1)⟩, by rw [if_pos a1]⟩
    · exact Or.inl ⟨b1, b3, b4, a1, b2⟩
    · refine Or.inr ⟨b1, C ++ [k], ?_, ?_, by simp; omega, b3, fun i => by simp, by rw [if_neg a1]; simp⟩
      · rw [List.nodup_append]
        refine ⟨hC, List.pairwise_singleton _ _, fun a ha b hb => ?_⟩
        rw [List.mem_singleton.1 hb]
        exact fun e => a1 (e ▸ ha)
      · intro i hi
        rcases List.mem_append.1 hi with hi | hi
        · exact hm i hi
        · rw [List.mem_singleton.1 hi]; exact hk
/-- a map that holds just these places -/
def MapC (D : DataW Unit) (C : List Nat) : Prop := Maps.Tidy D ∧ (∀ i : Nat, Maps.has D (.int .i64 (i : Int)) = decide (i ∈ C)) ∧ Maps.size D = C.length
theorem MapC.start : MapC (.map []) [] := ⟨Maps.tidy_empty, fun i => by simp [Maps.has], rfl⟩
theorem key_ok (k : Nat) (h : k ≤ 9223372036854775807) : WideAt.IsKeyLit (.int .i64 (k : Int)) := by
  simp [WideAt.IsKeyLit]
theorem MapC.put {D : DataW Unit} {C C' : List Nat} (h : MapC D C) {k : Nat} (hk : k ≤ 9223372036854775807) (d : DataW Unit) (hm : ∀ i, i ∈ C' ↔ i ∈ C ∨ i = k) (hl : C'.length = if k ∈ C then C.length else C.length + 1) : MapC (D.put (.int .i64 (k : Int)) d) C' := by
  obtain ⟨h1, h2, h3⟩ := h
  refine ⟨h1.put (key_ok k hk) d, fun i => ?_, ?_⟩
  · by_cases e : i = k
    · subst e
      rw [Maps.has_put_same h1.isMap (key_ok i hk) d]
      exact (decide_eq_true ((hm i).2 (Or.inr rfl))).symm
    · rw [Maps.has_put_other (by intro h; injection h with _ h; omega) d, h2 i]
      by_cases hi : i ∈ C
      · rw [decide_eq_true hi, decide_eq_true ((hm i).2 (Or.inl hi))]
      · rw [decide_eq_false hi, decide_eq_false (fun h => ((hm i).1 h).elim hi e)]
  · rw [Maps.size_put h1 d, h2 k, h3, hl]
    by_cases hi : k ∈ C
    · rw [if_pos hi]; simp [hi]
    · rw [if_neg hi]; simp [hi]
theorem MapC.put_new {D : DataW Unit} {C : List Nat} (h : MapC D C) {k : Nat} (hk : k ∉ C) (d : DataW Unit) : Maps.size (D.put (.int .i64 (k : Int)) d) = C.length + 1 := by
  rw [Maps.size_put h.1 d, h.2.1 k, h.2.2]
  simp [hk]
/-! ### bytes that came in -/
/-- bytes lie from an address on, below block B -/
def NumAt (w : World) (B : Nat) (A : Option Addr) (L : List Int) : Prop :=
  L = [] ∨ ∃ b o, A = some ⟨b, o, none⟩ ∧ b < B ∧ ∀ j (hj : j < L.length), w.cell? ⟨b, o + j, none⟩ = some (.int .u8 L[j])
theorem NumAt.below {w w' : World} {B : Nat} {A : Option Addr} {L : List Int} (h : NumAt w B A L) (hb : Below B w w') : NumAt w' B A L := by
  rcases h with h | ⟨b, o, e1, e2, e3⟩
  · exact Or.inl h
  · exact Or.inr ⟨b, o, e1, e2, fun j hj => (hb.cell (p := ⟨b, o + j, none⟩) e2).trans (e3 j hj)⟩
theorem nums_of {H : Type} {enc : TypeId × Value → H} {w : World} {v : Value} {d : DataW H} {p : List MemPlace} {r : Reach} {base : Nat} (hv : Value.okWide Try.prog w r base 47 v)
    (h : DataW.Trod enc Try.prog w 0 (fun _ => true) true 47 v d p) :
    ∃ (A : Option Addr) (c : Nat) (L : List Int), v = .slice A L.length c ∧ L.length ≤ maxLen ∧ NumAt w w.heap.size A L ∧ (∀ n ∈ L, 0 ≤ n ∧ n ≤ 255) := by
  obtain ⟨A0, n0, c0, rfl⟩ : ∃ A n c, v = .slice A n c := okWide_slice Try.underlying47 hv
  obtain ⟨fuel, hf⟩ := h
  have k3 : Try.prog.cellsOf 5 = 1 := by kernel_rfl
  rcases open_ints Try.underlying47 Try.underlying5 k3 hf with ⟨h0, _⟩ | ⟨a, len, cap, zs, hcs, hb, hl, hm, hsl, hx, hi, hz⟩
  · obtain ⟨rfl, rfl, rfl⟩ : A0 = none ∧ n0 = 0 ∧ c0 = 0 := by simpa [Value.cells] using h0
    exact ⟨none, 0, [], rfl, by simp [maxLen], Or.inl rfl, by simp⟩
  · have hq : A0 = some a ∧ n0 = len ∧ c0 = cap := by simpa [Value.cells] using hcs
    obtain ⟨hq1, hq2, hq3⟩ := hq
    subst hq1
    subst hq2
    subst hq3
    have hsl' : n0 ≤ zs.length := by rw [hsl]; simp; omega
    have hlen : (zs.take n0).length = n0 := by rw [List.length_take]; omega
    refine ⟨some a, c0, zs.take n0, by rw [hlen], by rw [hlen]; omega, ?_, ?_⟩
    · by_cases hn : n0 = 0
      · left
        rw [hn]; rfl
      · right
        have hsp : a.spot = none := by
          have h0 := hi 0 (by omega)
          have ha : a.add 0 = a := by unfold Addr.add; simp
          rw [ha] at h0
          unfold World.cell? at h0
          split at h0
          · split at h0
            · cases h0
            · rename_i hns; simpa using hns
          · cases h0
        obtain ⟨b, o, sp⟩ := a
        obtain rfl : sp = none := hsp
        have each : ∀ j (hj : j < (zs.take n0).length), w.cell? ⟨b, o + j, none⟩ = some (.int .u8 (zs.take n0)[j]) := by
          intro j hj
          rw [hlen] at hj
          have h1 := hi j (by omega)
          rw [addr_add] at h1
          rw [h1]
          have e : zs.getD j 0 = zs[j]'(by omega) := by simp [List.getD_eq_getElem?_getD, List.getElem?_eq_getElem (by omega : j < zs.length)]
          rw [e, List.getElem_take]
        refine ⟨b, o, rfl, ?_, each⟩
        have h0 := hi 0 (by omega)
        rw [addr_add] at h0
        exact World.block_lt_of_cell? w ⟨b, o + 0, none⟩ h0
    · intro n hn
      have := hz n (List.mem_of_mem_take hn)
      simpa [Lit.wf, IntKind.has, IntKind.min, IntKind.max, IntKind.signed, IntKind.bits] using this
/-! ### one more piece, by the walk -/
theorem wpList_bsP {ops : Array Oper} {rest : List Oper} {o : Oper} {a : Act} {w : World} {Q : Exit → Act → World → Prop} (hg : o.guard = none) (x : Operand) (ho : o.op = .buildSlice 51 1 #[(0, x)])
    (X : Pkt) (hx : a.eval x = .agg X.c) (h : wpList Try.prog ops Q rest (a.put o.dst (.slice (some ⟨w.heap.size, 0, none⟩) 1 1)) (w.alloc (.cells X.c 25))) : wpList Try.prog ops Q (o :: rest) a w := by
  obtain ⟨i0, hi, hz0, hz1, hz2⟩ := info_parts info_pkt
  refine wpList_buildSlice hg 51 25 1 #[(0, x)] ho X.c i0 (.agg pk0) Try.underlying51 hi hz0 (by rw [hz1]; decide) (by rw [hz1]; decide) ?_ h
  rw [hz1]
  have e : (#[(0, x)].map fun (i, x) => (i, a.eval x)).toList = [(0, a.eval x)] := by simp
  rw [e, hx]
  exact fill_pk X
/-- 'append(own, one)' of packets: the row is there, in an old block or a new one -/
theorem wpList_appP {w : World} {ops : Array Oper} {rest : List Oper} {o : Oper} {a : Act} {Q : Exit → Act → World → Prop} (hgd : o.guard = none) (s x : Operand)
    (ho : o.op = .call { callee := .builtin .append, args := #[s, x], argTypes := #[51, 51] })
    (B : Nat) (A : Option Addr) (c : Nat) (L : List Pkt) (hs : a.eval s = .slice A L.length c) (hr : PkO w A c L) (hB : ∀ g, A = some ⟨g, 0, none⟩ → B ≤ g) (b : Nat) (e : TypeId) (X : Pkt) (hx : a.eval x = .slice (some ⟨b, 0, none⟩) 1 1) (hb : Blk w b e X.c) (hn : L.length ≤ 100000) (hBw : B ≤ w.heap.size)
    (h : ∀ g cap w', PkRow w' g cap (L ++ [X]) → Fr (fun k => A = some ⟨k, 0, none⟩) w w' → (A = some ⟨g, 0, none⟩ ∨ w.heap.size ≤ g) → B ≤ g → wpList Try.prog ops Q rest (a.put o.dst (.slice (some ⟨g, 0, none⟩) (L.length + 1) cap)) w') : wpList Try.prog ops Q (o :: rest) a w := by
  obtain ⟨i0, hi0, hz0, hz1, hz2⟩ := info_parts info_pkt
  have hob : ∀ g, (Value.slice A L.length c).ownBlock = some g → A = some ⟨g, 0, none⟩ := by
    intro g hg
    rcases hr with ⟨rfl, _⟩ | ⟨q, rfl, _⟩
    · simp [Value.ownBlock] at hg
    · simp only [Value.ownBlock] at hg
      rw [Option.some.inj hg]
  refine wpList_append_lies w hgd s x 51 ho B 25 i0 (.agg pk0) 14 64 Try.underlying51 hi0 hz0 hz1 hz2 rfl (by decide) (.slice A L.length c) L.length (flatP L) hs (hr.own hB) ⟨b, 0, none⟩ 1 1 (encP X) hx (encP_len X) (pblk_cells hb) (encP_one X) (by decide) (by unfold maxLen; omega) (by omega) hBw _ rfl ?_
  intro g cap w' hown hg hgo hgl
  refine h g cap w' (own_pk (L := L ++ [X]) (by rw [flatP_snoc]; exact hown) (by simp)) ⟨hg.os, hg.tape, hg.output, hg.size, fun k hk hn => hg.block k hk (fun e => hn (hob k e.symm))⟩ (hgo.elim (fun e => Or.inl (hob g e)) (fun e => Or.inr (by omega))) ?_
  exact (hown.lt g rfl).1
end Go.Proofs.Yticchchcobjpdaa
