/- Small lemmas on blocks of memory, on bytes and on numbers, that the walks of this family lean on. No condition beyond what each lemma says. -/
import Derived.WalkKit
import Derived.WalkSpells
import Derived.WalkLawsBesides
import Derived.Lib.Hide
import Derived.BigQuiet
import Derived.Deep.QuietTactic
import Derived.Deep.MidRow
import Derived.Lib.LazyBuf
import Derived.Laws.ResultCell
namespace Go.Proofs.Yticchchcobjpdaa
set_option linter.unusedVariables false
open Go.RowKit

/-- a byte as a value -/
abbrev ubv (b : UInt8) : Value := .int .u8 (b.toNat : Int)

/-- Block b of w holds the cells C, and none of them is frozen. -/
def Blk (w : World) (b : Nat) (e : TypeId) (C : Array Value) : Prop :=
  ∃ lo hi, w.heap[b]? = some (.cells C e (lo, hi)) ∧ (hi ≤ lo ∨ C.size ≤ lo)

theorem Blk.cell {w : World} {b : Nat} {e : TypeId} {C : Array Value} (h : Blk w b e C) (j : Nat) : w.cell? ⟨b, j, none⟩ = C[j]? := by
  obtain ⟨lo, hi, h1, _⟩ := h
  simp [World.cell?, h1]

theorem Blk.free {w : World} {b : Nat} {e : TypeId} {C : Array Value} (h : Blk w b e C) (j : Nat) (hj : j < C.size) : w.frozen? ⟨b, j, none⟩ = false := by
  obtain ⟨lo, hi, h1, h2⟩ := h
  simp [World.frozen?, h1]
  omega

theorem Blk.lt {w : World} {b : Nat} {e : TypeId} {C : Array Value} (h : Blk w b e C) : b < w.heap.size := by
  obtain ⟨lo, hi, h1, _⟩ := h
  exact (Array.getElem?_eq_some_iff.1 h1).1

theorem Blk.set {w : World} {b : Nat} {e : TypeId} {C : Array Value} (h : Blk w b e C) (j : Nat) (v : Value) : Blk (w.setCell ⟨b, j, none⟩ v) b e (C.setIfInBounds j v) := by
  obtain ⟨lo, hi, h1, h2⟩ := h
  refine ⟨lo, hi, ?_, by simpa using h2⟩
  simp [World.setCell, Array.getElem?_modify, h1]

theorem Blk.of_heap {w w' : World} {b : Nat} {e : TypeId} {C : Array Value} (h : Blk w b e C) (hh : w'.heap[b]? = w.heap[b]?) : Blk w' b e C := by
  obtain ⟨lo, hi, h1, h2⟩ := h
  exact ⟨lo, hi, by rw [hh]; exact h1, h2⟩

theorem Blk.set_other {w : World} {b : Nat} {e : TypeId} {C : Array Value} (h : Blk w b e C) (a : Addr) (v : Value) (hne : b ≠ a.block) : Blk (w.setCell a v) b e C :=
  h.of_heap (Below.heap_setCell _ _ _ _ hne)

theorem Blk.drew {w : World} {b : Nat} {e : TypeId} {C : Array Value} (h : Blk w b e C) : Blk w.drew b e C := h
theorem Blk.drewN {w : World} {b : Nat} {e : TypeId} {C : Array Value} (h : Blk w b e C) (n : Nat) : Blk (w.drewN n) b e C := h

theorem Blk.alloc {w : World} {b : Nat} {e : TypeId} {C : Array Value} (h : Blk w b e C) (o : Obj) : Blk (w.alloc o) b e C :=
  h.of_heap (Below.heap_alloc _ _ _ h.lt)

theorem Blk.below {B : Nat} {w w' : World} {b : Nat} {e : TypeId} {C : Array Value} (h : Blk w b e C) (hb : Below B w w') (hlt : b < B) : Blk w' b e C :=
  h.of_heap (hb.block b hlt)

theorem Blk.new (w : World) (e : TypeId) (C : Array Value) (lo hi : Nat) (h : hi ≤ lo ∨ C.size ≤ lo) : Blk (w.alloc (.cells C e (lo, hi))) w.heap.size e C :=
  ⟨lo, hi, heap_alloc_new w _, h⟩

/-- w' is w but for the cells of block b, whose number and type stay; draws may have been made. -/
structure Only (b : Nat) (w w' : World) : Prop where
  os : w'.os = w.os
  tape : w'.tape = w.tape
  output : w'.output = w.output
  size : w'.heap.size = w.heap.size
  block : ∀ k, k ≠ b → w'.heap[k]? = w.heap[k]?

theorem Only.refl (b : Nat) (w : World) : Only b w w := ⟨rfl, rfl, rfl, rfl, fun _ _ => rfl⟩
theorem Only.trans {b : Nat} {u v w : World} (h : Only b u v) (k : Only b v w) : Only b u w :=
  ⟨k.os.trans h.os, k.tape.trans h.tape, k.output.trans h.output, k.size.trans h.size, fun i hi => (k.block i hi).trans (h.block i hi)⟩
theorem Only.drew {b : Nat} {u w : World} (h : Only b u w) : Only b u w.drew := ⟨h.os, h.tape, h.output, h.size, h.block⟩
theorem Only.drewN {b : Nat} {u w : World} (h : Only b u w) (n : Nat) : Only b u (w.drewN n) := ⟨h.os, h.tape, h.output, h.size, h.block⟩
theorem Only.setCell {b : Nat} {u w : World} (h : Only b u w) (j : Nat) (v : Value) : Only b u (w.setCell ⟨b, j, none⟩ v) :=
  h.trans ⟨rfl, rfl, rfl, by simp [World.setCell], fun k hk => Below.heap_setCell _ _ _ _ hk⟩
theorem Only.toBelow {b B : Nat} {u w : World} (h : Only b u w) (hB : B ≤ b) : Below B u w :=
  ⟨h.os, h.tape, h.output, by rw [h.size]; exact Nat.le_refl _, fun k hk => h.block k (by omega)⟩

theorem Below.drewN {B : Nat} {a w : World} (h : Below B a w) (n : Nat) : Below B a (w.drewN n) := ⟨h.os, h.tape, h.output, h.size, h.block⟩

/-- old cells and marks behind a call that makes memory -/
theorem bcell {W w1 : World} (hb : Below W.heap.size W w1) : (∀ b o, b < W.heap.size → w1.cell? ⟨b, o, none⟩ = W.cell? ⟨b, o, none⟩) ∧ (∀ b o, b < W.heap.size → w1.frozen? ⟨b, o, none⟩ = W.frozen? ⟨b, o, none⟩) :=
  ⟨fun b o h => hb.cell (p := ⟨b, o, none⟩) h, fun b o h => hb.frozen (p := ⟨b, o, none⟩) h⟩

/-- the bytes l lie in w from the place a on -/
def BytesAt (w : World) (a : Addr) (l : List UInt8) : Prop := ∀ j (hj : j < l.length), w.cell? (a.add j) = some (.int .u8 (l[j].toNat : Int))

/-- block b begins with the bytes l -/
def Byt (w : World) (e : TypeId) (b : Nat) (l : List UInt8) : Prop :=
  ∃ C, Blk w b e C ∧ ∀ j (hj : j < l.length), C[j]? = some (.int .u8 (l[j].toNat : Int))

theorem addr_add (b o j : Nat) : (⟨b, o, none⟩ : Addr).add j = ⟨b, o + j, none⟩ := by
  unfold Addr.add; split <;> simp_all

theorem Byt.at {w : World} {e : TypeId} {b : Nat} {l : List UInt8} (h : Byt w e b l) : BytesAt w ⟨b, 0, none⟩ l := by
  obtain ⟨C, hb, hc⟩ := h
  intro j hj
  rw [addr_add, hb.cell, Nat.zero_add, hc j hj]

theorem Byt.cell {w : World} {e : TypeId} {b : Nat} {l : List UInt8} (h : Byt w e b l) (j : Nat) (hj : j < l.length) : w.cell? ⟨b, j, none⟩ = some (.int .u8 (l[j].toNat : Int)) := by
  obtain ⟨C, hb, hc⟩ := h
  rw [hb.cell, hc j hj]

theorem Byt.free {w : World} {e : TypeId} {b : Nat} {l : List UInt8} (h : Byt w e b l) (j : Nat) (hj : j < l.length) : w.frozen? ⟨b, j, none⟩ = false := by
  obtain ⟨C, hb, hc⟩ := h
  exact hb.free j (by have := hc j hj; exact (Array.getElem?_eq_some_iff.1 this).1)

theorem Byt.lt {w : World} {e : TypeId} {b : Nat} {l : List UInt8} (h : Byt w e b l) : b < w.heap.size := by
  obtain ⟨C, hb, hc⟩ := h
  exact hb.lt

theorem Byt.of_heap {w w' : World} {e : TypeId} {b : Nat} {l : List UInt8} (h : Byt w e b l) (hh : w'.heap[b]? = w.heap[b]?) : Byt w' e b l := by
  obtain ⟨C, hb, hc⟩ := h
  exact ⟨C, hb.of_heap hh, hc⟩

theorem Byt.below {B : Nat} {w w' : World} {e : TypeId} {b : Nat} {l : List UInt8} (h : Byt w e b l) (hb : Below B w w') (hlt : b < B) : Byt w' e b l := h.of_heap (hb.block b hlt)
theorem Byt.drew {w : World} {e : TypeId} {b : Nat} {l : List UInt8} (h : Byt w e b l) : Byt w.drew e b l := h
theorem Byt.drewN {w : World} {e : TypeId} {b : Nat} {l : List UInt8} (h : Byt w e b l) (n : Nat) : Byt (w.drewN n) e b l := h
theorem Byt.alloc {w : World} {e : TypeId} {b : Nat} {l : List UInt8} (h : Byt w e b l) (o : Obj) : Byt (w.alloc o) e b l := h.of_heap (Below.heap_alloc _ _ _ h.lt)

theorem Byt.set {w : World} {e : TypeId} {b : Nat} {l : List UInt8} (h : Byt w e b l) (j : Nat) (hj : j < l.length) (x : UInt8) : Byt (w.setCell ⟨b, j, none⟩ (.int .u8 (x.toNat : Int))) e b (l.set j x) := by
  obtain ⟨C, hb, hc⟩ := h
  refine ⟨_, hb.set j _, fun i hi => ?_⟩
  have hi' : i < l.length := by simpa using hi
  have hj' : j < C.size := (Array.getElem?_eq_some_iff.1 (hc j hj)).1
  rw [Array.getElem?_setIfInBounds]
  by_cases e : j = i
  · subst e; simp [hj']
  · simp [e, hc i hi']

/-- what '[]byte(s)' lays -/
theorem Byt.new (w : World) (e : TypeId) (s : ByteArray) (cap : Nat) (n m : Nat) (h : (bytesRow s cap).size ≤ n) : Byt (w.alloc (.cells (bytesRow s cap) e (n, m))) e w.heap.size s.data.toList := by
  refine ⟨_, Blk.new w e _ n m (Or.inr h), fun j hj => ?_⟩
  have hj' : j < s.data.size := by simpa using hj
  rw [bytesRow_at s cap j hj']
  simp

/-- 'string(b)' of a block's first bytes -/
theorem run_back (P : Program) (w : World) (src dst e : TypeId) (b : Nat) (o : Nat) (cap : Nat) (l : List UInt8) (hs : P.underlying src = some (.slice e)) (he : P.underlying e = some (.int .u8)) (hd : P.underlying dst = some .string)
    (hc : BytesAt w ⟨b, o, none⟩ l) : (convert src dst (.slice (some ⟨b, o, none⟩) l.length cap)).run P w = .ok (.string ⟨l.toArray⟩) w :=
  run_convert_bytes_back w src dst e _ cap l hs he hd hc

theorem str_append (a b : List UInt8) : (({ data := a.toArray } : ByteArray) ++ ({ data := b.toArray } : ByteArray)) = { data := (a ++ b).toArray } := by
  apply ByteArray.ext; simp [ByteArray.data_append]
theorem str_snoc (a : List UInt8) (x : UInt8) : (({ data := a.toArray } : ByteArray) ++ ({ data := #[x] } : ByteArray)) = { data := (a ++ [x]).toArray } := str_append a [x]
theorem str_cons (a : List UInt8) (x : UInt8) : (({ data := #[x] } : ByteArray) ++ ({ data := a.toArray } : ByteArray)) = { data := (x :: a).toArray } := str_append [x] a

/-- 'string([]byte{v})' -/
theorem run_one (P : Program) (w : World) (src dst e : TypeId) (v : UInt8) (V : Int) (hV : V = (v.toNat : Int)) (hs : P.underlying src = some (.slice e)) (he : P.underlying e = some (.int .u8)) (hd : P.underlying dst = some .string) :
    (convert src dst (.slice (some ⟨w.heap.size, 0, none⟩) 1 1)).run P (w.alloc (.cells #[.int .u8 V] e)) = .ok (.string ⟨#[v]⟩) (w.alloc (.cells #[.int .u8 V] e)) := by
  subst hV
  refine run_convert_bytes_back _ src dst e _ 1 [v] hs he hd ?_
  intro j hj
  have : j = 0 := by simpa using hj
  subst this
  rw [addr_add, World.cell?_alloc_mark]
  rfl

/-- 'string([]byte{a, b})' -/
theorem run_two (P : Program) (w : World) (src dst e : TypeId) (a b : UInt8) (A B : Int) (hA : A = (a.toNat : Int)) (hB : B = (b.toNat : Int)) (hs : P.underlying src = some (.slice e)) (he : P.underlying e = some (.int .u8)) (hd : P.underlying dst = some .string) :
    (convert src dst (.slice (some ⟨w.heap.size, 0, none⟩) 2 2)).run P (w.alloc (.cells #[.int .u8 A, .int .u8 B] e)) = .ok (.string ⟨#[a, b]⟩) (w.alloc (.cells #[.int .u8 A, .int .u8 B] e)) := by
  subst hA
  subst hB
  refine run_convert_bytes_back _ src dst e _ 2 [a, b] hs he hd ?_
  intro j hj
  rw [addr_add, World.cell?_alloc_mark]
  match j, hj with
  | 0, _ | 1, _ => rfl

theorem ret_int {k : IntKind} {a b : Int} (h : a = b) : Ending.returned (.int k a) = .returned (.int k b) := by rw [h]

theorem ret2_int {k : IntKind} {a b : Int} {v : Value} (h : a = b) : Ending.returned (.tuple #[.int k a, v]) = .returned (.tuple #[.int k b, v]) := by rw [h]
theorem ret_str {l m : List UInt8} (h : l = m) : Ending.returned (.string ⟨l.toArray⟩) = .returned (.string ⟨m.toArray⟩) := by rw [h]
theorem ret_bool {a b : Bool} (h : a = b) : Ending.returned (.bool a) = .returned (.bool b) := by rw [h]

theorem extract_list (s : ByteArray) (i j : Nat) : (s.extract i j).data.toList = (s.data.toList.drop i).take (j - i) := by
  simp [ByteArray.data_extract, List.extract_eq_take_drop]

theorem setRow_alloc (W : World) (C C' : Array Value) (e : TypeId) (fr : Nat × Nat) : (W.alloc (.cells C e fr)).setRow W.heap.size C' = W.alloc (.cells C' e fr) := by
  unfold World.setRow
  show ({ W.alloc (.cells C e fr) with heap := (W.heap.push (.cells C e fr)).modify W.heap.size _ } : World) = _
  have hm : ∀ (a : Array Obj) (x : Obj) (f : Obj → Obj), (a.push x).modify a.size f = a.push (f x) := by
    intro a x f
    apply Array.ext
    · simp
    · intro i h1 h2
      simp only [Array.getElem_modify, Array.getElem_push]
      by_cases h : a.size = i
      · subst h
        simp
      · have hi : i < a.size := by simp at h1; omega
        simp [h, hi]
  rw [hm]
  rfl

/-- 'copy(x.f[:], s)' into a block that was made last: s is long enough -/
theorem run_copy_new (P : Program) (W : World) (dT sT ty elem e : TypeId) (C C' : Array Value) (o dLen dCap : Nat) (s : ByteArray) (bs : List UInt8)
    (hu : P.underlying dT = some (.slice elem)) (hs : (P.info? elem).map (·.size) = some 1)
    (hle : dLen ≤ s.size) (hbs : s.data.toList.take dLen = bs) (hfit : o + dLen ≤ C.size)
    (hC : C.toList.take o ++ bs.map ubv ++ C.toList.drop (o + dLen) = C'.toList) :
    (Builtin.copy_ #[dT, sT] ty #[.slice (some ⟨W.heap.size, o, none⟩) dLen dCap, .string s]).run P (W.alloc (.cells C e)) = .ok (goInt dLen) (W.alloc (.cells C' e)) := by
  have hl : bs.length = dLen := by
    rw [← hbs, List.length_take]
    have : s.data.toList.length = s.size := by simp
    omega
  have hlen : (bs.map ubv).length = dLen := by rw [List.length_map, hl]
  have hst := run_storeCells_at P W.heap.size o e (bs.map ubv) 0 C (W.alloc (.cells C e)) (heap_alloc_new W _) (by rw [hlen]; simpa using hfit) (by
    intro v hv
    obtain ⟨x, _, rfl⟩ := List.mem_map.1 hv
    rfl)
  rw [hlen] at hst
  simp only [Nat.add_zero] at hst
  rw [hC, Array.toArray_toList, setRow_alloc] at hst
  have hmin : Nat.min s.size dLen = dLen := Nat.min_eq_right hle
  have htk : List.take dLen (List.map (fun b : UInt8 => Value.int IntKind.u8 (b.toNat : Int)) s.data.toList) = bs.map ubv := by
    rw [← hbs, List.map_take]
  cases hq : P.info? elem with
  | none => simp [hq] at hs
  | some i =>
    simp [Builtin.copy_, run_underlying hu, Builtin.lenOf, Builtin.firstCells, sizeOf, typeInfo, hq, hmin]
    rw [htk, hst]
    simp [Result.andThen]

theorem run_part_u8 {P : Program} (w : World) (e : TypeId) (cs : Array Value) (off : Nat) (v : Value) (he : P.underlying e = some (.int .u8)) (h : cs[off]? = some v) : (part e cs off).run P w = .ok v w := by
  have hagg : (isAgg e).run P w = .ok false w := by
    unfold isAgg
    rw [Sem.run_bind, run_underlying he w]
    rfl
  simp [part, Sem.run_bind, hagg, h]

theorem run_eq_loop {P : Program} (w : World) (d : Nat) (e : TypeId) (he : P.underlying e = some (.int .u8)) (xs ys : Array Value) (f g : Nat → Int) :
    ∀ (k i : Nat), (∀ j, i ≤ j → j < i + k → xs[j]? = some (.int .u8 (f j)) ∧ ys[j]? = some (.int .u8 (g j))) →
    (forIn (m := Sem) (List.range' i k) ((none, ()) : Option Bool × Unit) (fun j r => do
      let a ← part e xs (j * 1)
      let b ← part e ys (j * 1)
      let c ← Op.equalIn (d + 1) e a b
      if (!c) = true then pure (ForInStep.done (some false, ())) else pure (ForInStep.yield (none, ())))).run P w =
      .ok (if (List.range' i k).all (fun j => f j == g j) then (none, ()) else (some false, ())) w
  | 0, i, _ => by simp
  | k + 1, i, h => by
    have h0 := h i (Nat.le_refl _) (by omega)
    have ih := run_eq_loop w d e he xs ys f g k (i + 1) (fun j h1 h2 => h j (by omega) (by omega))
    rw [List.range'_succ, List.forIn_cons]
    simp only [Sem.run_bind, Nat.mul_one]
    rw [run_part_u8 w e xs i _ he h0.1]
    simp only [Result.andThen_ok]
    rw [run_part_u8 w e ys i _ he h0.2]
    simp only [Result.andThen_ok]
    rw [run_equalIn_int w d e .u8 .u8 _ _ he]
    simp only [Result.andThen_ok]
    by_cases hfg : f i = g i
    · have h1 : (f i == g i) = true := beq_iff_eq.2 hfg
      rw [h1]
      simp only [Nat.mul_one] at ih
      simp only [Bool.not_true, Bool.false_eq_true, if_false, Sem.run_pure, Result.andThen_ok, List.all_cons, h1, Bool.true_and]
      exact ih
    · have h1 : (f i == g i) = false := beq_eq_false_iff_ne.2 hfg
      rw [h1]
      simp [h1]

/-- the comparison of two arrays of bytes -/
theorem run_equalIn_row {P : Program} (w : World) (d : Nat) (t e : TypeId) (n : Nat) (ht : P.underlying t = some (.array n e)) (he : P.underlying e = some (.int .u8)) (hs : (P.info? e).map (·.size) = some 1)
    (xs ys : Array Value) (f g : Nat → Int) (h : ∀ j, j < n → xs[j]? = some (.int .u8 (f j)) ∧ ys[j]? = some (.int .u8 (g j))) :
    (Op.equalIn (d + 2) t (.agg xs) (.agg ys)).run P w = .ok ((List.range' 0 n).all (fun j => f j == g j)) w := by
  have hsz : ∀ w, (sizeOf e).run P w = .ok 1 w := by
    intro w
    cases hq : P.info? e with
    | none => simp [hq] at hs
    | some i =>
      have : i.size = 1 := by simpa [hq] using hs
      simp [sizeOf, typeInfo, hq, this]
  rw [Op.equalIn]
  simp only [Sem.run_bind, run_underlying ht, Result.andThen_ok, hsz]
  rw [Std.Legacy.Range.forIn_eq_forIn_range']
  have hl := run_eq_loop w d e he xs ys f g n 0 (fun j _ h2 => h j (by omega))
  have e2 : List.range' [:n].start [:n].size [:n].step = List.range' 0 n := by simp [Std.Legacy.Range.size]
  rw [e2, hl]
  cases hall : (List.range' 0 n).all (fun j => f j == g j) <;> simp

theorem size_alloc (w : World) (o : Obj) : (w.alloc o).heap.size = w.heap.size + 1 := by simp

theorem Blk.range {w : World} {b : Nat} {e : TypeId} {C : Array Value} (h : Blk w b e C) : w.rangeAt b 0 C.toList := by
  intro j v hv
  rw [h.cell, Nat.zero_add]
  simpa using hv

theorem Blk.there {w : World} {b : Nat} {e : TypeId} {C : Array Value} (h : Blk w b e C) : w.there b 0 C.size := by
  intro j hj
  rw [Nat.zero_add]
  exact ⟨by rw [h.cell]; simp [hj], h.free j hj⟩

theorem Blk.setCells {b : Nat} {e : TypeId} : ∀ (vs : List Value) (o : Nat) (w : World) (C : Array Value), Blk w b e C → o + vs.length ≤ C.size →
    Blk (w.setCells b o vs) b e (C.toList.take o ++ vs ++ C.toList.drop (o + vs.length)).toArray
  | [], o, w, C, h, _ => by
    have : (C.toList.take o ++ ([] : List Value) ++ C.toList.drop (o + 0)).toArray = C := by simp
    simp only [World.setCells, List.length_nil]
    rw [this]
    exact h
  | v :: r, o, w, C, h, hl => by
    have hl' : o + 1 + r.length ≤ C.size := by simp at hl; omega
    have ih := Blk.setCells r (o + 1) (w.setCell ⟨b, o, none⟩ v) (C.setIfInBounds o v) (h.set o v) (by simpa using hl')
    rw [World.setCells]
    have e1 : ((C.setIfInBounds o v).toList.take (o + 1) ++ r ++ (C.setIfInBounds o v).toList.drop (o + 1 + r.length)).toArray =
        (C.toList.take o ++ (v :: r) ++ C.toList.drop (o + (v :: r).length)).toArray := by
      congr 1
      have := list_seg_step C.toList o v r (by simp; omega)
      simpa [Array.toList_setIfInBounds, Nat.add_assoc] using this
    rw [← e1]
    exact ih

theorem Blk.setAll {w : World} {b : Nat} {e : TypeId} {C cs : Array Value} (h : Blk w b e C) (hs : cs.size = C.size) : Blk (w.setCells b 0 cs.toList) b e cs := by
  have := Blk.setCells cs.toList 0 w C h (by simp [hs])
  have e1 : (C.toList.take 0 ++ cs.toList ++ C.toList.drop (0 + cs.toList.length)).toArray = cs := by
    rw [List.take_zero, List.nil_append, Nat.zero_add, List.drop_of_length_le (by simp [hs]), List.append_nil, Array.toArray_toList]
  rwa [e1] at this

theorem heap_setCells (b : Nat) : ∀ (vs : List Value) (o : Nat) (w : World) (k : Nat), k ≠ b → (w.setCells b o vs).heap[k]? = w.heap[k]?
  | [], _, _, _, _ => rfl
  | v :: r, o, w, k, h => by
    rw [World.setCells, heap_setCells b r (o + 1) _ k h]
    exact Below.heap_setCell _ _ _ _ h

theorem size_setCells (b : Nat) : ∀ (vs : List Value) (o : Nat) (w : World), (w.setCells b o vs).heap.size = w.heap.size
  | [], _, _ => rfl
  | v :: r, o, w => by
    rw [World.setCells, size_setCells b r (o + 1) _]
    simp [World.setCell]

theorem Blk.setCells_other {w : World} {b : Nat} {e : TypeId} {C : Array Value} (h : Blk w b e C) (b' o : Nat) (vs : List Value) (hne : b ≠ b') : Blk (w.setCells b' o vs) b e C :=
  h.of_heap (heap_setCells b' vs o w b hne)

/-- 'load' of a whole block -/
theorem wpList_load_blk {P : Program} {ops : Array Oper} {rest : List Oper} {op : Oper} {a : Act} {w : World} {Q : Exit → Act → World → Prop} (hgd : op.guard = none) (ty : TypeId) (x : Operand) (ho : op.op = .load ty x)
    (b : Nat) (hx : a.eval x = .pointer (some ⟨b, 0, none⟩)) (C : Array Value) (e : TypeId) (d : TypeDesc) (hc : Blk w b e C)
    (hu : P.underlying ty = some d) (hd : d.isRow = true) (hi : (P.info? ty).map (·.size) = some C.size)
    (h : wpList P ops Q rest (a.put op.dst (.agg C)) w) : wpList P ops Q (op :: rest) a w := by
  refine wpList_load_mid hgd ty x ho b 0 hx C.toList d hc.range hu hd (by simpa using hi) ?_
  simpa using h

/-- 'store' of a whole block -/
theorem wpList_store_blk {P : Program} {ops : Array Oper} {rest : List Oper} {op : Oper} {a : Act} {w : World} {Q : Exit → Act → World → Prop} (hgd : op.guard = none) (ty : TypeId) (x y : Operand) (ho : op.op = .store ty x y)
    (b : Nat) (cs : Array Value) (hx : a.eval x = .pointer (some ⟨b, 0, none⟩)) (hy : a.eval y = .agg cs) (C : Array Value) (e : TypeId) (hc : Blk w b e C) (hs : cs.size = C.size)
    (hi : (P.info? ty).map (·.size) = some cs.size) (h1 : cs.toList.all (·.oneCell') = true)
    (h : wpList P ops Q rest (a.put op.dst undef) (w.setCells b 0 cs.toList)) : wpList P ops Q (op :: rest) a w :=
  wpList_store_mid hgd ty x y ho b 0 cs hx hy (by rw [hs]; exact hc.there) hi (by simpa using h1) h

theorem Blk.setPart {w : World} {b : Nat} {e : TypeId} {C C' : Array Value} (h : Blk w b e C) (o : Nat) (vs : List Value) (hl : o + vs.length ≤ C.size) (hC : C.toList.take o ++ vs ++ C.toList.drop (o + vs.length) = C'.toList) :
    Blk (w.setCells b o vs) b e C' := by
  have := Blk.setCells vs o w C h hl
  rwa [hC, Array.toArray_toList] at this

/-- 'store' of a part of a block -/
theorem wpList_store_part {P : Program} {ops : Array Oper} {rest : List Oper} {op : Oper} {a : Act} {w : World} {Q : Exit → Act → World → Prop} (hgd : op.guard = none) (ty : TypeId) (x y : Operand) (ho : op.op = .store ty x y)
    (b o : Nat) (cs : Array Value) (hx : a.eval x = .pointer (some ⟨b, o, none⟩)) (hy : a.eval y = .agg cs) (C : Array Value) (e : TypeId) (hc : Blk w b e C) (hfit : o + cs.size ≤ C.size)
    (hi : (P.info? ty).map (·.size) = some cs.size) (h1 : cs.toList.all (·.oneCell') = true)
    (h : wpList P ops Q rest (a.put op.dst undef) (w.setCells b o cs.toList)) : wpList P ops Q (op :: rest) a w :=
  wpList_store_mid hgd ty x y ho b o cs hx hy (fun j hj => by
    have hj' : o + j < C.size := by omega
    exact ⟨by rw [hc.cell]; simp [hj'], hc.free _ hj'⟩) hi (by simpa using h1) h

/-- 'load' of a part of a block -/
theorem wpList_load_part {P : Program} {ops : Array Oper} {rest : List Oper} {op : Oper} {a : Act} {w : World} {Q : Exit → Act → World → Prop} (hgd : op.guard = none) (ty : TypeId) (x : Operand) (ho : op.op = .load ty x)
    (b o : Nat) (hx : a.eval x = .pointer (some ⟨b, o, none⟩)) (C cs : Array Value) (e : TypeId) (d : TypeDesc) (hc : Blk w b e C) (hcs : (C.toList.drop o).take cs.size = cs.toList)
    (hu : P.underlying ty = some d) (hd : d.isRow = true) (hi : (P.info? ty).map (·.size) = some cs.size)
    (h : wpList P ops Q rest (a.put op.dst (.agg cs)) w) : wpList P ops Q (op :: rest) a w := by
  refine wpList_load_mid hgd ty x ho b o hx cs.toList d ?_ hu hd (by simpa using hi) (by simpa using h)
  intro j v hv
  rw [hc.cell]
  rw [← hcs, List.getElem?_take] at hv
  split at hv
  · rw [List.getElem?_drop] at hv; simpa using hv
  · cases hv

/-- a struct result that lies in memory, and one more -/
theorem results_blk {P : Program} {fn : Func} {p u : Tmp} {ty : TypeId} (h : fn.results = #[.cell p ty, .tmp u]) (tmps : Array Value) (w : World) (b : Nat) (e : TypeId) (C : Array Value) (d : TypeDesc)
    (hp : tmps.getD p undef = .pointer (some ⟨b, 0, none⟩)) (hc : Blk w b e C) (hu : P.underlying ty = some d) (hd : d.isRow = true) (hi : (P.info? ty).map (·.size) = some C.size) :
    (results fn tmps).run P w = .ok (.tuple #[.agg C, tmps.getD u undef]) w := by
  rw [results_cell_tmp h, hp]
  have := run_loadVar_mid (P := P) w b 0 ty C.toList d hc.range hu hd (by simpa using hi)
  simp only [Array.toArray_toList] at this
  simp [asAddr, this]

theorem results_cell1 {P : Program} {fn : Func} {p : Tmp} {ty : TypeId} (h : fn.results = #[.cell p ty]) (tmps : Array Value) (w : World) (b : Nat) (e : TypeId) (C : Array Value) (d : TypeDesc)
    (hp : tmps.getD p undef = .pointer (some ⟨b, 0, none⟩)) (hc : Blk w b e C) (hu : P.underlying ty = some d) (hd : d.isRow = true) (hi : (P.info? ty).map (·.size) = some C.size) :
    (results fn tmps).run P w = .ok (.agg C) w := by
  have := run_loadVar_mid (P := P) w b 0 ty C.toList d hc.range hu hd (by simpa using hi)
  simp only [Array.toArray_toList] at this
  have h0 : (results fn tmps).run P w = ((asAddr (tmps.getD p undef)).run P w).andThen fun a w₁ => ((loadVar ty a).run P w₁) := by
    simp only [results, h]
    simp [Sem.run_bind, Result.andThen]
  rw [h0, hp]
  simp [asAddr, this]

theorem Below.step {a w w' : World} (h : Below a.heap.size a w) (k : Below w.heap.size w w') : Below a.heap.size a w' := h.trans (k.mono h.size)
theorem Blk.step {w w' : World} {b : Nat} {e : TypeId} {C : Array Value} (h : Blk w b e C) (k : Below w.heap.size w w') : Blk w' b e C := h.below k h.lt
theorem Byt.step {w w' : World} {b : Nat} {e : TypeId} {l : List UInt8} (h : Byt w e b l) (k : Below w.heap.size w w') : Byt w' e b l := h.below k h.lt

theorem Below.setCells {B b : Nat} {a w : World} (h : Below B a w) (hb : B ≤ b) (o : Nat) (vs : List Value) : Below B a (w.setCells b o vs) := Go.below_setCells hb vs o w h

end Go.Proofs.Yticchchcobjpdaa
