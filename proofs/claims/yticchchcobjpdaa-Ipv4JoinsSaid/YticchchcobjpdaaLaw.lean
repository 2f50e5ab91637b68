/- How a statement 'for every input the law answers true, each argument reads behind the call as before' follows from a contract: the call answers true and writes nothing that was there. No condition. -/
import Derived.Test.YticchchcobjpdaaRows
import Derived.Test.YticchchcobjpdaaBase
import Derived.ProofKit
import Derived.OpenShut
import Derived.ShutString
import Derived.ChangeOld
import Derived.Lib.SmallJoins
namespace Go.Proofs.Yticchchcobjpdaa
set_option linter.unusedVariables false
set_option maxRecDepth 100000
open Go.ChangeShapes Go.WideShapes Go.ChangeAt Go.RowKit

theorem own : ownKnob Try.prog.godebug = none := by kernel_rfl
theorem laidOut : laidOutB Try.prog = true := by kernel_rfl

/-- Every type of a list can be read, and is a row of the table. -/
def readable (P : Program) (ts : List TypeId) : Bool := ts.all fun t => P.readableRec t && decide (t < P.types.size)

theorem trodAll_below {P : Program} (hlaid : laidOutB P = true) {H : Type} {enc : TypeId × Value → H} {W W' : World} (hb : Below W.heap.size W W') (ts : List TypeId) :
    ∀ (vs : List Value) (ds : List (DataW H)) (p : List MemPlace), readable P ts = true →
      DataW.TrodAll enc P W 0 (fun _ => true) true ts vs ds p → (∀ x ∈ p, x.block < W.heap.size) →
      DataW.TrodAll enc P W' 0 (fun b => decide (b < W.heap.size)) true ts vs ds p := by
  induction ts with
  | nil =>
    intro vs ds p _ h _
    obtain ⟨rfl, rfl, rfl⟩ := trodAll_nil h
    exact trodAll_mk0
  | cons t ts ih =>
    intro vs ds p hr h hl
    simp only [readable, List.all_cons, Bool.and_eq_true, decide_eq_true_eq] at hr
    obtain ⟨⟨hr1, hr2⟩, hr3⟩ := hr
    obtain ⟨v0, vs0, d0, ds0, p0, q0, rfl, rfl, rfl, h0, r0⟩ := trodAll_cons h
    exact trodAll_cons_mk (Below.trod hlaid hr1 hr2 h0 hb (fun x hx => hl x (by simp [hx])))
      (ih vs0 ds0 q0 (by simpa [readable] using hr3) r0 (fun x hx => hl x (by simp [hx])))

/-- what the row's 'post' asks, where the call answers true and writes nothing that was there -/
theorem law_post {H : Type} {enc : TypeId × Value → H} {f : Func} {s : ChangeSpec} {W W' : World} {args : Array Value} {ds : List (DataW H)} {p : List MemPlace}
    (hres : f.resultTypes = #[4]) (hread : readable Try.prog f.params.toList = true)
    (hspec : (s.fn H (ds ++ [])).results = [.lit (.bool true)] ∧ (s.fn H (ds ++ [])).args = ds ∧ (s.fn H (ds ++ [])).vars = [])
    (hvars : s.vars = [])
    (hW : DataW.Whole enc Try.prog f.params.toList s.vars false W args.toList ds [] (p ++ []))
    (hA : DataW.TrodAll enc Try.prog W 0 (fun _ => true) true f.params.toList args.toList ds p)
    (hb : Below W.heap.size W W') :
    ∃ v, Ending.returned (.bool true) = .returned v ∧ s.post enc Try.prog f false true false false W args v W' := by
  have hlt := hW.lt
  simp only [List.append_nil] at hlt
  refine ⟨_, rfl, ds, [], p ++ [], [], p, [], hW, ?_, ?_, ?_, hb.frame _, fun h => by cases h⟩
  · rw [hres, hspec.1]
    exact trodAll_mk1 (shut_bool Try.underlying4 _)
  · rw [hspec.2.1]
    exact trodAll_below laidOut hb _ _ _ _ hread hA hlt
  · rw [hvars, hspec.2.2]
    rfl

/-! Values by their shape: an argument of plain cells. -/

theorem cell_u8 {w : World} {r : Reach} {base : Nat} {v : Value} (h : Cell.okWide Try.prog w r base 5 v) : ∃ x : UInt8, v = .int .u8 (x.toNat : Int) := by
  simp only [Cell.okWide, Try.underlying5] at h
  cases v <;> simp [Cell.ok, Try.underlying5] at h
  rename_i k n
  obtain ⟨rfl, h1⟩ := h
  have : 0 ≤ n ∧ n ≤ 255 := by simpa [IntKind.has, IntKind.min, IntKind.max, IntKind.signed, IntKind.bits] using h1
  refine ⟨UInt8.ofNat n.toNat, ?_⟩
  congr 1
  rw [UInt8.toNat_ofNat']
  omega

theorem cell_int {w : World} {r : Reach} {base : Nat} {v : Value} (h : Cell.okWide Try.prog w r base 3 v) : ∃ n : Int, v = .int .i64 n ∧ -9223372036854775808 ≤ n ∧ n ≤ 9223372036854775807 := by
  simp only [Cell.okWide, Try.underlying3] at h
  cases v <;> simp [Cell.ok, Try.underlying3] at h
  rename_i k n
  obtain ⟨rfl, h1⟩ := h
  have : -9223372036854775808 ≤ n ∧ n ≤ 9223372036854775807 := by simpa [IntKind.has, IntKind.min, IntKind.max, IntKind.signed, IntKind.bits] using h1
  exact ⟨n, rfl, this.1, this.2⟩

theorem cell_str {w : World} {r : Reach} {base : Nat} {v : Value} (h : Cell.okWide Try.prog w r base 9 v) : ∃ l : List UInt8, v = .string ⟨l.toArray⟩ ∧ l.length ≤ 9223372036854775807 := by
  simp only [Cell.okWide, Try.underlying9] at h
  cases v <;> simp [Cell.ok, Try.underlying9] at h
  rename_i s
  have : (s.size : Int) ≤ 9223372036854775807 := by simpa [IntKind.max, IntKind.signed, IntKind.bits] using h
  refine ⟨s.data.toList, by simp, ?_⟩
  have : s.data.toList.length = s.size := by simp
  omega

theorem cell_u64 {w : World} {r : Reach} {base : Nat} {v : Value} (h : Cell.okWide Try.prog w r base 70 v) : ∃ n : Int, v = .int .u64 n ∧ 0 ≤ n ∧ n ≤ 18446744073709551615 := by
  simp only [Cell.okWide, Try.underlying70] at h
  cases v <;> simp [Cell.ok, Try.underlying70] at h
  rename_i k n
  obtain ⟨rfl, h1⟩ := h
  have : 0 ≤ n ∧ n ≤ 18446744073709551615 := by simpa [IntKind.has, IntKind.min, IntKind.max, IntKind.signed, IntKind.bits] using h1
  exact ⟨n, rfl, this.1, this.2⟩

theorem cell_u32 {w : World} {r : Reach} {base : Nat} {v : Value} (h : Cell.okWide Try.prog w r base 110 v) : ∃ n : Int, v = .int .u32 n ∧ 0 ≤ n ∧ n ≤ 4294967295 := by
  simp only [Cell.okWide, Try.underlying110] at h
  cases v <;> simp [Cell.ok, Try.underlying110] at h
  rename_i k n
  obtain ⟨rfl, h1⟩ := h
  have : 0 ≤ n ∧ n ≤ 4294967295 := by simpa [IntKind.has, IntKind.min, IntKind.max, IntKind.signed, IntKind.bits] using h1
  exact ⟨n, rfl, this.1, this.2⟩

theorem cell_u16 {w : World} {r : Reach} {base : Nat} {v : Value} (h : Cell.okWide Try.prog w r base 48 v) : ∃ n : Int, v = .int .u16 n ∧ 0 ≤ n ∧ n ≤ 65535 := by
  simp only [Cell.okWide, Try.underlying48] at h
  cases v <;> simp [Cell.ok, Try.underlying48] at h
  rename_i k n
  obtain ⟨rfl, h1⟩ := h
  have : 0 ≤ n ∧ n ≤ 65535 := by simpa [IntKind.has, IntKind.min, IntKind.max, IntKind.signed, IntKind.bits] using h1
  exact ⟨n, rfl, this.1, this.2⟩

/-- A plain value in one cell. -/
theorem plain_of {w : World} {r : Reach} {base : Nat} {t : TypeId} {v : Value} {d : TypeDesc} (hu : Try.prog.underlying t = some d) (hd : d.isRow = false) (h : Value.okWide Try.prog w r base t v) : Cell.okWide Try.prog w r base t v := by
  unfold Value.okWide at h
  rw [hu] at h
  cases d <;> first | exact h | simp [TypeDesc.isRow] at hd

/-- A struct or an array by value: its cells, each by its own type. -/
theorem row_of {w : World} {r : Reach} {base : Nat} {t : TypeId} {v : Value} {d : TypeDesc} {ts : List TypeId} (hu : Try.prog.underlying t = some d) (hd : d.isRow = true)
    (hts : Try.prog.cellTypes Try.prog.depth t = some ts) (hn : Try.prog.cellsOf t = ts.length) (h : Value.okWide Try.prog w r base t v) :
    ∃ cs : Array Value, v = .agg cs ∧ cs.size = ts.length ∧ ∀ i (hi : i < ts.length) x, cs[i]? = some x → Cell.okWide Try.prog w r base ts[i] x := by
  unfold Value.okWide at h
  rw [hu] at h
  have h2 : ∃ cs, v = .agg cs ∧ cs.size = Try.prog.cellsOf t ∧ Row.okWide Try.prog w r base t cs := by
    cases d <;> first | exact h | simp [TypeDesc.isRow] at hd
  obtain ⟨cs, rfl, hsz, ts', hts', _, hc⟩ := h2
  rw [hts] at hts'
  obtain rfl : ts = ts' := by simpa using hts'
  refine ⟨cs, rfl, by rw [hsz, hn], fun i hi x hx => ?_⟩
  obtain ⟨u, hu1, hu2⟩ := hc i x hx
  rw [Nat.mod_eq_of_lt hi, List.getElem?_eq_getElem hi] at hu1
  obtain rfl : ts[i] = u := by simpa using hu1
  exact hu2

end Go.Proofs.Yticchchcobjpdaa
