/- The statement JournalTornSaid: for every input the law answers true and leaves its arguments as they were. (No condition.) -/
import Derived.Test.YtccbohjcbhibkaaLaw
import Derived.Test.YtccbohjcbhibkaaJoA
namespace Go.Proofs.Ytccbohjcbhibkaa.lawJournalTorn
open Go.ChangeShapes Go.WideShapes Go.ChangeAt Go.RowKit
theorem arr4 {cs : Array Value} (h : cs.size = 4) : ∃ c0 c1 c2 c3 : Value, cs = #[c0, c1, c2, c3] := by
  obtain ⟨l⟩ := cs
  match l, h with
  | [c0, c1, c2, c3], _ => exact ⟨c0, c1, c2, c3, rfl⟩
theorem arr7 {cs : Array Value} (h : cs.size = 7) : ∃ c0 c1 c2 c3 c4 c5 c6 : Value, cs = #[c0, c1, c2, c3, c4, c5, c6] := by
  obtain ⟨l⟩ := cs
  match l, h with
  | [c0, c1, c2, c3, c4, c5, c6], _ => exact ⟨c0, c1, c2, c3, c4, c5, c6, rfl⟩

set_option maxRecDepth 100000 in
theorem contract (H : Type) (enc : TypeId × Value → H) (W : World) (base : Nat) (args : Array Value) (ds : List (DataW H)) (p : List MemPlace)
    (hval : ∀ (j : Nat) t v, Try.f7.params[j]? = some t → args[j]? = some v → Value.okWide Try.prog W .any base t v)
    (hA : DataW.TrodAll enc Try.prog W 0 (fun _ => true) true Try.f7.params.toList args.toList ds p) :
    Calls Try.prog 7 args W fun e W' => e = .returned (.bool true) ∧ Below W.heap.size W W' := by
  rw [Try.params7] at hA hval
  obtain ⟨v0, vs0, d0, ds0, p0, q0, hargs, rfl, rfl, h0, r0⟩ := trodAll_cons hA
  obtain ⟨v1, vs1, d1, ds1, p1, q1, rfl, rfl, rfl, h1, r1⟩ := trodAll_cons r0
  obtain ⟨v2, vs2, d2, ds2, p2, q2, rfl, rfl, rfl, h2, r2⟩ := trodAll_cons r1
  obtain ⟨rfl, rfl, rfl⟩ := trodAll_nil r2
  obtain rfl : args = #[v0, v1, v2] := by cases args; simp_all
  obtain ⟨cs0, rfl, hsz0, hc0⟩ := row_of (ts := [3, 3, 3, 9, 9, 9, 9]) Try.underlying29 rfl (by kernel_rfl) (by kernel_rfl) (hval 0 29 v0 rfl rfl)
  obtain ⟨a_0, a_1, a_2, a_3, a_4, a_5, a_6, rfl⟩ := arr7 hsz0
  obtain ⟨a0, rfl, h_a0⟩ := cell_int (hc0 0 (by decide) _ rfl)
  obtain ⟨a1, rfl, h_a1⟩ := cell_int (hc0 1 (by decide) _ rfl)
  obtain ⟨a2, rfl, h_a2⟩ := cell_int (hc0 2 (by decide) _ rfl)
  obtain ⟨a3, rfl, h_a3⟩ := cell_str (hc0 3 (by decide) _ rfl)
  obtain ⟨a4, rfl, h_a4⟩ := cell_str (hc0 4 (by decide) _ rfl)
  obtain ⟨a5, rfl, h_a5⟩ := cell_str (hc0 5 (by decide) _ rfl)
  obtain ⟨a6, rfl, h_a6⟩ := cell_str (hc0 6 (by decide) _ rfl)
  obtain ⟨cs1, rfl, hsz1, hc1⟩ := row_of (ts := [3, 3, 3, 9, 9, 9, 9]) Try.underlying29 rfl (by kernel_rfl) (by kernel_rfl) (hval 1 29 v1 rfl rfl)
  obtain ⟨b_0, b_1, b_2, b_3, b_4, b_5, b_6, rfl⟩ := arr7 hsz1
  obtain ⟨b0, rfl, h_b0⟩ := cell_int (hc1 0 (by decide) _ rfl)
  obtain ⟨b1, rfl, h_b1⟩ := cell_int (hc1 1 (by decide) _ rfl)
  obtain ⟨b2, rfl, h_b2⟩ := cell_int (hc1 2 (by decide) _ rfl)
  obtain ⟨b3, rfl, h_b3⟩ := cell_str (hc1 3 (by decide) _ rfl)
  obtain ⟨b4, rfl, h_b4⟩ := cell_str (hc1 4 (by decide) _ rfl)
  obtain ⟨b5, rfl, h_b5⟩ := cell_str (hc1 5 (by decide) _ rfl)
  obtain ⟨b6, rfl, h_b6⟩ := cell_str (hc1 6 (by decide) _ rfl)
  obtain ⟨cs2, rfl, hsz2, hc2⟩ := row_of (ts := [9, 9, 9, 9]) Try.underlying27 rfl (by kernel_rfl) (by kernel_rfl) (hval 2 27 v2 rfl rfl)
  obtain ⟨x_0, x_1, x_2, x_3, rfl⟩ := arr4 hsz2
  obtain ⟨x0, rfl, h_x0⟩ := cell_str (hc2 0 (by decide) _ rfl)
  obtain ⟨x1, rfl, h_x1⟩ := cell_str (hc2 1 (by decide) _ rfl)
  obtain ⟨x2, rfl, h_x2⟩ := cell_str (hc2 2 (by decide) _ rfl)
  obtain ⟨x3, rfl, h_x3⟩ := cell_str (hc2 3 (by decide) _ rfl)
  exact journalTorn_args W a0 a1 a2 b0 b1 b2 a3 a4 a5 a6 b3 b4 b5 b6 x0 x1 x2 x3 h_a3 h_a4 h_a5 h_a6 h_b3 h_b4 h_b5 h_b6 h_x0 h_x1 h_x2 h_x3

set_option maxRecDepth 100000 in
theorem lifted (os : Os) (started : os.Started) (H : Type) (enc : TypeId × Value → H) :
    ReturnsInHanded {} Try.checked os 7 .any (Rows.journalTornSpec.pre6 enc Try.prog Try.f7 Rows.journalTornRow.domain false) (Rows.journalTornSpec.post enc Try.prog Try.f7 false true false false) := by
  refine returnsInHanded_of_change (C := Try.checked) own started (by kernel_rfl) Try.func7
    (ChangeSpec.witness6 (enc := enc) (C := Try.checked) false ⟨#[], #[.agg #[.int .i64 0, .int .i64 0, .int .i64 0, .string ByteArray.empty, .string ByteArray.empty, .string ByteArray.empty, .string ByteArray.empty], .agg #[.int .i64 0, .int .i64 0, .int .i64 0, .string ByteArray.empty, .string ByteArray.empty, .string ByteArray.empty, .string ByteArray.empty], .agg #[.string ByteArray.empty, .string ByteArray.empty, .string ByteArray.empty, .string ByteArray.empty]], []⟩ 8 (by kernel_rfl) (by kernel_rfl) (by kernel_rfl) (by kernel_rfl)) ?_
  intro W base args ds gs before hval0 hW hcnd _
  have hval : ∀ (j : Nat) t v, Try.f7.params[j]? = some t → args[j]? = some v → Value.okWide Try.prog W .any base t v := hval0
  have hW' := hW
  obtain ⟨p, q, hA0, hV, rfl, hfz, hnd⟩ := hW
  have hA : DataW.TrodAll enc Try.prog W 0 (fun _ => true) true Try.f7.params.toList args.toList ds p := hA0
  obtain ⟨rfl, rfl⟩ := trodVars_none hV
  refine (contract H enc W base args ds p hval hA).mono fun e W' ⟨he, bel⟩ => ?_
  subst he
  refine law_post rfl (by kernel_rfl) ?_ rfl hW' hA bel
  have hA2 := hA
  rw [Try.params7] at hA2
  obtain ⟨v0, vs0, d0, ds0, p0, q0, hargs, rfl, rfl, h0, r0⟩ := trodAll_cons hA2
  obtain ⟨v1, vs1, d1, ds1, p1, q1, rfl, rfl, rfl, h1, r1⟩ := trodAll_cons r0
  obtain ⟨v2, vs2, d2, ds2, p2, q2, rfl, rfl, rfl, h2, r2⟩ := trodAll_cons r1
  obtain ⟨rfl, rfl, rfl⟩ := trodAll_nil r2
  exact ⟨rfl, rfl, rfl⟩

theorem over : Rows.journalTornRow.holds Try.pinned (OpenSpec.ofChange Rows.journalTornSpec) :=
  OpenClaim.holds_of_wide 7 Try.f7 rfl rfl rfl rfl rfl rfl rfl ⟨rfl, rfl, rfl, rfl, rfl⟩ rfl rfl rfl rfl rfl (by kernel_rfl) Try.func7 (by kernel_rfl)
    (of_decide_eq_true (by kernel_rfl)) (by unfold Func.isWrapper; rw [if_neg (by decide +kernel)]; exact ⟨rfl, rfl⟩)
    (fun os started H enc _ => lifted os started H enc)

theorem proved : Rows.JournalTornSaid := over
end Go.Proofs.Ytccbohjcbhibkaa.lawJournalTorn
