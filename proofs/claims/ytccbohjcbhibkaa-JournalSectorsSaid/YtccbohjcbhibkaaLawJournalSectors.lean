/- The statement JournalSectorsSaid: for every input the law answers true and leaves its arguments as they were. (No condition.) -/
import Derived.Test.YtccbohjcbhibkaaLaw
import Derived.Test.YtccbohjcbhibkaaJnU
namespace Go.Proofs.Ytccbohjcbhibkaa.lawJournalSectors
open Go.ChangeShapes Go.WideShapes Go.ChangeAt Go.RowKit
theorem arr7 {cs : Array Value} (h : cs.size = 7) : ∃ c0 c1 c2 c3 c4 c5 c6 : Value, cs = #[c0, c1, c2, c3, c4, c5, c6] := by
  obtain ⟨l⟩ := cs
  match l, h with
  | [c0, c1, c2, c3, c4, c5, c6], _ => exact ⟨c0, c1, c2, c3, c4, c5, c6, rfl⟩

set_option maxRecDepth 100000 in
theorem contract (H : Type) (enc : TypeId × Value → H) (W : World) (base : Nat) (args : Array Value) (ds : List (DataW H)) (p : List MemPlace)
    (hval : ∀ (j : Nat) t v, Try.f4.params[j]? = some t → args[j]? = some v → Value.okWide Try.prog W .any base t v)
    (hA : DataW.TrodAll enc Try.prog W 0 (fun _ => true) true Try.f4.params.toList args.toList ds p) :
    Calls Try.prog 4 args W fun e W' => e = .returned (.bool true) ∧ Below W.heap.size W W' := by
  rw [Try.params4] at hA hval
  obtain ⟨v0, vs0, d0, ds0, p0, q0, hargs, rfl, rfl, h0, r0⟩ := trodAll_cons hA
  obtain ⟨v1, vs1, d1, ds1, p1, q1, rfl, rfl, rfl, h1, r1⟩ := trodAll_cons r0
  obtain ⟨rfl, rfl, rfl⟩ := trodAll_nil r1
  obtain rfl : args = #[v0, v1] := by cases args; simp_all
  obtain ⟨arr, rfl, h_arr⟩ := cell_int (plain_of Try.underlying3 rfl (hval 0 3 v0 rfl rfl))
  obtain ⟨cs1, rfl, hsz1, hc1⟩ := row_of (ts := [3, 3, 3, 9, 9, 9, 9]) Try.underlying29 rfl (by kernel_rfl) (by kernel_rfl) (hval 1 29 v1 rfl rfl)
  obtain ⟨x_0, x_1, x_2, x_3, x_4, x_5, x_6, rfl⟩ := arr7 hsz1
  obtain ⟨x0, rfl, h_x0⟩ := cell_int (hc1 0 (by decide) _ rfl)
  obtain ⟨x1, rfl, h_x1⟩ := cell_int (hc1 1 (by decide) _ rfl)
  obtain ⟨x2, rfl, h_x2⟩ := cell_int (hc1 2 (by decide) _ rfl)
  obtain ⟨x3, rfl, h_x3⟩ := cell_str (hc1 3 (by decide) _ rfl)
  obtain ⟨x4, rfl, h_x4⟩ := cell_str (hc1 4 (by decide) _ rfl)
  obtain ⟨x5, rfl, h_x5⟩ := cell_str (hc1 5 (by decide) _ rfl)
  obtain ⟨x6, rfl, h_x6⟩ := cell_str (hc1 6 (by decide) _ rfl)
  exact journalSectors_args W arr x0 x1 x2 x3 x4 x5 x6 h_x3 h_x4 h_x5 h_x6

set_option maxRecDepth 100000 in
theorem lifted (os : Os) (started : os.Started) (H : Type) (enc : TypeId × Value → H) :
    ReturnsInHanded {} Try.checked os 4 .any (Rows.journalSectorsSpec.pre6 enc Try.prog Try.f4 Rows.journalSectorsRow.domain false) (Rows.journalSectorsSpec.post enc Try.prog Try.f4 false true false false) := by
  refine returnsInHanded_of_change (C := Try.checked) own started (by kernel_rfl) Try.func4
    (ChangeSpec.witness6 (enc := enc) (C := Try.checked) false ⟨#[], #[.int .i64 0, .agg #[.int .i64 0, .int .i64 0, .int .i64 0, .string ByteArray.empty, .string ByteArray.empty, .string ByteArray.empty, .string ByteArray.empty]], []⟩ 8 (by kernel_rfl) (by kernel_rfl) (by kernel_rfl) (by kernel_rfl)) ?_
  intro W base args ds gs before hval0 hW hcnd _
  have hval : ∀ (j : Nat) t v, Try.f4.params[j]? = some t → args[j]? = some v → Value.okWide Try.prog W .any base t v := hval0
  have hW' := hW
  obtain ⟨p, q, hA0, hV, rfl, hfz, hnd⟩ := hW
  have hA : DataW.TrodAll enc Try.prog W 0 (fun _ => true) true Try.f4.params.toList args.toList ds p := hA0
  obtain ⟨rfl, rfl⟩ := trodVars_none hV
  refine (contract H enc W base args ds p hval hA).mono fun e W' ⟨he, bel⟩ => ?_
  subst he
  refine law_post rfl (by kernel_rfl) ?_ rfl hW' hA bel
  have hA2 := hA
  rw [Try.params4] at hA2
  obtain ⟨v0, vs0, d0, ds0, p0, q0, hargs, rfl, rfl, h0, r0⟩ := trodAll_cons hA2
  obtain ⟨v1, vs1, d1, ds1, p1, q1, rfl, rfl, rfl, h1, r1⟩ := trodAll_cons r0
  obtain ⟨rfl, rfl, rfl⟩ := trodAll_nil r1
  exact ⟨rfl, rfl, rfl⟩

theorem over : Rows.journalSectorsRow.holds Try.pinned (OpenSpec.ofChange Rows.journalSectorsSpec) :=
  OpenClaim.holds_of_wide 4 Try.f4 rfl rfl rfl rfl rfl rfl rfl ⟨rfl, rfl, rfl, rfl, rfl⟩ rfl rfl rfl rfl rfl (by kernel_rfl) Try.func4 (by kernel_rfl)
    (of_decide_eq_true (by kernel_rfl)) (by unfold Func.isWrapper; rw [if_neg (by decide +kernel)]; exact ⟨rfl, rfl⟩)
    (fun os started H enc _ => lifted os started H enc)

theorem proved : Rows.JournalSectorsSaid := over
end Go.Proofs.Ytccbohjcbhibkaa.lawJournalSectors
