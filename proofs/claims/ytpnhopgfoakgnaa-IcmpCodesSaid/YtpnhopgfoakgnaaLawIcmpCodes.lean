/- A message's bytes and what bytes are read as are the document's. (No condition.) -/
import Derived.Test.YtpnhopgfoakgnaaLaw
import Derived.Test.YtpnhopgfoakgnaaIcmpLawsD
namespace Go.Proofs.Ytpnhopgfoakgnaa.lawIcmpCodes
open Go.ChangeShapes Go.WideShapes Go.ChangeAt Go.RowKit
theorem arr4 {cs : Array Value} (h : cs.size = 4) : ∃ c0 c1 c2 c3 : Value, cs = #[c0, c1, c2, c3] := by
  obtain ⟨l⟩ := cs
  match l, h with
  | [c0, c1, c2, c3], _ => exact ⟨c0, c1, c2, c3, rfl⟩

set_option maxRecDepth 100000 in
theorem contract (H : Type) (enc : TypeId × Value → H) (W : World) (base : Nat) (args : Array Value) (ds : List (DataW H)) (p : List MemPlace)
    (hval : ∀ (j : Nat) t v, Try.f3.params[j]? = some t → args[j]? = some v → Value.okWide Try.prog W .any base t v)
    (hA : DataW.TrodAll enc Try.prog W 0 (fun _ => true) true Try.f3.params.toList args.toList ds p) :
    Calls Try.prog 3 args W fun e W' => e = .returned (.bool true) ∧ Below W.heap.size W W' := by
  rw [Try.params3] at hA hval
  obtain ⟨v0, vs0, d0, ds0, p0, q0, hargs, rfl, rfl, h0, r0⟩ := trodAll_cons hA
  obtain ⟨v1, vs1, d1, ds1, p1, q1, rfl, rfl, rfl, h1, r1⟩ := trodAll_cons r0
  obtain ⟨rfl, rfl, rfl⟩ := trodAll_nil r1
  obtain rfl : args = #[v0, v1] := by cases args; simp_all
  obtain ⟨cs0, rfl, hsz0, hc0⟩ := row_of (ts := [3, 3, 22, 9]) Try.underlying24 rfl (by kernel_rfl) (by kernel_rfl) (hval 0 24 v0 rfl rfl)
  obtain ⟨m_0, m_1, m_2, m_3, rfl⟩ := arr4 hsz0
  obtain ⟨m0, rfl, h_m0⟩ := cell_int (hc0 0 (by decide) _ rfl)
  obtain ⟨m1, rfl, h_m1⟩ := cell_int (hc0 1 (by decide) _ rfl)
  obtain ⟨m2, rfl, h_m2⟩ := cell_u32 (hc0 2 (by decide) _ rfl)
  obtain ⟨m3, rfl, h_m3⟩ := cell_str (hc0 3 (by decide) _ rfl)
  obtain ⟨s, rfl, h_s⟩ := cell_str (plain_of Try.underlying9 rfl (hval 1 9 v1 rfl rfl))
  exact icmpCodes_walk m0 m1 m2 h_m0 h_m1 h_m2 m3 h_m3 s h_s W

set_option maxRecDepth 100000 in
theorem lifted (os : Os) (started : os.Started) (H : Type) (enc : TypeId × Value → H) :
    ReturnsInHanded {} Try.checked os 3 .any (Rows.icmpCodesSpec.pre6 enc Try.prog Try.f3 Rows.icmpCodesRow.domain false) (Rows.icmpCodesSpec.post enc Try.prog Try.f3 false true false false) := by
  refine returnsInHanded_of_change (C := Try.checked) own started (by kernel_rfl) Try.func3
    (ChangeSpec.witness6 (enc := enc) (C := Try.checked) false ⟨#[], #[.agg #[.int .i64 0, .int .i64 0, .int .u32 0, .string ByteArray.empty], .string ByteArray.empty], []⟩ 8 (by kernel_rfl) (by kernel_rfl) (by kernel_rfl) (by kernel_rfl)) ?_
  intro W base args ds gs before hval0 hW hcnd _
  have hval : ∀ (j : Nat) t v, Try.f3.params[j]? = some t → args[j]? = some v → Value.okWide Try.prog W .any base t v := hval0
  have hW' := hW
  obtain ⟨p, q, hA0, hV, rfl, hfz, hnd⟩ := hW
  have hA : DataW.TrodAll enc Try.prog W 0 (fun _ => true) true Try.f3.params.toList args.toList ds p := hA0
  obtain ⟨rfl, rfl⟩ := trodVars_none hV
  refine (contract H enc W base args ds p hval hA).mono fun e W' ⟨he, bel⟩ => ?_
  subst he
  refine law_post rfl (by kernel_rfl) ?_ rfl hW' hA bel
  have hA2 := hA
  rw [Try.params3] at hA2
  obtain ⟨v0, vs0, d0, ds0, p0, q0, hargs, rfl, rfl, h0, r0⟩ := trodAll_cons hA2
  obtain ⟨v1, vs1, d1, ds1, p1, q1, rfl, rfl, rfl, h1, r1⟩ := trodAll_cons r0
  obtain ⟨rfl, rfl, rfl⟩ := trodAll_nil r1
  exact ⟨rfl, rfl, rfl⟩

theorem over : Rows.icmpCodesRow.holds Try.pinned (OpenSpec.ofChange Rows.icmpCodesSpec) :=
  OpenClaim.holds_of_wide 3 Try.f3 rfl rfl rfl rfl rfl rfl rfl ⟨rfl, rfl, rfl, rfl, rfl⟩ rfl rfl rfl rfl rfl (by kernel_rfl) Try.func3 (by kernel_rfl)
    (of_decide_eq_true (by kernel_rfl)) (by unfold Func.isWrapper; rw [if_neg (by decide +kernel)]; exact ⟨rfl, rfl⟩)
    (fun os started H enc _ => lifted os started H enc)

theorem proved : Rows.IcmpCodesSaid := over
end Go.Proofs.Ytpnhopgfoakgnaa.lawIcmpCodes
