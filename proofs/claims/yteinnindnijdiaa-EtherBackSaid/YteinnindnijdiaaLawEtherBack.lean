/- What has bytes is read from them, what is read has just these bytes, and two frames have one text of bytes just if they are the same. (No condition.) -/
import Derived.Test.YteinnindnijdiaaLaw
import Derived.Test.YteinnindnijdiaaEtherLawsD
namespace Go.Proofs.Yteinnindnijdiaa.lawEtherBack
open Go.ChangeShapes Go.WideShapes Go.ChangeAt Go.RowKit
theorem arr14 {cs : Array Value} (h : cs.size = 14) : ∃ c0 c1 c2 c3 c4 c5 c6 c7 c8 c9 c10 c11 c12 c13 : Value, cs = #[c0, c1, c2, c3, c4, c5, c6, c7, c8, c9, c10, c11, c12, c13] := by
  obtain ⟨l⟩ := cs
  match l, h with
  | [c0, c1, c2, c3, c4, c5, c6, c7, c8, c9, c10, c11, c12, c13], _ => exact ⟨c0, c1, c2, c3, c4, c5, c6, c7, c8, c9, c10, c11, c12, c13, rfl⟩

theorem contract (H : Type) (enc : TypeId × Value → H) (W : World) (base : Nat) (args : Array Value) (ds : List (DataW H)) (p : List MemPlace)
    (hval : ∀ (j : Nat) t v, Try.f4.params[j]? = some t → args[j]? = some v → Value.okWide Try.prog W .any base t v)
    (hA : DataW.TrodAll enc Try.prog W 0 (fun _ => true) true Try.f4.params.toList args.toList ds p) :
    Calls Try.prog 4 args W fun e W' => e = .returned (.bool true) ∧ Below W.heap.size W W' := by
  rw [Try.params4] at hA hval
  obtain ⟨v0, vs0, d0, ds0, p0, q0, hargs, rfl, rfl, h0, r0⟩ := trodAll_cons hA
  obtain ⟨v1, vs1, d1, ds1, p1, q1, rfl, rfl, rfl, h1, r1⟩ := trodAll_cons r0
  obtain ⟨v2, vs2, d2, ds2, p2, q2, rfl, rfl, rfl, h2, r2⟩ := trodAll_cons r1
  obtain ⟨rfl, rfl, rfl⟩ := trodAll_nil r2
  obtain rfl : args = #[v0, v1, v2] := by cases args; simp_all
  obtain ⟨cs0, rfl, hsz0, hc0⟩ := row_of (ts := [5, 5, 5, 5, 5, 5, 5, 5, 5, 5, 5, 5, 3, 9]) Try.underlying26 rfl (by kernel_rfl) (by kernel_rfl) (hval 0 26 v0 rfl rfl)
  obtain ⟨f_0, f_1, f_2, f_3, f_4, f_5, f_6, f_7, f_8, f_9, f_10, f_11, f_12, f_13, rfl⟩ := arr14 hsz0
  obtain ⟨f0, rfl⟩ := cell_u8 (hc0 0 (by decide) _ rfl)
  obtain ⟨f1, rfl⟩ := cell_u8 (hc0 1 (by decide) _ rfl)
  obtain ⟨f2, rfl⟩ := cell_u8 (hc0 2 (by decide) _ rfl)
  obtain ⟨f3, rfl⟩ := cell_u8 (hc0 3 (by decide) _ rfl)
  obtain ⟨f4, rfl⟩ := cell_u8 (hc0 4 (by decide) _ rfl)
  obtain ⟨f5, rfl⟩ := cell_u8 (hc0 5 (by decide) _ rfl)
  obtain ⟨f6, rfl⟩ := cell_u8 (hc0 6 (by decide) _ rfl)
  obtain ⟨f7, rfl⟩ := cell_u8 (hc0 7 (by decide) _ rfl)
  obtain ⟨f8, rfl⟩ := cell_u8 (hc0 8 (by decide) _ rfl)
  obtain ⟨f9, rfl⟩ := cell_u8 (hc0 9 (by decide) _ rfl)
  obtain ⟨f10, rfl⟩ := cell_u8 (hc0 10 (by decide) _ rfl)
  obtain ⟨f11, rfl⟩ := cell_u8 (hc0 11 (by decide) _ rfl)
  obtain ⟨f12, rfl, h_f12⟩ := cell_int (hc0 12 (by decide) _ rfl)
  obtain ⟨f13, rfl, h_f13⟩ := cell_str (hc0 13 (by decide) _ rfl)
  obtain ⟨cs1, rfl, hsz1, hc1⟩ := row_of (ts := [5, 5, 5, 5, 5, 5, 5, 5, 5, 5, 5, 5, 3, 9]) Try.underlying26 rfl (by kernel_rfl) (by kernel_rfl) (hval 1 26 v1 rfl rfl)
  obtain ⟨g_0, g_1, g_2, g_3, g_4, g_5, g_6, g_7, g_8, g_9, g_10, g_11, g_12, g_13, rfl⟩ := arr14 hsz1
  obtain ⟨g0, rfl⟩ := cell_u8 (hc1 0 (by decide) _ rfl)
  obtain ⟨g1, rfl⟩ := cell_u8 (hc1 1 (by decide) _ rfl)
  obtain ⟨g2, rfl⟩ := cell_u8 (hc1 2 (by decide) _ rfl)
  obtain ⟨g3, rfl⟩ := cell_u8 (hc1 3 (by decide) _ rfl)
  obtain ⟨g4, rfl⟩ := cell_u8 (hc1 4 (by decide) _ rfl)
  obtain ⟨g5, rfl⟩ := cell_u8 (hc1 5 (by decide) _ rfl)
  obtain ⟨g6, rfl⟩ := cell_u8 (hc1 6 (by decide) _ rfl)
  obtain ⟨g7, rfl⟩ := cell_u8 (hc1 7 (by decide) _ rfl)
  obtain ⟨g8, rfl⟩ := cell_u8 (hc1 8 (by decide) _ rfl)
  obtain ⟨g9, rfl⟩ := cell_u8 (hc1 9 (by decide) _ rfl)
  obtain ⟨g10, rfl⟩ := cell_u8 (hc1 10 (by decide) _ rfl)
  obtain ⟨g11, rfl⟩ := cell_u8 (hc1 11 (by decide) _ rfl)
  obtain ⟨g12, rfl, h_g12⟩ := cell_int (hc1 12 (by decide) _ rfl)
  obtain ⟨g13, rfl, h_g13⟩ := cell_str (hc1 13 (by decide) _ rfl)
  obtain ⟨s, rfl, h_s⟩ := cell_str (plain_of Try.underlying9 rfl (hval 2 9 v2 rfl rfl))
  exact etherBack_walk f0 f1 f2 f3 f4 f5 f6 f7 f8 f9 f10 f11 g0 g1 g2 g3 g4 g5 g6 g7 g8 g9 g10 g11 f12 g12 f13 g13 s h_f13 h_g13 h_s h_f12 h_g12 W

set_option maxRecDepth 100000 in
theorem lifted (os : Os) (started : os.Started) (H : Type) (enc : TypeId × Value → H) :
    ReturnsInHanded {} Try.checked os 4 .any (Rows.etherBackSpec.pre6 enc Try.prog Try.f4 Rows.etherBackRow.domain false) (Rows.etherBackSpec.post enc Try.prog Try.f4 false true false false) := by
  refine returnsInHanded_of_change (C := Try.checked) own started (by kernel_rfl) Try.func4
    (ChangeSpec.witness6 (enc := enc) (C := Try.checked) false ⟨#[], #[.agg #[.int .u8 0, .int .u8 0, .int .u8 0, .int .u8 0, .int .u8 0, .int .u8 0, .int .u8 0, .int .u8 0, .int .u8 0, .int .u8 0, .int .u8 0, .int .u8 0, .int .i64 0, .string ByteArray.empty], .agg #[.int .u8 0, .int .u8 0, .int .u8 0, .int .u8 0, .int .u8 0, .int .u8 0, .int .u8 0, .int .u8 0, .int .u8 0, .int .u8 0, .int .u8 0, .int .u8 0, .int .i64 0, .string ByteArray.empty], .string ByteArray.empty], []⟩ 8 (by kernel_rfl) (by kernel_rfl) (by kernel_rfl) (by kernel_rfl)) ?_
  intro W base args ds gs before hval0 hW hcnd _
  have hval : ∀ (j : Nat) t v, Try.f4.params[j]? = some t → args[j]? = some v → Value.okWide Try.prog W .any base t v := hval0
  have hW' := hW
  obtain ⟨p, q, hA0, hV, rfl, hfz, hnd⟩ := hW
  have hA : DataW.TrodAll enc Try.prog W 0 (fun _ => true) true Try.f4.params.toList args.toList ds p := hA0
  obtain ⟨rfl, rfl⟩ := trodVars_none hV
  refine (contract H enc W base args ds p hval hA).mono fun e W' ⟨he, bel⟩ => ?_
  subst he
  refine law_post rfl (by kernel_rfl) ?_ rfl hW' hA bel
  have hA2 := hA
  rw [Try.params4] at hA2
  obtain ⟨v0, vs0, d0, ds0, p0, q0, hargs, rfl, rfl, h0, r0⟩ := trodAll_cons hA2
  obtain ⟨v1, vs1, d1, ds1, p1, q1, rfl, rfl, rfl, h1, r1⟩ := trodAll_cons r0
  obtain ⟨v2, vs2, d2, ds2, p2, q2, rfl, rfl, rfl, h2, r2⟩ := trodAll_cons r1
  obtain ⟨rfl, rfl, rfl⟩ := trodAll_nil r2
  exact ⟨rfl, rfl, rfl⟩

theorem over : Rows.etherBackRow.holds Try.pinned (OpenSpec.ofChange Rows.etherBackSpec) :=
  OpenClaim.holds_of_wide 4 Try.f4 rfl rfl rfl rfl rfl rfl rfl ⟨rfl, rfl, rfl, rfl, rfl⟩ rfl rfl rfl rfl rfl (by kernel_rfl) Try.func4 (by kernel_rfl)
    (of_decide_eq_true (by kernel_rfl)) (by unfold Func.isWrapper; rw [if_neg (by decide +kernel)]; exact ⟨rfl, rfl⟩)
    (fun os started H enc _ => lifted os started H enc)

theorem proved : Rows.EtherBackSaid := over
end Go.Proofs.Yteinnindnijdiaa.lawEtherBack
