/- The statement ParityDeltaSaid: for every input the law answers true and leaves its arguments as they were. (No condition.) -/
import Derived.Test.YtlocjjaipahhoaaLaw
import Derived.Test.YtlocjjaipahhoaaPaD
namespace Go.Proofs.Ytlocjjaipahhoaa.lawParityDelta
open Go.ChangeShapes Go.WideShapes Go.ChangeAt Go.RowKit

set_option maxRecDepth 100000 in
theorem contract (H : Type) (enc : TypeId × Value → H) (W : World) (base : Nat) (args : Array Value) (ds : List (DataW H)) (p : List MemPlace)
    (hval : ∀ (j : Nat) t v, Try.f7.params[j]? = some t → args[j]? = some v → Value.okWide Try.prog W .any base t v)
    (hA : DataW.TrodAll enc Try.prog W 0 (fun _ => true) true Try.f7.params.toList args.toList ds p) :
    Calls Try.prog 7 args W fun e W' => e = .returned (.bool true) ∧ Below W.heap.size W W' := by
  rw [Try.params7] at hA hval
  obtain ⟨v0, vs0, d0, ds0, p0, q0, hargs, rfl, rfl, h0, r0⟩ := trodAll_cons hA
  obtain ⟨v1, vs1, d1, ds1, p1, q1, rfl, rfl, rfl, h1, r1⟩ := trodAll_cons r0
  obtain ⟨v2, vs2, d2, ds2, p2, q2, rfl, rfl, rfl, h2, r2⟩ := trodAll_cons r1
  obtain ⟨rfl, rfl, rfl⟩ := trodAll_nil r2
  obtain rfl : args = #[v0, v1, v2] := by cases args; simp_all
  exact (by
    obtain ⟨L, ⟨A, c, rfl, hst, hc, hcm, _⟩, hL, hs⟩ := strs_of2 (hval 0 22 v0 rfl rfl) h0
    obtain ⟨AP, cP, P, rfl, hP, hAP, hPi, _⟩ := ints_of (hval 1 37 v1 rfl rfl) h1
    obtain ⟨L2, ⟨A2, c2, rfl, hst2, hc2, hcm2, _⟩, hL2, hs2⟩ := strs_of2 (hval 2 22 v2 rfl rfl) h2
    cases hg : grV L
    · cases hg2 : grV L2
      · by_cases hp : 60 < P.length
        · exact deltas_great A c L AP cP P.length A2 c2 L2 hL hs hL2 hs2 hP W hst hst2 (Or.inr (Or.inr (Or.inl ⟨hg, hg2, hp⟩)))
        · by_cases hl : L.length = 0
          · exact deltas_great A c L AP cP P.length A2 c2 L2 hL hs hL2 hs2 hP W hst hst2 (Or.inr (Or.inr (Or.inr ⟨hg, hg2, hp, hl⟩)))
          · exact deltas_main A c L AP cP P A2 c2 L2 hL hs hL2 hs2 (by omega) hPi (fun h => hl (by rw [h]; rfl)) W hst hst2 hAP hg hg2
      · exact deltas_great A c L AP cP P.length A2 c2 L2 hL hs hL2 hs2 hP W hst hst2 (Or.inr (Or.inl ⟨hg, hg2⟩))
    · exact deltas_great A c L AP cP P.length A2 c2 L2 hL hs hL2 hs2 hP W hst hst2 (Or.inl hg))

set_option maxRecDepth 100000 in
theorem lifted (os : Os) (started : os.Started) (H : Type) (enc : TypeId × Value → H) :
    ReturnsInHanded {} Try.checked os 7 .any (Rows.parityDeltaSpec.pre6 enc Try.prog Try.f7 Rows.parityDeltaRow.domain false) (Rows.parityDeltaSpec.post enc Try.prog Try.f7 false true false false) := by
  refine returnsInHanded_of_change (C := Try.checked) own started (by kernel_rfl) Try.func7
    (ChangeSpec.witness6 (enc := enc) (C := Try.checked) false ⟨#[], #[.slice none 0 0, .slice none 0 0, .slice none 0 0], []⟩ 8 (by kernel_rfl) (by kernel_rfl) (by kernel_rfl) (by kernel_rfl)) ?_
  intro W base args ds gs before hval0 hW hcnd _
  have hval : ∀ (j : Nat) t v, Try.f7.params[j]? = some t → args[j]? = some v → Value.okWide Try.prog W .any base t v := hval0
  have hW' := hW
  obtain ⟨p, q, hA0, hV, rfl, hfz, hnd⟩ := hW
  have hA : DataW.TrodAll enc Try.prog W 0 (fun _ => true) true Try.f7.params.toList args.toList ds p := hA0
  obtain ⟨rfl, rfl⟩ := trodVars_none hV
  refine (contract H enc W base args ds p hval hA).mono fun e W' ⟨he, bel⟩ => ?_
  subst he
  refine law_post rfl (by kernel_rfl) ?_ rfl hW' hA bel
  have hA2 := hA
  rw [Try.params7] at hA2
  obtain ⟨v0, vs0, d0, ds0, p0, q0, hargs, rfl, rfl, h0, r0⟩ := trodAll_cons hA2
  obtain ⟨v1, vs1, d1, ds1, p1, q1, rfl, rfl, rfl, h1, r1⟩ := trodAll_cons r0
  obtain ⟨v2, vs2, d2, ds2, p2, q2, rfl, rfl, rfl, h2, r2⟩ := trodAll_cons r1
  obtain ⟨rfl, rfl, rfl⟩ := trodAll_nil r2
  exact ⟨rfl, rfl, rfl⟩

theorem over : Rows.parityDeltaRow.holds Try.pinned (OpenSpec.ofChange Rows.parityDeltaSpec) :=
  OpenClaim.holds_of_wide 7 Try.f7 rfl rfl rfl rfl rfl rfl rfl ⟨rfl, rfl, rfl, rfl, rfl⟩ rfl rfl rfl rfl rfl (by kernel_rfl) Try.func7 (by kernel_rfl)
    (of_decide_eq_true (by kernel_rfl)) (by unfold Func.isWrapper; rw [if_neg (by decide +kernel)]; exact ⟨rfl, rfl⟩)
    (fun os started H enc _ => lifted os started H enc)

theorem proved : Rows.ParityDeltaSaid := over
end Go.Proofs.Ytlocjjaipahhoaa.lawParityDelta
