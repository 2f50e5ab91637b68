/- journal.Merge as a whole. Condition: at most 1000 records in all. -/
import Derived.Test.YtccbohjcbhibkaaJpB
namespace Go.Proofs.Ytccbohjcbhibkaa
set_option linter.unusedVariables false
set_option linter.unusedSimpArgs false
set_option maxRecDepth 100000
open Go.RowKit Go.Proofs Go.Shelf Go.Lib Go.Sort
attribute [local go_sem ↓] Go.wp_at_zero Go.wp_at_succ ix_dat ld_rec

theorem RecAt.len {w : World} {B : Nat} {v : Value} {L : List Rc} (h : RecAt w B v L) : L.length ≤ maxLen := by
  obtain ⟨A, c, h1, h2, h3, h4⟩ := h.rs
  exact h4
theorem merge_any (G : Option Addr) (rs : List (Value × List Rc)) (K : Nat) (hK : rs.length = K) (hK63 : K ≤ 1000) (htot : (rs.flatMap (·.2)).length ≤ 1000) (w : World) (hr : RowsV w G rs) :
    Calls Try.prog 13 #[.slice G K K] w fun e w' => ∃ v M, e = .returned v ∧ MergeOf (rs.flatMap (·.2)) M ∧ RecAt w' w.heap.size v M ∧ Below w.heap.size w w' := by
  have C := Lib.hid (concat_any G rs K hK hK63 htot w hr)
  have HT := Lib.hid htot
  clear hr htot
  go_enter Try.func13, Try.ntmps13
  go_wp2_with fail
  refine C.out.mono ?_
  rintro e w1 ⟨v, rfl, h1, hb1⟩
  have S := Lib.hid (sortM_any w.heap.size v _ HT.out w1 h1)
  have HB1 := Lib.hid hb1
  clear h1 hb1 C
  go_wp2_with fail
  refine S.out.mono ?_
  rintro e w2 ⟨rfl, L2, h1, h2, h3, hb⟩
  have D := Lib.hid (compM_any w.heap.size v L2 (by rw [h2.len]; exact HT.out) w2 h3)
  have HM := Lib.hid (And.intro h1 h2)
  have HB2 := Lib.hid (HB1.out.trans hb)
  clear h1 h2 h3 hb S HB1
  go_wp2_with fail
  refine D.out.mono ?_
  rintro e w3 ⟨v3, rfl, h1, hb⟩
  have HR := Lib.hid h1
  have HB3 := Lib.hid (HB2.out.trans hb)
  clear h1 hb D
  go_wp2
  go_ret
  exact ⟨_, _, rfl, ⟨L2, HM.out.1, HM.out.2, rfl⟩, HR.out, HB3.out⟩
end Go.Proofs.Ytccbohjcbhibkaa
