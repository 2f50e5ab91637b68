/- Parts of Put: whether a piece is there; a packet appended to a row of packets. No condition beyond what each lemma says. -/
import Derived.Test.YticchchcobjpdaaJiJ
import Derived.Test.YticchchcobjpdaaCnt
namespace Go.Proofs.Yticchchcobjpdaa
set_option linter.unusedVariables false
set_option linter.unusedSimpArgs false
set_option maxRecDepth 100000
open Go.RowKit Go.Proofs Go.Shelf Go.Lib Go.Sort
attribute [local go_sem ↓] Go.wp_at_zero Go.wp_at_succ
attribute [local go_sem ↓] ld_pk ld_ip ld_wh
theorem idxPNil (f : Nat) (lb : Array Value) (w : World) : Calls Try.prog 57 #[.slice none 0 0, .func (.func f) #[] lb] w fun e w' => e = .returned (.int .i64 (-1)) ∧ w' = w := by
  go_enter Try.func57, Try.ntmps57
  go_wp2
  go_loopg [8] 0 (fun kx s8 wr => s8 = .int .i64 0 ∧ Hid (wr = w))
  case atStart => exact ⟨rfl, Lib.hid rfl⟩
  case round =>
    obtain ⟨rfl, HW⟩ := hrel
    go_wp2
    go_ret
    exact ⟨rfl, HW.out⟩
theorem contNil (f : Nat) (lb : Array Value) (w : World) : Calls Try.prog 34 #[.slice none 0 0, .func (.func f) #[] lb] w fun e w' => e = .returned (.bool false) ∧ w' = w := by
  have HI := Lib.hid (idxPNil f lb w)
  go_enter Try.func34, Try.ntmps34
  go_wp2_with fail
  refine HI.out.mono ?_
  rintro e w' ⟨rfl, rfl⟩
  go_wp2
  go_ret
  exact ⟨rfl, rfl⟩
theorem cont_any (g cap pb : Nat) (L : List Pkt) (p : Pkt) (hn : L.length ≤ 1000) (w : World) (hr : PkRow w g cap L) (hp : Blk w pb 25 p.c) :
    Calls Try.prog 34 #[.slice (some ⟨g, 0, none⟩) L.length cap, .func (.func 35) #[] #[.pointer (some ⟨pb, 0, none⟩)]] w fun e w' => e = .returned (.bool (L.any (fun x => sameB x p))) ∧ Below w.heap.size w w' := by
  have eg : ∀ args w, (callFunc 35 args).run Try.prog w = .ok (.enter 35 args) w := enters_of Try.func35 (by kernel_rfl) rfl
  have hpred : PredBelow Try.prog 35 #[.pointer (some ⟨pb, 0, none⟩)] (fun x : Pkt => .agg (encP x).toArray) (fun x => sameB x p) w := fun W x hb => by
    show Calls Try.prog _ #[.agg x.c.toList.toArray, _] _ _
    rw [Array.toArray_toList]
    exact (put1_any x p pb W (hp.step hb)).mono fun e w' ⟨he, hb'⟩ => ⟨he, Below.step hb hb'⟩
  have hcon := AnyQ.slices_ContainsFunc sh_cntf 14 Try.isAgg25 Try.sizeOf25 encP encP_len (fun x => sameB x p) 35 #[.pointer (some ⟨pb, 0, none⟩)] eg g 0 L.length cap L w hpred (Nat.le_refl _) (by omega) hr.1 (fun j hj i v hv => by
    obtain ⟨g', o, e, _, h⟩ := hr.ps.cells j hj
    injection e with e
    injection e with e1 e2
    subst e1
    subst e2
    rw [getElem!_pos L j hj] at hv
    exact h j hj i v hv)
  rw [List.take_of_length_le (Nat.le_refl _)] at hcon
  exact hcon
end Go.Proofs.Yticchchcobjpdaa
