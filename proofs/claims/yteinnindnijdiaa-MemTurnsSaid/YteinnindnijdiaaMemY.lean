/- The walk through the law MemPlays: it answers true. -/
import Derived.Test.YteinnindnijdiaaMemX
namespace Go.Proofs.Yteinnindnijdiaa
set_option linter.unusedVariables false
set_option maxRecDepth 100000
open Go.RowKit
attribute [local go_sem ↓] Go.wp_at_zero Go.wp_at_succ

/-- the load of a whole act, under a name of its own -/
noncomputable def Lda (v : Value) : Sem Value := Instr.loadAt 50 v
theorem ld_act (v : Value) : Instr.loadAt 50 v = Lda v := rfl
attribute [local go_sem ↓] ld_act

theorem size_act : (Try.prog.info? 50).map (·.size) = some 5 := by kernel_rfl
theorem act_load {w : World} {b o : Nat} {d p n x : Int} {s : List UInt8} (h : w.rangeAt b o (actC d p n x s)) :
    (Lda (.pointer (some ⟨b, o, none⟩))).run Try.prog w = .ok (.agg #[.int .i64 d, .int .i64 p, .int .i64 n, .int .u64 x, .string ⟨s.toArray⟩]) w := by
  unfold Lda
  simp only [Instr.loadAt, Instr.sureAddr, Sem.run_bind, Sem.run_pure, Result.andThen_ok, run_loadVar_mid w b o 50 (actC d p n x s) _ h Try.underlying50 rfl size_act]

/-- some bool is answered, and nothing is done -/
def SomeB (w : World) (e : Ending) (w' : World) : Prop := ∃ b : Bool, e = .returned (.bool b) ∧ w = w'

set_option maxHeartbeats 1000000 in
theorem great_any (w : World) (A : Option Addr) (n c B : Nat) (hn : n ≤ 9223372036854775807) (h : ActsAt w B A n) :
    Calls Try.prog 24 #[.slice A n c] w (SomeB w) := by
  have H := Lib.hid h
  clear h
  go_enter Try.func24, Try.ntmps24
  go_wp2
  go_loop [3] (fun ix => ∃ k : Nat, k ≤ n ∧ ix = .int .i64 k) (fun ix => n - (intOf ix).toNat)
  case atStart => exact ⟨0, by omega, rfl⟩
  case round =>
    obtain ⟨k, hk, rfl⟩ := hrel
    by_cases hlt : k < n
    · by_cases h2 : k ≤ 200
      · obtain ⟨b, o, rfl, hb, hi⟩ := H.out (by omega)
        obtain ⟨d, p, m, x, s, hok, hr⟩ := hi k hlt
        have hc : w.cell? ⟨b, o + k * 5 + 4, none⟩ = some (.string ⟨s.toArray⟩) := hr 4 _ rfl
        have hs := hok.s
        clear hi hr hok
        by_cases h3 : 300 < s.length
        · go_wp2
          go_ret
          exact ⟨true, rfl, rfl⟩
        · go_wp2
          go_round
          case rel => exact ⟨k + 1, by omega, by go_num⟩
          case measure => simp [intOf]; omega
      · go_wp2
        go_ret
        exact ⟨_, rfl, rfl⟩
    · go_wp2
      go_ret
      exact ⟨_, rfl, rfl⟩
end Go.Proofs.Yteinnindnijdiaa
