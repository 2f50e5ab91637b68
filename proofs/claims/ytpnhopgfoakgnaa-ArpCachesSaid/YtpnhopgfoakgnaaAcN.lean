/- The acts of the law ArpCaches, as they come in. No condition. -/
import Derived.Test.YtpnhopgfoakgnaaAcL
import Derived.Test.YtpnhopgfoakgnaaArpW
import Derived.Deep.Slices
import Derived.Deep.MidRow
namespace Go.Proofs.Ytpnhopgfoakgnaa
set_option linter.unusedVariables false
set_option linter.unusedSimpArgs false
set_option maxRecDepth 100000
open Go.RowKit Go.ChangeShapes Go.WideShapes Go.Deep Go.Proofs

/-- an act's cells: what to do, an address, a machine -/
def actE (d : Int) (x : En) : List Value := .int .i64 d :: (x.ip.map ubv ++ x.mac.map ubv)
theorem actE_len (d : Int) (x : En) : (actE d x).length = 11 := rfl
theorem actE_one (d : Int) (x : En) : (actE d x).toArray.toList.all (·.oneCell') = true := rfl
/-- n acts lie from an address on, below block B -/
def AtA (w : World) (B : Nat) (A : Option Addr) (n : Nat) : Prop :=
  0 < n → ∃ b o, A = some ⟨b, o, none⟩ ∧ b < B ∧ ∀ i, i < n → ∃ (d : Int) (x : En), w.rangeAt b (o + i * 11) (actE d x)
theorem AtA.below {w w' : World} {B : Nat} {A : Option Addr} {n : Nat} (h : AtA w B A n) (hb : Below B w w') : AtA w' B A n := by
  intro hn
  obtain ⟨b, o, hA, hlt, hi⟩ := h hn
  refine ⟨b, o, hA, hlt, fun i him => ?_⟩
  obtain ⟨d, x, hr⟩ := hi i him
  exact ⟨d, x, fun j v hv => (hb.cell (p := ⟨b, o + i * 11 + j, none⟩) hlt).trans (hr j v hv)⟩
theorem wf_u8 {n : Int} (h : (Lit.int .u8 n).wf = true) : 0 ≤ n ∧ n ≤ 255 := by
  simpa [Lit.wf, IntKind.has, IntKind.min, IntKind.max, IntKind.signed, IntKind.bits] using h
theorem add_of_add2 (a : Addr) (i j : Nat) : (a.add i).add j = a.add (i + j) := by
  unfold Addr.add
  by_cases hi : i = 0 <;> by_cases hj : j = 0 <;> simp [hi, hj, Nat.add_assoc]
/-- an array of bytes in memory -/
theorem bytes_arr {H : Type} {enc : TypeId × Value → H} {w : World} {fuel n : Nat} {t : TypeId} {cs : List Value} {x : DataW H × List MemPlace} (hu : Try.prog.underlying t = some (.array n 5)) (hn : Try.prog.cellsOf t = n)
    (h : DataW.trod enc Try.prog w 0 (fun _ => true) true fuel t cs = some x) : ∃ l : List UInt8, cs = l.map ubv ∧ l.length = n := by
  obtain ⟨xs, m, _, _, hcl, hxl, hg⟩ := DataW.trod_array hu h
  have k1 : Try.prog.cellsOf 5 = 1 := by kernel_rfl
  rw [hn] at hcl
  obtain ⟨l, hl⟩ := bytes_of cs (fun v hv => by
    obtain ⟨i, hi, rfl⟩ := List.mem_iff_getElem.1 hv
    have g := hg i (by omega)
    rw [k1, Nat.mul_one, List.drop_eq_getElem_cons hi, List.take_succ_cons, List.take_zero, List.getElem?_eq_getElem (by omega)] at g
    obtain ⟨v0, e0, _, w0⟩ := DataW.trod_int Try.underlying5 g
    obtain ⟨h0, h1⟩ := wf_u8 w0
    simp only [List.cons.injEq, and_true] at e0
    refine ⟨UInt8.ofNat v0.toNat, ?_⟩
    rw [e0]
    have e : (UInt8.ofNat v0.toNat).toNat = v0.toNat := by rw [UInt8.toNat_ofNat']; exact Nat.mod_eq_of_lt (by omega)
    show Value.int .u8 v0 = .int .u8 ((UInt8.ofNat v0.toNat).toNat : Int)
    rw [e]
    congr 1
    omega)
  refine ⟨l, hl, ?_⟩
  have := congrArg List.length hl
  simp at this
  omega
theorem cells_act : Try.prog.cellsOf 75 = 11 := by kernel_rfl
/-- the acts of an argument -/
theorem acts_of {H : Type} {enc : TypeId × Value → H} {w : World} {v : Value} {d : DataW H} {p : List MemPlace} {r : Reach} {base : Nat} (hv : Value.okWide Try.prog w r base 68 v)
    (h : DataW.Trod enc Try.prog w 0 (fun _ => true) true 68 v d p) :
    ∃ (A : Option Addr) (n c : Nat), v = .slice A n c ∧ n ≤ maxLen ∧ AtA w w.heap.size A n := by
  obtain ⟨A0, n0, c0, rfl⟩ : ∃ A n c, v = .slice A n c := okWide_slice Try.underlying68 hv
  obtain ⟨fuel, hf⟩ := h
  rcases open_slice Try.underlying68 hf with ⟨h0, _⟩ | ⟨a, len, cap, m, n, D, Pl, hcs, hb, hl, hm, hmm, hx, hi⟩
  · obtain ⟨rfl, rfl, rfl⟩ : A0 = none ∧ n0 = 0 ∧ c0 = 0 := by simpa [Value.cells] using h0
    exact ⟨none, 0, 0, rfl, by simp [maxLen], fun h => absurd h (by omega)⟩
  · have hq : A0 = some a ∧ n0 = len ∧ c0 = cap := by simpa [Value.cells] using hcs
    obtain ⟨hq1, hq2, hq3⟩ := hq
    subst hq1
    subst hq2
    subst hq3
    refine ⟨some a, n0, c0, rfl, by omega, fun hn => ?_⟩
    have hml : n0 ≤ m := by rw [hmm]; simp; omega
    have hsp : a.spot = none := by
      obtain ⟨cs', hc, _⟩ := hi 0 (by omega)
      rw [cells_act] at hc
      obtain ⟨_, hcl, hat⟩ := World.cells?_some hc
      have h0 := hat 0 (by omega)
      rw [Nat.zero_mul, add_of_add2, Nat.add_zero] at h0
      have ha : a.add 0 = a := by unfold Addr.add; simp
      rw [ha, List.getElem?_eq_getElem (by omega)] at h0
      unfold World.cell? at h0
      split at h0
      · split at h0
        · cases h0
        · rename_i hns; simpa using hns
      · cases h0
    obtain ⟨b, o, sp⟩ := a
    obtain rfl : sp = none := hsp
    have each : ∀ i, i < n0 → ∃ (d : Int) (x : En), w.rangeAt b (o + i * 11) (actE d x) := by
      intro i him
      obtain ⟨cs', hc, ht'⟩ := hi i (by omega)
      rw [cells_act] at hc
      obtain ⟨_, hcl, hat⟩ := World.cells?_some hc
      obtain ⟨xs, n', _, _, _, hxl, hg⟩ := DataW.trod_struct Try.underlying75 ht'
      have hxl' : xs.length = 3 := hxl
      have k1 : Try.prog.cellsOf 3 = 1 := by kernel_rfl
      have k2 : Try.prog.cellsOf 40 = 4 := by kernel_rfl
      have k3 : Try.prog.cellsOf 38 = 6 := by kernel_rfl
      have g0 : DataW.trod enc Try.prog w 0 (fun _ => true) true n' 3 ((cs'.drop 0).take (Try.prog.cellsOf 3)) = xs[0]? := hg 0 _ rfl
      have g1 : DataW.trod enc Try.prog w 0 (fun _ => true) true n' 40 ((cs'.drop 1).take (Try.prog.cellsOf 40)) = xs[1]? := hg 1 _ rfl
      have g2 : DataW.trod enc Try.prog w 0 (fun _ => true) true n' 38 ((cs'.drop 5).take (Try.prog.cellsOf 38)) = xs[2]? := hg 2 _ rfl
      rw [k1, List.getElem?_eq_getElem (by omega)] at g0
      rw [k2, List.getElem?_eq_getElem (by omega)] at g1
      rw [k3, List.getElem?_eq_getElem (by omega)] at g2
      obtain ⟨d0, e0, _, _⟩ := DataW.trod_int Try.underlying3 g0
      obtain ⟨l1, e1, hl1⟩ := bytes_arr Try.underlying40 k2 g1
      obtain ⟨l2, e2, hl2⟩ := bytes_arr Try.underlying38 k3 g2
      have hcs : cs' = actE d0 (mkE l1 l2 0) := by
        unfold actE
        rw [mkE_ip _ _ _ hl1, mkE_mac _ _ _ hl2, ← e1, ← e2]
        have h0 : cs'.take 1 = [.int .i64 d0] := by rw [← e0, List.drop_zero]
        have h1 : cs' = cs'.take 1 ++ ((cs'.drop 1).take 4 ++ (cs'.drop 5).take 6) := by
          have h2 : (cs'.drop 1) = (cs'.drop 1).take 4 ++ (cs'.drop 5) := by
            have := (List.take_append_drop 4 (cs'.drop 1)).symm
            rw [List.drop_drop] at this
            exact this
          have h3 : (cs'.drop 5).take 6 = cs'.drop 5 := List.take_of_length_le (by rw [List.length_drop]; omega)
          rw [h3, ← h2, List.take_append_drop]
        rw [h0] at h1
        exact h1
      refine ⟨d0, mkE l1 l2 0, fun j v hv => ?_⟩
      rw [← hcs] at hv
      have hj : j < 11 := by
        have := (List.getElem?_eq_some_iff.1 hv).1
        omega
      have h2 := hat j hj
      rw [add_of_add2, Addr.add_lit] at h2
      rw [show o + i * 11 + j = o + (i * 11 + j) by omega, h2, hv]
    refine ⟨b, o, rfl, ?_, each⟩
    obtain ⟨d0, x0, hr⟩ := each 0 hn
    exact World.block_lt_of_cell? w ⟨b, o + 0 * 11 + 0, none⟩ (hr 0 _ rfl)
/-- New at a limit that is none -/
theorem new_bad (lim : Int) (h : lim < 1 ∨ 1048576 < lim) (w : World) :
    Calls Try.prog 34 #[.int .i64 lim] w fun e w' => e = .returned (.tuple #[.pointer none, .int .i64 1]) ∧ w' = w := by
  by_cases h1 : lim < 1
  · clear h
    go_enter Try.func34, Try.ntmps34
    go_wp2
    exact bodyPost_ret (results_tmp2 Try.results34 _ _ _) rfl ⟨rfl, rfl⟩
  · have h2 : 1048576 < lim := by omega
    clear h
    go_enter Try.func34, Try.ntmps34
    go_wp2
    exact bodyPost_ret (results_tmp2 Try.results34 _ _ _) rfl ⟨rfl, rfl⟩
end Go.Proofs.Ytpnhopgfoakgnaa
