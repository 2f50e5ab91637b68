/- What package ipv4's Read computes: the packet that a text is, or why it is none. Condition: a text of at most 1000000 bytes. -/
import Derived.Test.YticchchcobjpdaaPkMayR
import Derived.Test.YticchchcobjpdaaSumR
import Derived.BigRegion
import Derived.Deep.WholeRow
import Derived.Deep.CutRange
namespace Go.Proofs.Yticchchcobjpdaa
set_option linter.unusedVariables false
set_option maxRecDepth 100000
open Go.RowKit
attribute [local go_sem ↓] Go.wp_at_zero Go.wp_at_succ
attribute [local go_sem ↓] ld_pk ld_ip

def zz4 : List UInt8 := [0, 0, 0, 0]
/-- the packet that is none -/
def pk0 : Array Value := pkC 0 zz4 zz4 0 0 0 false []
/-- two bytes' number -/
def two (l : List UInt8) (k : Nat) : Nat := (bat ⟨l.toArray⟩ k).toNat * 256 + (bat ⟨l.toArray⟩ (k + 1)).toNat
def b0 (l : List UInt8) : Nat := (bat ⟨l.toArray⟩ 0).toNat
/-- the head's size -/
def hz (l : List UInt8) : Nat := 4 * (b0 l % 16)
def four (l : List UInt8) (k : Nat) : List UInt8 := [bat ⟨l.toArray⟩ k, bat ⟨l.toArray⟩ (k + 1), bat ⟨l.toArray⟩ (k + 2), bat ⟨l.toArray⟩ (k + 3)]
def pkA (l : List UInt8) : Int := ((two l 6 % 8192 * 8 : Nat) : Int)
def pkM (l : List UInt8) : Bool := two l 6 / 8192 % 2 == 1
def pkT (l : List UInt8) : Nat := (bat ⟨l.toArray⟩ 8).toNat
def pkP (l : List UInt8) : Nat := (bat ⟨l.toArray⟩ 9).toNat
/-- what is behind the head -/
def pkData (l : List UInt8) : List UInt8 := (l.take (two l 2)).drop (hz l)
def pkMayL (l : List UInt8) : Bool := mayB (two l 4 : Nat) (pkP l : Nat) (pkT l : Nat) (pkA l) (pkM l) (pkData l).length
/-- why a text is no packet, or 0 -/
def rdE (l : List UInt8) : Int :=
  if l.length < 20 then 7 else if ¬ (69 ≤ b0 l ∧ b0 l ≤ 79) then 8 else if l.length < hz l then 7 else if ¬ sumE ⟨(l.take (hz l)).toArray⟩ = 0 then 9
  else if two l 2 < hz l then 8 else if l.length < two l 2 then 7 else if 32768 ≤ two l 6 then 8 else if pkMayL l = false then 8 else 0
def rdV (l : List UInt8) : Array Value := if rdE l = 0 then pkC (two l 4 : Nat) (four l 12) (four l 16) (pkP l : Nat) (pkT l : Nat) (pkA l) (pkM l) (pkData l) else pk0

theorem two_lt (l : List UInt8) (k : Nat) : two l k ≤ 65535 := by
  unfold two
  have := (bat ⟨l.toArray⟩ k).toNat_lt
  have := (bat ⟨l.toArray⟩ (k + 1)).toNat_lt
  omega

theorem two_cl (l : List UInt8) (b k : Nat) (w : World) (hs : l.length ≤ 1000000) (hk : k + 2 ≤ l.length) (hc : w.cell? ⟨b, 0, none⟩ = some (.string ⟨l.toArray⟩)) :
    Calls Try.prog 45 #[.int .i64 k, .pointer (some ⟨b, 0, none⟩)] w fun e w' => e = .returned (.int .i64 (two l k : Nat)) ∧ Below w.heap.size w w' := by
  have hr := rdTwo ⟨l.toArray⟩ k hk
  have hN := two_lt l k
  have HR := Lib.hid (fun w => readBig_any w ⟨l.toArray⟩ k 2 (by show l.length ≤ _; omega) (by omega) (by omega))
  rw [hr] at HR
  have e : (((bat ⟨l.toArray⟩ k).toNat * 256 + (bat ⟨l.toArray⟩ (k + 1)).toNat : Nat) : Int) = (two l k : Nat) := rfl
  rw [e] at HR
  clear hr e
  generalize two l k = N at HR hN ⊢
  go_enter Try.func45, Try.ntmps45
  go_wp2_with fail
  refine (HR.out _).mono ?_
  rintro e w1 ⟨rfl, hb⟩
  have HB := Lib.hid hb
  clear hb
  go_wp2
  go_ret
  exact ⟨rfl, HB.out⟩

theorem and_15 (b : UInt8) : bits .and .u8 (b.toNat : Int) 15 = ((b.toNat % 16 : Nat) : Int) := by
  have h := b.toNat_lt
  have := bits_mask .u8 8 (by decide) wraps_u8 4 (by omega) (b.toNat : Int) (by omega) (by omega)
  rw [show ((15 : Int)) = 2 ^ 4 - 1 by decide, this]
  omega
theorem and_8191 (n : Nat) (h : n ≤ 65535) : bits .and .i64 (n : Int) 8191 = ((n % 8192 : Nat) : Int) := by
  have := bits_mask .i64 63 (by decide) (fun m h0 h1 => IntWalk.i64_in m (by omega)) 13 (by omega) (n : Int) (by omega) (by omega)
  rw [show ((8191 : Int)) = 2 ^ 13 - 1 by decide, this]
  omega
theorem and_bit (n k : Nat) (h : n ≤ 65535) (hk : k < 16) : bits .and .i64 (n : Int) ((2 ^ k : Nat) : Int) = if n / 2 ^ k % 2 = 1 then ((2 ^ k : Nat) : Int) else 0 := by
  have hp : 2 ^ k < 65536 := Nat.lt_of_lt_of_le (Nat.pow_lt_pow_right (by omega) hk) (by decide)
  generalize hq : 2 ^ k = q at hp ⊢
  have hx : (BitVec.ofInt 64 (n : Int)).toNat = n := by rw [BitVec.ofInt_natCast, BitVec.toNat_ofNat]; omega
  have hy : (BitVec.ofInt 64 (q : Int)).toNat = q := by rw [BitVec.ofInt_natCast, BitVec.toNat_ofNat]; omega
  show IntKind.i64.wrap ((BitVec.ofInt 64 (n : Int) &&& BitVec.ofInt 64 (q : Int)).toNat : Int) = _
  have ha : n &&& q = if n / q % 2 = 1 then q else 0 := by
    subst hq
    apply Nat.eq_of_testBit_eq
    intro i
    rw [Nat.testBit_and, Nat.testBit_two_pow]
    by_cases hi : k = i
    · subst hi
      by_cases hb : n / 2 ^ k % 2 = 1
      · rw [if_pos hb, Nat.testBit_two_pow_self, Nat.testBit_eq_decide_div_mod_eq]
        simp [hb]
      · rw [if_neg hb, Nat.testBit_eq_decide_div_mod_eq]
        simp [hb]
    · by_cases hb : n / 2 ^ k % 2 = 1
      · rw [if_pos hb, Nat.testBit_two_pow]
        simp [hi]
      · rw [if_neg hb]
        simp [hi]
  rw [BitVec.toNat_and, hx, hy, ha]
  by_cases hb : n / q % 2 = 1
  · rw [if_pos hb, if_pos hb]
    exact IntWalk.i64_in _ (by omega)
  · rw [if_neg hb, if_neg hb]
    exact IntWalk.i64_in _ (by omega)

theorem pk0_lit : pk0 = #[.int .i64 0, .int .u8 0, .int .u8 0, .int .u8 0, .int .u8 0, .int .u8 0, .int .u8 0, .int .u8 0, .int .u8 0, .int .i64 0, .int .i64 0, .int .i64 0, .bool false, .string ⟨#[]⟩] := rfl
theorem pk0_L : PkL zz4 zz4 := ⟨rfl, rfl⟩

/-- the store of a whole struct, under a name of its own -/
noncomputable def St (ty : TypeId) (p v : Value) : Sem Unit := Instr.storeAt ty p v
theorem st_pk (p v : Value) : Instr.storeAt 25 p v = St 25 p v := rfl
attribute [local go_sem ↓] st_pk
/-- the cells of a packet without addresses -/
abbrev pkRow (id pr tt a : Int) (mo : Bool) (d : List UInt8) : List Value :=
  [.int .i64 id, .int .u8 0, .int .u8 0, .int .u8 0, .int .u8 0, .int .u8 0, .int .u8 0, .int .u8 0, .int .u8 0, .int .i64 pr, .int .i64 tt, .int .i64 a, .bool mo, .string ⟨d.toArray⟩]
theorem pkRow_eq (id pr tt a : Int) (mo : Bool) (d : List UInt8) : pkC id zz4 zz4 pr tt a mo d = (pkRow id pr tt a mo d).toArray := rfl
theorem pkRow_one (id pr tt a : Int) (mo : Bool) (d : List UInt8) : (pkRow id pr tt a mo d).all (·.oneCell') = true := rfl
theorem st_new (w : World) (id pr tt a : Int) (mo : Bool) (d : List UInt8) : (St 25 (.pointer (some ⟨w.heap.size, 0, none⟩)) (.agg (pkRow id pr tt a mo d).toArray)).run Try.prog (w.alloc (.cells pk0 25)) = .ok () (w.alloc (.cells (pkRow id pr tt a mo d).toArray 25)) := by
  have := run_storeVar_new (P := Try.prog) w 25 pk0 (pkRow id pr tt a mo d).toArray (by exact size_pk) rfl (by simpa using pkRow_one id pr tt a mo d)
  unfold St
  simp only [Instr.storeAt, Instr.sureAddr, Sem.run_bind, Sem.run_pure, Result.andThen_ok]
  exact this
theorem st_blk {w : World} {b : Nat} {e : TypeId} {C : Array Value} (h : Blk w b e C) (hC : C.size = 14) (id pr tt a : Int) (mo : Bool) (d : List UInt8) :
    (St 25 (.pointer (some ⟨b, 0, none⟩)) (.agg (pkRow id pr tt a mo d).toArray)).run Try.prog w = .ok () (w.setCells b 0 (pkRow id pr tt a mo d)) := by
  have := run_storeAt_mid (P := Try.prog) w b 0 25 (pkRow id pr tt a mo d).toArray (by have := h.there; rw [hC] at this; exact this) (by exact size_pk) (by simpa using pkRow_one id pr tt a mo d)
  exact this

/-- 'copy(dst, s)' from a string, as a step of a region -/
theorem step_copy_str {P : Program} {w : World} {ops : Array Oper} {o : Oper} {a : Act} {K : Act → World → Prop} {Q : Exit → Act → World → Prop} {E : Prop} (hgd : o.guard = none) (d x : Operand) (dT sT : TypeId)
    (ho : o.op = .call { callee := .builtin .copy, args := #[d, x], argTypes := #[dT, sT] }) (elem : TypeId) (b i dLen dCap n : Nat) (s : ByteArray)
    (hd : a.eval d = .slice (some ⟨b, i, none⟩) dLen dCap) (hx : a.eval x = .string s)
    (hu : P.underlying dT = some (.slice elem)) (hs : (P.info? elem).map (·.size) = some 1) (hn : Nat.min s.size dLen = n) (ht : w.there b i n)
    (h : K (a.put o.dst (goInt n)) (w.setCells b i ((s.data.toList.take n).map ubv))) :
    if Region.wanted o (yielded ops a.tmps) = true then Oper.wp P o a w K Q else E := by
  have hw : Region.wanted o (yielded ops a.tmps) = true := by simp [Region.wanted, hgd]
  rw [if_pos hw]
  have hr := run_copy_str P w dT sT o.type elem b i dLen dCap n s hu hs hn ht
  unfold Oper.wp execOp
  simp only [ho, resolve, invoke, builtin, Sem.run_bind, Sem.run_pure, Result.andThen_ok, List.map_toArray, List.map_cons, List.map_nil, hd, hx, hr]
  exact h

theorem pkC_f' {id : Int} {f t f' : List UInt8} {pr tt a : Int} {mo : Bool} {d : List UInt8} (h : f'.length = f.length) :
    (pkC id f t pr tt a mo d).toList.take 1 ++ f'.map ubv ++ (pkC id f t pr tt a mo d).toList.drop (1 + (f'.map ubv).length) = (pkC id f' t pr tt a mo d).toList := by
  have := seg_put [Value.int .i64 id] (f.map ubv) (t.map ubv ++ [Value.int .i64 pr, Value.int .i64 tt, Value.int .i64 a, Value.bool mo, Value.string ⟨d.toArray⟩]) (f'.map ubv) 1 rfl (by simp [h])
  simpa [pkC] using this
theorem pkC_t' {id : Int} {f t t' : List UInt8} {pr tt a : Int} {mo : Bool} {d : List UInt8} (hf : f.length = 4) (h : t'.length = t.length) :
    (pkC id f t pr tt a mo d).toList.take 5 ++ t'.map ubv ++ (pkC id f t pr tt a mo d).toList.drop (5 + (t'.map ubv).length) = (pkC id f t' pr tt a mo d).toList := by
  have := seg_put (Value.int .i64 id :: f.map ubv) (t.map ubv) [Value.int .i64 pr, Value.int .i64 tt, Value.int .i64 a, Value.bool mo, Value.string ⟨d.toArray⟩] (t'.map ubv) 5 (by simp [hf]) (by simp [h])
  simpa [pkC] using this
theorem Blk.put_f {w : World} {b : Nat} {e : TypeId} {id : Int} {f t f' : List UInt8} {pr tt a : Int} {mo : Bool} {d : List UInt8} (h : Blk w b e (pkC id f t pr tt a mo d)) (hL : PkL f t) (hf : f'.length = 4) :
    Blk (w.setCells b 1 (f'.map ubv)) b e (pkC id f' t pr tt a mo d) :=
  h.setPart 1 _ (by rw [pkC_size hL, List.length_map, hf]; decide) (pkC_f' (by rw [hf, hL.f]))
theorem Blk.put_t {w : World} {b : Nat} {e : TypeId} {id : Int} {f t t' : List UInt8} {pr tt a : Int} {mo : Bool} {d : List UInt8} (h : Blk w b e (pkC id f t pr tt a mo d)) (hL : PkL f t) (hf : t'.length = 4) :
    Blk (w.setCells b 5 (t'.map ubv)) b e (pkC id f t' pr tt a mo d) :=
  h.setPart 5 _ (by rw [pkC_size hL, List.length_map, hf]; decide) (pkC_t' hL.f (by rw [hf, hL.t]))
theorem take_four (l : List UInt8) (k : Nat) (h : k + 4 ≤ l.length) : ((⟨l.toArray⟩ : ByteArray).extract k l.length).data.toList.take 4 = four l k := by
  have h2 := take_from ⟨l.toArray⟩ k 4 h
  rw [extract_list, List.take_take]
  have e : min 4 (l.length - k) = 4 := by omega
  rw [e]
  exact h2
theorem min_four (l : List UInt8) (k : Nat) (h : k + 4 ≤ l.length) : Nat.min ((⟨l.toArray⟩ : ByteArray).extract k l.length).size 4 = 4 := by
  refine Nat.min_eq_right ?_
  rw [ByteArray.size_extract]
  show 4 ≤ min l.length l.length - k
  omega

/-- what stays while a packet is read -/
structure RdS (w0 : World) (l : List UInt8) (w : World) : Prop where
  res : Blk w (w0.heap.size + 1) 25 pk0
  none : Blk w (w0.heap.size + 1 + 1) 25 pk0
  str : Blk w w0.heap.size 9 #[.string ⟨l.toArray⟩]
  bel : Below w0.heap.size w0 w
theorem RdS.cell {w0 w : World} {l : List UInt8} (h : RdS w0 l w) : w.cell? ⟨w0.heap.size, 0, Option.none⟩ = some (.string ⟨l.toArray⟩) := by rw [h.str.cell]; rfl
theorem RdS.drew {w0 w : World} {l : List UInt8} (h : RdS w0 l w) : RdS w0 l w.drew := ⟨h.res.drew, h.none.drew, h.str.drew, h.bel.drew⟩
theorem RdS.drewN {w0 w : World} {l : List UInt8} (h : RdS w0 l w) (n : Nat) : RdS w0 l (w.drewN n) := ⟨h.res.drewN n, h.none.drewN n, h.str.drewN n, Below.drewN h.bel n⟩
theorem RdS.step {w0 w w' : World} {l : List UInt8} (h : RdS w0 l w) (k : Below w.heap.size w w') : RdS w0 l w' := ⟨h.res.step k, h.none.step k, h.str.step k, Below.step h.bel k⟩
theorem RdS.alloc {w0 w : World} {l : List UInt8} (h : RdS w0 l w) (o : Obj) : RdS w0 l (w.alloc o) := ⟨h.res.alloc o, h.none.alloc o, h.str.alloc o, h.bel.alloc h.bel.size o⟩
theorem RdS.keep {w0 w w' : World} {l : List UInt8} {Q : Prop} (h : RdS w0 l w ∧ Q) (k : Below w.heap.size w w') : RdS w0 l w' ∧ w'.cell? ⟨w0.heap.size, 0, Option.none⟩ = some (.string ⟨l.toArray⟩) := ⟨h.1.step k, (h.1.step k).cell⟩
theorem RdS.keepA {w0 w : World} {l : List UInt8} {Q : Prop} {o : Obj} (h : RdS w0 l w ∧ Q) : RdS w0 l (w.alloc o) ∧ (w.alloc o).cell? ⟨w0.heap.size, 0, Option.none⟩ = some (.string ⟨l.toArray⟩) := ⟨h.1.alloc o, (h.1.alloc o).cell⟩

theorem new_kept {w w' : World} {e : TypeId} {C : Array Value} (hb : Below (w.alloc (.cells C e)).heap.size (w.alloc (.cells C e)) w') : Blk w' w.heap.size e C :=
  (Blk.new w e C 0 0 (Or.inl (Nat.le_refl _))).step hb
theorem new_kept2 {w w' : World} {e : TypeId} {C : Array Value} (hb : Below (w.alloc (.cells C e)).drew.heap.size (w.alloc (.cells C e)).drew w') : Blk w' w.heap.size e C :=
  new_kept (w := w.drew) hb
theorem RdS.setC {w0 w : World} {l : List UInt8} (h : RdS w0 l w) {g : Nat} (hg : w0.heap.size + 1 + 1 < g) (o : Nat) (vs : List Value) : RdS w0 l (w.setCells g o vs) :=
  ⟨h.res.setCells_other g o vs (by omega), h.none.setCells_other g o vs (by omega), h.str.setCells_other g o vs (by omega), Below.setCells h.bel (by omega) o vs⟩
set_option maxHeartbeats 4000000 in
theorem pkd_any (l : List UInt8) (w : World) (hs : l.length ≤ 1000000) :
    Calls Try.prog 22 #[.string ⟨l.toArray⟩] w fun e w' => e = .returned (.tuple #[.agg (rdV l), .int .i64 (rdE l)]) ∧ Below w.heap.size w w' := by
  obtain ⟨W, hW⟩ : ∃ W, W = ((w.alloc (.cells #[.string ⟨l.toArray⟩] 9)).alloc (.cells pk0 25)).alloc (.cells pk0 25) := ⟨_, rfl⟩
  have hN : Blk W (w.heap.size + 1 + 1) 25 pk0 := by
    have := Blk.new ((w.alloc (.cells #[.string ⟨l.toArray⟩] 9)).alloc (.cells pk0 25)) 25 pk0 0 0 (Or.inl (Nat.le_refl _))
    rw [← hW, size_alloc, size_alloc] at this
    exact this
  have hR : Blk W (w.heap.size + 1) 25 pk0 := by
    have := (Blk.new (w.alloc (.cells #[.string ⟨l.toArray⟩] 9)) 25 pk0 0 0 (Or.inl (Nat.le_refl _))).alloc (.cells pk0 25)
    rw [← hW, size_alloc] at this
    exact this
  have hS : Blk W w.heap.size 9 #[.string ⟨l.toArray⟩] := by
    have := ((Blk.new w 9 #[.string ⟨l.toArray⟩] 0 0 (Or.inl (Nat.le_refl _))).alloc (.cells pk0 25)).alloc (.cells pk0 25)
    rw [← hW] at this
    exact this
  have hB : Below w.heap.size w W := by
    rw [hW]
    exact (((Below.refl _ w).alloc (Nat.le_refl _) _).alloc (by simp) _).alloc (by simp; omega) _
  have hst0 : (St 25 (.pointer (some ⟨w.heap.size + 1 + 1, 0, none⟩)) (.agg pk0)).run Try.prog W = .ok () W := by
    have := st_new ((w.alloc (.cells #[.string ⟨l.toArray⟩] 9)).alloc (.cells pk0 25)) 0 0 0 0 false []
    rw [size_alloc, size_alloc] at this
    rw [hW]
    exact this
  rw [hW] at hst0
  rw [pk0_lit] at hW hst0
  have c0 : W.cell? ⟨w.heap.size, 0, none⟩ = some (.string ⟨l.toArray⟩) := by rw [hS.cell]; rfl
  have dn := hN.ld_pk pk0_L
  have HN := Lib.hid hN
  have HR := Lib.hid hR
  have HS := Lib.hid hS
  have HB := Lib.hid hB
  clear hN hR hS hB
  by_cases h1 : (l.length : Int) < 20
  · go_enter Try.func22, Try.ntmps22
    go_upto_region 2 with fail
    rw [← hW]
    clear hW hst0
    have hE : rdE l = 7 := by rw [rdE, if_pos (by omega)]
    have hV : rdV l = pk0 := by rw [rdV, hE]; rfl
    go_wp2_with (refine wpList_store_blk rfl 25 _ _ rfl (w.heap.size + 1) pk0 rfl rfl pk0 25 HR.out rfl size_pk rfl ?_)
    exact bodyPost_ret (results_blk Try.results22 _ _ (w.heap.size + 1) _ _ _ rfl (HR.out.setAll rfl) Try.underlying25 rfl size_pk) rfl ⟨by rw [hV, hE]; rfl, Below.setCells HB.out (by omega) _ _⟩
  have h20 : 20 ≤ (l.length : Int) := by omega
  have H1 := Lib.hid (show ¬ l.length < 20 by omega)
  have g0 := bat_get ⟨l.toArray⟩ 0 (by show 0 < l.length; omega)
  obtain ⟨m, hm⟩ : ∃ m, m = b0 l % 16 := ⟨_, rfl⟩
  have hand : bits .and .u8 (((bat ⟨l.toArray⟩ 0).toNat : Nat) : Int) 15 = (m : Int) := by rw [and_15, hm]; rfl
  have hm15 : (m : Int) ≤ 15 := by omega
  have HM := Lib.hid hm
  have HBN := Lib.hid (show (bat ⟨l.toArray⟩ 0).toNat = b0 l from rfl)
  clear hm
  by_cases h2 : ¬ ((bat ⟨l.toArray⟩ 0).toNat : Int) / 16 = 4
  · go_enter Try.func22, Try.ntmps22
    go_upto_region 2 with fail
    rw [← hW]
    clear hW hst0
    have hE : rdE l = 8 := by rw [rdE, if_neg H1.out, if_pos (by have := HBN.out; omega)]
    have hV : rdV l = pk0 := by rw [rdV, hE]; rfl
    go_wp2_with (refine wpList_store_blk rfl 25 _ _ rfl (w.heap.size + 1) pk0 rfl rfl pk0 25 HR.out rfl size_pk rfl ?_)
    exact bodyPost_ret (results_blk Try.results22 _ _ (w.heap.size + 1) _ _ _ rfl (HR.out.setAll rfl) Try.underlying25 rfl size_pk) rfl ⟨by rw [hV, hE]; rfl, Below.setCells HB.out (by omega) _ _⟩
  have h2' : ((bat ⟨l.toArray⟩ 0).toNat : Int) / 16 = 4 := by omega
  clear h2
  by_cases h3 : (m : Int) * 4 < 20
  · go_enter Try.func22, Try.ntmps22
    go_upto_region 2 with fail
    rw [← hW]
    clear hW hst0
    have hE : rdE l = 8 := by rw [rdE, if_neg H1.out, if_pos (by have := HBN.out; have := HM.out; omega)]
    have hV : rdV l = pk0 := by rw [rdV, hE]; rfl
    go_wp2_with (refine wpList_store_blk rfl 25 _ _ rfl (w.heap.size + 1) pk0 rfl rfl pk0 25 HR.out rfl size_pk rfl ?_)
    exact bodyPost_ret (results_blk Try.results22 _ _ (w.heap.size + 1) _ _ _ rfl (HR.out.setAll rfl) Try.underlying25 rfl size_pk) rfl ⟨by rw [hV, hE]; rfl, Below.setCells HB.out (by omega) _ _⟩
  have h3' : 20 ≤ (m : Int) * 4 := by omega
  have H2 := Lib.hid (show ¬ ¬ (69 ≤ b0 l ∧ b0 l ≤ 79) by have := HBN.out; have := HM.out; omega)
  have HZ := Lib.hid (show hz l = m * 4 by have := HM.out; unfold hz; omega)
  clear h3
  by_cases h4 : (l.length : Int) < (m : Int) * 4
  · go_enter Try.func22, Try.ntmps22
    go_upto_region 2 with fail
    rw [← hW]
    clear hW hst0
    have hE : rdE l = 7 := by rw [rdE, if_neg H1.out, if_neg H2.out, if_pos (by rw [HZ.out]; omega)]
    have hV : rdV l = pk0 := by rw [rdV, hE]; rfl
    go_wp2_with (refine wpList_store_blk rfl 25 _ _ rfl (w.heap.size + 1) pk0 rfl rfl pk0 25 HR.out rfl size_pk rfl ?_)
    exact bodyPost_ret (results_blk Try.results22 _ _ (w.heap.size + 1) _ _ _ rfl (HR.out.setAll rfl) Try.underlying25 rfl size_pk) rfl ⟨by rw [hV, hE]; rfl, Below.setCells HB.out (by omega) _ _⟩
  have h4' : (m : Int) * 4 ≤ (l.length : Int) := by omega
  have H3 := Lib.hid (show ¬ l.length < hz l by rw [HZ.out]; omega)
  have hex : (⟨l.toArray⟩ : ByteArray).extract 0 (m * 4) = ⟨(l.take (hz l)).toArray⟩ := by rw [ext_list', HZ.out]; rfl
  have hsum := fun w => sum_any w ((⟨l.toArray⟩ : ByteArray).extract 0 (m * 4)) (by rw [hex]; show (l.take (hz l)).length ≤ _; rw [List.length_take]; omega)
  rw [hex] at hsum
  obtain ⟨X, hX⟩ : ∃ X, X = (⟨(l.take (hz l)).toArray⟩ : ByteArray) := ⟨_, rfl⟩
  have HX := Lib.hid hX
  rw [← hX] at hsum hex
  have HSUM := Lib.hid hsum
  clear h4 hX hsum
  go_enter Try.func22, Try.ntmps22
  go_upto_region 2 with fail
  rw [← hW]
  clear hW hst0
  go_wp2_with fail
  refine (HSUM.out _).mono ?_
  rintro e w1 ⟨rfl, rfl⟩
  by_cases h5 : ¬ sumE X = 0
  · have h5' : (sumE X != 0) = true := by simpa using h5
    have hE : rdE l = 9 := by rw [rdE, if_neg H1.out, if_neg H2.out, if_neg H3.out, if_pos (by rw [← HX.out]; exact h5)]
    have hV : rdV l = pk0 := by rw [rdV, hE]; rfl
    go_wp2_with (refine wpList_store_blk rfl 25 _ _ rfl (w.heap.size + 1) pk0 rfl rfl pk0 25 HR.out rfl size_pk rfl ?_)
    exact bodyPost_ret (results_blk Try.results22 _ _ (w.heap.size + 1) _ _ _ rfl (HR.out.setAll rfl) Try.underlying25 rfl size_pk) rfl ⟨by rw [hV, hE]; rfl, Below.setCells HB.out (by omega) _ _⟩
  have h5' : sumE X = 0 := by simpa using h5
  have H4 := Lib.hid (show ¬ ¬ sumE ⟨(l.take (hz l)).toArray⟩ = 0 by rw [← HX.out]; exact h5)
  rw [h5']
  clear h5 h5' hex HX HSUM
  have HT2 : RowKit.Hid (∀ w' b, w'.cell? ⟨b, 0, none⟩ = some (.string ⟨l.toArray⟩) → Calls Try.prog 45 #[.int .i64 2, .pointer (some ⟨b, 0, none⟩)] w' fun e w'' => e = .returned (.int .i64 (two l 2 : Nat)) ∧ Below w'.heap.size w' w'') := Lib.hid fun w' b hc => two_cl l b 2 w' hs (by omega) hc
  have HT6 : RowKit.Hid (∀ w' b, w'.cell? ⟨b, 0, none⟩ = some (.string ⟨l.toArray⟩) → Calls Try.prog 45 #[.int .i64 6, .pointer (some ⟨b, 0, none⟩)] w' fun e w'' => e = .returned (.int .i64 (two l 6 : Nat)) ∧ Below w'.heap.size w' w'') := Lib.hid fun w' b hc => two_cl l b 6 w' hs (by omega) hc
  have HT4 : RowKit.Hid (∀ w' b, w'.cell? ⟨b, 0, none⟩ = some (.string ⟨l.toArray⟩) → Calls Try.prog 45 #[.int .i64 4, .pointer (some ⟨b, 0, none⟩)] w' fun e w'' => e = .returned (.int .i64 (two l 4 : Nat)) ∧ Below w'.heap.size w' w'') := Lib.hid fun w' b hc => two_cl l b 4 w' hs (by omega) hc
  obtain ⟨n2, hn2⟩ : ∃ n, n = two l 2 := ⟨_, rfl⟩
  obtain ⟨n6, hn6⟩ : ∃ n, n = two l 6 := ⟨_, rfl⟩
  obtain ⟨n4, hn4⟩ : ∃ n, n = two l 4 := ⟨_, rfl⟩
  have hn2b : (n2 : Int) ≤ 65535 := by have := two_lt l 2; omega
  have hn4b : (n4 : Int) ≤ 65535 := by have := two_lt l 4; omega
  have hn6b : (n6 : Int) ≤ 65535 := by have := two_lt l 6; omega
  rw [← hn2] at HT2
  rw [← hn6] at HT6
  rw [← hn4] at HT4
  have H2n := Lib.hid hn2
  have H6n := Lib.hid hn6
  have H4n := Lib.hid hn4
  clear hn2 hn6 hn4
  go_wp2_with fail
  refine (HT2.out _ _ c0).mono ?_
  rintro e w1 ⟨rfl, hb1⟩
  have hR1 := HR.out.step hb1
  have hN1 := HN.out.step hb1
  have hS1 := HS.out.step hb1
  have hB1 := Below.step HB.out hb1
  have c1 : w1.cell? ⟨w.heap.size, 0, none⟩ = some (.string ⟨l.toArray⟩) := by rw [hS1.cell]; rfl
  clear hb1 c0 dn HR HN HS HB
  go_wp2_with fail
  refine (HT6.out _ _ c1).mono ?_
  rintro e w2 ⟨rfl, hb2⟩
  have HR := Lib.hid (hR1.step hb2)
  have HN := Lib.hid (hN1.step hb2)
  have HS := Lib.hid (hS1.step hb2)
  have HB := Lib.hid (Below.step hB1 hb2)
  have c0 : w2.cell? ⟨w.heap.size, 0, none⟩ = some (.string ⟨l.toArray⟩) := by rw [HS.out.cell]; rfl
  have dn := HN.out.ld_pk pk0_L
  clear hb2 c1 hR1 hN1 hS1 hB1
  by_cases h6 : (n2 : Int) < (m : Int) * 4
  · have hE : rdE l = 8 := by rw [rdE, if_neg H1.out, if_neg H2.out, if_neg H3.out, if_neg H4.out, if_pos (by rw [HZ.out, ← H2n.out]; omega)]
    have hV : rdV l = pk0 := by rw [rdV, hE]; rfl
    go_wp2_with (refine wpList_store_blk rfl 25 _ _ rfl (w.heap.size + 1) pk0 rfl rfl pk0 25 HR.out rfl size_pk rfl ?_)
    exact bodyPost_ret (results_blk Try.results22 _ _ (w.heap.size + 1) _ _ _ rfl (HR.out.setAll rfl) Try.underlying25 rfl size_pk) rfl ⟨by rw [hV, hE]; rfl, Below.setCells HB.out (by omega) _ _⟩
  have h6' : (m : Int) * 4 ≤ (n2 : Int) := by omega
  have H5 := Lib.hid (show ¬ two l 2 < hz l by rw [HZ.out, ← H2n.out]; omega)
  clear h6
  by_cases h7 : (l.length : Int) < (n2 : Int)
  · have hE : rdE l = 7 := by rw [rdE, if_neg H1.out, if_neg H2.out, if_neg H3.out, if_neg H4.out, if_neg H5.out, if_pos (by rw [← H2n.out]; omega)]
    have hV : rdV l = pk0 := by rw [rdV, hE]; rfl
    go_wp2_with (refine wpList_store_blk rfl 25 _ _ rfl (w.heap.size + 1) pk0 rfl rfl pk0 25 HR.out rfl size_pk rfl ?_)
    exact bodyPost_ret (results_blk Try.results22 _ _ (w.heap.size + 1) _ _ _ rfl (HR.out.setAll rfl) Try.underlying25 rfl size_pk) rfl ⟨by rw [hV, hE]; rfl, Below.setCells HB.out (by omega) _ _⟩
  have h7' : (n2 : Int) ≤ (l.length : Int) := by omega
  have H6 := Lib.hid (show ¬ l.length < two l 2 by rw [← H2n.out]; omega)
  clear h7
  go_upto_region 17 with fail
  obtain ⟨q, hq⟩ : ∃ q, q = n6 % 8192 := ⟨_, rfl⟩
  obtain ⟨v, hv⟩ : ∃ v : Int, v = if n6 / 8192 % 2 = 1 then 8192 else 0 := ⟨_, rfl⟩
  obtain ⟨mo, hmo⟩ : ∃ mo : Bool, mo = (n6 / 8192 % 2 == 1) := ⟨_, rfl⟩
  have hand13 : bits .and .i64 (n6 : Int) 8191 = (q : Int) := by rw [hq]; exact and_8191 n6 (by omega)
  have handb : bits .and .i64 (n6 : Int) 8192 = v := by rw [hv]; exact and_bit n6 13 (by omega) (by omega)
  have hvb : (v != 0) = mo := by
    rw [hv, hmo]
    by_cases hc : n6 / 8192 % 2 = 1
    · rw [if_pos hc, hc]; rfl
    · rw [if_neg hc]
      have : (n6 / 8192 % 2 == 1) = false := by simpa using hc
      rw [this]; rfl
  have hq8 : (q : Int) ≤ 8191 := by omega
  have HQ := Lib.hid hq
  have HMO := Lib.hid hmo
  clear hq hv hmo
  obtain ⟨d, hd⟩ : ∃ d, d = pkData l := ⟨_, rfl⟩
  have hexd : (⟨l.toArray⟩ : ByteArray).extract (m * 4) n2 = ⟨d.toArray⟩ := by rw [ext_list', hd, pkData, ← H2n.out, HZ.out, List.drop_take]
  have HD := Lib.hid hd
  clear hd
  obtain ⟨tt, htt⟩ : ∃ x : Nat, x = (bat ⟨l.toArray⟩ 8).toNat := ⟨_, rfl⟩
  obtain ⟨pr, hpr⟩ : ∃ x : Nat, x = (bat ⟨l.toArray⟩ 9).toNat := ⟨_, rfl⟩
  have hT : (tt : Int) ≤ 255 := by have := (bat ⟨l.toArray⟩ 8).toNat_lt; omega
  have hP : (pr : Int) ≤ 255 := by have := (bat ⟨l.toArray⟩ 9).toNat_lt; omega
  have hw8 : IntKind.i64.wrap ((((⟨l.toArray⟩ : ByteArray)[8]'(by show 8 < l.length; omega)).toNat : Nat) : Int) = (tt : Int) := by
    rw [bat_get ⟨l.toArray⟩ 8 (by show 8 < l.length; omega), ← htt]; exact IntWalk.i64_in _ (by omega)
  have hw9 : IntKind.i64.wrap ((((⟨l.toArray⟩ : ByteArray)[9]'(by show 9 < l.length; omega)).toNat : Nat) : Int) = (pr : Int) := by
    rw [bat_get ⟨l.toArray⟩ 9 (by show 9 < l.length; omega), ← hpr]; exact IntWalk.i64_in _ (by omega)
  have hwq : IntKind.i64.wrap ((q : Int) * 8) = (q : Int) * 8 := IntWalk.i64_in _ (by omega)
  have hmz : ((m : Int) * 4).toNat = m * 4 := by omega
  have HTT := Lib.hid htt
  have HPR := Lib.hid hpr
  clear htt hpr
  have HS := Lib.hid (show RdS w l w2 from ⟨HR.out, HN.out, HS.out, HB.out⟩)
  clear HR HN HB dn c0
  have hm0 : (0 : Int) ≤ (m : Int) * 4 := by omega
  have hn20 : (0 : Int) ≤ (n2 : Int) := by omega
  have hml : (m : Int) * 4 ≤ (l.length : Int) := by omega
  have hsz := HS.out.none.lt
  have HSZ := Lib.hid hsz
  clear hsz
  have l9 : (9 : Int) < (l.length : Int) := by omega
  have l8 : (8 : Int) < (l.length : Int) := by omega
  go_cut [9] from 50 to 72 (fun x wx => ∃ g, x = .pointer (some ⟨g, 0, none⟩) ∧ Blk wx g 25 (pkC (n4 : Int) zz4 zz4 pr tt ((q : Int) * 8) mo d) ∧ RdS w l wx ∧ w.heap.size + 1 + 1 < g)
  case first =>
    refine wp_region_noPanic ?_
    refine wp_region_held_drew (S := fun w' => RdS w l w' ∧ w'.cell? ⟨w.heap.size, 0, none⟩ = some (.string ⟨l.toArray⟩)) (by kernel_rfl) (by first | with_reducible exact ⟨HS.out, HS.out.cell⟩ | with_reducible exact ⟨HS.out.drew, HS.out.drew.cell⟩) (fun hHeld => ?_)
    refine wpAnyH_take (i := 0) (oi := _) (v := ?v0) rfl (by kernel_rfl) (by kernel_rfl) (by kernel_rfl) (fun _ _ _ h => h) (Or.inl ⟨by kernel_rfl, ?h0⟩) hHeld ?_
    case h0 => (intro w hSw; (try dsimp only at hSw); go_simp; try (with_reducible rfl))
    try simp only [List.getElem_toArray, List.getElem_cons_zero, List.getElem_cons_succ, Act.put, List.setIfInBounds_toArray, List.set_cons_zero, List.set_cons_succ]
    refine wpAnyH_take (i := 2) (oi := _) (v := ?v2) rfl (by kernel_rfl) (by kernel_rfl) (by kernel_rfl) (fun _ _ _ h => h) (Or.inl ⟨by kernel_rfl, ?h2⟩) hHeld ?_
    case h2 => (intro w hSw; (try dsimp only at hSw); go_simp; try (with_reducible rfl))
    try simp only [List.getElem_toArray, List.getElem_cons_zero, List.getElem_cons_succ, Act.put, List.setIfInBounds_toArray, List.set_cons_zero, List.set_cons_succ]
    refine wpAnyH_take (i := 3) (oi := _) (v := ?v3) rfl (by kernel_rfl) (by kernel_rfl) (by kernel_rfl) (fun _ _ _ h => h) (Or.inl ⟨by kernel_rfl, ?h3⟩) hHeld ?_
    case h3 => (intro w hSw; (try dsimp only at hSw); go_simp; try (with_reducible rfl))
    try simp only [List.getElem_toArray, List.getElem_cons_zero, List.getElem_cons_succ, Act.put, List.setIfInBounds_toArray, List.set_cons_zero, List.set_cons_succ]
    refine wpAnyH_take (i := 4) (oi := _) (v := ?v4) rfl (by kernel_rfl) (by kernel_rfl) (by kernel_rfl) (fun _ _ _ h => h) (Or.inl ⟨by kernel_rfl, ?h4⟩) hHeld ?_
    case h4 => (intro w hSw; (try dsimp only at hSw); go_simp; try (with_reducible rfl))
    try simp only [List.getElem_toArray, List.getElem_cons_zero, List.getElem_cons_succ, Act.put, List.setIfInBounds_toArray, List.set_cons_zero, List.set_cons_succ]
    refine wpAnyH_take (i := 5) (oi := _) (v := ?v5) rfl (by kernel_rfl) (by kernel_rfl) (by kernel_rfl) (fun _ _ _ h => h) (Or.inl ⟨by kernel_rfl, ?h5⟩) hHeld ?_
    case h5 => (intro w hSw; (try dsimp only at hSw); go_simp; try (with_reducible rfl))
    try simp only [List.getElem_toArray, List.getElem_cons_zero, List.getElem_cons_succ, Act.put, List.setIfInBounds_toArray, List.set_cons_zero, List.set_cons_succ]
    refine wpAnyH_take (i := 6) (oi := _) (v := ?v6) rfl (by kernel_rfl) (by kernel_rfl) (by kernel_rfl) (fun _ _ _ h => h) (Or.inl ⟨by kernel_rfl, ?h6⟩) hHeld ?_
    case h6 => (intro w hSw; (try dsimp only at hSw); go_simp; try (with_reducible rfl))
    try simp only [List.getElem_toArray, List.getElem_cons_zero, List.getElem_cons_succ, Act.put, List.setIfInBounds_toArray, List.set_cons_zero, List.set_cons_succ]
    refine wpAnyH_take (i := 7) (oi := _) (v := ?v7) rfl (by kernel_rfl) (by kernel_rfl) (by kernel_rfl) (fun _ _ _ h => h) (Or.inl ⟨by kernel_rfl, ?h7⟩) hHeld ?_
    case h7 => (intro w hSw; (try dsimp only at hSw); go_simp; try (with_reducible rfl))
    try simp only [List.getElem_toArray, List.getElem_cons_zero, List.getElem_cons_succ, Act.put, List.setIfInBounds_toArray, List.set_cons_zero, List.set_cons_succ]
    refine wpAnyH_take (i := 8) (oi := _) (v := ?v8) rfl (by kernel_rfl) (by kernel_rfl) (by kernel_rfl) (fun _ _ _ h => h) (Or.inl ⟨by kernel_rfl, ?h8⟩) hHeld ?_
    case h8 => (intro w hSw; (try dsimp only at hSw); go_simp; try (with_reducible rfl))
    try simp only [List.getElem_toArray, List.getElem_cons_zero, List.getElem_cons_succ, Act.put, List.setIfInBounds_toArray, List.set_cons_zero, List.set_cons_succ]
    refine wpAnyH_take (i := 9) (oi := _) (v := ?v9) rfl (by kernel_rfl) (by kernel_rfl) (by kernel_rfl) (fun _ _ _ h => h) (Or.inl ⟨by kernel_rfl, ?h9⟩) hHeld ?_
    case h9 => (intro w hSw; (try dsimp only at hSw); go_simp; try (with_reducible rfl))
    try simp only [List.getElem_toArray, List.getElem_cons_zero, List.getElem_cons_succ, Act.put, List.setIfInBounds_toArray, List.set_cons_zero, List.set_cons_succ]
    refine wpAnyH_take (i := 10) (oi := _) (v := ?v10) rfl (by kernel_rfl) (by kernel_rfl) (by kernel_rfl) (fun _ _ _ h => h) (Or.inl ⟨by kernel_rfl, ?h10⟩) hHeld ?_
    case h10 => (intro w hSw; (try dsimp only at hSw); go_simp; try (with_reducible rfl))
    try simp only [List.getElem_toArray, List.getElem_cons_zero, List.getElem_cons_succ, Act.put, List.setIfInBounds_toArray, List.set_cons_zero, List.set_cons_succ]
    refine wpAnyH_take (i := 11) (oi := _) (v := ?v11) rfl (by kernel_rfl) (by kernel_rfl) (by kernel_rfl) (fun _ _ _ h => h) (Or.inl ⟨by kernel_rfl, ?h11⟩) hHeld ?_
    case h11 => (intro w hSw; (try dsimp only at hSw); go_simp; try (with_reducible rfl))
    try simp only [List.getElem_toArray, List.getElem_cons_zero, List.getElem_cons_succ, Act.put, List.setIfInBounds_toArray, List.set_cons_zero, List.set_cons_succ]
    refine wpAnyH_take (i := 12) (oi := _) (v := ?v12) rfl (by kernel_rfl) (by kernel_rfl) (by kernel_rfl) (fun _ _ _ h => h) (Or.inl ⟨by kernel_rfl, ?h12⟩) hHeld ?_
    case h12 => (intro w hSw; (try dsimp only at hSw); go_simp; try (with_reducible rfl))
    try simp only [List.getElem_toArray, List.getElem_cons_zero, List.getElem_cons_succ, Act.put, List.setIfInBounds_toArray, List.set_cons_zero, List.set_cons_succ]
    refine wpAnyH_take (i := 13) (oi := _) (v := ?v13) rfl (by kernel_rfl) (by kernel_rfl) (by kernel_rfl) (fun _ _ _ h => h) (Or.inl ⟨by kernel_rfl, ?h13⟩) hHeld ?_
    case h13 => (intro w hSw; (try dsimp only at hSw); go_simp; try (with_reducible rfl))
    try simp only [List.getElem_toArray, List.getElem_cons_zero, List.getElem_cons_succ, Act.put, List.setIfInBounds_toArray, List.set_cons_zero, List.set_cons_succ]
    refine wpAnyH_take (i := 14) (oi := _) (v := ?v14) rfl (by kernel_rfl) (by kernel_rfl) (by kernel_rfl) (fun _ _ _ h => h) (Or.inl ⟨by kernel_rfl, ?h14⟩) hHeld ?_
    case h14 => (intro w hSw; (try dsimp only at hSw); go_simp; try (with_reducible rfl))
    try simp only [List.getElem_toArray, List.getElem_cons_zero, List.getElem_cons_succ, Act.put, List.setIfInBounds_toArray, List.set_cons_zero, List.set_cons_succ]
    refine wpAnyH_take (i := 15) (oi := _) (v := ?v15) rfl (by kernel_rfl) (by kernel_rfl) (by kernel_rfl) (fun _ _ _ h => h) (Or.inl ⟨by kernel_rfl, ?h15⟩) hHeld ?_
    case h15 => (intro w hSw; (try dsimp only at hSw); go_simp; try (with_reducible rfl))
    try simp only [List.getElem_toArray, List.getElem_cons_zero, List.getElem_cons_succ, Act.put, List.setIfInBounds_toArray, List.set_cons_zero, List.set_cons_succ]
    refine wpAnyH_take (i := 16) (oi := _) (v := ?v16) rfl (by kernel_rfl) (by kernel_rfl) (by kernel_rfl) (fun _ _ _ h => h) (Or.inl ⟨by kernel_rfl, ?h16⟩) hHeld ?_
    case h16 => (intro w hSw; (try dsimp only at hSw); go_simp; try (with_reducible rfl))
    try simp only [List.getElem_toArray, List.getElem_cons_zero, List.getElem_cons_succ, Act.put, List.setIfInBounds_toArray, List.set_cons_zero, List.set_cons_succ]
    refine wpAnyH_take (i := 17) (oi := _) (v := ?v17) rfl (by kernel_rfl) (by kernel_rfl) (by kernel_rfl) (fun _ _ _ h => h) (Or.inl ⟨by kernel_rfl, ?h17⟩) hHeld ?_
    case h17 => (intro w hSw; (try dsimp only at hSw); go_simp; try (with_reducible rfl))
    try simp only [List.getElem_toArray, List.getElem_cons_zero, List.getElem_cons_succ, Act.put, List.setIfInBounds_toArray, List.set_cons_zero, List.set_cons_succ]
    refine wpAnyH_ready (rs := [1, 19]) (by kernel_rfl) (by simp) ?_
    refine AllReadyH.cons (o := _) rfl (fun K hK => ?_) ?_
    · skip
      go_simp
      (go_at_call 45; refine (HT4.out _ _ (And.right (by assumption : RdS w l _ ∧ _))).mono ?_; rintro e w3 ⟨rfl, hb0⟩; have HS3 := Lib.hid (RdS.step (And.left (by assumption : RdS w l _ ∧ _)) hb0); have hst := st_new w3 n4 pr tt ((q : Int) * 8) mo d; rw [pk0_lit] at hst; clear hb0; go_wp2_with fail)
      refine hK.out _ _ ?_ (fun hHeld1 => ?_)
      · (first | with_reducible exact ⟨HS3.out, HS3.out.cell⟩)
      clear hHeld hK K
      try simp only [List.getElem_toArray, List.getElem_cons_zero, List.getElem_cons_succ, Act.put, List.setIfInBounds_toArray, List.set_cons_zero, List.set_cons_succ]
      refine wpAnyH_take (i := 18) (oi := _) (v := ?v18) rfl (by kernel_rfl) (by kernel_rfl) (by kernel_rfl) (fun _ _ _ h => h) (Or.inl ⟨by kernel_rfl, ?h18⟩) hHeld1 ?_
      case h18 => (intro w hSw; (try dsimp only at hSw); go_simp; try (with_reducible rfl))
      try simp only [List.getElem_toArray, List.getElem_cons_zero, List.getElem_cons_succ, Act.put, List.setIfInBounds_toArray, List.set_cons_zero, List.set_cons_succ]
      refine wpAnyH_ready (rs := [19]) (by kernel_rfl) (by simp) ?_
      refine AllReadyH.cons (o := _) rfl (fun K hK => ?_) AllReadyH.nil
      go_simp
      refine hK.out _ _ ?_ (fun hHeld2 => ?_)
      · (first | with_reducible exact ⟨HS3.out.alloc _, (HS3.out.alloc _).cell⟩)
      clear hHeld1 hK K
      try simp only [List.getElem_toArray, List.getElem_cons_zero, List.getElem_cons_succ, Act.put, List.setIfInBounds_toArray, List.set_cons_zero, List.set_cons_succ]
      refine wpAnyH_ready (rs := [20]) (by kernel_rfl) (by simp) ?_
      refine AllReadyH.cons (o := _) rfl (fun K hK => ?_) AllReadyH.nil
      go_simp
      refine hK.out _ _ ?_ (fun hHeld3 => ?_)
      · (first | with_reducible exact ⟨HS3.out.alloc _, (HS3.out.alloc _).cell⟩)
      clear hHeld2 hK K
      try simp only [List.getElem_toArray, List.getElem_cons_zero, List.getElem_cons_succ, Act.put, List.setIfInBounds_toArray, List.set_cons_zero, List.set_cons_succ]
      refine wpAnyH_done (by kernel_rfl) ?_ _
      refine NoPanic.normal ?_
      go_wp2_with fail
      go_meet
      exact ⟨w3.heap.size, rfl, Blk.new w3 _ _ 0 0 (Or.inl (Nat.le_refl _)), HS3.out.alloc _, HS3.out.none.lt⟩
    refine AllReadyH.cons (o := _) rfl (fun K hK => ?_) AllReadyH.nil
    go_simp
    refine hK.out _ _ ?_ (fun hHeld4 => ?_)
    · (first | with_reducible exact ⟨HS.out.alloc _, (HS.out.alloc _).cell⟩ | with_reducible exact ⟨(HS.out.alloc _).drew, (HS.out.alloc _).drew.cell⟩)
    clear hHeld hK K
    try simp only [List.getElem_toArray, List.getElem_cons_zero, List.getElem_cons_succ, Act.put, List.setIfInBounds_toArray, List.set_cons_zero, List.set_cons_succ]
    refine wpAnyH_ready (rs := [1]) (by kernel_rfl) (by simp) ?_
    refine AllReadyH.cons (o := _) rfl (fun K hK => ?_) AllReadyH.nil
    go_simp
    (go_at_call 45; refine (HT4.out _ _ (And.right (by assumption : RdS w l _ ∧ _))).mono ?_; rintro e w3 ⟨rfl, hb0⟩; have HS3 := Lib.hid (RdS.step (And.left (by assumption : RdS w l _ ∧ _)) hb0); (first | with_reducible have HK3 := Lib.hid (new_kept hb0) | with_reducible have HK3 := Lib.hid (new_kept2 hb0)); have hst := st_blk HK3.out rfl n4 pr tt ((q : Int) * 8) mo d; clear hb0; go_wp2_with fail)
    refine hK.out _ _ ?_ (fun hHeld5 => ?_)
    · (first | with_reducible exact ⟨HS3.out, HS3.out.cell⟩)
    clear hHeld4 hK K
    try simp only [List.getElem_toArray, List.getElem_cons_zero, List.getElem_cons_succ, Act.put, List.setIfInBounds_toArray, List.set_cons_zero, List.set_cons_succ]
    refine wpAnyH_take (i := 18) (oi := _) (v := ?v18) rfl (by kernel_rfl) (by kernel_rfl) (by kernel_rfl) (fun _ _ _ h => h) (Or.inl ⟨by kernel_rfl, ?h18⟩) hHeld5 ?_
    case h18 => (intro w hSw; (try dsimp only at hSw); go_simp; try (with_reducible rfl))
    try simp only [List.getElem_toArray, List.getElem_cons_zero, List.getElem_cons_succ, Act.put, List.setIfInBounds_toArray, List.set_cons_zero, List.set_cons_succ]
    refine wpAnyH_ready (rs := [20]) (by kernel_rfl) (by simp) ?_
    refine AllReadyH.cons (o := _) rfl (fun K hK => ?_) AllReadyH.nil
    go_simp
    refine hK.out _ _ ?_ (fun hHeld6 => ?_)
    · (first | with_reducible exact ⟨HS3.out.setC HSZ.out _ _, (HS3.out.setC HSZ.out _ _).cell⟩)
    clear hHeld5 hK K
    try simp only [List.getElem_toArray, List.getElem_cons_zero, List.getElem_cons_succ, Act.put, List.setIfInBounds_toArray, List.set_cons_zero, List.set_cons_succ]
    refine wpAnyH_done (by kernel_rfl) ?_ _
    refine NoPanic.normal ?_
    go_wp2_with fail
    go_meet
    exact ⟨w2.heap.size, rfl, HK3.out.setAll (cs := (pkRow n4 pr tt ((q : Int) * 8) mo d).toArray) rfl, HS3.out.setC HSZ.out _ _, HSZ.out⟩
  case rest =>
    obtain ⟨g, rfl, hK, hS, hgt⟩ := hcut
    have HS := Lib.hid hS
    have HK := Lib.hid hK
    have HG := Lib.hid hgt
    clear hK hS hgt
    have l12 : (12 : Int) ≤ (l.length : Int) := by omega
    have l16 : (16 : Int) ≤ (l.length : Int) := by omega
    have HV12 := Lib.hid (take_four l 12 (by omega))
    have HN12 := Lib.hid (min_four l 12 (by omega))
    have HV16 := Lib.hid (take_four l 16 (by omega))
    have HN16 := Lib.hid (min_four l 16 (by omega))
    go_wp2
    go_region_held3 (fun w' => w'.cell? ⟨w.heap.size, 0, none⟩ = some (.string ⟨l.toArray⟩))
      (first | with_reducible exact HS.out.cell | with_reducible exact HS.out.drew.cell | with_reducible exact HS3.out.cell)
      ((refine step_copy_str rfl _ _ 47 9 rfl 5 g 1 4 4 4 ((⟨l.toArray⟩ : ByteArray).extract 12 l.length) (by rfl) (by rfl) Try.underlying47 (info_size info_u8) HN12.out ((Blk.drew HK.out).thereAt 1 4 (by rw [pkC_size pk0_L]; decide)) ?_; rw [HV12.out]; have HS3 := Lib.hid ((RdS.drew HS.out).setC HG.out 1 ((four l 12).map ubv)); have HK3 := Lib.hid ((Blk.drew HK.out).put_f pk0_L (f' := four l 12) rfl)))
    clear HS HK
    generalize World.setCells _ _ _ _ = W3 at HS3 HK3 ⊢
    go_wp2
    go_region_held3 (fun w' => w'.cell? ⟨w.heap.size, 0, none⟩ = some (.string ⟨l.toArray⟩))
      (first | with_reducible exact HS3.out.cell | with_reducible exact HS3.out.drew.cell | with_reducible exact HS4.out.cell)
      ((refine step_copy_str rfl _ _ 47 9 rfl 5 g 5 4 4 4 ((⟨l.toArray⟩ : ByteArray).extract 16 l.length) (by rfl) (by rfl) Try.underlying47 (info_size info_u8) HN16.out ((Blk.drew HK3.out).thereAt 5 4 (by rw [pkC_size ⟨rfl, rfl⟩]; decide)) ?_; rw [HV16.out]; have HS4 := Lib.hid ((RdS.drew HS3.out).setC HG.out 5 ((four l 16).map ubv)); have HK4 := Lib.hid ((Blk.drew HK3.out).put_t ⟨rfl, rfl⟩ (t' := four l 16) rfl)))
    clear HS3 HK3
    generalize World.setCells _ _ _ _ = W4 at HS4 HK4 ⊢
    have hF : PkL (four l 12) (four l 16) := ⟨rfl, rfl⟩
    have HF := Lib.hid hF
    have dn := HS4.out.none.ld_pk pk0_L
    have dl := HK4.out.ld_pk hF
    clear hF
    by_cases h8 : 32768 ≤ n6
    · have hand15 : bits .and .i64 (n6 : Int) 32768 = 32768 := by
        have := and_bit n6 15 (by omega) (by omega)
        rw [if_pos (by omega)] at this
        exact this
      have HS := HS4
      have hE : rdE l = 8 := by rw [rdE, if_neg H1.out, if_neg H2.out, if_neg H3.out, if_neg H4.out, if_neg H5.out, if_neg H6.out, if_pos (by rw [← H6n.out]; omega)]
      have hV : rdV l = pk0 := by rw [rdV, hE]; rfl
      go_wp2_with (refine wpList_store_blk rfl 25 _ _ rfl (w.heap.size + 1) pk0 rfl rfl pk0 25 HS.out.res rfl size_pk rfl ?_)
      exact bodyPost_ret (results_blk Try.results22 _ _ (w.heap.size + 1) _ _ _ rfl (HS.out.res.setAll rfl) Try.underlying25 rfl size_pk) rfl ⟨by rw [hV, hE]; rfl, Below.setCells HS.out.bel (by omega) _ _⟩
    · have hand15 : bits .and .i64 (n6 : Int) 32768 = 0 := by
        have := and_bit n6 15 (by omega) (by omega)
        rw [if_neg (by omega)] at this
        exact this
      have H7 := Lib.hid (show ¬ 32768 ≤ two l 6 by rw [← H6n.out]; exact h8)
      have hdl : d.length ≤ 1000000 := by rw [HD.out, pkData, List.length_drop, List.length_take]; omega
      have HMay := Lib.hid (fun w => may_any n4 (four l 12) (four l 16) pr tt ((q : Int) * 8) mo d HF.out (by omega) (by omega) (by omega) (by omega) (by omega) w)
      have hpa : (q : Int) * 8 = pkA l := by rw [HQ.out, H6n.out, pkA]; omega
      have HMAY := Lib.hid (show mayB n4 pr tt ((q : Int) * 8) mo d.length = pkMayL l by
        rw [hpa, H4n.out, HPR.out, HTT.out, HMO.out, H6n.out, HD.out]; rfl)
      have HPK := Lib.hid (show pkC n4 (four l 12) (four l 16) pr tt ((q : Int) * 8) mo d = pkC (two l 4 : Nat) (four l 12) (four l 16) (pkP l : Nat) (pkT l : Nat) (pkA l) (pkM l) (pkData l) by
        rw [hpa, H4n.out, HPR.out, HTT.out, HMO.out, H6n.out, HD.out]; rfl)
      clear hpa
      go_wp2_with fail
      refine (HMay.out _).mono ?_
      rintro e w6 ⟨rfl, hb6⟩
      have HS := Lib.hid (HS4.out.step hb6)
      have HK := Lib.hid (HK4.out.step hb6)
      clear hb6 dn dl
      have dn := HS.out.none.ld_pk pk0_L
      have dl := HK.out.ld_pk HF.out
      by_cases h9 : mayB n4 pr tt ((q : Int) * 8) mo d.length = false
      · rw [h9]
        have hE : rdE l = 8 := by rw [rdE, if_neg H1.out, if_neg H2.out, if_neg H3.out, if_neg H4.out, if_neg H5.out, if_neg H6.out, if_neg H7.out, if_pos (HMAY.out.symm.trans h9)]
        have hV : rdV l = pk0 := by rw [rdV, hE]; rfl
        go_wp2_with (refine wpList_store_blk rfl 25 _ _ rfl (w.heap.size + 1) pk0 rfl rfl pk0 25 HS.out.res rfl size_pk rfl ?_)
        exact bodyPost_ret (results_blk Try.results22 _ _ (w.heap.size + 1) _ _ _ rfl (HS.out.res.setAll rfl) Try.underlying25 rfl size_pk) rfl ⟨by rw [hV, hE]; rfl, Below.setCells HS.out.bel (by omega) _ _⟩
      have h9' : mayB n4 pr tt ((q : Int) * 8) mo d.length = true := by simpa using h9
      have hE : rdE l = 0 := by rw [rdE, if_neg H1.out, if_neg H2.out, if_neg H3.out, if_neg H4.out, if_neg H5.out, if_neg H6.out, if_neg H7.out, if_neg (by rw [← HMAY.out, h9']; decide)]
      have hV : rdV l = pkC n4 (four l 12) (four l 16) pr tt ((q : Int) * 8) mo d := by rw [rdV, if_pos hE, HPK.out]
      have HE := Lib.hid hE
      have HV := Lib.hid hV
      rw [h9']
      clear h9 h9' hE hV
      have hz := pkC_size (id := (n4 : Int)) (pr := (pr : Int)) (tt := (tt : Int)) (a := (q : Int) * 8) (mo := mo) (d := d) HF.out
      have HZ2 := Lib.hid hz
      clear hz
      go_wp2_with (refine wpList_store_blk rfl 25 _ _ rfl (w.heap.size + 1) (pkC n4 (four l 12) (four l 16) pr tt ((q : Int) * 8) mo d) rfl rfl pk0 25 HS.out.res HZ2.out (by rw [HZ2.out]; exact size_pk) (pkC_one _ _ _ _ _ _ _ _) ?_)
      exact bodyPost_ret (results_blk Try.results22 _ _ (w.heap.size + 1) _ _ _ rfl (HS.out.res.setAll HZ2.out) Try.underlying25 rfl (by rw [HZ2.out]; exact size_pk)) rfl ⟨by rw [HV.out, HE.out]; rfl, Below.setCells HS.out.bel (by omega) _ _⟩
end Go.Proofs.Yticchchcobjpdaa
