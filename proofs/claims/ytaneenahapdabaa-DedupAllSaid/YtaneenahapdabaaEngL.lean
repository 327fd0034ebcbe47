/- The engine, part L: shifts, bits of whole numbers, letters of a string. No statement of the seat is proved here. -/
import Derived.Test.YtaneenahapdabaaEngJ
import Derived.Test.YtaneenahapdabaaEngN
namespace Go.Proofs.Ytaneenahapdabaa
open Go
theorem ofInt_nat {i : Nat} : BitVec.ofInt IntKind.u64.bits (i : Int) = BitVec.ofNat IntKind.u64.bits i := by
  simp
theorem u64_back (r : Nat) (h : r < 18446744073709551616) : IntKind.u64.wrap ((r : Nat) : Int) = ((r : Nat) : Int) := u64_in _ (by omega)
section
variable {E : Env} {n : Nat} {L : Sl} {G : List Ent} {d T : Nat} {pos : String} {e : Array Edge} {g : Option (Nat × Bool)} {x y : Operand}
theorem X.shrN {t t' i s : Nat} {ky : IntKind} {a b : Int} (hx : ev L x = some (.int .u64 a)) (hy : ev L y = some (.int ky b)) (ha : natOf a = some i) (hb : natOf b = some s) (hs : s ≤ 63) :
    PureOp E n L G ⟨some d, .binOp .shr t x y t', T, pos, e, g⟩ (.int .u64 ((i / 2 ^ s : Nat) : Nat)) := by
  rw [natOf_eq ha] at hx
  rw [natOf_eq hb] at hy
  intro w _ c hc
  have h1 : min s IntKind.u64.bits = s := by simp [IntKind.bits]; omega
  have h0 : ¬ ((s : Int) < 0) := by omega
  have h2 : ((i : Int)).fdiv (2 ^ s) = ((i / 2 ^ s : Nat) : Int) := by
    rw [Int.fdiv_eq_ediv_of_nonneg _ (by exact Int.le_of_lt (Int.pow_pos (by decide)))]
    simp
  simp only [execOp, hc.eval hx, hc.eval hy, eqGuard, binOp, Op.shift, Int.toNat_natCast, h1, h2, if_neg h0]
  simp
theorem X.shlN {t t' i s : Nat} {ky : IntKind} {a b : Int} (hx : ev L x = some (.int .u64 a)) (hy : ev L y = some (.int ky b)) (ha : natOf a = some i) (hb : natOf b = some s) (hs : s ≤ 63) :
    PureOp E n L G ⟨some d, .binOp .shl t x y t', T, pos, e, g⟩ (.int .u64 ((i * 2 ^ s % 18446744073709551616 : Nat) : Nat)) := by
  rw [natOf_eq ha] at hx
  rw [natOf_eq hb] at hy
  intro w _ c hc
  have h1 : min s IntKind.u64.bits = s := by simp [IntKind.bits]; omega
  have h0 : ¬ ((s : Int) < 0) := by omega
  have h2 : IntKind.u64.wrap ((i : Int) * 2 ^ s) = ((i * 2 ^ s % 18446744073709551616 : Nat) : Int) := by
    simp [IntKind.wrap, IntKind.bits, IntKind.signed]
  simp only [execOp, hc.eval hx, hc.eval hy, eqGuard, binOp, Op.shift, Int.toNat_natCast, h1, h2, if_neg h0]
  simp
theorem X.andN {t t' i j : Nat} {a b : Int} (hx : ev L x = some (.int .u64 a)) (hy : ev L y = some (.int .u64 b)) (ha : natOf a = some i) (hb : natOf b = some j) (hi : i < 18446744073709551616) (hj : j < 18446744073709551616) :
    PureOp E n L G ⟨some d, .binOp .and t x y t', T, pos, e, g⟩ (.int .u64 ((i &&& j : Nat) : Nat)) := by
  rw [natOf_eq ha] at hx
  rw [natOf_eq hb] at hy
  intro w _ c hc
  have h1 : ((BitVec.ofInt IntKind.u64.bits (i : Int)) &&& (BitVec.ofInt IntKind.u64.bits (j : Int))).toNat = i &&& j := by
    rw [ofInt_nat, ofInt_nat, BitVec.toNat_and, BitVec.toNat_ofNat, BitVec.toNat_ofNat, Nat.mod_eq_of_lt (by simpa [IntKind.bits] using hi), Nat.mod_eq_of_lt (by simpa [IntKind.bits] using hj)]
  have h2 := u64_back (i &&& j) (Nat.lt_of_le_of_lt Nat.and_le_left hi)
  simp only [execOp, hc.eval hx, hc.eval hy, eqGuard, binOp, Op.intBits, h1, h2]
  simp
theorem X.orN {t t' i j : Nat} {a b : Int} (hx : ev L x = some (.int .u64 a)) (hy : ev L y = some (.int .u64 b)) (ha : natOf a = some i) (hb : natOf b = some j) (hi : i < 18446744073709551616) (hj : j < 18446744073709551616) :
    PureOp E n L G ⟨some d, .binOp .or t x y t', T, pos, e, g⟩ (.int .u64 ((i ||| j : Nat) : Nat)) := by
  rw [natOf_eq ha] at hx
  rw [natOf_eq hb] at hy
  intro w _ c hc
  have h1 : ((BitVec.ofInt IntKind.u64.bits (i : Int)) ||| (BitVec.ofInt IntKind.u64.bits (j : Int))).toNat = i ||| j := by
    rw [ofInt_nat, ofInt_nat, BitVec.toNat_or, BitVec.toNat_ofNat, BitVec.toNat_ofNat, Nat.mod_eq_of_lt (by simpa [IntKind.bits] using hi), Nat.mod_eq_of_lt (by simpa [IntKind.bits] using hj)]
  have h2 := u64_back (i ||| j) (Nat.or_lt_two_pow (n := 64) hi hj)
  simp only [execOp, hc.eval hx, hc.eval hy, eqGuard, binOp, Op.intBits, h1, h2]
  simp
theorem X.xorN {t t' i j : Nat} {a b : Int} (hx : ev L x = some (.int .u64 a)) (hy : ev L y = some (.int .u64 b)) (ha : natOf a = some i) (hb : natOf b = some j) (hi : i < 18446744073709551616) (hj : j < 18446744073709551616) :
    PureOp E n L G ⟨some d, .binOp .xor t x y t', T, pos, e, g⟩ (.int .u64 ((i ^^^ j : Nat) : Nat)) := by
  rw [natOf_eq ha] at hx
  rw [natOf_eq hb] at hy
  intro w _ c hc
  have h1 : ((BitVec.ofInt IntKind.u64.bits (i : Int)) ^^^ (BitVec.ofInt IntKind.u64.bits (j : Int))).toNat = i ^^^ j := by
    rw [ofInt_nat, ofInt_nat, BitVec.toNat_xor, BitVec.toNat_ofNat, BitVec.toNat_ofNat, Nat.mod_eq_of_lt (by simpa [IntKind.bits] using hi), Nat.mod_eq_of_lt (by simpa [IntKind.bits] using hj)]
  have h2 := u64_back (i ^^^ j) (Nat.xor_lt_two_pow (n := 64) hi hj)
  simp only [execOp, hc.eval hx, hc.eval hy, eqGuard, binOp, Op.intBits, h1, h2]
  simp
/-- A letter of a string. -/
theorem X.letter {t j : Nat} {kd : IntKind} {s : ByteArray} {b : UInt8} {a : Int} {ti : TyI} (hx : ev L x = some (.string s)) (hy : ev L y = some (.int kd a)) (ha : natOf a = some j) (hs : s[j]? = some b) (ht : nth E.T t = some (some ti)) (hd : ti.d = .str) :
    PureOp E n L G ⟨some d, .index t x y, T, pos, e, g⟩ (.int .u8 (b.toNat : Nat)) := by
  obtain ⟨hg, _⟩ := E.ok t ti ht
  rw [hd] at hg
  have hg : E.P.underlying t = some .string := hg
  rw [natOf_eq ha] at hy
  intro w _ c hc
  have h0 : (0 : Int) ≤ (j : Int) := by omega
  simp [execOp, hc.eval hx, hc.eval hy, Instr.index, asIntOf, run_underlying hg, hs]
end
end Go.Proofs.Ytaneenahapdabaa
