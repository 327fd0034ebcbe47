/- The keys of layer 6: a link. No statement of the seat is proved here. -/
import Derived.Test.YtpmihcefjdeonaaTab06
import Derived.Test.YtpmihcefjdeonaaEngK
namespace Go.Proofs.Ytpmihcefjdeonaa
open Go
def lk (a : Nat × Nat) : Value := .agg #[.int .i64 (a.1 : Nat), .int .i64 (a.2 : Nat)]
theorem lkOk : KOk env.P 86 lk where
  inj := fun a b h => by
    obtain ⟨a1, a2⟩ := a
    obtain ⟨b1, b2⟩ := b
    simp [lk] at h
    exact Prod.ext (by have := h.1; dsimp only; omega) (by have := h.2; dsimp only; omega)
  st := ⟨_, Try.underlying86⟩
  chk := fun b a w => by
    show (Instr.checkKey b (9999 + 1) 86 (lk a)).run Try.prog w = _
    unfold Instr.checkKey lk
    simp [run_underlying Try.underlying86]
    unfold Instr.checkKey
    simp [go_sem, run_underlying Try.underlying3]
  eq := fun a b w => by
    show (Op.equalIn (9999 + 1) 86 (lk a) (lk b)).run Try.prog w = _
    unfold lk
    rw [run_equalIn_struct w 9999 86 _ _ (by unfold Program.fieldsOf; rw [Try.underlying86]) Try.stoodInHeld86]
    have e : ∀ (x y : Int), (Op.equalIn 9999 3 (.int .i64 x) (.int .i64 y)).run Try.prog w = .ok (x == y) w := fun x y => run_equalIn_int w 9998 3 .i64 .i64 x y Try.underlying3
    obtain ⟨a1, a2⟩ := a
    obtain ⟨b1, b2⟩ := b
    simp only [Program.fieldsOf, Try.underlying86]
    have c1 : ((a1 : Int) = (b1 : Int)) = (a1 = b1) := by rw [eq_iff_iff]; omega
    have c2 : ((a2 : Int) = (b2 : Int)) = (a2 = b2) := by rw [eq_iff_iff]; omega
    by_cases h1 : a1 = b1 <;> by_cases h2 : a2 = b2 <;> simp [Op.eqFields, go_sem, e, c1, c2, h1, h2]
  same := fun a => by
    show Instr.sameBits (9999 + 1) _ _ = true
    simp [lk, Instr.sameBits]
end Go.Proofs.Ytpmihcefjdeonaa
