/- The engine of the proofs, part V: a function that defers a call. No statement of the seat is proved here. -/
import Derived.Test.YtaneenahapdabaaEngT
import Derived.Test.YtaneenahapdabaaEngS
namespace Go.Proofs.Ytaneenahapdabaa
open Go

/-- The region that makes a closure over two slots and defers it. -/
theorem Run.defer2 {E : Env} {f : FuncId} {R : Ending → World → Prop} {n : Nat} {k : List Item} {l : Sl} {w : World} {ds : List Deferred} {id t0 t1 p T1 T2 : Nat} {p1 p2 : String} {e1 e2 : Array Edge} {g : FuncId} {va vb : Value}
    (h0 : look l t0 = some va) (h1 : look l t1 = some vb) (hp : Nat.blt p n = true)
    (next : Run E.P f R n k ((p, .func (.func g) #[] #[va, vb]) :: l) w ({ target := .fn (.func g) #[va, vb], args := #[] } :: ds)) :
    Run E.P f R n (.code (.region id #[⟨some p, .makeFunc (.func g) #[] #[.tmp t0, .tmp t1], T1, p1, e1, none⟩, ⟨none, .defer { callee := .value (.tmp p), args := #[], argTypes := #[] }, T2, p2, e2, none⟩] false) :: k) l w ds := by
  intro a ha
  refine RunsA.of_wp (Q := fun e a' w' => e = .normal ∧ RunsA E.P f R k a' w')
    (wpIn_wide (n := 0) |>.1 (wpIn_region_list ?_)) (fun _ _ h => h.2) (by rintro _ _ _ ⟨h, _⟩; cases h) (by rintro _ _ _ ⟨h, _⟩; cases h) (by rintro _ _ ⟨h, _⟩; cases h) (by rintro _ _ _ ⟨h, _⟩; cases h) (by rintro _ _ ⟨h, _⟩; cases h)
  refine wpListIn_plain rfl fun K1 hK1 => ⟨fun _ _ => trivial, ?_⟩
  rw [Oper.semAt_plain _ _ _ (by simp)]
  have s0 := ha.toSt0.eval (x := .tmp t0) h0
  have s1 := ha.toSt0.eval (x := .tmp t1) h1
  have hx : (execOp a.eval ⟨some p, .makeFunc (.func g) #[] #[.tmp t0, .tmp t1], T1, p1, e1, none⟩).run E.P w = .ok (.value (.func (.func g) #[] #[va, vb])) w := by
    simp [execOp, Instr.makeFunc, s0, s1]
  rw [hx, Oper.uponIn_value]
  refine hK1 _ _ ?_
  have ha1 := ha.put (d := p) (.func (.func g) #[] #[va, vb]) hp
  refine wpListIn_plain rfl fun K2 hK2 => ⟨fun _ _ => trivial, ?_⟩
  have s2 := ha1.toSt0.eval (x := .tmp p) (show look ((p, .func (.func g) #[] #[va, vb]) :: l) p = some (.func (.func g) #[] #[va, vb]) by simp [look])
  have hy : ((⟨none, .defer { callee := .value (.tmp p), args := #[], argTypes := #[] }, T2, p2, e2, none⟩ : Oper).semAt Fence.wide.round (a.put (some p) (.func (.func g) #[] #[va, vb])).eval).run E.P w = .ok (.defer { target := .fn (.func g) #[va, vb], args := #[] }) w := by
    rw [show Fence.wide.round = none from rfl, Oper.semAt_none]
    simp [execOp, resolve, s2, Deferred.ofValue]
  change Oper.uponIn Fence.wide 0 E.P _ (a.put (some p) (.func (.func g) #[] #[va, vb])) K2 _ (Sem.run E.P (Oper.semAt Fence.wide.round (a.put (some p) (.func (.func g) #[] #[va, vb])).eval _) w)
  rw [hy, Oper.uponIn_defer]
  exact hK2 _ _ ⟨rfl, next _ ⟨⟨ha1.s, ha1.l⟩, by simp [Act.put, ha.d]⟩⟩
end Go.Proofs.Ytaneenahapdabaa
