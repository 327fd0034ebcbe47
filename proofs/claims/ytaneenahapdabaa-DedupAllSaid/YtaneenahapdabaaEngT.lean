/- The engine of the proofs, part T: functions that may panic. No statement of the seat is proved here. -/
import Derived.Test.YtaneenahapdabaaEngE
namespace Go.Proofs.Ytaneenahapdabaa
open Go

/-- A function's end, or its panic. -/
abbrev Rp (Q : Value → World → Prop) (Qp : List PanicEntry → World → Prop) : Ending → World → Prop := fun e w' => (∃ v, e = .returned v ∧ Q v w') ∨ ∃ ch, e = .panicked ch ∧ Qp ch w'
def FnP (P : Program) (g : FuncId) (args : List Value) (w : World) (Q : Value → World → Prop) (Qp : List PanicEntry → World → Prop) : Prop := Calls P g args.toArray w (Rp Q Qp)
theorem FnP.mono {P : Program} {g : FuncId} {args : List Value} {w : World} {Q Q' : Value → World → Prop} {Qp Qp' : List PanicEntry → World → Prop} (h : FnP P g args w Q Qp) (hq : ∀ v w', Q v w' → Q' v w') (hp : ∀ ch w', Qp ch w' → Qp' ch w') : FnP P g args w Q' Qp' :=
  Calls.mono h fun _ _ h => h.elim (fun ⟨v, he, hv⟩ => .inl ⟨v, he, hq _ _ hv⟩) (fun ⟨v, he, hv⟩ => .inr ⟨v, he, hp _ _ hv⟩)
theorem FnP.enter {P : Program} {f : FuncId} {fn : Func} {c : Code} {n : Nat} {args : List Value} {l : Sl} {w : World} {Q : Value → World → Prop} {Qp : List PanicEntry → World → Prop}
    (hf : P.funcs[f]? = some fn) (hn : fn.ntmps = n) (hb : fn.body = some c) (hle : Nat.ble args.length n = true) (hl : entry 0 args = l)
    (h : Run P f (Rp Q Qp) n [.code c] l w) : FnP P f args w Q Qp := by
  subst hl
  refine calls_of_go hf hb hn rfl (by simpa using hle) ?_ h
  intro p hp
  have := (entry_get args 0 p hp).2
  simpa using this
section
variable {P : Program} {f : FuncId} {Q : Value → World → Prop} {Qp : List PanicEntry → World → Prop} {n : Nat} {k : List Item} {l : Sl} {w : World} {fn : Func}
theorem FnP.ret1 {t : Nat} {v : Value} (hf : P.funcs[f]? = some fn) (hr : fn.results = #[.tmp t]) (hv : look l t = some v) (h : Q v w) : Run P f (Rp Q Qp) n (.code .ret :: k) l w := Run.ret hf (res1 hr hv) (.inl ⟨_, rfl, h⟩)
theorem FnP.ret2 {t u : Nat} {v x : Value} (hf : P.funcs[f]? = some fn) (hr : fn.results = #[.tmp t, .tmp u]) (hv : look l t = some v) (hx : look l u = some x) (h : Q (.tuple #[v, x]) w) : Run P f (Rp Q Qp) n (.code .ret :: k) l w := Run.ret hf (res2 hr hv hx) (.inl ⟨_, rfl, h⟩)
end

def StepQ (E : Env) (QQ : Exit → Act → World → Prop) (n : Nat) (o : Oper) (Z : Sl → World → Prop) (L : Sl) (w : World) (ds : List Deferred) : Prop :=
  ∀ a (K : Act → World → Prop), St n L a ds → (∀ L' w' a', Z L' w' → St n L' a' ds → K a' w') → o.wp E.P a w K QQ
section
variable {E : Env} {f : FuncId} {R : Ending → World → Prop} {n : Nat} {ops : List Oper} {k : Sl → World → Prop} {l : List Oper} {L : Sl} {w w0 : World} {S : List Nat} {G : List Ent} {o : Oper} {ds : List Deferred} {tl td : List Nat} {m i : Nat} {listed : Array Bool}
theorem Ops.effP (hg : gok ops L o = some true) (h : StepQ E (QK E.P f R n k ds) n o (fun L' w' => Ops E f R n ops k l L' w' ds) L w ds) : Ops E f R n ops k (o :: l) L w ds :=
  Ops.upon hg fun a ha => h a _ ha fun _ _ _ hz hs => hz _ hs
theorem Draw.effP (hi : nth ops i = some o) (hg : gok ops L o = some true) (hr : (Region.ready .any ops.toArray listed == [i] && !tl.contains i) = true)
    (h : StepQ E (QKd E.P f R n k ds) n o (fun L' w' => Kept G w' ∧ Draw E f R n ops k G tl td m (listed.setIfInBounds i true) L' w' ds) L w ds) : Draw E f R n ops k G tl (i :: td) (m + 1) listed L w ds := by
  intro hS a ha
  simp only [Bool.and_eq_true, beq_iff_eq] at hr
  refine ⟨fun h0 => (by rw [hr.1] at h0; cases h0), fun j hj => ?_⟩
  rw [hr.1] at hj
  obtain rfl : j = i := by simpa using hj
  refine wpOp_of hi (gok_wanted ha.toSt0 hg) (h a _ ha fun L' w' a' hz hs => ?_)
  rw [if_pos hr.2]
  exact ⟨hz.1, hz.2 hz.1 a' hs⟩
/-- What a panic must meet, where no call is deferred. -/
theorem QK.none {fn : Func} {a : Act} {ch : List PanicEntry} (hfn : E.P.funcs[f]? = some fn) (ha : St n L a []) (hR : R (.panicked ch) w) : QK E.P f R n k [] (.panic ch) a w := ⟨ha.d, fn, hfn, hR⟩
theorem QKd.none {fn : Func} {a : Act} {ch : List PanicEntry} (hfn : E.P.funcs[f]? = some fn) (ha : St n L a []) (hR : R (.panicked ch) w) : QKd E.P f R n k [] (.panic ch) a w := ⟨rfl, ha.d, hR, by rw [hfn]; rfl⟩
theorem QK.some {fn : Func} {a : Act} {ch : List PanicEntry} (hfn : E.P.funcs[f]? = some fn) (ha : St n L a ds) (hR : Leaves E.P fn a.tmps R ds (.panicking ch) w) : QK E.P f R n k ds (.panic ch) a w := ⟨ha.d, fn, hfn, hR⟩
end
section
variable {E : Env} {n : Nat} {L : Sl} {w : World} {d T : Nat} {pos : String} {e : Array Edge} {gd : Option (Nat × Bool)} {QQ : Exit → Act → World → Prop} {Z : Sl → World → Prop} {ds : List Deferred}
theorem Y.callP {fo : Operand} {g : FuncId} {args : List Operand} {ts : Array Nat} {v1 v2 vs as : List Value} {Q : Value → World → Prop} {Qp : List PanicEntry → World → Prop} (hf : ev L fo = some (.func (.func g) v1.toArray v2.toArray)) (ha : evs L args = some vs)
    (hok : callOK E.P g = true) (hq : as = v1 ++ vs ++ v2) (hc : FnP E.P g as w Q Qp) (hn : Nat.blt d n = true)
    (pan : ∀ ch w', Qp ch w' → ∀ a, St n L a ds → QQ (.panic ch) a w')
    (next : ∀ v w', Q v w' → Z ((d, v) :: L) w') : StepQ E QQ n ⟨some d, .call { callee := .value fo, args := args.toArray, argTypes := ts }, T, pos, e, gd⟩ Z L w ds := by
  intro a K hs hK
  have h1 : (execOp a.eval ⟨some d, .call { callee := .value fo, args := args.toArray, argTypes := ts }, T, pos, e, gd⟩).run E.P w = .ok (.enter g as.toArray) w := by
    simp [execOp, resolve, hs.eval hf, Deferred.ofValue, invoke, run_callFunc hok, hs.evals ha, hq]
  unfold Oper.wp
  rw [h1, Oper.upon_enter]
  refine Calls.mono hc ?_
  rintro en w' (⟨v, rfl, hv⟩ | ⟨ch, rfl, hv⟩)
  · exact hK _ _ _ (next v w' hv) (hs.put v hn)
  · exact pan ch w' hv a hs
theorem Y.panic {x : Operand} {t : Nat} {v : Value} (hx : ev L x = some (.iface t v)) (pan : ∀ a, St n L a ds → QQ (.panic [{ v := .iface t v, recovered := false }]) a w) : StepQ E QQ n ⟨none, .panic x, T, pos, e, gd⟩ Z L w ds := by
  intro a K hs hK
  have h1 : (execOp a.eval ⟨none, .panic x, T, pos, e, gd⟩).run E.P w = .halt (.panic (.iface t v)) w := by
    simp [execOp, hs.eval hx, Instr.panic, goPanic, Sem.run, Result.andThen]
  unfold Oper.wp
  rw [h1]
  exact pan a hs
theorem X.mkIface {x : Operand} {t : Nat} {v : Value} {G : List Ent} {u : TypeDesc} (hx : ev L x = some v) (hu : E.P.underlying t = some u) (hne : (match u with | .interface _ => false | _ => true) = true) : PureOp E n L G ⟨some d, .makeInterface t x, T, pos, e, gd⟩ (.iface t v) := by
  intro w hG a hs
  simp only [execOp, hs.eval hx, Instr.makeInterface, Sem.run_bind, run_underlying hu, Result.andThen]
  cases u <;> first | rfl | (cases hne)
end
end Go.Proofs.Ytaneenahapdabaa
