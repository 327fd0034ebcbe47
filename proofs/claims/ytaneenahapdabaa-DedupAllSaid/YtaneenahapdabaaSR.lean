/- Layer 20: what Load defers. -/
import Derived.Test.YtaneenahapdabaaSQ
import Derived.Recover
import Derived.WideLaws
namespace Go.Proofs.Ytaneenahapdabaa
open Go
section
variable {E : Env} {n : Nat} {L : Sl} {d T : Nat} {pos : String} {e : Array Edge} {g : Option (Nat × Bool)} {x y : Operand} {G : List Ent}
theorem X.typeAssert {t st : Nat} {v : Value} {u : TypeDesc} (hx : ev L x = some (.iface t v)) (hu : E.P.underlying t = some u) (hne : (match u with | .interface _ => false | _ => true) = true) :
    PureOp E n L G ⟨some d, .typeAssert x st t false, T, pos, e, g⟩ v := by
  intro w hG a hs
  simp only [execOp, hs.eval hx, Instr.typeAssert, Sem.run_bind, run_underlying hu, Result.andThen]
  cases u <;> first | (cases hne; done) | simp
theorem X.ifaceNil {t t' : Nat} {r : Bool} {v : Value} (hx : ev L x = some v) (ht : E.P.underlying t = some (.interface (E.P.methodsAt t))) (hv : (∃ t u, v = .iface t u ∧ r = true) ∨ (v = .nilIface ∧ r = false)) :
    PureOp E n L G ⟨some d, .binOp .neq t x (.const .nilIface) t', T, pos, e, g⟩ (.bool r) := by
  intro w hG a hs
  have hy : a.eval (.const .nilIface) = .nilIface := rfl
  rcases hv with ⟨t2, u, rfl, rfl⟩ | ⟨rfl, rfl⟩
  · simp [execOp, hs.eval hx, hy, eqGuard, binOp, run_equal_held_nil w t t2 u ht]
  · simp [execOp, hs.eval hx, hy, eqGuard, binOp, run_equal_nil_nil w t ht]
end
theorem Ops.wp {E : Env} {f : FuncId} {n : Nat} {ops : List Oper} {K : Sl → World → Prop} {L : Sl} {w : World} {a : Act} {id : Nat} (h : Ops E f (fun _ _ => False) n ops K ops L w) (ha : St n L a []) :
    (Code.region id ops.toArray false).wp E.P (fun e a' w' => e = .normal ∧ ∃ L', St n L' a' [] ∧ K L' w') a w := by
  refine wp_mono (wp_region_list (by simpa using h a ha)) ?_
  rintro e a' w' hq
  cases e with
  | normal => exact ⟨rfl, hq⟩
  | panic ch => exact (by obtain ⟨_, _, _, h⟩ := hq; exact h.elim)
  | _ => exact hq.elim
theorem Ops.wpSeq {E : Env} {f : FuncId} {n : Nat} {ops : List Oper} {L : Sl} {w : World} {a : Act} {id : Nat} {y : Code} {Q : Exit → Act → World → Prop} (ha : St n L a []) (h : ∀ K : Sl → World → Prop, (∀ L w, (∀ a, St n L a [] → y.wp E.P Q a w) → K L w) → Ops E f (fun _ _ => False) n ops K ops L w) :
    ((Code.region id ops.toArray false).seq y).wp E.P Q a w :=
  wp_seq (wp_mono (Ops.wp (h _ fun _ _ h => h) ha) (by rintro e a' w' ⟨rfl, L', hs, hk⟩; exact hk a' hs))
theorem Ops.wpEnd {E : Env} {f : FuncId} {n : Nat} {ops : List Oper} {L : Sl} {w : World} {a : Act} {id : Nat} {Q : Exit → Act → World → Prop} (ha : St n L a []) (h : ∀ K : Sl → World → Prop, (∀ L w, (∀ a, St n L a [] → Q .normal a w) → K L w) → Ops E f (fun _ _ => False) n ops K ops L w) :
    (Code.region id ops.toArray false).wp E.P Q a w :=
  wp_mono (Ops.wp (h _ fun _ _ h => h) ha) (by rintro e a' w' ⟨rfl, L', hs, hk⟩; exact hk a' hs)
set_option maxRecDepth 20000
set_option maxHeartbeats 2000000
attribute [local irreducible] Run Ops Fn Draw Draw2 PureOp StepZ
theorem clos_pan (w : World) (wx ex : Nat) (v0 v1 : Value) (R : Ending → FrameMode → World → Prop) (h1 : w.heap[wx]? = some (row [v0] 33)) (h2 : w.heap[ex]? = some (row [v1] 32))
    (hR : ∀ w', w'.heap[wx]? = some (row [.pointer none] 33) → w'.heap[ex]? = some (row [.int .i64 20] 32) → Fr w w' [wx, ex] → R (.returned (.tuple #[])) (.panicking [{ v := noneV, recovered := true }]) w') :
    CallsD env.P 22 #[.pointer (some ⟨wx, 0, none⟩), .pointer (some ⟨ex, 0, none⟩)] (.panicking [{ v := noneV, recovered := false }]) w R := by
  refine callsD_of_wpS (P := env.P) Try.func22 rfl fun c0 cs hm => ?_
  refine wpS_seq (wpS_region ?_)
  have hn : Try.f22.ntmps = 8 := rfl
  rw [hn]
  simp [wpOpsS, execOp, resolve, invoke, builtin, recoverD, hm, Region.wanted, List.range_succ, Act.put, Act.eval, Exit.thenS]
  simp only [Oper.upon]
  refine wpS_of_wp ?_
  have hst : St 8 [(2, noneV), (0, .pointer (some ⟨wx, 0, none⟩)), (1, .pointer (some ⟨ex, 0, none⟩))] (({ tmps := #[Value.pointer (some ⟨wx, 0, none⟩), Value.pointer (some ⟨ex, 0, none⟩)] ++ (Array.replicate 6 undef).setIfInBounds 1 noneV, defers := [] } : Act).put (some 2) noneV) [] := by
    refine St.put ⟨⟨by simp, fun i v hi => ?_⟩, rfl⟩ noneV rfl
    match i, hi with
    | 0, hi => simpa [look] using hi
    | 1, hi => simpa [look] using hi
    | i + 2, hi => simp [look, Nat.beq] at hi
  refine Ops.wpSeq (E := env) (f := 22) hst fun K hK => ?_
  have hne : wx ≠ ex := ne_of_ty h1 h2 (by decide)
  have H := ((Holds.start w [wx, ex]).add true h1 (by simp) (by simp)).add true h2 (by simpa using hne.symm) (by simp)
  refine Ops.pure H (X.move rfl) rfl rfl rfl ?_
  refine Ops.pure H (X.ifaceNil rfl rfl (.inl ⟨_, _, rfl, rfl⟩)) rfl rfl rfl ?_
  refine Ops.nil (hK _ _ ?_)
  clear hK K
  intro a2 ha2
  refine wp_cond_true (ha2.toSt0.eval rfl) ?_
  refine Ops.wpSeq (E := env) (f := 22) ha2 fun K hK => ?_
  refine Ops.pure H (X.move rfl) rfl rfl rfl ?_
  refine Ops.pure H (X.typeAssert rfl rfl rfl) rfl rfl rfl ?_
  refine Ops.nil (hK _ _ ?_)
  clear hK K
  intro a3 ha3
  refine Ops.wpEnd (E := env) (f := 22) ha3 fun K hK => ?_
  (refine Ops.eff rfl (Y.store1 rfl rfl rfl rfl rfl rfl H (.tail .head) (by repeat (first | exact SetC.zero | apply SetC.succ)) ?_); intro w H0; clear H; have H := H0; clear H0)
  (refine Ops.eff rfl (Y.store1 rfl rfl rfl rfl rfl rfl H Upd.head (by repeat (first | exact SetC.zero | apply SetC.succ)) ?_); intro w H0; clear H; have H := H0; clear H0)
  (refine Ops.nil (hK _ _ ?_); clear hK K)
  intro a4 ha4
  exact ⟨ha4.d, _, rfl, _, results_none rfl _ _ _, hR w (H.pick (b := wx) (.tail .head)) (H.pick (b := ex) .head) H.fr⟩
theorem clos_ret (w : World) (wx ex : Nat) (R : Ending → FrameMode → World → Prop) (hR : R (.returned (.tuple #[])) .returning w) :
    CallsD env.P 22 #[.pointer (some ⟨wx, 0, none⟩), .pointer (some ⟨ex, 0, none⟩)] .returning w R := by
  refine callsD_of_wpS (P := env.P) Try.func22 rfl fun c0 cs hm => ?_
  refine wpS_seq (wpS_region ?_)
  have hn : Try.f22.ntmps = 8 := rfl
  rw [hn]
  simp [wpOpsS, execOp, resolve, invoke, builtin, recoverD, hm, Region.wanted, List.range_succ, Act.put, Act.eval, Exit.thenS]
  simp only [Oper.upon]
  refine wpS_of_wp ?_
  have hst : St 8 [(2, .nilIface)] (({ tmps := #[Value.pointer (some ⟨wx, 0, none⟩), Value.pointer (some ⟨ex, 0, none⟩)] ++ (Array.replicate 6 undef).setIfInBounds 1 .nilIface, defers := [] } : Act).put (some 2) .nilIface) [] :=
    St.put ⟨⟨by simp, fun i v hi => by simp [look] at hi⟩, rfl⟩ .nilIface rfl
  refine Ops.wpSeq (E := env) (f := 22) hst fun K hK => ?_
  have H := Holds.start w []
  refine Ops.pure H (X.move rfl) rfl rfl rfl ?_
  refine Ops.pure H (X.ifaceNil rfl rfl (.inr ⟨rfl, rfl⟩)) rfl rfl rfl ?_
  refine Ops.nil (hK _ _ ?_)
  clear hK K
  intro a2 ha2
  refine wp_cond_false (ha2.toSt0.eval rfl) (wp_skip ?_)
  have hc : c0 = { c0 with mode := .returning } := by cases c0; simp at hm; subst hm; rfl
  exact ⟨ha2.d, .returning, by rw [← hc], _, results_none rfl _ _ _, hR⟩
end Go.Proofs.Ytaneenahapdabaa
