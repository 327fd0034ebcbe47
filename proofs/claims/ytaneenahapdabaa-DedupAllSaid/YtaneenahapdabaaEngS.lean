/- The engine of the proofs, part S: a range over a function. No statement of the seat is proved here. -/
import Derived.Test.YtaneenahapdabaaEngI
import Derived.Test.YtaneenahapdabaaEngE
import Derived.RangeFuncLeaves
import Derived.RangeFuncRecord
import Derived.RangeFuncCalls
import Derived.OwnWalkIn
namespace Go.Proofs.Ytaneenahapdabaa
open Go

section
variable {P : Program} {f : FuncId} {R : Ending → World → Prop} {n : Nat} {k : List Item} {l : Sl} {w : World} {ds : List Deferred}
/-- Returning where a range over a function has left its mark. -/
theorem Run.retM {fn : Func} (hfn : P.funcs[f]? = some fn) (h : ∀ a, St0 n l a → LeavesInM Fence.wide 0 P fn a.tmps R ds .returning w) : Run P f R n (.code .ret :: k) l w ds := by
  intro a ha b cs hf hk
  have hL := h a ha.toSt0
  rw [← ha.d] at hL
  obtain ⟨e, w'', fr, hR, hc, hfr, hl⟩ := leaves_stepsInM a.defers .returning w { b.at a (.code .ret :: k) with mode := .returning } cs rfl rfl rfl (by simpa [Frame.at, hf] using hfn) hk trivial (room_wide _) hL
  exact ⟨e, w'', fr, hR, Comes.of_steps (.one step_ret) (comesIn_wide.1 hc), hfr.trans (by simpa [Frame.at] using hf), hl⟩
/-- .. one result, one mark. -/
theorem Fn.ret1M {Q : Value → World → Prop} {fn : Func} {t m : Nat} {v : Value} (hf : P.funcs[f]? = some fn) (hr : fn.results = #[.tmp t]) (hv : look l t = some v) (hm : w.heap[m]? = some (.deferred (some []))) (h : Q v (w.putObj m (.deferred none))) :
    Run P f (Rt Q) n (.code .ret :: k) l w [{ target := .collected m, args := #[] }] :=
  Run.retM hf fun a ha => ⟨by simp, .inl ⟨m, _, rfl, run_takeDeferred hm, v, res1 hr hv a ha, _, rfl, h⟩⟩

/-- The statement. -/
theorem Run.rangeFunc {g : Operand} {ps : Array Tmp} {assign body : Code} {h : FuncId} {v1 v2 : List Value} (hg : ev l g = some (.func (.func h) v1.toArray v2.toArray)) (hok : callOK P h = true)
    (hc : ∀ fn' a, St0 n l a → Fn P h (v1 ++ [.func (.yield (w.heap.size + 1)) #[] #[]] ++ v2) ((w.alloc (.deferred (some []))).alloc (.loop { state := .ready, pending := none, fn := fn', tmps := a.tmps, params := ps, assign, body, defers := w.heap.size }))
      fun _ w3 => ∃ r, w3.heap[w.heap.size + 1]? = some (.loop r) ∧ r.state ≠ .busy ∧ r.pending = none ∧ Run P f R n k l (w3.putObj (w.heap.size + 1) (.loop { r with state := .exhausted })) ({ target := .collected w.heap.size, args := #[] } :: ds)) :
    Run P f R n (.code (.rangeFunc g ps assign body) :: k) l w ds := by
  intro a ha
  refine RunsA.of_wp (Q := fun e a' w' => e = .normal ∧ a' = { a with defers := { target := .collected w.heap.size, args := #[] } :: a.defers } ∧ Run P f R n k l w' ({ target := .collected w.heap.size, args := #[] } :: ds))
    (wpIn_wide (n := 0) |>.1 (wpIn_rangeFunc fun fn' _ => ?_)) ?_ (by rintro _ _ _ ⟨h, _⟩; cases h) (by rintro _ _ _ ⟨h, _⟩; cases h) (by rintro _ _ ⟨h, _⟩; cases h) (by rintro _ _ _ ⟨h, _⟩; cases h) (by rintro _ _ ⟨h, _⟩; cases h)
  · let W : World := (w.alloc (.deferred (some []))).alloc (.loop { state := .ready, pending := none, fn := fn', tmps := a.tmps, params := ps, assign, body, defers := w.heap.size })
    have e1 : (Instr.enterLoop fn' a.tmps ps assign body none).run P w = .ok (w.heap.size + 1, [{ target := .collected w.heap.size, args := #[] }]) W := run_enterLoop_outer _ _ _ _ _
    have e2 : (resolve a.eval (rangeCall g (w.heap.size + 1)) 0).run P W = .ok ⟨.fn (.func h) v2.toArray, (v1 ++ [Value.func (.yield (w.heap.size + 1)) #[] #[]]).toArray⟩ W := by
      have hy : a.eval (.const (.func (.yield (w.heap.size + 1)) #[] #[])) = .func (.yield (w.heap.size + 1)) #[] #[] := rfl
      simp [resolve, rangeCall, ha.eval hg, hy, Deferred.ofValue]
    have e3 : (invoke (.fn (.func h) v2.toArray) (v1 ++ [Value.func (.yield (w.heap.size + 1)) #[] #[]]).toArray).run P W = .ok (.enter h (v1 ++ [Value.func (.yield (w.heap.size + 1)) #[] #[]] ++ v2).toArray) W := by
      simp [invoke, run_callFunc hok]
    have e4 := hc fn' a ha.toSt0
    exact ⟨w.heap.size + 1, _, W, _, W, h, _, W, e1, e2, fun _ _ => trivial, e3, by simp [Fence.wide], callsIn_wide.2 (Calls.mono e4 (by
      rintro e w' ⟨v, rfl, r, h1, h2, h3, h4⟩
      refine ⟨_, _, run_endLoop h1 h2, ?_⟩
      rw [h3] at h4 ⊢
      exact ⟨rfl, rfl, h4⟩))⟩
  · rintro a' w' ⟨_, rfl, h⟩
    exact h _ ⟨⟨ha.s, ha.l⟩, by simp [ha.d]⟩
end

/-- The region that hands one value to yield, and turns its answer round. -/
theorem Run.yield4 {E : Env} {f : FuncId} {R : Ending → World → Prop} {n : Nat} {k : List Item} {l : Sl} {w : World} {ds : List Deferred} {id t0 s0 p q r s tb T1 T2 T3 T4 : Nat} {p1 p2 p3 p4 : String} {e1 e2 e3 e4 : Array Edge} {ts : Array Nat} {L : Nat} {x : Value} {rc : Loop} {pp : Nat}
    (h0 : look l t0 = some (.func (.yield L) #[] #[])) (h1 : look ((p, .func (.yield L) #[] #[]) :: l) s0 = some x) (h2 : look ((q, x) :: (p, .func (.yield L) #[] #[]) :: l) p = some (.func (.yield L) #[] #[])) (hp : Nat.blt p n = true) (hq : Nat.blt q n = true) (hr : Nat.blt r n = true) (hs : Nat.blt s n = true)
    (hb : w.heap[L]? = some (.loop rc)) (hps : rc.params = #[pp])
    (hround : RoundIn Fence.wide 0 E.P L rc.fn (rc.tmps.setIfInBounds pp x) rc.assign rc.body w fun e w' => ∃ b : Bool, e = .returned (.bool b) ∧ Run E.P f R n k ((s, .bool (!b)) :: (r, .bool b) :: (q, x) :: (p, .func (.yield L) #[] #[]) :: l) w' ds) :
    Run E.P f R n (.code (.region id #[⟨some p, .move (.tmp t0), T1, p1, e1, none⟩, ⟨some q, .move (.tmp s0), T2, p2, e2, none⟩, ⟨some r, .call { callee := .value (.tmp p), args := #[.tmp q], argTypes := ts }, T3, p3, e3, none⟩, ⟨some s, .unOp .not tb (.tmp r), T4, p4, e4, none⟩] false) :: k) l w ds := by
  intro a ha
  refine RunsA.of_wp (Q := fun e a' w' => e = .normal ∧ RunsA E.P f R k a' w')
    (wpIn_wide (n := 0) |>.1 (wpIn_region_list ?_)) (fun _ _ h => h.2) (by rintro _ _ _ ⟨h, _⟩; cases h) (by rintro _ _ _ ⟨h, _⟩; cases h) (by rintro _ _ ⟨h, _⟩; cases h) (by rintro _ _ _ ⟨h, _⟩; cases h) (by rintro _ _ ⟨h, _⟩; cases h)
  refine wpListIn_plain rfl fun K1 hK1 => ⟨fun _ _ => trivial, ?_⟩
  rw [Oper.semAt_plain _ _ _ (by simp)]
  have s0' := ha.toSt0.eval (x := .tmp t0) h0
  simp only [execOp, s0', Sem.run_pure, Oper.uponIn_value]
  refine hK1 _ _ ?_
  have ha1 := ha.put (d := p) (.func (.yield L) #[] #[]) hp
  refine wpListIn_plain rfl fun K2 hK2 => ⟨fun _ _ => trivial, ?_⟩
  rw [Oper.semAt_plain _ _ _ (by simp)]
  have s1' := ha1.toSt0.eval (x := .tmp s0) h1
  simp only [execOp, s1', Sem.run_pure, Oper.uponIn_value]
  refine hK2 _ _ ?_
  have ha2 := ha1.put (d := q) x hq
  refine wpListIn_plain rfl fun K3 hK3 => ⟨fun _ _ => trivial, ?_⟩
  rw [Oper.semAt_plain _ _ _ (by simp)]
  have s2' := ha2.toSt0.eval (x := .tmp p) h2
  have s3' := ha2.toSt0.eval (x := .tmp q) (show look ((q, x) :: _) q = some x by simp [look])
  have hy : (Instr.yield L #[x]).run E.P w = .ok (.round L rc.fn (rc.tmps.setIfInBounds pp x) rc.assign rc.body) w := by
    rw [run_yield hb (by simp [hps])]
    simp [hps]
  have hx : (execOp ((a.put (some p) (.func (.yield L) #[] #[])).put (some q) x).eval ⟨some r, .call { callee := .value (.tmp p), args := #[.tmp q], argTypes := ts }, T3, p3, e3, none⟩).run E.P w = .ok (.round L rc.fn (rc.tmps.setIfInBounds pp x) rc.assign rc.body) w := by
    simp [execOp, resolve, s2', s3', Deferred.ofValue, invoke, hy]
  rw [hx, Oper.uponIn_round]
  refine ⟨by simp [Fence.wide], RoundIn.mono hround ?_⟩
  rintro e w' ⟨b, rfl, hrun⟩
  refine hK3 _ _ ?_
  have ha3 := ha2.put (d := r) (.bool b) hr
  refine wpListIn_plain rfl fun K4 hK4 => ⟨fun _ _ => trivial, ?_⟩
  rw [Oper.semAt_plain _ _ _ (by simp)]
  have s4' := ha3.toSt0.eval (x := .tmp r) (show look ((r, .bool b) :: _) r = some (.bool b) by simp [look])
  have hn : (execOp (((a.put (some p) (.func (.yield L) #[] #[])).put (some q) x).put (some r) (.bool b)).eval ⟨some s, .unOp .not tb (.tmp r), T4, p4, e4, none⟩).run E.P w' = .ok (.value (.bool (!b))) w' := by
    simp [execOp, s4', Op.unary]
  rw [hn, Oper.uponIn_value]
  exact hK4 _ _ ⟨rfl, hrun _ (ha3.put (d := s) (.bool (!b)) hs)⟩

/-- What is walked outside a round is walked within one. -/
theorem wpListIn_of {P : Program} {ops : Array Oper} {Q : Exit → Act → World → Prop} (r : Nat) (hQ : ¬ LetsOut Q) : ∀ (l : List Oper), (∀ o ∈ l, ∀ c, o.op ≠ .defer c) → ∀ a w, wpList P ops Q l a w → wpListIn (Fence.wide.inRound r) 0 P ops Q l a w := by
  intro l
  induction l with
  | nil => intro _ a w h; exact h
  | cons o l ih =>
    intro hd a w h
    have ih' := ih (fun o ho => hd o (List.mem_cons_of_mem _ ho))
    unfold wpListIn
    unfold wpList at h
    by_cases hw : Region.wanted o (yielded ops a.tmps) = true
    · rw [if_pos hw] at h ⊢
      rcases h with h | ⟨_, h⟩
      · refine ⟨fun _ _ => trivial, ?_⟩
        rw [Oper.semAt_plain _ _ _ (hd o (List.mem_cons_self ..))]
        unfold Oper.wp at h
        cases hx : (execOp a.eval o).run P w with
        | ok x w' =>
          rw [hx] at h
          cases x with
          | value v => exact ih' _ _ h
          | skip => exact ih' _ _ h
          | defer d => exact ih' _ _ h
          | enter g args =>
            refine ⟨by simp [Fence.wide], CallsIn.inRound r (callsIn_wide.2 (Calls.mono h ?_))⟩
            rintro e w'' he
            cases e with
            | returned v => exact ih' _ _ he
            | panicked ch => exact he
            | outgrown => exact he
          | row row args =>
            refine ⟨by simp [Fence.wide], fun c cs _ => ?_⟩
            obtain ⟨v, w'', hr, hs⟩ := h c cs
            exact ⟨v, w'', ih' _ _ hr, stepsIn_wide.2 hs⟩
          | _ => exact h.elim
        | halt x w' =>
          rw [hx] at h
          cases x <;> first | exact h | exact h.elim
      · exact (hQ h).elim
    · rw [if_neg hw] at h ⊢
      exact ⟨fun _ _ => trivial, ih' _ _ h⟩

/-- A round out of its two regions. -/
theorem Round.mk {E : Env} {f fr : FuncId} {n : Nat} {L : Sl} {tmps : Array Value} {w : World} {l i1 i2 bl : Nat} {ops1 ops2 : List Oper} {R : Ending → World → Prop} (hst : St0 n L { tmps := tmps, defers := [] }) (hd1 : ops1.all (fun o => match o.op with | .defer _ => false | _ => true) = true) (hd2 : ops2.all (fun o => match o.op with | .defer _ => false | _ => true) = true)
    (h : Ops E f (fun _ _ => False) n ops1 (fun L1 w1 => ∃ rec, w1.heap[l]? = some (.loop rec) ∧ rec.state = .ready ∧ Ops E f (fun _ _ => False) n ops2 (fun _ w2 => ∃ rec2, w2.heap[l]? = some (.loop rec2) ∧ R (.returned (.bool true)) (w2.putObj l (.loop { rec2 with state := .ready, pending := none }))) ops2 L1 (w1.putObj l (.loop { rec with state := .busy }))) ops1 L w) :
    RoundIn Fence.wide 0 E.P l fr tmps (.region i1 ops1.toArray false) (.block bl (.region i2 ops2.toArray false)) w R := by
  have nd : ∀ ops : List Oper, ops.all (fun o => match o.op with | .defer _ => false | _ => true) = true → ∀ o ∈ ops, ∀ c, o.op ≠ .defer c := by
    intro ops ho o hm c hc
    have := List.all_eq_true.1 ho o hm
    rw [hc] at this
    cases this
  have nq : ∀ {K : Sl → World → Prop}, ¬ LetsOut (QK E.P f (fun _ _ => False) n K []) := fun ⟨_, _, h⟩ => h
  have np : ∀ {K : Sl → World → Prop} {ch a w}, ¬ QK E.P f (fun _ _ => False) n K [] (.panic ch) a w := fun ⟨_, _, _, h⟩ => h
  refine roundIn_of_wpIn trivial ?_
  have h1 := h { tmps := tmps, defers := [] } ⟨hst, rfl⟩
  refine Go.wpIn_mono (Q := QK E.P f (fun _ _ => False) n _ []) (wpIn_region_list (by simpa using wpListIn_of l nq ops1 (nd _ hd1) _ _ h1)) ?_
  rintro e a1 w1 hq
  cases e with
  | normal =>
    obtain ⟨L1, hs1, rec, hb1, hr1, h2⟩ := hq
    refine ⟨_, run_beginRound hb1 hr1, wpIn_block ?_⟩
    have h3 := h2 a1 hs1
    refine Go.wpIn_mono (Q := QK E.P f (fun _ _ => False) n _ []) (wpIn_region_list (by simpa using wpListIn_of l nq ops2 (nd _ hd2) _ _ h3)) ?_
    rintro e a2 w2 hq
    cases e with
    | normal =>
      obtain ⟨L2, hs2, rec2, hb2, hR⟩ := hq
      exact ⟨_, _, run_endRound none hb2, hR⟩
    | panic ch => exact (np hq).elim
    | _ => exact hq.elim
  | panic ch => exact (np hq).elim
  | _ => exact hq.elim
theorem Fr.putObj (w : World) (l : Nat) (o : Obj) : Fr w (w.putObj l o) [l] :=
  ⟨rfl, rfl, rfl, by simp, fun b _ hb => World.putObj_heap_other (by simpa using hb)⟩
/-- A record of a loop is no row. -/
theorem putObj_keeps {w : World} {l : Nat} {o o' : Obj} (h : w.heap[l]? = some o) {b : Nat} {u : Obj} (hb : w.heap[b]? = some u) (hne : u ≠ o) : (w.putObj l o').heap[b]? = some u := by
  rw [World.putObj_heap_other]
  · exact hb
  · rintro rfl
    rw [h] at hb
    cases hb
    exact hne rfl
theorem putObj_at {w : World} {l : Nat} {o o' : Obj} (h : w.heap[l]? = some o) : (w.putObj l o').heap[l]? = some o' := World.putObj_heap_same (lt_of_at h)
/-- A record of a loop is written. -/
structure Put (w w' : World) (l : Nat) (o o' : Obj) : Prop where
  at_ : w'.heap[l]? = some o'
  keep : ∀ (b : Nat) (u : Obj), w.heap[b]? = some u → u ≠ o → w'.heap[b]? = some u
  fr : Fr w w' [l]
theorem Put.of {w : World} {l : Nat} {o : Obj} (o' : Obj) (h : w.heap[l]? = some o) : Put w (w.putObj l o') l o o' := ⟨putObj_at h, fun _ _ hb hne => putObj_keeps h hb hne, Fr.putObj w l o'⟩
/-- .. as the walker takes it. -/
theorem Round.of {E : Env} {f fr : FuncId} {n : Nat} {L : Sl} {tmps : Array Value} {w : World} {l i1 i2 bl : Nat} {ops1 ops2 : List Oper} {R : Ending → World → Prop} (hst : St0 n L { tmps := tmps, defers := [] }) (hd1 : ops1.all (fun o => match o.op with | .defer _ => false | _ => true) = true) (hd2 : ops2.all (fun o => match o.op with | .defer _ => false | _ => true) = true)
    (h : ∀ K : Sl → World → Prop, (∀ L1 w1, (∃ rec, w1.heap[l]? = some (.loop rec) ∧ rec.state = .ready ∧ ∀ w2, Put w1 w2 l (.loop rec) (.loop { rec with state := .busy }) → ∀ K : Sl → World → Prop, (∀ L2 w2, (∃ rec2, w2.heap[l]? = some (.loop rec2) ∧ ∀ w3, Put w2 w3 l (.loop rec2) (.loop { rec2 with state := .ready, pending := none }) → R (.returned (.bool true)) w3) → K L2 w2) → Ops E f (fun _ _ => False) n ops2 K ops2 L1 w2) → K L1 w1) →
      Ops E f (fun _ _ => False) n ops1 K ops1 L w) :
    RoundIn Fence.wide 0 E.P l fr tmps (.region i1 ops1.toArray false) (.block bl (.region i2 ops2.toArray false)) w R :=
  Round.mk hst hd1 hd2 (h _ fun _ _ ⟨rec, h1, h2, h3⟩ => ⟨rec, h1, h2, h3 _ (Put.of _ h1) _ fun _ _ ⟨rec2, h4, h5⟩ => ⟨rec2, h4, h5 _ (Put.of _ h4)⟩⟩)
theorem enter_facts (w : World) (o1 o2 : Obj) : Fr w ((w.alloc o1).alloc o2) [] ∧ ((w.alloc o1).alloc o2).heap[w.heap.size]? = some o1 ∧ ((w.alloc o1).alloc o2).heap[w.heap.size + 1]? = some o2 ∧ ((w.alloc o1).alloc o2).heap.size = w.heap.size + 2 := by
  have hs : ∀ (w : World) (o : Obj), (w.alloc o).heap = w.heap.push o := fun _ _ => rfl
  refine ⟨⟨rfl, rfl, rfl, by simp [hs]; omega, fun b hb _ => ?_⟩, ?_, ?_, ?_⟩
  · rw [hs, hs, Array.getElem?_push, Array.getElem?_push]
    rw [if_neg (by simp; omega), if_neg (by omega)]
  · rw [hs, hs, Array.getElem?_push, Array.getElem?_push]
    rw [if_neg (by simp), if_pos rfl]
  · rw [hs, hs, Array.getElem?_push]
    rw [if_pos (by simp)]
  · simp [hs]
/-- The statement, as it is walked. -/
theorem Run.rangeFn {P : Program} {f : FuncId} {R : Ending → World → Prop} {n : Nat} {k : List Item} {l : Sl} {w : World} {ds : List Deferred} {g : Operand} {ps : Array Tmp} {assign body : Code} {h : FuncId} {v1 v2 : List Value} (hg : ev l g = some (.func (.func h) v1.toArray v2.toArray)) (hok : callOK P h = true)
    (hc : ∀ fn' a W rc, St0 n l a → rc = { state := .ready, pending := none, fn := fn', tmps := a.tmps, params := ps, assign, body, defers := w.heap.size } → Fr w W [] → W.heap[w.heap.size]? = some (.deferred (some [])) → W.heap[w.heap.size + 1]? = some (.loop rc) → W.heap.size = w.heap.size + 2 → Fn P h (v1 ++ [.func (.yield (w.heap.size + 1)) #[] #[]] ++ v2) W
      fun _ w3 => ∃ r, w3.heap[w.heap.size + 1]? = some (.loop r) ∧ r.state ≠ .busy ∧ r.pending = none ∧ ∀ w4, Put w3 w4 (w.heap.size + 1) (.loop r) (.loop { r with state := .exhausted }) → Run P f R n k l w4 ({ target := .collected w.heap.size, args := #[] } :: ds)) :
    Run P f R n (.code (.rangeFunc g ps assign body) :: k) l w ds := by
  refine Run.rangeFunc hg hok fun fn' a ha => ?_
  obtain ⟨f1, f2, f3, f4⟩ := enter_facts w (.deferred (some [])) (.loop { state := .ready, pending := none, fn := fn', tmps := a.tmps, params := ps, assign, body, defers := w.heap.size })
  exact (hc fn' a _ _ ha rfl f1 f2 f3 f4).mono fun _ w3 ⟨r, h1, h2, h3, h4⟩ => ⟨r, h1, h2, h3, h4 _ (Put.of _ h1)⟩
section
variable {E : Env} {n : Nat} {L : Sl} {w w0 : World} {S : List Nat} {G G0 G1 : List Ent} {d T : Nat} {pos : String} {e : Array Edge} {g : Option (Nat × Bool)} {x y s : Operand} {QQ : Exit → Act → World → Prop} {Z : Sl → World → Prop}
/-- An append that leaves alone what is no row of the kind. -/
theorem Y.appendOwnK {t el sz len m xc : Nat} {v : Value} {xa : Option Addr} {ti te : TyI} {olds news : List Value} (hO : Own w w0.heap.size el sz v len olds) (hs : ev L s = some v) (hx : ev L x = some (.slice xa m xc))
    (ht : nth E.T t = some (some ti)) (hd : ti.d = .slice el) (hte : nth E.T el = some (some te)) (hsz : te.size = sz) (hF : Fr w0 w S) (hm : 0 < len + m)
    (hl : news.length = m * te.size) (hsrc : Src w xa news) (hz : (cellsL te.zero).length = te.size) (h1 : news.all Value.oneCell' = true)
    (hb : (len + m) * te.bytes ≤ 140737488355328) (h63 : len + m ≤ 9223372036854775807) (hn : Nat.blt d n = true)
    (next : ∀ v' w', Fr w0 w' S → (∀ (b : Nat) (o : Obj), w.heap[b]? = some o → (∀ cs, o ≠ row cs el) → w'.heap[b]? = some o) → Own w' w0.heap.size el sz v' (len + m) (olds ++ news) → Z ((d, v') :: L) w') :
    StepZ E QQ n ⟨some d, .call { callee := .builtin .append, args := #[s, x], argTypes := #[t, t] }, T, pos, e, g⟩ Z L w := by
  subst hsz
  have hol := hO.len
  rcases hO with ⟨rfl, rfl, rfl⟩ | ⟨b, cap, cs, rfl, h2, h3, h4, h5, h6, h7⟩
  · refine Y.append_grow (olds := []) hs hx ht hd hte (Holds.start w []) (by omega) Src.nil (by simp) hl hsrc hz hb h63 hn ?_
    intro b cap' sp w' H hbw hc hmx hsp
    refine next _ _ (hF.trans H.fr (fun _ h => h) (by simp)) (fun b o ho _ => H.fr.get ho (by simp)) (.inr ⟨b, cap', [] ++ news ++ sp, rfl, hc, hmx, Nat.le_trans hF.size hbw, H.at_ _ (List.mem_cons_self ..), ?_, ?_⟩)
    · simp only [List.nil_append, List.length_append, hl, hsp, Nat.zero_add]
      rw [← Nat.add_mul]
      congr 1
      omega
    · simpa [hl] using Cs.mid [] news sp
  · by_cases hr : len + m ≤ cap
    · have H := (Holds.start w [b]).add true h5 (by simp) (by simp)
      have hfit : len * te.size + news.length ≤ cs.length := by
        rw [hl, h6, ← Nat.add_mul]
        exact Nat.mul_le_mul_right _ hr
      refine Y.append_room hs hx ht hd hte H .head hr (by rw [h6]; omega) hl hsrc (by simpa using h1) hn ?_
      intro w' H'
      refine next _ _ (hF.trans H'.fr (fun _ h => h) (by intro x hx hlt; simp at hx; omega)) (fun c o ho hno => H'.fr.get ho (by simp; rintro rfl; rw [h5] at ho; cases ho; exact hno _ rfl)) (.inr ⟨b, cap, _, rfl, hr, h3, h4, H'.at_ _ (List.mem_cons_self ..), by rw [putC_length]; exact h6, ?_⟩)
      rw [Nat.zero_add]
      have e1 := h7.apart (us := news) (k := len * te.size) hfit (.inl (by omega))
      have e2 := Cs.put hfit
      rw [Nat.add_mul]
      rw [hl] at e2
      exact e1.append (by simpa using e2)
    · have H := (Holds.start w []).add false h5 (by simp) (by simp)
      refine Y.append_grow hs hx ht hd hte H (by omega) (Src.row H .head h7) hol hl hsrc hz hb h63 hn ?_
      intro b' cap' sp w' H' hbw hc hmx hsp
      refine next _ _ (hF.trans H'.fr (fun _ h => h) (by simp)) (fun b o ho _ => H'.fr.get ho (by simp)) (.inr ⟨b', cap', olds ++ news ++ sp, rfl, hc, hmx, Nat.le_trans hF.size hbw, H'.at_ _ (List.mem_cons_self ..), ?_, ?_⟩)
      · simp only [List.length_append, hl, hsp, hol]
        rw [← Nat.add_mul, ← Nat.add_mul]
        congr 1
        omega
      · have := Cs.mid [] (olds ++ news) sp
        simpa [hl, hol, Nat.add_mul] using this
end
theorem Own.rows {w w' : World} {z el sz n : Nat} {v : Value} {vs : List Value} (h : Own w z el sz v n vs) (hr : ∀ (b : Nat) cs, w.heap[b]? = some (row cs el) → w'.heap[b]? = some (row cs el)) : Own w' z el sz v n vs := by
  rcases h with h | ⟨b, cap, cs, h1, h2, h3, h4, h5, h6, h7⟩
  · exact .inl h
  · exact .inr ⟨b, cap, cs, h1, h2, h3, h4, hr _ _ h5, h6, h7⟩
end Go.Proofs.Ytaneenahapdabaa
