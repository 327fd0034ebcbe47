/- The engine of the proofs, part A: runs of a function from known slots on: what is left to do is a list of items; rules for control. No statement of the seat is proved here. -/
import Derived.WalkKit
import Derived.Defers
namespace Go.Proofs.Ytaneenahapdabaa
open Go

/-! ### Known slots -/
abbrev Sl := List (Nat × Value)

theorem beq_no {i j : Nat} (e : ¬ i = j) : Nat.beq i j = false := by
  cases hb : Nat.beq i j with
  | true => exact absurd (Nat.eq_of_beq_eq_true hb) e
  | false => rfl

def look : Sl → Nat → Option Value
  | [], _ => none
  | (j, v) :: l, i => match Nat.beq i j with
    | true => some v
    | false => look l i

def ev (l : Sl) : Operand → Option Value
  | .tmp t => look l t
  | .const v => some v
  | .global g => some (.pointer (some ⟨g, 0, none⟩))
  | .func f => some (.func (.func f) #[] #[])

structure St0 (n : Nat) (l : Sl) (a : Act) : Prop where
  s : a.tmps.size = n
  l : ∀ i v, look l i = some v → a.tmps[i]? = some v
/-- The same, and which calls are deferred. -/
structure St (n : Nat) (l : Sl) (a : Act) (ds : List Deferred) : Prop extends St0 n l a where
  d : a.defers = ds

theorem St0.eval {n : Nat} {l : Sl} {a : Act} (h : St0 n l a) {x : Operand} {v : Value} (hx : ev l x = some v) : a.eval x = v := by
  cases x with
  | tmp t =>
    have := h.l t v hx
    simp [Act.eval, Array.getD_eq_getD_getElem?, this]
  | const c => simpa [ev, Act.eval] using hx
  | global g => simpa [ev, Act.eval] using hx
  | func f => simpa [ev, Act.eval] using hx

theorem St.put {n : Nat} {l : Sl} {a : Act} {ds : List Deferred} (h : St n l a ds) {d : Nat} (v : Value) (hd : Nat.blt d n = true) : St n ((d, v) :: l) (a.put (some d) v) ds := by
  have hd' : d < n := by simpa using hd
  refine ⟨⟨by simp [Act.put, h.s], fun i u hi => ?_⟩, h.d⟩
  simp only [look] at hi
  by_cases e : i = d
  · subst e
    simp at hi
    subst hi
    simp [Act.put, h.s, hd']
  · have hb : Nat.beq i d = false := beq_no e
    rw [hb] at hi
    have := h.l i u hi
    simp only [Act.put]
    rw [Array.getElem?_setIfInBounds_ne (fun h => e h.symm)]
    exact this

theorem St.none {n : Nat} {l : Sl} {a : Act} {ds : List Deferred} (h : St n l a ds) (v : Value) : St n l (a.put none v) ds := h

theorem St.sub {n : Nat} {l l' : Sl} {a : Act} {ds : List Deferred} (h : St n l a ds) (hs : ∀ p ∈ l', look l p.1 = some p.2) : St n l' a ds := by
  refine ⟨⟨h.s, fun i v hi => h.l i v ?_⟩, h.d⟩
  have key : ∀ l' : Sl, (∀ p ∈ l', look l p.1 = some p.2) → look l' i = some v → look l i = some v := by
    intro l'
    induction l' with
    | nil => intro _ h; simp [look] at h
    | cons p r ih =>
      intro hp h
      obtain ⟨j, u⟩ := p
      simp only [look] at h
      by_cases e : i = j
      · subst e
        simp at h
        subst h
        exact hp (i, u) (List.mem_cons_self ..)
      · have hb : Nat.beq i j = false := beq_no e
        rw [hb] at h
        exact ih (fun q hq => hp q (List.mem_cons_of_mem _ hq)) h
  exact key l' hs hi

/-! ### What is left to do -/
section
variable (P : Program) (f : FuncId) (R : Ending → World → Prop)

/-- From here the function f comes to an ending that R allows. -/
def RunsA (todo : List Item) (a : Act) (w : World) : Prop :=
  ∀ (b : Frame) (cs : List Frame), b.fn = f → b.kind = .normal →
    ∃ e w' fr, R e w' ∧ Comes P (lone (b.at a todo) cs w) (lone fr cs w') e ∧ fr.fn = f ∧ fr.leaving P w' e

def Run (n : Nat) (todo : List Item) (l : Sl) (w : World) (ds : List Deferred := []) : Prop := ∀ a, St n l a ds → RunsA P f R todo a w
end

section
variable {P : Program} {f : FuncId} {R : Ending → World → Prop} {n : Nat} {k : List Item} {l : Sl} {w : World} {a : Act} {ds : List Deferred}

theorem RunsA.step {k' : List Item} {a' : Act} {w' : World} (h : RunsA P f R k' a' w') (hs : ∀ (b : Frame) (cs : List Frame), b.kind = .normal → step P (lone (b.at a k) cs w) = .next (lone (b.at a' k') cs w')) : RunsA P f R k a w := by
  intro b cs hf hk
  obtain ⟨e, w'', fr, hr, hc, hfr, hl⟩ := h b cs hf hk
  exact ⟨e, w'', fr, hr, Comes.of_steps (.one (hs b cs hk)) hc, hfr, hl⟩

/-- A piece of code by its wp. -/
theorem RunsA.of_wp {c : Code} {Q : Exit → Act → World → Prop} (h : c.wp P Q a w)
    (hn : ∀ a' w', Q .normal a' w' → RunsA P f R k a' w')
    (hx : ∀ id a' w', Q (.exit id) a' w' → False) (hg : ∀ g a' w', Q (.goto g) a' w' → False) (hr : ∀ a' w', Q .ret a' w' → False)
    (hp : ∀ ch a' w', Q (.panic ch) a' w' → ∃ fn, P.funcs[f]? = some fn ∧ Leaves P fn a'.tmps R a'.defers (.panicking ch) w') (ho : ∀ a' w', Q .outgrown a' w' → False) : RunsA P f R (.code c :: k) a w := by
  intro b cs hf hk
  obtain ⟨e, a', w', hq, harr⟩ := h b k cs
  cases e with
  | normal =>
    obtain ⟨e, w'', fr, hR, hc, hfr, hl⟩ := hn a' w' hq b cs hf hk
    exact ⟨e, w'', fr, hR, Comes.of_steps harr hc, hfr, hl⟩
  | exit id => exact (hx id _ _ hq).elim
  | goto g => exact (hg g _ _ hq).elim
  | ret => exact (hr _ _ hq).elim
  | panic ch =>
    obtain ⟨fn, hfn, hL⟩ := hp ch _ _ hq
    obtain ⟨todo, hs⟩ := harr
    obtain ⟨e, w'', fr, hR, hc, hfr, hl⟩ := leaves_steps a'.defers (.panicking ch) w' { b.at a' todo with mode := .panicking ch } cs rfl rfl rfl (by simpa [Frame.at, hf] using hfn) hk hL
    exact ⟨e, w'', fr, hR, Comes.of_steps hs hc, hfr.trans (by simpa [Frame.at] using hf), hl⟩
  | outgrown => exact (ho _ _ hq).elim

theorem Run.sub {l' : Sl} (h : Run P f R n k l' w ds) (hs : ∀ p ∈ l', look l p.1 = some p.2) : Run P f R n k l w ds := fun a ha => h a (ha.sub hs)

theorem Run.seq {x y : Code} (h : Run P f R n (.code x :: .code y :: k) l w ds) : Run P f R n (.code (.seq x y) :: k) l w ds :=
  fun a ha => (h a ha).step fun _ _ _ => step_seq
theorem Run.skip (h : Run P f R n k l w ds) : Run P f R n (.code .skip :: k) l w ds := fun a ha => (h a ha).step fun _ _ _ => step_skip
theorem Run.label {g : Nat} (h : Run P f R n k l w ds) : Run P f R n (.code (.label g) :: k) l w ds := fun a ha => (h a ha).step fun _ _ _ => step_label
theorem Run.block {id : Nat} {c : Code} (h : Run P f R n (.code c :: .inBlock id :: k) l w ds) : Run P f R n (.code (.block id c) :: k) l w ds :=
  fun a ha => (h a ha).step fun _ _ _ => step_block
theorem Run.inBlock {id : Nat} (h : Run P f R n k l w ds) : Run P f R n (.inBlock id :: k) l w ds := fun a ha => (h a ha).step fun _ _ _ => step_inBlock
theorem step_scope {P : Program} {b : Frame} {a : Act} {k : List Item} {cs : List Frame} {w : World} {c : Code} :
    step P (lone (b.at a (.code (.scope c) :: k)) cs w) = .next (lone (b.at a (.code c :: .inScope c :: k)) cs w) :=
  step_lone_go (by simp [stepG, stepG.exec, Frame.at])
theorem step_inScope {P : Program} {b : Frame} {a : Act} {k : List Item} {cs : List Frame} {w : World} {c : Code} :
    step P (lone (b.at a (.inScope c :: k)) cs w) = .next (lone (b.at a k) cs w) :=
  step_lone_go (by simp [stepG, stepG.exec, Frame.at])
theorem Run.scope {c : Code} (h : Run P f R n (.code c :: .inScope c :: k) l w ds) : Run P f R n (.code (.scope c) :: k) l w ds :=
  fun a ha => (h a ha).step fun _ _ _ => step_scope
theorem Run.inScope {c : Code} (h : Run P f R n k l w ds) : Run P f R n (.inScope c :: k) l w ds := fun a ha => (h a ha).step fun _ _ _ => step_inScope
theorem Run.exit {id : Nat} {k' : List Item} (hk : exitTo id k = some k') (h : Run P f R n k' l w ds) : Run P f R n (.code (.exit id) :: k) l w ds :=
  fun a ha => (h a ha).step fun _ _ _ => step_exit hk
theorem Run.goto {g : Nat} {k' : List Item} (hk : gotoIn g k = some k') (h : Run P f R n k' l w ds) : Run P f R n (.code (.goto g) :: k) l w ds :=
  fun a ha => (h a ha).step fun _ _ _ => step_goto hk
theorem Run.cond {c : Operand} {x y : Code} {t : Bool} (hc : ev l c = some (.bool t)) (ht : t = true → Run P f R n (.code x :: k) l w ds) (hf : t = false → Run P f R n (.code y :: k) l w ds) :
    Run P f R n (.code (.cond c x y) :: k) l w ds := fun a ha => by
  cases t with
  | true => exact (ht rfl a ha).step fun _ _ _ => step_cond (t := true) (ha.eval hc)
  | false => exact (hf rfl a ha).step fun _ _ _ => step_cond (t := false) (ha.eval hc)
theorem Run.cond_true {c : Operand} {x y : Code} (hc : ev l c = some (.bool true)) (h : Run P f R n (.code x :: k) l w ds) : Run P f R n (.code (.cond c x y) :: k) l w ds :=
  Run.cond hc (fun _ => h) (fun h => by cases h)
theorem Run.cond_false {c : Operand} {x y : Code} (hc : ev l c = some (.bool false)) (h : Run P f R n (.code y :: k) l w ds) : Run P f R n (.code (.cond c x y) :: k) l w ds :=
  Run.cond hc (fun h => by cases h) (fun _ => h)

/-- A loop: what holds at each head, for a measure that goes down. -/
theorem Run.loopHead {c : Code} {α : Type} (live : α → Sl) (J : α → World → Prop) (μ : α → Nat)
    (round : ∀ x w, J x w → (∀ x' w', μ x' < μ x → J x' w' → Run P f R n (.inLoop c :: k) (live x') w' ds) → Run P f R n (.code c :: .inLoop c :: k) (live x) w ds) :
    ∀ x w, J x w → Run P f R n (.inLoop c :: k) (live x) w ds := by
  intro x
  generalize hm : μ x = m
  induction m using Nat.strongRecOn generalizing x with
  | _ m ih =>
    intro w hJ a ha
    refine RunsA.step (k' := .code c :: .inLoop c :: k) (a' := a) (w' := w) ?_ fun _ _ _ => step_inLoop
    exact round x w hJ (fun x' w' hlt hJ' => ih (μ x') (hm ▸ hlt) x' rfl w' hJ') a ha
theorem Run.loop {c : Code} {α : Type} (live : α → Sl) (J : α → World → Prop) (μ : α → Nat) (x : α)
    (h0 : J x w) (hs : ∀ p ∈ live x, look l p.1 = some p.2)
    (round : ∀ x w, J x w → (∀ x' w', μ x' < μ x → J x' w' → Run P f R n (.inLoop c :: k) (live x') w' ds) → Run P f R n (.code c :: .inLoop c :: k) (live x) w ds) :
    Run P f R n (.code (.loop c) :: k) l w ds := by
  intro a ha
  refine RunsA.step (k' := .code c :: .inLoop c :: k) (a' := a) (w' := w) ?_ fun _ _ _ => step_loop
  exact round x w h0 (fun x' w' _ hJ' => Run.loopHead live J μ round x' w' hJ') a (ha.sub hs)

/-! ### Returning -/
theorem Run.ret {v : Value} {fn : Func} (hfn : P.funcs[f]? = some fn) (hv : ∀ a, St0 n l a → (results fn a.tmps).run P w = .ok v w) (h : R (.returned v) w) : Run P f R n (.code .ret :: k) l w := by
  intro a ha b cs hf hk
  refine ⟨.returned v, w, _, h, Steps.one step_ret, by simpa [Frame.at] using hf, rfl, by simpa [Frame.at] using ha.d, hk, fn, by simpa [Frame.at, hf] using hfn, ?_⟩
  exact hv a ha.toSt0
theorem Run.fin {v : Value} {fn : Func} (hfn : P.funcs[f]? = some fn) (hv : ∀ a, St0 n l a → (results fn a.tmps).run P w = .ok v w) (h : R (.returned v) w) : Run P f R n [] l w := by
  intro a ha b cs hf hk
  refine ⟨.returned v, w, _, h, Steps.one step_end, by simpa [Frame.at] using hf, rfl, by simpa [Frame.at] using ha.d, hk, fn, by simpa [Frame.at, hf] using hfn, ?_⟩
  exact hv a ha.toSt0

/-- Returning with calls deferred. -/
theorem Run.retD {fn : Func} (hfn : P.funcs[f]? = some fn) (h : ∀ a, St0 n l a → Leaves P fn a.tmps R ds .returning w) : Run P f R n (.code .ret :: k) l w ds := by
  intro a ha b cs hf hk
  have hL := h a ha.toSt0
  rw [← ha.d] at hL
  obtain ⟨e, w'', fr, hR, hc, hfr, hl⟩ := leaves_steps a.defers .returning w { b.at a (.code .ret :: k) with mode := .returning } cs rfl rfl rfl (by simpa [Frame.at, hf] using hfn) hk hL
  exact ⟨e, w'', fr, hR, Comes.of_steps (.one step_ret) hc, hfr.trans (by simpa [Frame.at] using hf), hl⟩
theorem Run.finD {fn : Func} (hfn : P.funcs[f]? = some fn) (h : ∀ a, St0 n l a → Leaves P fn a.tmps R ds .returning w) : Run P f R n [] l w ds := by
  intro a ha b cs hf hk
  have hL := h a ha.toSt0
  rw [← ha.d] at hL
  obtain ⟨e, w'', fr, hR, hc, hfr, hl⟩ := leaves_steps a.defers .returning w { b.at a [] with mode := .returning } cs rfl rfl rfl (by simpa [Frame.at, hf] using hfn) hk hL
  exact ⟨e, w'', fr, hR, Comes.of_steps (.one step_end) hc, hfr.trans (by simpa [Frame.at] using hf), hl⟩

theorem St0.getD (h : St0 n l a) {t : Nat} {v : Value} (hx : look l t = some v) : a.tmps.getD t undef = v := h.eval (x := .tmp t) hx

theorem res0 {fn : Func} (hr : fn.results = #[]) : ∀ a, St0 n l a → (results fn a.tmps).run P w = .ok (.tuple #[]) w := fun _ _ => results_none hr _ _ _
theorem res1 {fn : Func} {t : Nat} {v : Value} (hr : fn.results = #[.tmp t]) (h : look l t = some v) : ∀ a, St0 n l a → (results fn a.tmps).run P w = .ok v w :=
  fun a ha => by rw [results_tmp hr, ha.getD h]
theorem res2 {fn : Func} {t u : Nat} {v x : Value} (hr : fn.results = #[.tmp t, .tmp u]) (h : look l t = some v) (h' : look l u = some x) : ∀ a, St0 n l a → (results fn a.tmps).run P w = .ok (.tuple #[v, x]) w :=
  fun a ha => by rw [results_tmp2 hr, ha.getD h, ha.getD h']
theorem res3 {fn : Func} {t u s : Nat} {v x y : Value} (hr : fn.results = #[.tmp t, .tmp u, .tmp s]) (h : look l t = some v) (h' : look l u = some x) (h'' : look l s = some y) :
    ∀ a, St0 n l a → (results fn a.tmps).run P w = .ok (.tuple #[v, x, y]) w :=
  fun a ha => by
    have e1 := ha.getD h; have e2 := ha.getD h'; have e3 := ha.getD h''
    rw [Array.getD_eq_getD_getElem?] at e1 e2 e3
    simp [results, hr, e1, e2, e3]

/-- The call of a function. -/
theorem calls_of_go {fn : Func} {c : Code} {args : Array Value} {argl : List Value} {l : Sl} (hf : P.funcs[f]? = some fn) (hb : fn.body = some c) (hn : fn.ntmps = n) (ha : args = argl.toArray) (hle : argl.length ≤ n)
    (hl : ∀ p ∈ l, argl[p.1]? = some p.2)
    (h : Run P f R n [.code c] l w) : Calls P f args w R := by
  subst ha
  intro cs
  have hst : St n l { tmps := argl.toArray ++ Array.replicate (fn.ntmps - argl.length) undef, defers := [] } [] := by
    refine ⟨⟨by simp [hn]; omega, fun i v hi => ?_⟩, rfl⟩
    have key : ∀ l : Sl, (∀ p ∈ l, argl[p.1]? = some p.2) → look l i = some v → argl[i]? = some v := by
      intro l
      induction l with
      | nil => intro _ h; simp [look] at h
      | cons p r ih =>
        intro hp h
        obtain ⟨j, u⟩ := p
        simp only [look] at h
        by_cases e : i = j
        · subst e
          simp at h
          subst h
          exact hp (i, u) (List.mem_cons_self ..)
        · have hb : Nat.beq i j = false := beq_no e
          rw [hb] at h
          exact ih (fun q hq => hp q (List.mem_cons_of_mem _ hq)) h
    have h1 := key l hl hi
    have h2 : i < argl.length := (List.getElem?_eq_some_iff.1 h1).1
    rw [Array.getElem?_append_left (by simpa using h2)]
    simpa using h1
  let b : Frame := { (default : Frame) with fn := f, kind := .normal }
  have henter : Frame.enter P f argl.toArray .normal = b.at { tmps := argl.toArray ++ Array.replicate (fn.ntmps - argl.length) undef, defers := [] } [.code c] := by
    simp [Frame.enter, Frame.at, hf, hb, b]
  obtain ⟨e, w', fr, hR, hc, hfr, hlv⟩ := h _ hst b cs rfl rfl
  rw [henter]
  exact ⟨e, w', fr, hR, hc, hfr, hlv⟩
end
end Go.Proofs.Ytaneenahapdabaa
