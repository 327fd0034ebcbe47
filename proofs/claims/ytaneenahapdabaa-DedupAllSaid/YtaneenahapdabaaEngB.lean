/- The engine of the proofs, part B: the operations of a region, one by one, from known slots; the types' table. No statement of the seat is proved here. -/
import Derived.WalkKit
import Derived.Defers
namespace Go.Proofs.Ytaneenahapdabaa
open Go

/-! ### Known slots -/
abbrev Sl := List (Nat × Value)

theorem beq_no {i j : Nat} (e : ¬ i = j) : Nat.beq i j = false := by
  cases hb : Nat.beq i j with
  | true => exact absurd (Nat.eq_of_beq_eq_true hb) e
  | false => rfl

def look : Sl → Nat → Option Value
  | [], _ => none
  | (j, v) :: l, i => match Nat.beq i j with
    | true => some v
    | false => look l i

def ev (l : Sl) : Operand → Option Value
  | .tmp t => look l t
  | .const v => some v
  | .global g => some (.pointer (some ⟨g, 0, none⟩))
  | .func f => some (.func (.func f) #[] #[])

structure St0 (n : Nat) (l : Sl) (a : Act) : Prop where
  s : a.tmps.size = n
  l : ∀ i v, look l i = some v → a.tmps[i]? = some v
/-- The same, and which calls are deferred. -/
structure St (n : Nat) (l : Sl) (a : Act) (ds : List Deferred) : Prop extends St0 n l a where
  d : a.defers = ds

theorem St0.eval {n : Nat} {l : Sl} {a : Act} (h : St0 n l a) {x : Operand} {v : Value} (hx : ev l x = some v) : a.eval x = v := by
  cases x with
  | tmp t =>
    have := h.l t v hx
    simp [Act.eval, Array.getD_eq_getD_getElem?, this]
  | const c => simpa [ev, Act.eval] using hx
  | global g => simpa [ev, Act.eval] using hx
  | func f => simpa [ev, Act.eval] using hx

theorem St.put {n : Nat} {l : Sl} {a : Act} {ds : List Deferred} (h : St n l a ds) {d : Nat} (v : Value) (hd : Nat.blt d n = true) : St n ((d, v) :: l) (a.put (some d) v) ds := by
  have hd' : d < n := by simpa using hd
  refine ⟨⟨by simp [Act.put, h.s], fun i u hi => ?_⟩, h.d⟩
  simp only [look] at hi
  by_cases e : i = d
  · subst e
    simp at hi
    subst hi
    simp [Act.put, h.s, hd']
  · have hb : Nat.beq i d = false := beq_no e
    rw [hb] at hi
    have := h.l i u hi
    simp only [Act.put]
    rw [Array.getElem?_setIfInBounds_ne (fun h => e h.symm)]
    exact this

theorem St.none {n : Nat} {l : Sl} {a : Act} {ds : List Deferred} (h : St n l a ds) (v : Value) : St n l (a.put none v) ds := h

theorem St.sub {n : Nat} {l l' : Sl} {a : Act} {ds : List Deferred} (h : St n l a ds) (hs : ∀ p ∈ l', look l p.1 = some p.2) : St n l' a ds := by
  refine ⟨⟨h.s, fun i v hi => h.l i v ?_⟩, h.d⟩
  have key : ∀ l' : Sl, (∀ p ∈ l', look l p.1 = some p.2) → look l' i = some v → look l i = some v := by
    intro l'
    induction l' with
    | nil => intro _ h; simp [look] at h
    | cons p r ih =>
      intro hp h
      obtain ⟨j, u⟩ := p
      simp only [look] at h
      by_cases e : i = j
      · subst e
        simp at h
        subst h
        exact hp (i, u) (List.mem_cons_self ..)
      · have hb : Nat.beq i j = false := beq_no e
        rw [hb] at h
        exact ih (fun q hq => hp q (List.mem_cons_of_mem _ hq)) h
  exact key l' hs hi

/-! ### What is left to do -/
section
variable (P : Program) (f : FuncId) (R : Ending → World → Prop)

/-- From here the function f comes to an ending that R allows. -/
def RunsA (todo : List Item) (a : Act) (w : World) : Prop :=
  ∀ (b : Frame) (cs : List Frame), b.fn = f → b.kind = .normal →
    ∃ e w' fr, R e w' ∧ Comes P (lone (b.at a todo) cs w) (lone fr cs w') e ∧ fr.fn = f ∧ fr.leaving P w' e

def Run (n : Nat) (todo : List Item) (l : Sl) (w : World) (ds : List Deferred := []) : Prop := ∀ a, St n l a ds → RunsA P f R todo a w
end

section
variable {P : Program} {f : FuncId} {R : Ending → World → Prop} {n : Nat} {k : List Item} {l : Sl} {w : World} {a : Act} {ds : List Deferred}

theorem RunsA.step {k' : List Item} {a' : Act} {w' : World} (h : RunsA P f R k' a' w') (hs : ∀ (b : Frame) (cs : List Frame), b.kind = .normal → step P (lone (b.at a k) cs w) = .next (lone (b.at a' k') cs w')) : RunsA P f R k a w := by
  intro b cs hf hk
  obtain ⟨e, w'', fr, hr, hc, hfr, hl⟩ := h b cs hf hk
  exact ⟨e, w'', fr, hr, Comes.of_steps (.one (hs b cs hk)) hc, hfr, hl⟩

/-- A piece of code by its wp. -/
theorem RunsA.of_wp {c : Code} {Q : Exit → Act → World → Prop} (h : c.wp P Q a w)
    (hn : ∀ a' w', Q .normal a' w' → RunsA P f R k a' w')
    (hx : ∀ id a' w', Q (.exit id) a' w' → False) (hg : ∀ g a' w', Q (.goto g) a' w' → False) (hr : ∀ a' w', Q .ret a' w' → False)
    (hp : ∀ ch a' w', Q (.panic ch) a' w' → ∃ fn, P.funcs[f]? = some fn ∧ Leaves P fn a'.tmps R a'.defers (.panicking ch) w') (ho : ∀ a' w', Q .outgrown a' w' → False) : RunsA P f R (.code c :: k) a w := by
  intro b cs hf hk
  obtain ⟨e, a', w', hq, harr⟩ := h b k cs
  cases e with
  | normal =>
    obtain ⟨e, w'', fr, hR, hc, hfr, hl⟩ := hn a' w' hq b cs hf hk
    exact ⟨e, w'', fr, hR, Comes.of_steps harr hc, hfr, hl⟩
  | exit id => exact (hx id _ _ hq).elim
  | goto g => exact (hg g _ _ hq).elim
  | ret => exact (hr _ _ hq).elim
  | panic ch =>
    obtain ⟨fn, hfn, hL⟩ := hp ch _ _ hq
    obtain ⟨todo, hs⟩ := harr
    obtain ⟨e, w'', fr, hR, hc, hfr, hl⟩ := leaves_steps a'.defers (.panicking ch) w' { b.at a' todo with mode := .panicking ch } cs rfl rfl rfl (by simpa [Frame.at, hf] using hfn) hk hL
    exact ⟨e, w'', fr, hR, Comes.of_steps hs hc, hfr.trans (by simpa [Frame.at] using hf), hl⟩
  | outgrown => exact (ho _ _ hq).elim

theorem Run.sub {l' : Sl} (h : Run P f R n k l' w ds) (hs : ∀ p ∈ l', look l p.1 = some p.2) : Run P f R n k l w ds := fun a ha => h a (ha.sub hs)

theorem Run.seq {x y : Code} (h : Run P f R n (.code x :: .code y :: k) l w ds) : Run P f R n (.code (.seq x y) :: k) l w ds :=
  fun a ha => (h a ha).step fun _ _ _ => step_seq
theorem Run.skip (h : Run P f R n k l w ds) : Run P f R n (.code .skip :: k) l w ds := fun a ha => (h a ha).step fun _ _ _ => step_skip
theorem Run.label {g : Nat} (h : Run P f R n k l w ds) : Run P f R n (.code (.label g) :: k) l w ds := fun a ha => (h a ha).step fun _ _ _ => step_label
theorem Run.block {id : Nat} {c : Code} (h : Run P f R n (.code c :: .inBlock id :: k) l w ds) : Run P f R n (.code (.block id c) :: k) l w ds :=
  fun a ha => (h a ha).step fun _ _ _ => step_block
theorem Run.inBlock {id : Nat} (h : Run P f R n k l w ds) : Run P f R n (.inBlock id :: k) l w ds := fun a ha => (h a ha).step fun _ _ _ => step_inBlock
theorem step_scope {P : Program} {b : Frame} {a : Act} {k : List Item} {cs : List Frame} {w : World} {c : Code} :
    step P (lone (b.at a (.code (.scope c) :: k)) cs w) = .next (lone (b.at a (.code c :: .inScope c :: k)) cs w) :=
  step_lone_go (by simp [stepG, stepG.exec, Frame.at])
theorem step_inScope {P : Program} {b : Frame} {a : Act} {k : List Item} {cs : List Frame} {w : World} {c : Code} :
    step P (lone (b.at a (.inScope c :: k)) cs w) = .next (lone (b.at a k) cs w) :=
  step_lone_go (by simp [stepG, stepG.exec, Frame.at])
theorem Run.scope {c : Code} (h : Run P f R n (.code c :: .inScope c :: k) l w ds) : Run P f R n (.code (.scope c) :: k) l w ds :=
  fun a ha => (h a ha).step fun _ _ _ => step_scope
theorem Run.inScope {c : Code} (h : Run P f R n k l w ds) : Run P f R n (.inScope c :: k) l w ds := fun a ha => (h a ha).step fun _ _ _ => step_inScope
theorem Run.exit {id : Nat} {k' : List Item} (hk : exitTo id k = some k') (h : Run P f R n k' l w ds) : Run P f R n (.code (.exit id) :: k) l w ds :=
  fun a ha => (h a ha).step fun _ _ _ => step_exit hk
theorem Run.goto {g : Nat} {k' : List Item} (hk : gotoIn g k = some k') (h : Run P f R n k' l w ds) : Run P f R n (.code (.goto g) :: k) l w ds :=
  fun a ha => (h a ha).step fun _ _ _ => step_goto hk
theorem Run.cond {c : Operand} {x y : Code} {t : Bool} (hc : ev l c = some (.bool t)) (ht : t = true → Run P f R n (.code x :: k) l w ds) (hf : t = false → Run P f R n (.code y :: k) l w ds) :
    Run P f R n (.code (.cond c x y) :: k) l w ds := fun a ha => by
  cases t with
  | true => exact (ht rfl a ha).step fun _ _ _ => step_cond (t := true) (ha.eval hc)
  | false => exact (hf rfl a ha).step fun _ _ _ => step_cond (t := false) (ha.eval hc)
theorem Run.cond_true {c : Operand} {x y : Code} (hc : ev l c = some (.bool true)) (h : Run P f R n (.code x :: k) l w ds) : Run P f R n (.code (.cond c x y) :: k) l w ds :=
  Run.cond hc (fun _ => h) (fun h => by cases h)
theorem Run.cond_false {c : Operand} {x y : Code} (hc : ev l c = some (.bool false)) (h : Run P f R n (.code y :: k) l w ds) : Run P f R n (.code (.cond c x y) :: k) l w ds :=
  Run.cond hc (fun h => by cases h) (fun _ => h)

/-- A loop: what holds at each head, for a measure that goes down. -/
theorem Run.loopHead {c : Code} {α : Type} (live : α → Sl) (J : α → World → Prop) (μ : α → Nat)
    (round : ∀ x w, J x w → (∀ x' w', μ x' < μ x → J x' w' → Run P f R n (.inLoop c :: k) (live x') w' ds) → Run P f R n (.code c :: .inLoop c :: k) (live x) w ds) :
    ∀ x w, J x w → Run P f R n (.inLoop c :: k) (live x) w ds := by
  intro x
  generalize hm : μ x = m
  induction m using Nat.strongRecOn generalizing x with
  | _ m ih =>
    intro w hJ a ha
    refine RunsA.step (k' := .code c :: .inLoop c :: k) (a' := a) (w' := w) ?_ fun _ _ _ => step_inLoop
    exact round x w hJ (fun x' w' hlt hJ' => ih (μ x') (hm ▸ hlt) x' rfl w' hJ') a ha
theorem Run.loop {c : Code} {α : Type} (live : α → Sl) (J : α → World → Prop) (μ : α → Nat) (x : α)
    (h0 : J x w) (hs : ∀ p ∈ live x, look l p.1 = some p.2)
    (round : ∀ x w, J x w → (∀ x' w', μ x' < μ x → J x' w' → Run P f R n (.inLoop c :: k) (live x') w' ds) → Run P f R n (.code c :: .inLoop c :: k) (live x) w ds) :
    Run P f R n (.code (.loop c) :: k) l w ds := by
  intro a ha
  refine RunsA.step (k' := .code c :: .inLoop c :: k) (a' := a) (w' := w) ?_ fun _ _ _ => step_loop
  exact round x w h0 (fun x' w' _ hJ' => Run.loopHead live J μ round x' w' hJ') a (ha.sub hs)

/-! ### Returning -/
theorem Run.ret {v : Value} {fn : Func} (hfn : P.funcs[f]? = some fn) (hv : ∀ a, St0 n l a → (results fn a.tmps).run P w = .ok v w) (h : R (.returned v) w) : Run P f R n (.code .ret :: k) l w := by
  intro a ha b cs hf hk
  refine ⟨.returned v, w, _, h, Steps.one step_ret, by simpa [Frame.at] using hf, rfl, by simpa [Frame.at] using ha.d, hk, fn, by simpa [Frame.at, hf] using hfn, ?_⟩
  exact hv a ha.toSt0
theorem Run.fin {v : Value} {fn : Func} (hfn : P.funcs[f]? = some fn) (hv : ∀ a, St0 n l a → (results fn a.tmps).run P w = .ok v w) (h : R (.returned v) w) : Run P f R n [] l w := by
  intro a ha b cs hf hk
  refine ⟨.returned v, w, _, h, Steps.one step_end, by simpa [Frame.at] using hf, rfl, by simpa [Frame.at] using ha.d, hk, fn, by simpa [Frame.at, hf] using hfn, ?_⟩
  exact hv a ha.toSt0

/-- Returning with calls deferred. -/
theorem Run.retD {fn : Func} (hfn : P.funcs[f]? = some fn) (h : ∀ a, St0 n l a → Leaves P fn a.tmps R ds .returning w) : Run P f R n (.code .ret :: k) l w ds := by
  intro a ha b cs hf hk
  have hL := h a ha.toSt0
  rw [← ha.d] at hL
  obtain ⟨e, w'', fr, hR, hc, hfr, hl⟩ := leaves_steps a.defers .returning w { b.at a (.code .ret :: k) with mode := .returning } cs rfl rfl rfl (by simpa [Frame.at, hf] using hfn) hk hL
  exact ⟨e, w'', fr, hR, Comes.of_steps (.one step_ret) hc, hfr.trans (by simpa [Frame.at] using hf), hl⟩
theorem Run.finD {fn : Func} (hfn : P.funcs[f]? = some fn) (h : ∀ a, St0 n l a → Leaves P fn a.tmps R ds .returning w) : Run P f R n [] l w ds := by
  intro a ha b cs hf hk
  have hL := h a ha.toSt0
  rw [← ha.d] at hL
  obtain ⟨e, w'', fr, hR, hc, hfr, hl⟩ := leaves_steps a.defers .returning w { b.at a [] with mode := .returning } cs rfl rfl rfl (by simpa [Frame.at, hf] using hfn) hk hL
  exact ⟨e, w'', fr, hR, Comes.of_steps (.one step_end) hc, hfr.trans (by simpa [Frame.at] using hf), hl⟩

theorem St0.getD (h : St0 n l a) {t : Nat} {v : Value} (hx : look l t = some v) : a.tmps.getD t undef = v := h.eval (x := .tmp t) hx

theorem res0 {fn : Func} (hr : fn.results = #[]) : ∀ a, St0 n l a → (results fn a.tmps).run P w = .ok (.tuple #[]) w := fun _ _ => results_none hr _ _ _
theorem res1 {fn : Func} {t : Nat} {v : Value} (hr : fn.results = #[.tmp t]) (h : look l t = some v) : ∀ a, St0 n l a → (results fn a.tmps).run P w = .ok v w :=
  fun a ha => by rw [results_tmp hr, ha.getD h]
theorem res2 {fn : Func} {t u : Nat} {v x : Value} (hr : fn.results = #[.tmp t, .tmp u]) (h : look l t = some v) (h' : look l u = some x) : ∀ a, St0 n l a → (results fn a.tmps).run P w = .ok (.tuple #[v, x]) w :=
  fun a ha => by rw [results_tmp2 hr, ha.getD h, ha.getD h']
theorem res3 {fn : Func} {t u s : Nat} {v x y : Value} (hr : fn.results = #[.tmp t, .tmp u, .tmp s]) (h : look l t = some v) (h' : look l u = some x) (h'' : look l s = some y) :
    ∀ a, St0 n l a → (results fn a.tmps).run P w = .ok (.tuple #[v, x, y]) w :=
  fun a ha => by
    have e1 := ha.getD h; have e2 := ha.getD h'; have e3 := ha.getD h''
    rw [Array.getD_eq_getD_getElem?] at e1 e2 e3
    simp [results, hr, e1, e2, e3]

/-- The call of a function. -/
theorem calls_of_go {fn : Func} {c : Code} {args : Array Value} {argl : List Value} {l : Sl} (hf : P.funcs[f]? = some fn) (hb : fn.body = some c) (hn : fn.ntmps = n) (ha : args = argl.toArray) (hle : argl.length ≤ n)
    (hl : ∀ p ∈ l, argl[p.1]? = some p.2)
    (h : Run P f R n [.code c] l w) : Calls P f args w R := by
  subst ha
  intro cs
  have hst : St n l { tmps := argl.toArray ++ Array.replicate (fn.ntmps - argl.length) undef, defers := [] } [] := by
    refine ⟨⟨by simp [hn]; omega, fun i v hi => ?_⟩, rfl⟩
    have key : ∀ l : Sl, (∀ p ∈ l, argl[p.1]? = some p.2) → look l i = some v → argl[i]? = some v := by
      intro l
      induction l with
      | nil => intro _ h; simp [look] at h
      | cons p r ih =>
        intro hp h
        obtain ⟨j, u⟩ := p
        simp only [look] at h
        by_cases e : i = j
        · subst e
          simp at h
          subst h
          exact hp (i, u) (List.mem_cons_self ..)
        · have hb : Nat.beq i j = false := beq_no e
          rw [hb] at h
          exact ih (fun q hq => hp q (List.mem_cons_of_mem _ hq)) h
    have h1 := key l hl hi
    have h2 : i < argl.length := (List.getElem?_eq_some_iff.1 h1).1
    rw [Array.getElem?_append_left (by simpa using h2)]
    simpa using h1
  let b : Frame := { (default : Frame) with fn := f, kind := .normal }
  have henter : Frame.enter P f argl.toArray .normal = b.at { tmps := argl.toArray ++ Array.replicate (fn.ntmps - argl.length) undef, defers := [] } [.code c] := by
    simp [Frame.enter, Frame.at, hf, hb, b]
  obtain ⟨e, w', fr, hR, hc, hfr, hlv⟩ := h _ hst b cs rfl rfl
  rw [henter]
  exact ⟨e, w', fr, hR, hc, hfr, hlv⟩
end
end Go.Proofs.Ytaneenahapdabaa

namespace Go.Proofs.Ytaneenahapdabaa
open Go

def nth {α : Type} : List α → Nat → Option α
  | [], _ => none
  | x :: _, 0 => some x
  | _ :: r, n + 1 => nth r n

theorem nth_eq {α : Type} (l : List α) (i : Nat) : nth l i = l[i]? := by
  induction l generalizing i with
  | nil => simp [nth]
  | cons x r ih => cases i <;> simp [nth, ih]

/-! ### The types' table -/
inductive TyE where
  | other
  | int (k : IntKind)
  | bool
  | str
  | ptr (e : Nat)
  | slice (e : Nat)
  | map (k e : Nat)
  | func
  | iface
  | agg (fs : List (Nat × Nat))
  | arr (n e : Nat)

structure TyI where
  d : TyE
  size : Nat
  bytes : Nat
  zero : Value

def TyE.good (P : Program) (t : Nat) : TyE → Prop
  | .other => True
  | .int k => P.underlying t = some (.int k)
  | .bool => P.underlying t = some .bool
  | .str => P.underlying t = some .string
  | .ptr e => P.underlying t = some (.pointer e)
  | .slice e => P.underlying t = some (.slice e)
  | .map k e => P.underlying t = some (.map k e)
  | .func => ∃ a b c, P.underlying t = some (.func a b c)
  | .iface => ∃ ms, P.underlying t = some (.interface ms)
  | .agg fs => ∃ fl : Array Field, P.underlying t = some (.struct fl) ∧ fl.toList.map (fun f => (f.offset, f.type)) = fs
  | .arr n e => P.underlying t = some (.array n e)

def TyI.good (P : Program) (t : Nat) (e : TyI) : Prop :=
  e.d.good P t ∧ ∃ i, P.info? t = some i ∧ i.size = e.size ∧ i.bytes = e.bytes ∧ i.zero = some e.zero

structure Env where
  P : Program
  T : List (Option TyI)
  ok : ∀ t e, nth T t = some (some e) → e.good P t
  wide : P.follows .mixedOrders = true

def goodFrom (P : Program) : Nat → List (Option TyI) → Prop
  | _, [] => True
  | t, none :: r => goodFrom P (t + 1) r
  | t, some e :: r => e.good P t ∧ goodFrom P (t + 1) r

theorem goodFrom_nth (P : Program) (T : List (Option TyI)) : ∀ t, goodFrom P t T → ∀ j e, nth T j = some (some e) → e.good P (t + j) := by
  induction T with
  | nil => intro t _ j e h; simp [nth] at h
  | cons x r ih =>
    intro t hg j e h
    cases x with
    | none =>
      cases j with
      | zero => simp [nth] at h
      | succ j => have := ih (t + 1) hg j e h; rwa [show t + 1 + j = t + (j + 1) by omega] at this
    | some y =>
      cases j with
      | zero => simp [nth] at h; subst h; exact hg.1
      | succ j => have := ih (t + 1) hg.2 j e h; rwa [show t + 1 + j = t + (j + 1) by omega] at this

section
variable {E : Env} {t : Nat} {e : TyI} (w : World)
theorem Env.sizeOf (h : nth E.T t = some (some e)) : (Go.sizeOf t).run E.P w = .ok e.size w := by
  obtain ⟨_, i, hi, hs, _⟩ := E.ok t e h
  simp [Go.sizeOf, typeInfo, hi, hs]
theorem Env.zeroOf (h : nth E.T t = some (some e)) : (zeroValue t).run E.P w = .ok e.zero w := by
  obtain ⟨_, i, hi, _, _, hz⟩ := E.ok t e h
  simp [zeroValue, typeInfo, hi, hz]
theorem Env.bytesOf (h : nth E.T t = some (some e)) : ((do pure (← typeInfo t).bytes : Sem Nat)).run E.P w = .ok e.bytes w := by
  obtain ⟨_, i, hi, _, hb, _⟩ := E.ok t e h
  simp [typeInfo, hi, hb]
def TyE.isAgg : TyE → Bool
  | .agg _ | .arr _ _ => true
  | _ => false
def TyE.known : TyE → Bool
  | .other => false
  | _ => true
theorem Env.isAgg (h : nth E.T t = some (some e)) (hk : e.d.known = true) : (Go.isAgg t).run E.P w = .ok e.d.isAgg w := by
  obtain ⟨hd, _⟩ := E.ok t e h
  cases hde : e.d <;> rw [hde] at hd hk <;> simp only [TyE.good] at hd <;> simp [TyE.known] at hk
  case func => obtain ⟨a, b, c, hd⟩ := hd; simp [Go.isAgg, run_underlying hd, TyE.isAgg]
  case iface => obtain ⟨a, hd⟩ := hd; simp [Go.isAgg, run_underlying hd, TyE.isAgg]
  case agg => obtain ⟨a, hd, _⟩ := hd; simp [Go.isAgg, run_underlying hd, TyE.isAgg]
  all_goals simp [Go.isAgg, run_underlying hd, TyE.isAgg]
end

/-! ### Worlds -/
/-- What was there is as it was, but for the blocks of S. -/
structure Fr (w0 w : World) (S : List Nat) : Prop where
  os : w.os = w0.os
  tape : w.tape = w0.tape
  output : w.output = w0.output
  size : w0.heap.size ≤ w.heap.size
  same : ∀ b, b < w0.heap.size → b ∉ S → w.heap[b]? = w0.heap[b]?

theorem Fr.refl (w : World) (S : List Nat) : Fr w w S := ⟨rfl, rfl, rfl, Nat.le_refl _, fun _ _ _ => rfl⟩

theorem Fr.trans {a b c : World} {S S' U : List Nat} (h : Fr a b S) (h' : Fr b c S') (hS : ∀ x ∈ S, x ∈ U) (hS' : ∀ x ∈ S', x < a.heap.size → x ∈ U) : Fr a c U :=
  ⟨h'.os.trans h.os, h'.tape.trans h.tape, h'.output.trans h.output, Nat.le_trans h.size h'.size, fun x hx hn => by
    rw [h'.same x (Nat.lt_of_lt_of_le hx h.size) (fun hm => hn (hS' x hm hx)), h.same x hx (fun hm => hn (hS x hm))]⟩

theorem Fr.mono {a b : World} {S U : List Nat} (h : Fr a b S) (hS : ∀ x ∈ S, x < a.heap.size → x ∈ U) : Fr a b U :=
  ⟨h.os, h.tape, h.output, h.size, fun x hx hn => h.same x hx (fun hm => hn (hS x hm hx))⟩

theorem Fr.get {a b : World} {S : List Nat} (h : Fr a b S) {x : Nat} {o : Obj} (hx : a.heap[x]? = some o) (hn : x ∉ S) : b.heap[x]? = some o := by
  rw [h.same x (Array.getElem?_eq_some_iff.1 hx).1 hn, hx]

theorem lt_of_at {w : World} {x : Nat} {o : Obj} (hx : w.heap[x]? = some o) : x < w.heap.size := (Array.getElem?_eq_some_iff.1 hx).1

/-- A block that is known: what it holds; whether it may be written. -/
structure Ent where
  b : Nat
  o : Obj
  m : Bool

structure Holds (w0 : World) (S : List Nat) (w : World) (G : List Ent) : Prop where
  fr : Fr w0 w S
  at_ : ∀ e ∈ G, w.heap[e.b]? = some e.o
  nd : G.Pairwise (fun x y => x.b ≠ y.b)
  wr : ∀ e ∈ G, e.m = true → e.b ∈ S ∨ w0.heap.size ≤ e.b

abbrev row (l : List Value) (t : TypeId) : Obj := .cells l.toArray t (0, 0)

theorem Holds.start (w : World) (S : List Nat) : Holds w S w [] := ⟨Fr.refl w S, (by simp), List.Pairwise.nil, (by simp)⟩

section
variable {w0 w : World} {S : List Nat} {G : List Ent}

theorem Holds.add (h : Holds w0 S w G) {b : Nat} {o : Obj} (m : Bool) (hb : w.heap[b]? = some o) (hn : ∀ e ∈ G, b ≠ e.b) (hm : m = true → b ∈ S ∨ w0.heap.size ≤ b) : Holds w0 S w (⟨b, o, m⟩ :: G) :=
  ⟨h.fr, fun e he => by rcases List.mem_cons.1 he with rfl | he <;> first | exact hb | exact h.at_ _ he, List.Pairwise.cons (fun e he => hn e he) h.nd,
   fun e he => by rcases List.mem_cons.1 he with rfl | he <;> first | exact hm | exact h.wr _ he⟩

theorem Holds.alloc (h : Holds w0 S w G) (o : Obj) (m : Bool) : Holds w0 S (w.alloc o) (⟨w.heap.size, o, m⟩ :: G) := by
  have hold : ∀ e ∈ G, (w.alloc o).heap[e.b]? = some e.o := fun e he => by
    rw [Go.RowKit.Below.heap_alloc _ _ _ (lt_of_at (h.at_ e he))]; exact h.at_ e he
  refine ⟨⟨h.fr.os, h.fr.tape, h.fr.output, by have := h.fr.size; simp; omega, fun b hb hn => ?_⟩, ?_, ?_, ?_⟩
  · rw [Go.RowKit.Below.heap_alloc _ _ _ (Nat.lt_of_lt_of_le hb h.fr.size)]; exact h.fr.same b hb hn
  · intro e he
    rcases List.mem_cons.1 he with rfl | he
    · show (w.heap.push o)[w.heap.size]? = _
      simp
    · exact hold e he
  · exact List.Pairwise.cons (fun e he => by have := lt_of_at (h.at_ e he); show w.heap.size ≠ e.b; omega) h.nd
  · intro e he
    rcases List.mem_cons.1 he with rfl | he
    · exact fun _ => .inr h.fr.size
    · exact h.wr e he

theorem Holds.drew (h : Holds w0 S w G) : Holds w0 S w.drew G := ⟨⟨h.fr.os, h.fr.tape, h.fr.output, h.fr.size, h.fr.same⟩, h.at_, h.nd, h.wr⟩

theorem Holds.sub {G' : List Ent} (h : Holds w0 S w G) (hs : G'.Sublist G) : Holds w0 S w G' :=
  ⟨h.fr, fun e he => h.at_ e (hs.subset he), h.nd.sublist hs, fun e he => h.wr e (hs.subset he)⟩
theorem Holds.tail {e : Ent} (h : Holds w0 S w (e :: G)) : Holds w0 S w G := h.sub (List.sublist_cons_self _ _)
theorem Holds.perm {G' : List Ent} (h : Holds w0 S w G) (hp : G.Perm G') : Holds w0 S w G' :=
  ⟨h.fr, fun e he => h.at_ e (hp.mem_iff.2 he), hp.pairwise h.nd (fun h => h.symm), fun e he => h.wr e (hp.mem_iff.2 he)⟩

/-- One block gets another content. -/
theorem Holds.put {b : Nat} {o o' : Obj} {w' : World} (h : Holds w0 S w (⟨b, o, true⟩ :: G)) (hos : w'.os = w.os) (ht : w'.tape = w.tape) (ho : w'.output = w.output) (hsz : w'.heap.size = w.heap.size)
    (hb : w'.heap[b]? = some o') (hr : ∀ c, c ≠ b → w'.heap[c]? = w.heap[c]?) : Holds w0 S w' (⟨b, o', true⟩ :: G) := by
  have hw := h.wr ⟨b, o, true⟩ (List.mem_cons_self ..) rfl
  have hnd := List.pairwise_cons.1 h.nd
  refine ⟨⟨hos.trans h.fr.os, ht.trans h.fr.tape, ho.trans h.fr.output, by rw [hsz]; exact h.fr.size, fun c hc hn => ?_⟩, ?_, ?_, ?_⟩
  · rw [hr c (fun e => by subst e; rcases hw with hw | hw <;> first | exact hn hw | exact absurd hc (Nat.not_lt.2 hw))]
    exact h.fr.same c hc hn
  · intro e he
    rcases List.mem_cons.1 he with rfl | he
    · exact hb
    · rw [hr e.b (fun eq => hnd.1 e he eq.symm)]
      exact h.at_ e (List.mem_cons_of_mem _ he)
  · exact List.Pairwise.cons (fun e he => hnd.1 e he) hnd.2
  · intro e he
    rcases List.mem_cons.1 he with rfl | he
    · exact fun _ => hw
    · exact h.wr e (List.mem_cons_of_mem _ he)
end

/-- The entry of block b, wherever it stands; and the list with another content there; and without it. -/
inductive Pick : List Ent → Nat → Obj → Bool → List Ent → Prop
  | head {b : Nat} {o : Obj} {m : Bool} {G : List Ent} : Pick (⟨b, o, m⟩ :: G) b o m G
  | tail {e : Ent} {b : Nat} {o : Obj} {m : Bool} {G G' : List Ent} (h : Pick G b o m G') : Pick (e :: G) b o m (e :: G')

theorem Pick.perm {G G' : List Ent} {b : Nat} {o : Obj} {m : Bool} (h : Pick G b o m G') : G.Perm (⟨b, o, m⟩ :: G') := by
  induction h with
  | head => exact List.Perm.refl _
  | tail h ih => exact (List.Perm.cons _ ih).trans (List.Perm.swap _ _ _)

theorem Holds.pick {w0 w : World} {S : List Nat} {G G' : List Ent} {b : Nat} {o : Obj} {m : Bool} (h : Holds w0 S w G) (hp : Pick G b o m G') : w.heap[b]? = some o :=
  (h.perm hp.perm).at_ ⟨b, o, m⟩ (List.mem_cons_self ..)

inductive Upd : List Ent → Nat → Obj → Obj → List Ent → Prop
  | head {b : Nat} {o o' : Obj} {G : List Ent} : Upd (⟨b, o, true⟩ :: G) b o o' (⟨b, o', true⟩ :: G)
  | tail {e : Ent} {b : Nat} {o o' : Obj} {G G' : List Ent} (h : Upd G b o o' G') : Upd (e :: G) b o o' (e :: G')

theorem Upd.perm {G G' : List Ent} {b : Nat} {o o' : Obj} (h : Upd G b o o' G') : ∃ G0, G.Perm (⟨b, o, true⟩ :: G0) ∧ (⟨b, o', true⟩ :: G0).Perm G' := by
  induction h with
  | head => exact ⟨_, List.Perm.refl _, List.Perm.refl _⟩
  | tail h ih =>
    obtain ⟨G0, h1, h2⟩ := ih
    exact ⟨_, (List.Perm.cons _ h1).trans (List.Perm.swap _ _ _), (List.Perm.swap _ _ _).trans (List.Perm.cons _ h2)⟩

theorem Holds.upd {w0 w w' : World} {S : List Nat} {G G' : List Ent} {b : Nat} {o o' : Obj} (h : Holds w0 S w G) (hu : Upd G b o o' G') (hos : w'.os = w.os) (ht : w'.tape = w.tape) (ho : w'.output = w.output) (hsz : w'.heap.size = w.heap.size)
    (hb : w'.heap[b]? = some o') (hr : ∀ c, c ≠ b → w'.heap[c]? = w.heap[c]?) : Holds w0 S w' G' := by
  obtain ⟨G0, h1, h2⟩ := hu.perm
  exact ((h.perm h1).put hos ht ho hsz hb hr).perm h2

/-- What a callee has left, in its caller's eyes. -/
theorem Holds.call {w0 w1 w2 : World} {S S' : List Nat} {G G' G0 : List Ent} (H : Holds w0 S w1 G) (h : Holds w1 S' w2 G') (hm : ∀ e ∈ G', e.m = true) (hS : ∀ b ∈ S', b ∈ S ∨ w0.heap.size ≤ b) (hG : G0.Sublist G) (hn : ∀ e ∈ G0, e.b ∉ S') :
    Holds w0 S w2 (G' ++ G0) := by
  have hold : ∀ e ∈ G0, w2.heap[e.b]? = some e.o := fun e he => h.fr.get (H.at_ e (hG.subset he)) (hn e he)
  refine ⟨⟨h.fr.os.trans H.fr.os, h.fr.tape.trans H.fr.tape, h.fr.output.trans H.fr.output, Nat.le_trans H.fr.size h.fr.size, fun b hb hnb => ?_⟩, ?_, ?_, ?_⟩
  · rw [h.fr.same b (Nat.lt_of_lt_of_le hb H.fr.size) (fun hm => by rcases hS b hm with h | h <;> first | exact hnb h | omega), H.fr.same b hb hnb]
  · intro e he
    rcases List.mem_append.1 he with he | he
    · exact h.at_ e he
    · exact hold e he
  · refine List.pairwise_append.2 ⟨h.nd, H.nd.sublist hG, fun x hx y hy => ?_⟩
    have h1 := lt_of_at (H.at_ y (hG.subset hy))
    rcases h.wr x hx (hm x hx) with h2 | h2
    · exact fun he => hn y hy (he ▸ h2)
    · omega
  · intro e he
    rcases List.mem_append.1 he with he | he
    · intro hme
      rcases h.wr e he hme with h2 | h2
      · exact hS _ h2
      · exact .inr (Nat.le_trans H.fr.size h2)
    · exact H.wr e (hG.subset he)
theorem Holds.call0 {w0 w1 w2 : World} {S : List Nat} {G G' : List Ent} (H : Holds w0 S w1 G) (h : Holds w1 [] w2 G') (hm : ∀ e ∈ G', e.m = true) : Holds w0 S w2 (G' ++ G) :=
  H.call h hm (by simp) (List.Sublist.refl _) (by simp)
theorem Holds.call1 {w0 w1 w2 : World} {S : List Nat} {G G' G0 : List Ent} {b : Nat} {o : Obj} (H : Holds w0 S w1 G) (hp : Pick G b o true G0) (h : Holds w1 [b] w2 G') (hm : ∀ e ∈ G', e.m = true) : Holds w0 S w2 (G' ++ G0) := by
  have HP := H.perm hp.perm
  have hnd := List.pairwise_cons.1 HP.nd
  exact HP.call h hm (by intro c hc; simp at hc; subst hc; exact HP.wr _ (List.mem_cons_self ..) rfl) (List.sublist_cons_self _ _) (by intro e he hc; simp at hc; exact hnd.1 e he hc.symm)

/-- Cell after cell, from a place on. -/
inductive Cs : List Value → Nat → Nat → List Value → Prop
  | nil {cs : List Value} {i : Nat} : Cs cs i 0 []
  | cons {cs : List Value} {i n : Nat} {v : Value} {vs : List Value} (h : cs[i]? = some v) (t : Cs cs (i + 1) n vs) : Cs cs i (n + 1) (v :: vs)

theorem Cs.length {cs : List Value} {i n : Nat} {vs : List Value} (h : Cs cs i n vs) : vs.length = n := by
  induction h with
  | nil => rfl
  | cons _ _ ih => simp [ih]
theorem Cs.get {cs : List Value} {i n : Nat} {vs : List Value} (h : Cs cs i n vs) : ∀ j v, vs[j]? = some v → cs[i + j]? = some v := by
  induction h with
  | nil => intro j v h; simp at h
  | cons h _ ih =>
    intro j v hj
    cases j with
    | zero => simp at hj; subst hj; simpa using h
    | succ j => have := ih j v (by simpa using hj); rwa [Nat.add_assoc, Nat.add_comm 1 j] at this

theorem cell_cells {w : World} {b i : Nat} {l : List Value} {t : TypeId} {fz : Nat × Nat} (h : w.heap[b]? = some (.cells l.toArray t fz)) : w.cell? ⟨b, i, none⟩ = l[i]? := by
  simp [World.cell?, h]
theorem cell_row {w : World} {b i : Nat} {l : List Value} {t : TypeId} (h : w.heap[b]? = some (row l t)) : w.cell? ⟨b, i, none⟩ = l[i]? := by
  simp [World.cell?, h]
theorem frozen_row {w : World} {b i : Nat} {l : List Value} {t : TypeId} (h : w.heap[b]? = some (row l t)) : w.frozen? ⟨b, i, none⟩ = false := by
  simp [World.frozen?, h]

/-! ### The operations of a region -/
/-- What follows a region is kept behind a letter (K): the terms stay small. -/
def QK (P : Program) (f : FuncId) (R : Ending → World → Prop) (n : Nat) (K : Sl → World → Prop) (ds : List Deferred) : Exit → Act → World → Prop
  | .normal, a, w => ∃ L, St n L a ds ∧ K L w
  | .panic ch, a, w => a.defers = ds ∧ ∃ fn, P.funcs[f]? = some fn ∧ Leaves P fn a.tmps R ds (.panicking ch) w
  | _, _, _ => False

def Ops (E : Env) (f : FuncId) (R : Ending → World → Prop) (n : Nat) (ops : List Oper) (k : Sl → World → Prop) (l : List Oper) (L : Sl) (w : World) (ds : List Deferred := []) : Prop :=
  ∀ a, St n L a ds → wpList E.P ops.toArray (QK E.P f R n k ds) l a w

def gok (ops : List Oper) (L : Sl) (o : Oper) : Option Bool :=
  match o.guard with
  | none => some true
  | some (j, want) =>
    match nth ops j with
    | some oj =>
      match oj.dst with
      | some d =>
        match look L d with
        | some (.bool true) => some want
        | some (.bool false) => some (!want)
        | some (.tuple _) => some false
        | _ => none
      | none => none
    | none => none

theorem gok_wanted {n : Nat} {ops : List Oper} {L : Sl} {o : Oper} {a : Act} {t : Bool} (hs : St0 n L a) (h : gok ops L o = some t) : Region.wanted o (yielded ops.toArray a.tmps) = t := by
  unfold gok at h
  unfold Region.wanted
  cases hg : o.guard with
  | none => rw [hg] at h; simpa using h
  | some p =>
    obtain ⟨j, want⟩ := p
    rw [hg] at h
    dsimp only at h ⊢
    cases hj : nth ops j with
    | none => rw [hj] at h; simp at h
    | some oj =>
      rw [hj] at h
      dsimp only at h
      cases hd : oj.dst with
      | none => rw [hd] at h; simp at h
      | some d =>
        rw [hd] at h
        dsimp only at h
        cases hl : look L d with
        | none => rw [hl] at h; simp at h
        | some v =>
          have hv := hs.l d v hl
          rw [hl] at h
          have hy : ∀ b, v = .bool b → yielded ops.toArray a.tmps j = some b := by
            intro b hb
            subst hb
            rw [nth_eq] at hj
            simp [yielded, hj, hd, hv]
          have hy' : ∀ vs, v = .tuple vs → yielded ops.toArray a.tmps j = none := by
            intro b hb
            subst hb
            rw [nth_eq] at hj
            simp [yielded, hj, hd, hv]
          cases v <;> (try (simp at h; done))
          case bool b =>
            rw [hy b rfl]
            cases b <;> cases want <;> simp_all
          case tuple vs =>
            rw [hy' vs rfl]
            simpa using h

section
variable {E : Env} {f : FuncId} {R : Ending → World → Prop} {n : Nat} {ops : List Oper} {k : Sl → World → Prop} {l : List Oper} {L : Sl} {w : World} {o : Oper} {ds : List Deferred}

theorem Run.region {id : Nat} {k : List Item} (h : ∀ K : Sl → World → Prop, (∀ L w, Run E.P f R n k L w ds → K L w) → Ops E f R n ops K ops L w ds) : Run E.P f R n (.code (.region id ops.toArray false) :: k) L w ds := by
  intro a ha
  refine RunsA.of_wp (Q := QK E.P f R n (fun L w => Run E.P f R n k L w ds) ds) (wp_region_list (by simpa using h _ (fun _ _ h => h) a ha)) (fun _ _ ⟨_, hs, hr⟩ => hr _ hs) (fun _ _ _ h => h) (fun _ _ _ h => h) (fun _ _ h => h) (fun _ _ _ ⟨hd, fn, hfn, h⟩ => ⟨fn, hfn, hd ▸ h⟩) (fun _ _ h => h)

theorem Ops.nil (h : k L w) : Ops E f R n ops k [] L w ds := fun a ha => ⟨L, ha, h⟩

theorem Ops.upon (hg : gok ops L o = some true)
    (h : ∀ a, St n L a ds → o.wp E.P a w (wpList E.P ops.toArray (QK E.P f R n k ds) l) (QK E.P f R n k ds)) : Ops E f R n ops k (o :: l) L w ds := fun a ha => by
  unfold wpList
  rw [if_pos (gok_wanted ha.toSt0 hg)]
  exact .inl (h a ha)

theorem Ops.val {d : Nat} {v : Value} {w' : World} (hd : o.dst = some d) (hn : Nat.blt d n = true) (hg : gok ops L o = some true)
    (hr : ∀ a, St0 n L a → (execOp a.eval o).run E.P w = .ok (.value v) w') (next : Ops E f R n ops k l ((d, v) :: L) w' ds) : Ops E f R n ops k (o :: l) L w ds :=
  Ops.upon hg fun a ha => by
    unfold Oper.wp
    rw [hr a ha.toSt0, Oper.upon_value, hd]
    exact next _ (ha.put v hn)
theorem Ops.valN {v : Value} {w' : World} (hd : o.dst = none) (hg : gok ops L o = some true)
    (hr : ∀ a, St0 n L a → (execOp a.eval o).run E.P w = .ok (.value v) w') (next : Ops E f R n ops k l L w' ds) : Ops E f R n ops k (o :: l) L w ds :=
  Ops.upon hg fun a ha => by
    unfold Oper.wp
    rw [hr a ha.toSt0, Oper.upon_value, hd]
    exact next _ (ha.none v)
theorem Ops.skipN {w' : World} (hd : o.dst = none) (hg : gok ops L o = some true)
    (hr : ∀ a, St0 n L a → (execOp a.eval o).run E.P w = .ok .skip w') (next : Ops E f R n ops k l L w' ds) : Ops E f R n ops k (o :: l) L w ds :=
  Ops.upon hg fun a ha => by
    unfold Oper.wp
    rw [hr a ha.toSt0, Oper.upon_skip, hd]
    exact next _ (ha.none undef)
/-- The guard says no. -/
theorem Ops.pass {d : Nat} (hd : o.dst = some d) (hn : Nat.blt d n = true) (hg : gok ops L o = some false) (next : Ops E f R n ops k l ((d, undef) :: L) w ds) : Ops E f R n ops k (o :: l) L w ds := fun a ha => by
  unfold wpList
  rw [if_neg (by simp [gok_wanted ha.toSt0 hg]), hd]
  exact next _ (ha.put undef hn)
theorem Ops.passN (hd : o.dst = none) (hg : gok ops L o = some false) (next : Ops E f R n ops k l L w ds) : Ops E f R n ops k (o :: l) L w ds := fun a ha => by
  unfold wpList
  rw [if_neg (by simp [gok_wanted ha.toSt0 hg]), hd]
  exact next _ (ha.none undef)

theorem St.know {a : Act} {d : Nat} {v u : Value} (h : St n L a ds) (hl : look L d = some v) (e : v = u) : St n ((d, u) :: L) a ds := by
  subst e
  refine ⟨⟨h.s, fun i x hi => h.l i x ?_⟩, h.d⟩
  simp only [look] at hi
  by_cases e : i = d
  · subst e
    simp at hi
    subst hi
    exact hl
  · rw [beq_no e] at hi
    exact hi

/-- The slot that an operation's guard hangs on. -/
def gslot (ops : List Oper) (o : Oper) : Option Nat :=
  match o.guard with
  | none => none
  | some (j, _) => (nth ops j).bind (·.dst)

/-- A test that is open: two ways. -/
theorem Ops.split {d : Nat} {b : Bool} (hg : gslot ops o = some d) (hb : look L d = some (.bool b))
    (ht : b = true → Ops E f R n ops k (o :: l) ((d, .bool true) :: L) w ds) (hf : b = false → Ops E f R n ops k (o :: l) ((d, .bool false) :: L) w ds) : Ops E f R n ops k (o :: l) L w ds := fun a ha => by
  cases b with
  | true => exact ht rfl a (ha.know hb rfl)
  | false => exact hf rfl a (ha.know hb rfl)
end
end Go.Proofs.Ytaneenahapdabaa
