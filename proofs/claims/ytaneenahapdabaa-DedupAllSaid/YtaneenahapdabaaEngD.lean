/- The engine of the proofs, part D: entering and leaving a function; tests. No statement of the seat is proved here. -/
import Derived.Test.YtaneenahapdabaaEngC
import Derived.OrdersHeld
namespace Go.Proofs.Ytaneenahapdabaa
open Go

/-- What a function's end must meet. -/
abbrev Rt (Q : Value → World → Prop) : Ending → World → Prop := fun e w' => ∃ v, e = .returned v ∧ Q v w'

def entry : Nat → List Value → Sl
  | _, [] => []
  | i, v :: r => (i, v) :: entry (i + 1) r
theorem entry_get (args : List Value) : ∀ i, ∀ p ∈ entry i args, i ≤ p.1 ∧ args[p.1 - i]? = some p.2 := by
  induction args with
  | nil => intro i p hp; simp [entry] at hp
  | cons v r ih =>
    intro i p hp
    rcases List.mem_cons.1 hp with rfl | hp
    · simp
    · obtain ⟨h1, h2⟩ := ih (i + 1) p hp
      refine ⟨by omega, ?_⟩
      rw [show p.1 - i = (p.1 - (i + 1)) + 1 by omega]
      simpa using h2

theorem Fn.enter {P : Program} {f : FuncId} {fn : Func} {c : Code} {n : Nat} {args : List Value} {l : Sl} {w : World} {Q : Value → World → Prop}
    (hf : P.funcs[f]? = some fn) (hn : fn.ntmps = n) (hb : fn.body = some c) (hle : Nat.ble args.length n = true) (hl : entry 0 args = l)
    (h : Run P f (Rt Q) n [.code c] l w) : Fn P f args w Q := by
  subst hl
  refine calls_of_go hf hb hn rfl (by simpa using hle) ?_ h
  intro p hp
  have := (entry_get args 0 p hp).2
  simpa using this

section
variable {P : Program} {f : FuncId} {Q : Value → World → Prop} {n : Nat} {k : List Item} {l : Sl} {w : World} {fn : Func}
theorem Fn.ret0 (hf : P.funcs[f]? = some fn) (hr : fn.results = #[]) (h : Q (.tuple #[]) w) : Run P f (Rt Q) n (.code .ret :: k) l w := Run.ret hf (res0 hr) ⟨_, rfl, h⟩
theorem Fn.fin0 (hf : P.funcs[f]? = some fn) (hr : fn.results = #[]) (h : Q (.tuple #[]) w) : Run P f (Rt Q) n [] l w := Run.fin hf (res0 hr) ⟨_, rfl, h⟩
theorem Fn.ret1 {t : Nat} {v : Value} (hf : P.funcs[f]? = some fn) (hr : fn.results = #[.tmp t]) (hv : look l t = some v) (h : Q v w) : Run P f (Rt Q) n (.code .ret :: k) l w := Run.ret hf (res1 hr hv) ⟨_, rfl, h⟩
theorem Fn.ret2 {t u : Nat} {v x : Value} (hf : P.funcs[f]? = some fn) (hr : fn.results = #[.tmp t, .tmp u]) (hv : look l t = some v) (hx : look l u = some x) (h : Q (.tuple #[v, x]) w) : Run P f (Rt Q) n (.code .ret :: k) l w := Run.ret hf (res2 hr hv hx) ⟨_, rfl, h⟩
theorem Fn.ret3 {t u s : Nat} {v x y : Value} (hf : P.funcs[f]? = some fn) (hr : fn.results = #[.tmp t, .tmp u, .tmp s]) (hv : look l t = some v) (hx : look l u = some x) (hy : look l s = some y) (h : Q (.tuple #[v, x, y]) w) : Run P f (Rt Q) n (.code .ret :: k) l w := Run.ret hf (res3 hr hv hx hy) ⟨_, rfl, h⟩
end

section
variable {P : Program} {f : FuncId} {R : Ending → World → Prop} {n : Nat} {k : List Item} {l : Sl} {w : World} {ds : List Deferred}
theorem Run.cond_dec {c : Operand} {x y : Code} {p : Prop} {_ : Decidable p} (hc : ev l c = some (.bool (decide p))) (ht : p → Run P f R n (.code x :: k) l w ds) (hf : ¬ p → Run P f R n (.code y :: k) l w ds) : Run P f R n (.code (.cond c x y) :: k) l w ds :=
  Run.cond hc (fun h => ht (by simpa using h)) (fun h => hf (by simpa using h))
theorem Run.cond_ndec {c : Operand} {x y : Code} {p : Prop} {_ : Decidable p} (hc : ev l c = some (.bool (!decide p))) (ht : ¬ p → Run P f R n (.code x :: k) l w ds) (hf : p → Run P f R n (.code y :: k) l w ds) : Run P f R n (.code (.cond c x y) :: k) l w ds :=
  Run.cond hc (fun h => ht (by simpa using h)) (fun h => hf (by simpa using h))
end
section
variable {E : Env} {f : FuncId} {R : Ending → World → Prop} {n : Nat} {ops : List Oper} {k : Sl → World → Prop} {l : List Oper} {L : Sl} {w : World} {o : Oper} {ds : List Deferred}
theorem Ops.split_dec {d : Nat} {p : Prop} {_ : Decidable p} (hg : gslot ops o = some d) (hb : look L d = some (.bool (decide p)))
    (ht : p → Ops E f R n ops k (o :: l) ((d, .bool true) :: L) w ds) (hf : ¬ p → Ops E f R n ops k (o :: l) ((d, .bool false) :: L) w ds) : Ops E f R n ops k (o :: l) L w ds :=
  Ops.split hg hb (fun h => ht (by simpa using h)) (fun h => hf (by simpa using h))
theorem Ops.split_ndec {d : Nat} {p : Prop} {_ : Decidable p} (hg : gslot ops o = some d) (hb : look L d = some (.bool (!decide p)))
    (ht : ¬ p → Ops E f R n ops k (o :: l) ((d, .bool true) :: L) w ds) (hf : p → Ops E f R n ops k (o :: l) ((d, .bool false) :: L) w ds) : Ops E f R n ops k (o :: l) L w ds :=
  Ops.split hg hb (fun h => ht (by simpa using h)) (fun h => hf (by simpa using h))
end
/-! ### Loops -/
/-- The slots of the one list are in the other. -/
def Subs (l : Sl) : Sl → Prop
  | [] => True
  | p :: r => look l p.1 = some p.2 ∧ Subs l r
theorem Subs.all {l : Sl} : ∀ {l' : Sl}, Subs l l' → ∀ p ∈ l', look l p.1 = some p.2
  | [], _, p, hp => by simp at hp
  | q :: r, h, p, hp => by
    rcases List.mem_cons.1 hp with rfl | hp
    · exact h.1
    · exact Subs.all h.2 p hp
section
variable {P : Program} {f : FuncId} {R : Ending → World → Prop} {n : Nat} {k : List Item} {l : Sl} {w : World} {ds : List Deferred}
theorem Run.weak {l' : Sl} (h : Run P f R n k l' w ds) (hs : Subs l l') : Run P f R n k l w ds := Run.sub h hs.all
theorem Run.rounds {c : Code} {α : Type} (live : α → Sl) (J : α → World → Prop) (μ : α → Nat) (x : α) (hs : Subs l (live x)) (h0 : J x w)
    (round : ∀ x w, J x w → (∀ x' w', μ x' < μ x → J x' w' → Run P f R n (.inLoop c :: k) (live x') w' ds) → Run P f R n (.code c :: .inLoop c :: k) (live x) w ds) :
    Run P f R n (.code (.loop c) :: k) l w ds := Run.loop live J μ x h0 hs.all round
end

/-! ### Steps in a region whose order is the text's -/
section
variable {E : Env} {f : FuncId} {R : Ending → World → Prop} {n : Nat} {ops : List Oper} {k : Sl → World → Prop} {l : List Oper} {L : Sl} {w w0 : World} {S : List Nat} {G : List Ent} {o : Oper} {ds : List Deferred}
theorem Ops.pure {d : Nat} {v : Value} (H : Holds w0 S w G) (hp : PureOp E n L G o v) (hd : o.dst = some d) (hn : Nat.blt d n = true) (hg : gok ops L o = some true) (next : Ops E f R n ops k l ((d, v) :: L) w ds) : Ops E f R n ops k (o :: l) L w ds :=
  Ops.val hd hn hg (hp w H.at_) next
theorem Ops.eff (hg : gok ops L o = some true) (h : StepZ E (QK E.P f R n k ds) n o (fun L' w' => Ops E f R n ops k l L' w' ds) L w) : Ops E f R n ops k (o :: l) L w ds :=
  Ops.upon hg fun a ha => h a _ ds ha fun _ _ _ hz hs => hz _ hs
end

/-! ### A region that draws its order -/
section
variable {P : Program} {ops : Array Oper} {Q : Exit → Act → World → Prop} {S : World → Prop} {nd : Nat → Bool}

/-- Whatever order is picked from here on; behind each operation that 'nd' names S holds; behind another one S is forgotten. -/
def AnyS (P : Program) (ops : Array Oper) (Q : Exit → Act → World → Prop) (S : World → Prop) (nd : Nat → Bool) : Nat → Array Bool → Act → World → Prop
  | 0, listed, a, w => Region.ready .any ops listed = [] ∧ Q .normal a w
  | m + 1, listed, a, w =>
    (Region.ready .any ops listed = [] → Q .normal a w) ∧
    ∀ i ∈ Region.ready .any ops listed, wpOp P ops Q i (fun a' w' => if nd i = true then S w' ∧ AnyS P ops Q S nd m (listed.setIfInBounds i true) a' w' else wpAny P .any ops Q m (listed.setIfInBounds i true) a' w') a w

theorem AnyS.any : ∀ (m : Nat) (listed : Array Bool) (a : Act) (w : World), AnyS P ops Q S nd m listed a w → wpAny P .any ops Q m listed a w
  | 0, _, _, _, h => h
  | m + 1, _, _, _, h => ⟨h.1, fun i hi => wpOp_mono (fun _ _ h' => by
      split at h'
      · exact AnyS.any m _ _ _ h'.2
      · exact h') (h.2 i hi)⟩

theorem not_edge {i : Nat} {oj : Oper} {listed : Array Bool} (hr : i ∈ Region.ready .any ops listed)
    (hall : ∀ e ∈ oj.after, Region.binds .any e = true → listed.getD e.on false = true) : ∀ e ∈ oj.after, Region.binds .any e = true → e.on ≠ i := fun e he hb heq => by
  have h2 := hall e he hb
  have h0 := (mem_ready.1 hr).1
  rw [heq] at h2
  rcases Nat.lt_or_ge i listed.size with h' | h'
  · simp [h'] at h0 h2; rw [h0] at h2; cases h2
  · simp [Array.getElem?_eq_none h'] at h2

theorem AnyS.first {i : Nat} {oi : Oper} {v : Value} {S' : World → Prop} (hi : ops[i]? = some oi) (hsel : ∀ (j : Nat) (o : Oper) cs b, ops[j]? = some o → o.op ≠ .select cs b)
    (hQ : ∀ c a w, Q (.panic c) (a.put oi.dst v) w → Q (.panic c) a w) (hni : nd i = true) (hSS : ∀ w, S w → S' w)
    (hnd : (∀ j oj, ops[j]? = some oj → j ≠ i → (∀ e ∈ oj.after, Region.binds .any e = true → e.on ≠ i) → nd j = true) ∨ (∀ w, S' w)) :
    ∀ (m : Nat) (listed : Array Bool) (a : Act) (w : World),
      (∀ j oj, ops[j]? = some oj → j ≠ i → listed.getD j true = false → (∀ e ∈ oj.after, Region.binds .any e = true → e.on ≠ i) → oi.apart ops oj = true) →
      i ∈ Region.ready .any ops listed → YieldsIf P ops S' oi v a → S w →
      AnyS P ops Q S nd m (listed.setIfInBounds i true) (a.put oi.dst v) w → AnyS P ops Q S nd (m + 1) listed a w := by
  intro m
  induction m with
  | zero =>
    intro listed a w _ hr hy hS H
    refine ⟨fun h => (by rw [h] at hr; cases hr), fun j hj => ?_⟩
    by_cases hji : j = i
    · subst hji
      exact hy.wpOp hi (hSS _ hS) (by rw [if_pos hni]; exact ⟨hS, H⟩)
    · have := ready_mono hj hji
      rw [H.1] at this
      cases this
  | succ m ih =>
    intro listed a w hfree hr hy hS H
    refine ⟨fun h => (by rw [h] at hr; cases hr), fun j hj => ?_⟩
    by_cases hji : j = i
    · subst hji
      exact hy.wpOp hi (hSS _ hS) (by rw [if_pos hni]; exact ⟨hS, H⟩)
    · have h1 := H.2 j (ready_mono hj hji)
      obtain ⟨hjun, oj, hoj, hall⟩ := mem_ready.1 hj
      have hnot := not_edge hr hall
      have h2 := wpOp_putIf hoj (hfree j oj hoj hji hjun hnot) (fun cs b => hsel i oi cs b hi) (fun cs b => hsel j oj cs b hoj) hQ hy h1
      have hfree' : ∀ k ok, ops[k]? = some ok → k ≠ i → (listed.setIfInBounds j true).getD k true = false →
          (∀ e ∈ ok.after, Region.binds .any e = true → e.on ≠ i) → oi.apart ops ok = true := fun k ok hk hki hun hno => by
        refine hfree k ok hk hki ?_ hno
        by_cases hjk : j = k
        · subst hjk; exact hjun
        · rw [getD_set_ne true hjk] at hun; exact hun
      have hri := ready_mono hr (Ne.symm hji)
      refine wpOp_mono (fun a' w' h3 => ?_) h2
      by_cases hnj : nd j = true
      · have h4 := h3.2
        rw [if_pos hnj] at h4 ⊢
        refine ⟨h4.1, ih (listed.setIfInBounds j true) a' w' hfree' hri h3.1 h4.1 ?_⟩
        rw [Array.setIfInBounds_comm _ _ hji]
        exact h4.2
      · have h4 := h3.2
        rw [if_neg hnj] at h4 ⊢
        rcases hnd with hnd | hnd
        · exact absurd (hnd j oj hoj hji hnot) hnj
        · refine wpAny_first hi hsel hQ m (listed.setIfInBounds j true) a' w' hfree' hri ?_ ?_
          · exact h3.1.imp (fun h => ⟨h.1, fun w => h.2 w (hnd w)⟩) id
          · rw [Array.setIfInBounds_comm _ _ hji]
            exact h4
end

/-- The same where the order is drawn: a panic only where no call is deferred. -/
def QKd (P : Program) (f : FuncId) (R : Ending → World → Prop) (n : Nat) (K : Sl → World → Prop) (ds : List Deferred) : Exit → Act → World → Prop
  | .normal, a, w => ∃ L, St n L a ds ∧ K L w
  | .panic ch, a, w => ds = [] ∧ a.defers = ds ∧ R (.panicked ch) w ∧ (P.funcs[f]?).isSome = true
  | _, _, _ => False
def Kept (G : List Ent) (w : World) : Prop := ∀ e ∈ G, w.heap[e.b]? = some e.o

/-- A region that draws, under way: what has come up ('listed'), in which order we go (td), which operations end the time of the loads (tl). -/
def Draw (E : Env) (f : FuncId) (R : Ending → World → Prop) (n : Nat) (ops : List Oper) (k : Sl → World → Prop) (G : List Ent) (tl : List Nat) (_td : List Nat) (m : Nat) (listed : Array Bool) (L : Sl) (w : World) (ds : List Deferred := []) : Prop :=
  Kept G w → ∀ a, St n L a ds → AnyS E.P ops.toArray (QKd E.P f R n k ds) (Kept G) (fun j => !tl.contains j) m listed a w
def Draw2 (E : Env) (f : FuncId) (R : Ending → World → Prop) (n : Nat) (ops : List Oper) (k : Sl → World → Prop) (_td : List Nat) (m : Nat) (listed : Array Bool) (L : Sl) (w : World) (ds : List Deferred := []) : Prop :=
  ∀ a, St n L a ds → wpAny E.P .any ops.toArray (QKd E.P f R n k ds) m listed a w

/-- May number i be taken first? -/
def takeOK (ops : List Oper) (tl : List Nat) (listed : Array Bool) (i : Nat) : Bool :=
  Region.noSelect ops.toArray && Region.free .any ops.toArray listed i && (Region.ready .any ops.toArray listed).contains i && !tl.contains i &&
    tl.all fun j => match ops[j]? with | some o => o.after.any (fun e => Region.binds .any e && e.on == i) | none => true
/-- The same for one that looks at no memory. -/
def takeOK0 (ops : List Oper) (tl : List Nat) (listed : Array Bool) (i : Nat) : Bool :=
  Region.noSelect ops.toArray && Region.free .any ops.toArray listed i && (Region.ready .any ops.toArray listed).contains i && !tl.contains i

section
variable {E : Env} {f : FuncId} {R : Ending → World → Prop} {n : Nat} {ops : List Oper} {k : Sl → World → Prop} {L : Sl} {w w0 : World} {S : List Nat} {G : List Ent} {o : Oper} {tl td : List Nat} {m i d : Nat} {listed : Array Bool} {v : Value} {ds : List Deferred}

theorem Run.draw {id : Nat} {k : List Item} (H : Holds w0 S w G) (tl td : List Nat) (h : ∀ (K : Sl → World → Prop), (∀ L w, Run E.P f R n k L w ds → K L w) → ∀ w, Holds w0 S w G → Draw E f R n ops K G tl td ops.length (Array.replicate ops.length false) L w ds) : Run E.P f R n (.code (.region id ops.toArray true) :: k) L w ds := by
  intro a ha
  have h1 := (h _ (fun _ _ h => h) w.drew H.drew H.at_ a ha).any
  refine RunsA.of_wp (Q := QKd E.P f R n (fun L w => Run E.P f R n k L w ds) ds) (wp_region_any E.wide (by simpa using h1)) (fun _ _ ⟨_, hs, hr⟩ => hr _ hs) (fun _ _ _ h => h) (fun _ _ _ h => h) (fun _ _ h => h) (fun _ _ _ ⟨h0, hd, hR, hfn⟩ => by
    obtain ⟨fn, hfn⟩ := Option.isSome_iff_exists.1 hfn
    refine ⟨fn, hfn, ?_⟩
    rw [hd, h0]
    exact hR) (fun _ _ h => h)

theorem QK_panic {P : Program} {c : List PanicEntry} {a : Act} {d : Option Tmp} {v : Value} : QKd P f R n k ds (.panic c) (a.put d v) w → QKd P f R n k ds (.panic c) a w := fun h => by
  have hd : (a.put d v).defers = a.defers := by cases d <;> rfl
  simp only [QKd, hd] at h ⊢
  exact h

theorem Draw.take (hi : nth ops i = some o) (hp : PureOp E n L G o v) (hd : o.dst = some d) (hn : Nat.blt d n = true) (hg : gok ops L o = some true) (hok : takeOK ops tl listed i = true)
    (next : Draw E f R n ops k G tl td m (listed.setIfInBounds i true) ((d, v) :: L) w ds) : Draw E f R n ops k G tl (i :: td) (m + 1) listed L w ds := by
  intro hS a ha
  have hi' : ops.toArray[i]? = some o := by rw [nth_eq] at hi; simpa using hi
  simp only [takeOK, Bool.and_eq_true] at hok
  obtain ⟨⟨⟨⟨h1, h2⟩, h3⟩, h4⟩, h5⟩ := hok
  have hnext := next hS _ (ha.put v hn)
  rw [← hd] at hnext
  refine AnyS.first hi' (Region.noSelect_spec h1) (fun c a w => QK_panic) (by simpa using h4) (fun _ h => h) (.inl fun j oj hj hji hne => ?_) m listed a w (Region.free_spec hi' h2) (by simpa using h3)
    (.inl ⟨gok_wanted ha.toSt0 hg, fun w hw => hp w hw a ha.toSt0⟩) hS hnext
  rw [List.all_eq_true] at h5
  by_cases hm : j ∈ tl
  · have h6 := h5 j hm
    have hj' : ops[j]? = some oj := by simpa using hj
    rw [hj'] at h6
    dsimp only at h6
    rw [Array.any_eq_true'] at h6
    obtain ⟨e, he, hb⟩ := h6
    simp only [Bool.and_eq_true, beq_iff_eq] at hb
    exact absurd hb.2 (hne e he hb.1)
  · simpa using hm
theorem Draw.take0 (hi : nth ops i = some o) (hp : PureOp E n L [] o v) (hd : o.dst = some d) (hn : Nat.blt d n = true) (hg : gok ops L o = some true) (hok : takeOK0 ops tl listed i = true)
    (next : Draw E f R n ops k G tl td m (listed.setIfInBounds i true) ((d, v) :: L) w ds) : Draw E f R n ops k G tl (i :: td) (m + 1) listed L w ds := by
  intro hS a ha
  have hi' : ops.toArray[i]? = some o := by rw [nth_eq] at hi; simpa using hi
  simp only [takeOK0, Bool.and_eq_true] at hok
  obtain ⟨⟨⟨h1, h2⟩, h3⟩, h4⟩ := hok
  have hnext := next hS _ (ha.put v hn)
  rw [← hd] at hnext
  exact AnyS.first (S' := fun _ => True) hi' (Region.noSelect_spec h1) (fun c a w => QK_panic) (by simpa using h4) (fun _ _ => trivial) (.inr fun _ => trivial) m listed a w (Region.free_spec hi' h2) (by simpa using h3)
    (.inl ⟨gok_wanted ha.toSt0 hg, fun w _ => hp w (by simp) a ha.toSt0⟩) hS hnext
theorem Draw.pass (hi : nth ops i = some o) (hd : o.dst = some d) (hn : Nat.blt d n = true) (hg : gok ops L o = some false) (hok : takeOK0 ops tl listed i = true)
    (next : Draw E f R n ops k G tl td m (listed.setIfInBounds i true) ((d, undef) :: L) w ds) : Draw E f R n ops k G tl (i :: td) (m + 1) listed L w ds := by
  intro hS a ha
  have hi' : ops.toArray[i]? = some o := by rw [nth_eq] at hi; simpa using hi
  simp only [takeOK0, Bool.and_eq_true] at hok
  obtain ⟨⟨⟨h1, h2⟩, h3⟩, h4⟩ := hok
  have hnext := next hS _ (ha.put undef hn)
  rw [← hd] at hnext
  exact AnyS.first (S' := fun _ => True) hi' (Region.noSelect_spec h1) (fun c a w => QK_panic) (by simpa using h4) (fun _ _ => trivial) (.inr fun _ => trivial) m listed a w (Region.free_spec hi' h2) (by simpa using h3)
    (.inr ⟨gok_wanted ha.toSt0 hg, rfl⟩) hS hnext
theorem Draw2.take (hi : nth ops i = some o) (hp : PureOp E n L [] o v) (hd : o.dst = some d) (hn : Nat.blt d n = true) (hg : gok ops L o = some true) (hok : takeOK0 ops [] listed i = true)
    (next : Draw2 E f R n ops k td m (listed.setIfInBounds i true) ((d, v) :: L) w ds) : Draw2 E f R n ops k (i :: td) (m + 1) listed L w ds := by
  intro a ha
  have hi' : ops.toArray[i]? = some o := by rw [nth_eq] at hi; simpa using hi
  simp only [takeOK0, Bool.and_eq_true] at hok
  obtain ⟨⟨⟨h1, h2⟩, h3⟩, h4⟩ := hok
  have hnext := next _ (ha.put v hn)
  rw [← hd] at hnext
  exact wpAny_take hi' h1 h2 h3 (fun c a w => QK_panic) (.inl ⟨gok_wanted ha.toSt0 hg, fun w => hp w (by simp) a ha.toSt0⟩) hnext

theorem wpOp_of {K : Act → World → Prop} {a : Act} {QQ : Exit → Act → World → Prop} (hi : nth ops i = some o) (hw : Region.wanted o (yielded ops.toArray a.tmps) = true) (h : o.wp E.P a w K QQ) : wpOp E.P ops.toArray QQ i K a w := by
  have hi' : ops.toArray[i]? = some o := by rw [nth_eq] at hi; simpa using hi
  unfold wpOp
  rw [hi']
  dsimp only
  rw [if_pos hw]
  exact .inl h

/-- The one operation that may come up now. -/
theorem Draw.eff (hi : nth ops i = some o) (hg : gok ops L o = some true) (hr : (Region.ready .any ops.toArray listed == [i] && !tl.contains i) = true)
    (h : StepZ E (QKd E.P f R n k ds) n o (fun L' w' => Kept G w' ∧ Draw E f R n ops k G tl td m (listed.setIfInBounds i true) L' w' ds) L w) : Draw E f R n ops k G tl (i :: td) (m + 1) listed L w ds := by
  intro hS a ha
  simp only [Bool.and_eq_true, beq_iff_eq] at hr
  refine ⟨fun h0 => (by rw [hr.1] at h0; cases h0), fun j hj => ?_⟩
  rw [hr.1] at hj
  obtain rfl : j = i := by simpa using hj
  refine wpOp_of hi (gok_wanted ha.toSt0 hg) (h a _ ds ha fun L' w' a' hz hs => ?_)
  rw [if_pos hr.2]
  exact ⟨hz.1, hz.2 hz.1 a' hs⟩
theorem Draw.last (hi : nth ops i = some o) (hg : gok ops L o = some true) (hr : (Region.ready .any ops.toArray listed == [i] && tl.contains i) = true)
    (h : StepZ E (QKd E.P f R n k ds) n o (fun L' w' => Draw2 E f R n ops k td m (listed.setIfInBounds i true) L' w' ds) L w) : Draw E f R n ops k G tl (i :: td) (m + 1) listed L w ds := by
  intro hS a ha
  simp only [Bool.and_eq_true, beq_iff_eq] at hr
  refine ⟨fun h0 => (by rw [hr.1] at h0; cases h0), fun j hj => ?_⟩
  rw [hr.1] at hj
  obtain rfl : j = i := by simpa using hj
  refine wpOp_of hi (gok_wanted ha.toSt0 hg) (h a _ ds ha fun L' w' a' hz hs => ?_)
  rw [if_neg (by have h2 := hr.2; simp at h2 ⊢; exact h2)]
  exact hz a' hs
theorem Draw2.eff (hi : nth ops i = some o) (hg : gok ops L o = some true) (hr : (Region.ready .any ops.toArray listed == [i]) = true)
    (h : StepZ E (QKd E.P f R n k ds) n o (fun L' w' => Draw2 E f R n ops k td m (listed.setIfInBounds i true) L' w' ds) L w) : Draw2 E f R n ops k (i :: td) (m + 1) listed L w ds := by
  intro a ha
  simp only [beq_iff_eq] at hr
  refine ⟨fun h0 => (by rw [hr] at h0; cases h0), fun j hj => ?_⟩
  rw [hr] at hj
  obtain rfl : j = i := by simpa using hj
  exact wpOp_of hi (gok_wanted ha.toSt0 hg) (h a _ ds ha fun L' w' a' hz hs => hz a' hs)
theorem Draw.done (hr : (Region.ready .any ops.toArray listed == []) = true) (h : k L w) : Draw E f R n ops k G tl [] m listed L w ds := by
  intro _ a ha
  have hr : Region.ready .any ops.toArray listed = [] := by simpa using hr
  cases m with
  | zero => exact ⟨hr, L, ha, h⟩
  | succ m => exact ⟨fun _ => ⟨L, ha, h⟩, by rw [hr]; simp⟩
theorem Draw2.done (hr : (Region.ready .any ops.toArray listed == []) = true) (h : k L w) : Draw2 E f R n ops k [] m listed L w ds := by
  intro a ha
  have hr : Region.ready .any ops.toArray listed = [] := by simpa using hr
  cases m with
  | zero => exact ⟨hr, L, ha, h⟩
  | succ m => exact ⟨fun _ => ⟨L, ha, h⟩, by rw [hr]; simp⟩
/-- A test that is open. -/
theorem Draw.split_dec {p : Prop} {_ : Decidable p} (hi : nth ops i = some o) (hg : gslot ops o = some d) (hb : look L d = some (.bool (decide p)))
    (ht : p → Draw E f R n ops k G tl (i :: td) m listed ((d, .bool true) :: L) w ds) (hf : ¬ p → Draw E f R n ops k G tl (i :: td) m listed ((d, .bool false) :: L) w ds) : Draw E f R n ops k G tl (i :: td) m listed L w ds := fun hS a ha => by
  by_cases h : p
  · exact ht h hS a (ha.know hb (by simp [h]))
  · exact hf h hS a (ha.know hb (by simp [h]))
theorem Draw.split_ndec {p : Prop} {_ : Decidable p} (hi : nth ops i = some o) (hg : gslot ops o = some d) (hb : look L d = some (.bool (!decide p)))
    (ht : ¬ p → Draw E f R n ops k G tl (i :: td) m listed ((d, .bool true) :: L) w ds) (hf : p → Draw E f R n ops k G tl (i :: td) m listed ((d, .bool false) :: L) w ds) : Draw E f R n ops k G tl (i :: td) m listed L w ds := fun hS a ha => by
  by_cases h : p
  · exact hf h hS a (ha.know hb (by simp [h]))
  · exact ht h hS a (ha.know hb (by simp [h]))
theorem gDraw (h : Draw E f R n ops k G tl td m listed L w ds) : Draw E f R n ops k G tl td m listed L w ds := h
theorem gDraw2 (h : Draw2 E f R n ops k td m listed L w ds) : Draw2 E f R n ops k td m listed L w ds := h
end

/-! ### More operations that only compute -/
theorem u64_in (n : Int) (h : 0 ≤ n ∧ n ≤ 18446744073709551615) : IntKind.u64.wrap n = n := by
  simp [IntKind.wrap, IntKind.bits, IntKind.signed]; omega
def cellsL : Value → List Value
  | .agg cs => cs.toList
  | v => [v]
theorem cellsL_eq (v : Value) : v.cells = (cellsL v).toArray := by cases v <;> simp [Value.cells, cellsL]
def bld (T : List (Option TyI)) (fs : List (Nat × Nat)) (L : Sl) : List (Nat × Operand) → List Value → Option (List Value)
  | [], cs => some cs
  | (i, x) :: r, cs =>
    match nth fs i, ev L x with
    | some (off, ty), some v =>
      match nth T ty with
      | some (some ti) =>
        match Nat.beq (cellsL v).length ti.size && Nat.ble (off + (cellsL v).length) cs.length with
        | true => bld T fs L r (putC cs off (cellsL v))
        | false => none
      | _ => none
    | _, _ => none
section
variable {E : Env} {n : Nat} {L : Sl} {w w0 : World} {S : List Nat} {G : List Ent} {d T : Nat} {pos : String} {e : Array Edge} {g : Option (Nat × Bool)} {x y : Operand}
theorem X.quoP {t t' : Nat} {kd : IntKind} {a b : Int} (hx : ev L x = some (.int kd a)) (hy : ev L y = some (.int kd b)) (ha : 0 ≤ a ∧ 0 < b) (hr : kd.wrap (a / b) = a / b) :
    PureOp E n L G ⟨some d, .binOp .quo t x y t', T, pos, e, g⟩ (.int kd (a / b)) :=
  X.quo hx hy (by omega) (by rw [Int.tdiv_eq_ediv_of_nonneg ha.1]; exact hr)
theorem X.remP {t t' : Nat} {kd : IntKind} {a b : Int} (hx : ev L x = some (.int kd a)) (hy : ev L y = some (.int kd b)) (ha : 0 ≤ a ∧ 0 < b) :
    PureOp E n L G ⟨some d, .binOp .rem t x y t', T, pos, e, g⟩ (.int kd (a % b)) :=
  X.rem hx hy (by omega) (Int.tmod_eq_emod_of_nonneg ha.1)
theorem X.mul_in {t t' : Nat} {kd : IntKind} {a b : Int} (hx : ev L x = some (.int kd a)) (hy : ev L y = some (.int kd b)) (hw : kd.wrap (a * b) = a * b) :
    PureOp E n L G ⟨some d, .binOp .mul t x y t', T, pos, e, g⟩ (.int kd (a * b)) := X.arith hx hy (congrArg some hw)
theorem putC_length (cs : List Value) (i : Nat) (vs : List Value) : (putC cs i vs).length = cs.length := by
  induction vs generalizing cs i with
  | nil => rfl
  | cons v vs ih => simp [putC, ih]
theorem foldl_put (vs : List Value) : ∀ (cs : List Value) (off i : Nat), (vs.zipIdx i).foldl (fun (c : Array Value) (p : Value × Nat) => c.setIfInBounds (off + p.2) p.1) cs.toArray = (putC cs (off + i) vs).toArray := by
  induction vs with
  | nil => intro cs off i; rfl
  | cons v vs ih =>
    intro cs off i
    simp only [List.zipIdx_cons, List.foldl_cons, List.setIfInBounds_toArray, putC]
    exact ih _ off (i + 1)
theorem fill_bld {T : List (Option TyI)} {fs : List (Nat × Nat)} {place : Nat → Option (Nat × Nat)} {a : Act} (ha : St0 n L a)
    (hpl : ∀ i off ty ti, nth fs i = some (off, ty) → nth T ty = some (some ti) → place i = some (off, ti.size)) :
    ∀ (ps : List (Nat × Operand)) (cs cs' : List Value), bld T fs L ps cs = some cs' → Instr.fill place cs.toArray (ps.map fun p => (p.1, a.eval p.2)) = some cs'.toArray := by
  intro ps
  induction ps with
  | nil => intro cs cs' h; simp only [bld, Option.some.injEq] at h; subst h; simp [Instr.fill]
  | cons p r ih =>
    obtain ⟨i, x⟩ := p
    intro cs cs' h
    simp only [bld] at h
    cases h1 : nth fs i with
    | none => rw [h1] at h; simp at h
    | some ot =>
      obtain ⟨off, ty⟩ := ot
      cases h2 : ev L x with
      | none => rw [h1, h2] at h; simp at h
      | some v =>
        rw [h1, h2] at h
        dsimp only at h
        cases h3 : nth T ty with
        | none => rw [h3] at h; simp at h
        | some o3 =>
          cases o3 with
          | none => rw [h3] at h; simp at h
          | some ti =>
            rw [h3] at h
            dsimp only at h
            cases h4 : (Nat.beq (cellsL v).length ti.size && Nat.ble (off + (cellsL v).length) cs.length) with
            | false => rw [h4] at h; simp at h
            | true =>
              rw [h4] at h
              dsimp only at h
              simp only [Bool.and_eq_true] at h4
              have e1 : (cellsL v).length = ti.size := Nat.eq_of_beq_eq_true h4.1
              have e2 : off + (cellsL v).length ≤ cs.length := Nat.le_of_ble_eq_true h4.2
              simp only [List.map_cons, Instr.fill, hpl i off ty ti h1 h3, ha.eval h2, cellsL_eq]
              rw [if_neg (by rw [List.size_toArray, List.size_toArray]; intro hc; simp only [Bool.or_eq_true, decide_eq_true_eq] at hc; rcases hc with hc | hc <;> omega)]
              have := foldl_put (cellsL v) cs off 0
              rw [← Array.toArray_toList (xs := (cellsL v).toArray.zipIdx)] at *
              simp only [Array.toList_zipIdx, List.foldl_toArray', Nat.add_zero] at this ⊢
              rw [this]
              exact ih _ _ h
end

/-! Signposts for the search: they say what stands next, and no more. -/
section
variable {E : Env} {f : FuncId} {R : Ending → World → Prop} {n : Nat} {ops : List Oper} {k : Sl → World → Prop} {l : List Oper} {L : Sl} {w : World} {o : Oper} {d : Option Nat} {T : Nat} {pos : String} {e : Array Edge} {g : Option (Nat × Bool)} {ds : List Deferred}
theorem gOps (h : Ops E f R n ops k l L w ds) : Ops E f R n ops k l L w ds := h
theorem gBin {op : BinOp} {t t' : Nat} {x y : Operand} (h : Ops E f R n ops k (⟨d, .binOp op t x y t', T, pos, e, g⟩ :: l) L w ds) : Ops E f R n ops k (⟨d, .binOp op t x y t', T, pos, e, g⟩ :: l) L w ds := h
theorem gCall {c : Call} (h : Ops E f R n ops k (⟨d, .call c, T, pos, e, g⟩ :: l) L w ds) : Ops E f R n ops k (⟨d, .call c, T, pos, e, g⟩ :: l) L w ds := h
end
end Go.Proofs.Ytaneenahapdabaa
