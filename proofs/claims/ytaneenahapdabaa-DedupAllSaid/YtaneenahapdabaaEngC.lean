/- The engine of the proofs, part C: a rule for each kind of operation. No statement of the seat is proved here. -/
import Derived.Test.YtaneenahapdabaaEngB
namespace Go.Proofs.Ytaneenahapdabaa
open Go

theorem run_equal_bool {P : Program} {t : TypeId} (w : World) (a b : Bool) (h : P.underlying t = some .bool) : (Op.equal t (.bool a) (.bool b)).run P w = .ok (a == b) w := by
  show (Op.equalIn (9999 + 1) t (.bool a) (.bool b)).run P w = _
  generalize 9999 = m
  simp [Op.equalIn, run_underlying h]
theorem run_equal_ptrNil {P : Program} {t el : TypeId} (w : World) (a : Option Addr) (h : P.underlying t = some (.pointer el)) : (Op.equal t (.pointer a) (.pointer none)).run P w = .ok a.isNone w := by
  show (Op.equalIn (9999 + 1) t (.pointer a) (.pointer none)).run P w = _
  generalize 9999 = m
  cases a <;> simp [Op.equalIn, run_underlying h]
theorem run_equal_sliceNil {P : Program} {t el : TypeId} (w : World) (a : Option Addr) (ln cp : Nat) (h : P.underlying t = some (.slice el)) : (Op.equal t (.slice a ln cp) (.slice none 0 0)).run P w = .ok a.isNone w := by
  show (Op.equalIn (9999 + 1) t (.slice a ln cp) (.slice none 0 0)).run P w = _
  generalize 9999 = m
  cases a <;> simp [Op.equalIn, run_underlying h]

section
variable {E : Env} {f : FuncId} {R : Ending → World → Prop} {n : Nat} {ops : List Oper} {k : Sl → World → Prop} {l : List Oper} {L : Sl} {w w0 : World} {S : List Nat} {G G' : List Ent}
variable {d T : Nat} {pos : String} {e : Array Edge} {g : Option (Nat × Bool)} {x y z c : Operand} {v u : Value}

theorem pick_at {w : World} {G G' : List Ent} {b : Nat} {o : Obj} {m : Bool} (h : ∀ e ∈ G, w.heap[e.b]? = some e.o) (hp : Pick G b o m G') : w.heap[b]? = some o :=
  h ⟨b, o, m⟩ (hp.perm.mem_iff.2 (List.mem_cons_self ..))

/-- In every world in which the blocks of G are as known the operation yields v, and does nothing else. -/
def PureOp (E : Env) (n : Nat) (L : Sl) (G : List Ent) (o : Oper) (v : Value) : Prop :=
  ∀ w, (∀ e ∈ G, w.heap[e.b]? = some e.o) → ∀ a, St0 n L a → (execOp a.eval o).run E.P w = .ok (.value v) w

theorem X.move (hv : ev L x = some v)  : PureOp E n L G ⟨some d, .move x, T, pos, e, g⟩ v :=
  fun w hG a ha => ( by simp [execOp, ha.eval hv])
theorem X.assign (hv : ev L x = some v)  : PureOp E n L G ⟨some d, .assign x, T, pos, e, g⟩ v :=
  fun w hG a ha => ( by simp [execOp, ha.eval hv])
theorem X.pick_t (hc : ev L c = some (.bool true)) (hv : ev L x = some v)  : PureOp E n L G ⟨some d, .pick c x y, T, pos, e, g⟩ v :=
  fun w hG a ha => ( by simp [execOp, ha.eval hv, ha.eval hc, asBool])
theorem X.pick_f (hc : ev L c = some (.bool false)) (hv : ev L y = some v)  : PureOp E n L G ⟨some d, .pick c x y, T, pos, e, g⟩ v :=
  fun w hG a ha => ( by simp [execOp, ha.eval hv, ha.eval hc, asBool])

/-- What an operation that changes the world is good for, whatever follows (Z). -/
def StepZ (E : Env) (QQ : Exit → Act → World → Prop) (n : Nat) (o : Oper) (Z : Sl → World → Prop) (L : Sl) (w : World) : Prop :=
  ∀ a (K : Act → World → Prop) (ds : List Deferred), St n L a ds → (∀ L' w' a', Z L' w' → St n L' a' ds → K a' w') → o.wp E.P a w K QQ

theorem StepZ.val {QQ : Exit → Act → World → Prop} {o : Oper} {Z : Sl → World → Prop} {v : Value} {w' : World} (hd : o.dst = some d) (hn : Nat.blt d n = true)
    (hr : ∀ a, St0 n L a → (execOp a.eval o).run E.P w = .ok (.value v) w') (next : Z ((d, v) :: L) w') : StepZ E QQ n o Z L w := fun a K ds ha hK => by
  unfold Oper.wp
  rw [hr a ha.toSt0, Oper.upon_value, hd]
  exact hK _ _ _ next (ha.put v hn)
theorem StepZ.valN {QQ : Exit → Act → World → Prop} {o : Oper} {Z : Sl → World → Prop} {v : Value} {w' : World} (hd : o.dst = none)
    (hr : ∀ a, St0 n L a → (execOp a.eval o).run E.P w = .ok (.value v) w') (next : Z L w') : StepZ E QQ n o Z L w := fun a K ds ha hK => by
  unfold Oper.wp
  rw [hr a ha.toSt0, Oper.upon_value, hd]
  exact hK _ _ _ next (ha.none v)
theorem StepZ.skipN {QQ : Exit → Act → World → Prop} {o : Oper} {Z : Sl → World → Prop} {w' : World} (hd : o.dst = none)
    (hr : ∀ a, St0 n L a → (execOp a.eval o).run E.P w = .ok .skip w') (next : Z L w') : StepZ E QQ n o Z L w := fun a K ds ha hK => by
  unfold Oper.wp
  rw [hr a ha.toSt0, Oper.upon_skip, hd]
  exact hK _ _ _ next (ha.none undef)

theorem Y.box {QQ : Exit → Act → World → Prop} {Z : Sl → World → Prop} {t : Nat} {cs : List Value} (hv : ev L x = some v) (hc : v.cells = cs.toArray) (hn : Nat.blt d n = true) (H : Holds w0 S w G)
    (next : ∀ b w', Holds w0 S w' (⟨b, row cs t, true⟩ :: G) → w0.heap.size ≤ b → Z ((d, .pointer (some ⟨b, 0, none⟩)) :: L) w') : StepZ E QQ n ⟨some d, .box t x, T, pos, e, g⟩ Z L w := by
  refine StepZ.val (w' := w.alloc (row cs t)) rfl hn (fun a ha => ?_) (next _ _ (H.alloc _ _) H.fr.size)
  simp [execOp, ha.eval hv, Instr.box, newVar, newRow, hc]
theorem Y.alloc {QQ : Exit → Act → World → Prop} {Z : Sl → World → Prop} {t : Nat} {ti : TyI} {cs : List Value} (ht : nth E.T t = some (some ti)) (hc : ti.zero.cells = cs.toArray) (hn : Nat.blt d n = true) (H : Holds w0 S w G)
    (next : ∀ b w', Holds w0 S w' (⟨b, row cs t, true⟩ :: G) → w0.heap.size ≤ b → Z ((d, .pointer (some ⟨b, 0, none⟩)) :: L) w') : StepZ E QQ n ⟨some d, .alloc t, T, pos, e, g⟩ Z L w := by
  refine StepZ.val (w' := w.alloc (row cs t)) rfl hn (fun a ha => ?_) (next _ _ (H.alloc _ _) H.fr.size)
  simp [execOp, Instr.alloc, newVar, newRow, E.zeroOf _ ht, hc]

theorem X.load1 {t b off : Nat} {ti : TyI} {cs : List Value} {T' : Nat} {m : Bool} (hx : ev L x = some (.pointer (some ⟨b, off, none⟩))) (ht : nth E.T t = some (some ti)) (hk : ti.d.known = true) (ha : ti.d.isAgg = false)
    {fz : Nat × Nat} (hp : Pick G b (.cells cs.toArray T' fz) m G') (hv : cs[off]? = some v) : PureOp E n L G ⟨some d, .load t x, T, pos, e, g⟩ v := by
  intro w hG a hs
  have hc := (cell_cells (i := off) (pick_at hG hp)).trans hv
  simp [execOp, hs.eval hx, Instr.loadAt, Instr.sureAddr, loadVar, E.isAgg w ht hk, ha, hc]
theorem X.loadN {t b off : Nat} {ti : TyI} {cs vs : List Value} {T' : Nat} {m : Bool} (hx : ev L x = some (.pointer (some ⟨b, off, none⟩))) (ht : nth E.T t = some (some ti)) (ha : ti.d.isAgg = true)
    {fz : Nat × Nat} (hp : Pick G b (.cells cs.toArray T' fz) m G') (hv : Cs cs off ti.size vs) : PureOp E n L G ⟨some d, .load t x, T, pos, e, g⟩ (.agg vs.toArray) := by
  have hk : ti.d.known = true := by cases h : ti.d <;> simp_all [TyE.known, TyE.isAgg]
  intro w hG a hs
  have hc := run_loadCells_list (P := E.P) w ⟨b, off, none⟩ vs (fun j v hj => by rw [Addr.add_lit]; exact (cell_cells (pick_at hG hp)).trans (hv.get j v hj))
  rw [hv.length] at hc
  simp [execOp, hs.eval hx, Instr.loadAt, Instr.sureAddr, loadVar, E.isAgg w ht hk, ha, E.sizeOf w ht, hc]

theorem X.nilCheck {a : Addr} (hx : ev L x = some (.pointer (some a)))
     : PureOp E n L G ⟨some d, .nilCheck x, T, pos, e, g⟩ (.pointer (some a)) :=
  fun w hG a ha => ( by simp [execOp, ha.eval hx])

theorem X.fieldAddr {s i b off fo ft : Nat} {ti tf : TyI} {fs : List (Nat × Nat)} (hx : ev L x = some (.pointer (some ⟨b, off, none⟩))) (ht : nth E.T s = some (some ti)) (hd : ti.d = .agg fs) (hf : nth fs i = some (fo, ft)) (htf : nth E.T ft = some (some tf)) (hsz : Nat.blt 0 tf.size = true)
   
     : PureOp E n L G ⟨some d, .fieldAddr s x i, T, pos, e, g⟩ (.pointer (some ⟨b, off + fo, none⟩)) := by
  obtain ⟨hgood, _⟩ := E.ok s ti ht
  rw [hd] at hgood
  obtain ⟨fl, hu, hm⟩ := hgood
  have hfl : ∃ fd : Field, fl[i]? = some fd ∧ fd.offset = fo ∧ fd.type = ft := by
    rw [nth_eq, ← hm] at hf
    simp at hf
    obtain ⟨fd, h1, h2, h3⟩ := hf
    exact ⟨fd, h1, h2, h3⟩
  obtain ⟨fd, h1, h2, h3⟩ := hfl
  have hz : tf.size ≠ 0 := by simp at hsz; omega
  intro w hG a hs
  simp [execOp, hs.eval hx, Instr.fieldAt, run_underlying hu, h1, Instr.sureAddr, fieldPlace, h3, E.sizeOf w htf, hz, h2, Addr.add_lit]

/-- How many cells a value of a type takes. -/
def tySize (T : List (Option TyI)) (t : Nat) : Option Nat :=
  match nth T t with
  | some (some ⟨_, s, _, _⟩) => some s
  | _ => none
/-- Index of a slice; the index as a natural number. -/
theorem X.indexAddr {t b off j len cap el sz : Nat} {kd : IntKind} {ti te : TyI} (hx : ev L x = some (.slice (some ⟨b, off, none⟩) len cap)) (hy : ev L y = some (.int kd (j : Nat))) (hj : j < len) (ht : nth E.T t = some (some ti)) (hd : ti.d = .slice el) (hte : nth E.T el = some (some te)) (hsz : tySize E.T el = some sz)
   
     : PureOp E n L G ⟨some d, .indexAddr t x y, T, pos, e, g⟩ (.pointer (some ⟨b, off + j * sz, none⟩)) := by
  obtain ⟨hgood, _⟩ := E.ok t ti ht
  rw [hd] at hgood
  have hgood : E.P.underlying t = some (.slice el) := hgood
  have hsz : te.size = sz := by simpa [tySize, hte] using hsz
  intro w hG a hs
  simp [execOp, hs.eval hx, hs.eval hy, Instr.indexAt, asIntOf, run_underlying hgood, hj, E.sizeOf w hte, hsz, Addr.add_lit]

/-! Integers -/
theorem X.arith {op : BinOp} {t t' : Nat} {kd : IntKind} {a b r : Int} (hx : ev L x = some (.int kd a)) (hy : ev L y = some (.int kd b))
    (hr : (match op with | .add => some (kd.wrap (a + b)) | .sub => some (kd.wrap (a - b)) | .mul => some (kd.wrap (a * b)) | _ => none) = some r)
     : PureOp E n L G ⟨some d, .binOp op t x y t', T, pos, e, g⟩ (.int kd r) := by
  intro w hG c hs
  cases op <;> simp at hr <;> subst hr <;> simp [execOp, hs.eval hx, hs.eval hy, eqGuard, binOp, Op.intArith]
theorem wrap_of {k : IntKind} {a r : Int} (h : k.wrap a = r) : k.wrap a = r := h
theorem X.add_in {t t' : Nat} {kd : IntKind} {a b : Int} (hx : ev L x = some (.int kd a)) (hy : ev L y = some (.int kd b)) (hw : kd.wrap (a + b) = a + b)
     : PureOp E n L G ⟨some d, .binOp .add t x y t', T, pos, e, g⟩ (.int kd (a + b)) :=
  X.arith hx hy (congrArg some hw)
theorem X.sub_in {t t' : Nat} {kd : IntKind} {a b : Int} (hx : ev L x = some (.int kd a)) (hy : ev L y = some (.int kd b)) (hw : kd.wrap (a - b) = a - b)
     : PureOp E n L G ⟨some d, .binOp .sub t x y t', T, pos, e, g⟩ (.int kd (a - b)) :=
  X.arith hx hy (congrArg some hw)
/-- An index that goes one up. -/
theorem X.succ {t t' j : Nat} (hx : ev L x = some (.int .i64 (j : Nat))) (hy : ev L y = some (.int .i64 1)) (hj : j < 9223372036854775807)
     : PureOp E n L G ⟨some d, .binOp .add t x y t', T, pos, e, g⟩ (.int .i64 ((j + 1 : Nat) : Nat)) := by
  refine X.arith hx hy (r := ((j + 1 : Nat) : Int)) ?_
  simp only [Option.some.injEq]
  have : IntKind.i64.wrap ((j : Int) + 1) = (j : Int) + 1 := IntWalk.i64_in _ (by omega)
  rw [this]; rfl

theorem X.cmp {op : BinOp} {t t' : Nat} {kd : IntKind} {a b : Int} {r : Bool} (hx : ev L x = some (.int kd a)) (hy : ev L y = some (.int kd b))
    (hr : (match op with | .eql => some (decide (a = b)) | .neq => some (!decide (a = b)) | .lss => some (decide (a < b)) | .leq => some (decide (a ≤ b)) | .gtr => some (decide (b < a)) | .geq => some (decide (b ≤ a)) | _ => none) = some r)
   
     : PureOp E n L G ⟨some d, .binOp op t x y t', T, pos, e, g⟩ (.bool r) := by
  intro w hG c hs
  cases op <;> simp only [Option.some.injEq, reduceCtorEq] at hr <;> subst hr <;> simp [execOp, hs.eval hx, hs.eval hy, eqGuard, binOp, Op.intCmp] <;> first | rfl | (rw [Bool.eq_iff_iff]; simp)
theorem X.strEq {t t' : Nat} {a b : ByteArray} (hx : ev L x = some (.string a)) (hy : ev L y = some (.string b))
     : PureOp E n L G ⟨some d, .binOp .eql t x y t', T, pos, e, g⟩ (.bool (decide (a.toList = b.toList))) := by
  intro w hG c hs
  simp [execOp, hs.eval hx, hs.eval hy, eqGuard, binOp, Op.stringOp]
  rw [Bool.eq_iff_iff]; simp
theorem X.boolEq {op : BinOp} {t t' : Nat} {ti : TyI} {a b r : Bool} (hx : ev L x = some (.bool a)) (hy : ev L y = some (.bool b)) (ht : nth E.T t = some (some ti)) (hd : ti.d = .bool)
    (hr : (match op with | .eql => some (a == b) | .neq => some (!(a == b)) | _ => none) = some r)
     : PureOp E n L G ⟨some d, .binOp op t x y t', T, pos, e, g⟩ (.bool r) := by
  obtain ⟨hgood, _⟩ := E.ok t ti ht
  rw [hd] at hgood
  have hgood : E.P.underlying t = some .bool := hgood
  intro w hG c hs
  have he := run_equal_bool (P := E.P) w a b hgood
  cases op <;> simp only [Option.some.injEq, reduceCtorEq] at hr <;> subst hr <;> simp [execOp, hs.eval hx, hs.eval hy, eqGuard, binOp, he]
/-- A pointer against nil. -/
theorem X.ptrNil {op : BinOp} {t t' el : Nat} {ti : TyI} {a : Option Addr} {r : Bool} (hx : ev L x = some (.pointer a)) (hy : ev L y = some (.pointer none)) (ht : nth E.T t = some (some ti)) (hd : ti.d = .ptr el)
    (hr : (match op with | .eql => some a.isNone | .neq => some (!a.isNone) | _ => none) = some r)
     : PureOp E n L G ⟨some d, .binOp op t x y t', T, pos, e, g⟩ (.bool r) := by
  obtain ⟨hgood, _⟩ := E.ok t ti ht
  rw [hd] at hgood
  have hgood : E.P.underlying t = some (.pointer el) := hgood
  intro w hG c hs
  have he := run_equal_ptrNil (P := E.P) w a hgood
  cases op <;> simp only [Option.some.injEq, reduceCtorEq] at hr <;> subst hr <;> simp [execOp, hs.eval hx, hs.eval hy, eqGuard, binOp, he]
theorem X.sliceNil {op : BinOp} {t t' el ln cp : Nat} {ti : TyI} {a : Option Addr} {r : Bool} (hx : ev L x = some (.slice a ln cp)) (hy : ev L y = some (.slice none 0 0)) (ht : nth E.T t = some (some ti)) (hd : ti.d = .slice el)
    (hr : (match op with | .eql => some a.isNone | .neq => some (!a.isNone) | _ => none) = some r)
     : PureOp E n L G ⟨some d, .binOp op t x y t', T, pos, e, g⟩ (.bool r) := by
  obtain ⟨hgood, _⟩ := E.ok t ti ht
  rw [hd] at hgood
  have hgood : E.P.underlying t = some (.slice el) := hgood
  intro w hG c hs
  have he := run_equal_sliceNil (P := E.P) w a ln cp hgood
  cases op <;> simp only [Option.some.injEq, reduceCtorEq] at hr <;> subst hr <;> simp [execOp, hs.eval hx, hs.eval hy, eqGuard, binOp, he]
theorem X.quo {t t' : Nat} {kd : IntKind} {a b r : Int} (hx : ev L x = some (.int kd a)) (hy : ev L y = some (.int kd b)) (hb : b ≠ 0) (hr : kd.wrap (a.tdiv b) = r)
     : PureOp E n L G ⟨some d, .binOp .quo t x y t', T, pos, e, g⟩ (.int kd r) := by
  subst hr
  intro w hG c hs
  simp [execOp, hs.eval hx, hs.eval hy, eqGuard, binOp, Op.intDiv, hb]
theorem X.rem {t t' : Nat} {kd : IntKind} {a b r : Int} (hx : ev L x = some (.int kd a)) (hy : ev L y = some (.int kd b)) (hb : b ≠ 0) (hr : a.tmod b = r)
     : PureOp E n L G ⟨some d, .binOp .rem t x y t', T, pos, e, g⟩ (.int kd r) := by
  subst hr
  intro w hG c hs
  simp [execOp, hs.eval hx, hs.eval hy, eqGuard, binOp, Op.intDiv, hb]
theorem X.not {t : Nat} {b : Bool} (hx : ev L x = some (.bool b))
     : PureOp E n L G ⟨some d, .unOp .not t x, T, pos, e, g⟩ (.bool (!b)) :=
  fun w hG a hs => ( by simp [execOp, hs.eval hx, Op.unary])
theorem X.conv {s t : Nat} {ks kd : IntKind} {a r : Int} {ti ts : TyI} (hx : ev L x = some (.int ks a)) (ht : nth E.T t = some (some ti)) (hd : ti.d = .int kd) (hts : nth E.T s = some (some ts)) (hds : ts.d = .int ks) (hr : kd.wrap a = r)
     : PureOp E n L G ⟨some d, .convert s t x, T, pos, e, g⟩ (.int kd r) := by
  obtain ⟨h1, _⟩ := E.ok t ti ht
  obtain ⟨h2, _⟩ := E.ok s ts hts
  rw [hd] at h1
  rw [hds] at h2
  have h1 : E.P.underlying t = some (.int kd) := h1
  have h2 : E.P.underlying s = some (.int ks) := h2
  subst hr
  exact fun w hG a hs => ( by simp [execOp, hs.eval hx, convert, run_underlying h1, run_underlying h2, Conv.intToInt])

/-! Slices, tuples, structs -/
theorem X.len_slice {t ln cp el : Nat} {ti : TyI} {a : Option Addr} (hx : ev L x = some (.slice a ln cp)) (ht : nth E.T t = some (some ti)) (hd : ti.d = .slice el)
   
     : PureOp E n L G ⟨some d, .call { callee := .builtin .len, args := #[x], argTypes := #[t] }, T, pos, e, g⟩ (.int .i64 (ln : Nat)) := by
  obtain ⟨hgood, _⟩ := E.ok t ti ht
  rw [hd] at hgood
  have hgood : E.P.underlying t = some (.slice el) := hgood
  exact fun w hG a hs => ( by simp [execOp, hs.eval hx, resolve, invoke, builtin, Builtin.len_, run_underlying hgood, goInt])
theorem X.len_str {t : Nat} {ti : TyI} {s : ByteArray} (hx : ev L x = some (.string s)) (ht : nth E.T t = some (some ti)) (hd : ti.d = .str)
   
     : PureOp E n L G ⟨some d, .call { callee := .builtin .len, args := #[x], argTypes := #[t] }, T, pos, e, g⟩ (.int .i64 (s.size : Nat)) := by
  obtain ⟨hgood, _⟩ := E.ok t ti ht
  rw [hd] at hgood
  have hgood : E.P.underlying t = some .string := hgood
  exact fun w hG a hs => ( by simp [execOp, hs.eval hx, resolve, invoke, builtin, Builtin.len_, run_underlying hgood, goInt])
theorem X.maxInt {t t' : Nat} {kd : IntKind} {a b r : Int} (hx : ev L x = some (.int kd a)) (hy : ev L y = some (.int kd b)) (hr : (if b > a then b else a) = r)
   
     : PureOp E n L G ⟨some d, .call { callee := .builtin .max, args := #[x, y], argTypes := #[t, t'] }, T, pos, e, g⟩ (.int kd r) := by
  subst hr
  exact fun w hG a hs => ( by simp [execOp, hs.eval hx, hs.eval hy, resolve, invoke, builtin, Builtin.max_, Builtin.max2])
theorem X.extract {i : Nat} {vs : List Value} (hx : ev L x = some (.tuple vs.toArray)) (hv : nth vs i = some v)
     : PureOp E n L G ⟨some d, .extract x i, T, pos, e, g⟩ v := by
  rw [nth_eq] at hv
  exact fun w hG a hs => ( by simp [execOp, hs.eval hx, Instr.extract, hv])
theorem X.field1 {s i fo ft : Nat} {ti tf : TyI} {fs : List (Nat × Nat)} {cs : List Value} (hx : ev L x = some (.agg cs.toArray)) (ht : nth E.T s = some (some ti)) (hd : ti.d = .agg fs) (hf : nth fs i = some (fo, ft)) (htf : nth E.T ft = some (some tf)) (hk : tf.d.known = true) (ha : tf.d.isAgg = false)
    (hv : cs[fo]? = some v)
     : PureOp E n L G ⟨some d, .field s x i, T, pos, e, g⟩ v := by
  obtain ⟨hgood, _⟩ := E.ok s ti ht
  rw [hd] at hgood
  obtain ⟨fl, hu, hm⟩ := hgood
  have hfl : ∃ fd : Field, fl[i]? = some fd ∧ fd.offset = fo ∧ fd.type = ft := by
    rw [nth_eq, ← hm] at hf
    simp at hf
    obtain ⟨fd, h1, h2, h3⟩ := hf
    exact ⟨fd, h1, h2, h3⟩
  obtain ⟨fd, h1, h2, h3⟩ := hfl
  intro w hG a hs
  simp [execOp, hs.eval hx, Instr.field, run_underlying hu, h1, asAgg, part, h3, E.isAgg w htf hk, ha, h2, hv]

def evs (L : Sl) : List Operand → Option (List Value)
  | [] => some []
  | x :: r => match ev L x with
    | some v => match evs L r with
      | some vs => some (v :: vs)
      | none => none
    | none => none
theorem St0.evals {n : Nat} {L : Sl} {a : Act} (h : St0 n L a) : ∀ {xs : List Operand} {vs : List Value}, evs L xs = some vs → xs.map a.eval = vs
  | [], vs, hx => by simp [evs] at hx; simp [hx]
  | x :: r, vs, hx => by
    unfold evs at hx
    cases h1 : ev L x with
    | none => rw [h1] at hx; simp at hx
    | some v =>
      cases h2 : evs L r with
      | none => rw [h1, h2] at hx; simp at hx
      | some us =>
        rw [h1, h2] at hx
        simp at hx
        subst hx
        simp [h.eval h1, h.evals h2]

theorem X.makeFunc {fn : Fn} {a1 a2 : List Operand} {v1 v2 : List Value} (h1 : evs L a1 = some v1) (h2 : evs L a2 = some v2)
     : PureOp E n L G ⟨some d, .makeFunc fn a1.toArray a2.toArray, T, pos, e, g⟩ (.func fn v1.toArray v2.toArray) := by
  intro w hG a hs
  simp [execOp, Instr.makeFunc, hs.evals h1, hs.evals h2]

def callOK (P : Program) (g : Nat) : Bool :=
  match P.funcs[g]? with
  | some fn => !(fn.name == "runtime.NumGoroutine") && fn.body.isSome
  | none => false

theorem run_callFunc {P : Program} {g : Nat} (h : callOK P g = true) (args : Array Value) (w : World) : (callFunc g args).run P w = .ok (.enter g args) w := by
  unfold callOK at h
  cases hf : P.funcs[g]? with
  | none => rw [hf] at h; simp at h
  | some fn =>
    rw [hf] at h
    simp at h
    simp [callFunc, hf, h.1]
    intro hb
    rw [hb] at h
    simp at h

/-- A function's contract: it returns, and what it returns. -/
def Fn (P : Program) (g : FuncId) (args : List Value) (w : World) (Q : Value → World → Prop) : Prop :=
  Calls P g args.toArray w fun e w' => ∃ v, e = .returned v ∧ Q v w'

theorem Fn.mono {P : Program} {g : FuncId} {args : List Value} {w : World} {Q Q' : Value → World → Prop} (h : Fn P g args w Q) (hq : ∀ v w', Q v w' → Q' v w') : Fn P g args w Q' :=
  Calls.mono h fun _ _ ⟨v, he, hv⟩ => ⟨v, he, hq _ _ hv⟩

theorem Y.call {QQ : Exit → Act → World → Prop} {Z : Sl → World → Prop} {fo : Operand} {g : FuncId} {args : List Operand} {ts : Array Nat} {v1 v2 vs as : List Value} {Q : Value → World → Prop} {gd : Option (Nat × Bool)} (hf : ev L fo = some (.func (.func g) v1.toArray v2.toArray)) (ha : evs L args = some vs)
    (hok : callOK E.P g = true) (hq : as = v1 ++ vs ++ v2) (hc : Fn E.P g as w Q) (hn : Nat.blt d n = true)
    (next : ∀ v w', Q v w' → Z ((d, v) :: L) w') : StepZ E QQ n ⟨some d, .call { callee := .value fo, args := args.toArray, argTypes := ts }, T, pos, e, gd⟩ Z L w := by
  intro a K ds hs hK
  have h1 : (execOp a.eval ⟨some d, .call { callee := .value fo, args := args.toArray, argTypes := ts }, T, pos, e, gd⟩).run E.P w = .ok (.enter g as.toArray) w := by
    simp [execOp, resolve, hs.eval hf, Deferred.ofValue, invoke, run_callFunc hok, hs.evals ha, hq]
  unfold Oper.wp
  rw [h1, Oper.upon_enter]
  refine Calls.mono hc ?_
  rintro en w' ⟨v, rfl, hv⟩
  exact hK _ _ _ (next v w' hv) (hs.put v hn)
theorem Y.callN {QQ : Exit → Act → World → Prop} {Z : Sl → World → Prop} {fo : Operand} {g : FuncId} {args : List Operand} {ts : Array Nat} {v1 v2 vs as : List Value} {Q : Value → World → Prop} {gd : Option (Nat × Bool)} (hf : ev L fo = some (.func (.func g) v1.toArray v2.toArray)) (ha : evs L args = some vs)
    (hok : callOK E.P g = true) (hq : as = v1 ++ vs ++ v2) (hc : Fn E.P g as w Q)
    (next : ∀ v w', Q v w' → Z L w') : StepZ E QQ n ⟨none, .call { callee := .value fo, args := args.toArray, argTypes := ts }, T, pos, e, gd⟩ Z L w := by
  intro a K ds hs hK
  have h1 : (execOp a.eval ⟨none, .call { callee := .value fo, args := args.toArray, argTypes := ts }, T, pos, e, gd⟩).run E.P w = .ok (.enter g as.toArray) w := by
    simp [execOp, resolve, hs.eval hf, Deferred.ofValue, invoke, run_callFunc hok, hs.evals ha, hq]
  unfold Oper.wp
  rw [h1, Oper.upon_enter]
  refine Calls.mono hc ?_
  rintro en w' ⟨v, rfl, hv⟩
  exact hK _ _ _ (next v w' hv) (hs.none v)
end

/-! Stores -/
inductive SetC : Nat → Value → List Value → List Value → Prop
  | zero {v x : Value} {cs : List Value} : SetC 0 v (x :: cs) (v :: cs)
  | succ {i : Nat} {v x : Value} {cs cs' : List Value} (h : SetC i v cs cs') : SetC (i + 1) v (x :: cs) (x :: cs')
theorem SetC.eq {i : Nat} {v : Value} {cs cs' : List Value} (h : SetC i v cs cs') : i < cs.length ∧ cs' = cs.set i v := by
  induction h with
  | zero => simp
  | succ _ ih => simp [ih.1, ih.2]
/-- Cells from a place on are written over. -/
def putC : List Value → Nat → List Value → List Value
  | cs, _, [] => cs
  | cs, i, v :: vs => putC (cs.set i v) (i + 1) vs

theorem setCell_row {w : World} {b i : Nat} {cs : List Value} {t : TypeId} {v : Value} (h : w.heap[b]? = some (row cs t)) : (w.setCell ⟨b, i, none⟩ v).heap[b]? = some (row (cs.set i v) t) := by
  simp only [World.setCell, Array.getElem?_modify, if_true, h, Option.map_some]
  simp
theorem setCell_far {w : World} {b i c : Nat} {v : Value} (h : c ≠ b) : (w.setCell ⟨b, i, none⟩ v).heap[c]? = w.heap[c]? := by
  rw [Go.RowKit.Below.heap_setCell _ _ _ _ h]

theorem run_storeCells_row {P : Program} {b : Nat} {t : TypeId} (vs : List Value) : ∀ (w : World) (cs : List Value) (off i : Nat), w.heap[b]? = some (row cs t) → off + i + vs.length ≤ cs.length → (∀ v ∈ vs, v.oneCell' = true) →
    ∃ w', (storeCells ⟨b, off, none⟩ vs i).run P w = .ok () w' ∧ w'.heap[b]? = some (row (putC cs (off + i) vs) t) ∧ (∀ c, c ≠ b → w'.heap[c]? = w.heap[c]?) ∧ w'.heap.size = w.heap.size ∧ w'.os = w.os ∧ w'.tape = w.tape ∧ w'.output = w.output := by
  induction vs with
  | nil => intro w cs off i h _ _; exact ⟨w, by simp [storeCells], by simpa [putC] using h, fun _ _ => rfl, rfl, rfl, rfl, rfl⟩
  | cons v vs ih =>
    intro w cs off i h hl h1
    simp only [List.length_cons] at hl
    have hc : w.cell? ⟨b, off + i, none⟩ = some (cs[off + i]'(by omega)) := by rw [cell_row h, List.getElem?_eq_getElem]
    have hf := frozen_row (i := off + i) h
    obtain ⟨w', h2, h3, h4, h5, h6, h7, h8⟩ := ih (w.setCell ⟨b, off + i, none⟩ v) (cs.set (off + i) v) off (i + 1) (setCell_row h) (by simp; omega) (fun u hu => h1 u (List.mem_cons_of_mem _ hu))
    refine ⟨w', ?_, ?_, ?_, by rw [h5]; simp, h6, h7, h8⟩
    · simp [storeCells, Addr.add_lit, run_store P w _ v .plain (h1 v (List.mem_cons_self ..)), hc, hf, h2]
    · rw [h3]; rfl
    · intro c hc'
      rw [h4 c hc', setCell_far hc']

section
variable {E : Env} {f : FuncId} {R : Ending → World → Prop} {n : Nat} {ops : List Oper} {k : Sl → World → Prop} {l : List Oper} {L : Sl} {w w0 : World} {S : List Nat} {G G' : List Ent}
variable {d T : Nat} {pos : String} {e : Array Edge} {g : Option (Nat × Bool)} {x y z c : Operand} {v u : Value}

theorem Y.storeN {QQ : Exit → Act → World → Prop} {Z : Sl → World → Prop} {t b off : Nat} {ti : TyI} {cs vs cs' : List Value} {T' : Nat} (hx : ev L x = some (.pointer (some ⟨b, off, none⟩))) (hy : ev L y = some v) (hv : v.cells = vs.toArray) (ht : nth E.T t = some (some ti)) (hsz : vs.length = ti.size) (h1 : vs.all Value.oneCell' = true)
    (H : Holds w0 S w G) (hp : Upd G b (row cs T') (row cs' T') G') (hl : off + vs.length ≤ cs.length) (hc : putC cs off vs = cs')
    (next : ∀ w', Holds w0 S w' G' → Z L w') : StepZ E QQ n ⟨none, .store t x y, T, pos, e, g⟩ Z L w := by
  obtain ⟨G0, hp1, _⟩ := hp.perm
  have hb := (H.perm hp1).at_ _ (List.mem_cons_self ..)
  obtain ⟨w', h2, h3, h4, h5, h6, h7, h8⟩ := run_storeCells_row (P := E.P) vs w cs off 0 hb (by omega) (by simpa using h1)
  rw [Nat.add_zero, hc] at h3
  refine StepZ.skipN (w' := w') rfl (fun a hs => ?_) (next w' (H.upd hp h6 h7 h8 h5 h3 h4))
  have hz : vs.length = ti.size := hsz
  simp [execOp, hs.eval hx, hs.eval hy, Instr.storeAt, Instr.sureAddr, storeVar, hv, E.sizeOf w ht, hz, h2]
/-- A store of one cell at a known place. -/
theorem Y.store1 {QQ : Exit → Act → World → Prop} {Z : Sl → World → Prop} {t b off : Nat} {ti : TyI} {cs cs' : List Value} {T' : Nat} (hx : ev L x = some (.pointer (some ⟨b, off, none⟩))) (hy : ev L y = some v) (hv : v.cells = #[v]) (h1 : v.oneCell' = true) (ht : nth E.T t = some (some ti)) (hsz : ti.size = 1)
    (H : Holds w0 S w G) (hp : Upd G b (row cs T') (row cs' T') G') (hc : SetC off v cs cs')
    (next : ∀ w', Holds w0 S w' G' → Z L w') : StepZ E QQ n ⟨none, .store t x y, T, pos, e, g⟩ Z L w := by
  obtain ⟨hlt, rfl⟩ := hc.eq
  exact Y.storeN (vs := [v]) hx hy hv ht (by simp [hsz]) (by simp [h1]) H hp (by simp; omega) rfl next
/-- A store of one cell, anywhere. -/
theorem Y.storeI {QQ : Exit → Act → World → Prop} {Z : Sl → World → Prop} {t b off : Nat} {ti : TyI} {cs : List Value} {T' : Nat} (hx : ev L x = some (.pointer (some ⟨b, off, none⟩))) (hy : ev L y = some v) (hv : v.cells = #[v]) (h1 : v.oneCell' = true) (ht : nth E.T t = some (some ti)) (hsz : ti.size = 1)
    (H : Holds w0 S w G) (hp : Upd G b (row cs T') (row (cs.set off v) T') G') (hl : off < cs.length)
    (next : ∀ w', Holds w0 S w' G' → Z L w') : StepZ E QQ n ⟨none, .store t x y, T, pos, e, g⟩ Z L w :=
  Y.storeN (vs := [v]) hx hy hv ht (by simp [hsz]) (by simp [h1]) H hp (by simp; omega) rfl next
end
end Go.Proofs.Ytaneenahapdabaa
