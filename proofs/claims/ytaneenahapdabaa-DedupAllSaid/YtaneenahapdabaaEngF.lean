/- The engine of the proofs, part F: results that lie in memory; slices of literals; small things. No statement of the seat is proved here. -/
import Derived.Test.YtaneenahapdabaaEngE
namespace Go.Proofs.Ytaneenahapdabaa
open Go

/-! ### Results -/
inductive RVs (E : Env) (L : Sl) (G : List Ent) : List ResultVar → List Value → Prop
  | nil : RVs E L G [] []
  | tmp {t : Nat} {v : Value} {rs : List ResultVar} {vs : List Value} (h : look L t = some v) (r : RVs E L G rs vs) : RVs E L G (.tmp t :: rs) (v :: vs)
  | cell1 {t b off ty T : Nat} {ti : TyI} {m : Bool} {fz : Nat × Nat} {cs : List Value} {G' : List Ent} {v : Value} {rs : List ResultVar} {vs : List Value} (h : look L t = some (.pointer (some ⟨b, off, none⟩))) (ht : nth E.T ty = some (some ti)) (hk : ti.d.known = true) (ha : ti.d.isAgg = false)
      (hp : Pick G b (.cells cs.toArray T fz) m G') (hv : cs[off]? = some v) (r : RVs E L G rs vs) : RVs E L G (.cell t ty :: rs) (v :: vs)
  | cellN {t b off ty T : Nat} {ti : TyI} {m : Bool} {fz : Nat × Nat} {cs us : List Value} {G' : List Ent} {rs : List ResultVar} {vs : List Value} (h : look L t = some (.pointer (some ⟨b, off, none⟩))) (ht : nth E.T ty = some (some ti)) (ha : ti.d.isAgg = true)
      (hp : Pick G b (.cells cs.toArray T fz) m G') (hv : Cs cs off ti.size us) (r : RVs E L G rs vs) : RVs E L G (.cell t ty :: rs) (.agg us.toArray :: vs)

def resOf (P : Program) (tmps : Array Value) : ResultVar → Sem Value
  | .tmp t => pure (tmps.getD t undef)
  | .cell a t => do loadVar t (← asAddr (tmps.getD a undef))

theorem RVs.run {E : Env} {L : Sl} {G : List Ent} {rs : List ResultVar} {vs : List Value} (h : RVs E L G rs vs) {w : World} (hG : ∀ e ∈ G, w.heap[e.b]? = some e.o) {n : Nat} {a : Act} (ha : St0 n L a) :
    (rs.mapM (resOf E.P a.tmps)).run E.P w = .ok vs w := by
  induction h with
  | nil => simp
  | tmp h _ ih => 
    have e := ha.getD h
    simp only [List.mapM_cons, resOf, Sem.run_bind, Sem.run_pure, Result.andThen_ok, ih, e]
  | cell1 h ht hk hag hp hv _ ih =>
    have e := ha.getD h
    have hc := (cell_cells (i := _) (pick_at hG hp)).trans hv
    simp [List.mapM_cons, resOf, e, asAddr, loadVar, E.isAgg w ht hk, hag, hc, ih]
  | @cellN t b off ty T ti m fz cs us G' rs vs h ht hag hp hv _ ih =>
    have e := ha.getD h
    have hk : ti.d.known = true := by cases hd : ti.d <;> simp_all [TyE.known, TyE.isAgg]
    have hc := run_loadCells_list (P := E.P) w ⟨b, off, none⟩ us (fun j v hj => by rw [Addr.add_lit]; exact (cell_cells (pick_at hG hp)).trans (hv.get j v hj))
    rw [hv.length] at hc
    simp only [List.mapM_cons, resOf, Sem.run_bind, Sem.run_pure, Result.andThen_ok, e, asAddr, loadVar, E.isAgg w ht hk, hag, Sem.run_ite, if_true, E.sizeOf w ht, hc, ih]

theorem resultsG {E : Env} {L : Sl} {G : List Ent} {rs : List ResultVar} {vs : List Value} (h : RVs E L G rs vs) {w : World} (hG : ∀ e ∈ G, w.heap[e.b]? = some e.o) {n : Nat} {a : Act} (ha : St0 n L a) {fn : Func} (hr : fn.results = rs.toArray) {v : Value}
    (hv : (match vs with | [v] => v | _ => .tuple vs.toArray) = v) : (results fn a.tmps).run E.P w = .ok v w := by
  have h1 := h.run hG ha
  have e : results fn a.tmps = (do let vs ← fn.results.mapM (resOf E.P a.tmps); pure (if h : vs.size = 1 then vs[0] else .tuple vs)) := by
    unfold results
    congr 1
  rw [e, hr, Sem.run_bind, Array.mapM_eq_mapM_toList]
  simp only [List.toList_toArray, Sem.run_map, h1, Result.andThen_ok]
  subst hv
  match vs with
  | [] => simp
  | [v] => simp
  | a :: b :: r => simp

section
variable {E : Env} {f : FuncId} {Q : Value → World → Prop} {n : Nat} {k : List Item} {L : Sl} {w w0 : World} {fn : Func} {S : List Nat} {G : List Ent}
theorem Fn.retG {rs : List ResultVar} {vs : List Value} {v : Value} (hf : E.P.funcs[f]? = some fn) (hr : fn.results = rs.toArray) (H : Holds w0 S w G) (hv : RVs E L G rs vs) (he : (match vs with | [v] => v | _ => .tuple vs.toArray) = v) (h : Q v w) : Run E.P f (Rt Q) n (.code .ret :: k) L w :=
  Run.ret hf (fun _ ha => resultsG hv H.at_ ha hr he) ⟨_, rfl, h⟩
end

/-! ### A slice of a literal -/
def bldS (sz : Nat) (L : Sl) : List (Nat × Operand) → List Value → Option (List Value)
  | [], cs => some cs
  | (i, x) :: r, cs =>
    match ev L x with
    | some v =>
      match Nat.beq (cellsL v).length sz && Nat.ble (i * sz + (cellsL v).length) cs.length with
      | true => bldS sz L r (putC cs (i * sz) (cellsL v))
      | false => none
    | none => none
def zrow (m : Nat) (l : List Value) : List Value := (List.range m).map fun i => (l[i % l.length]?).getD undef
section
variable {E : Env} {n : Nat} {L : Sl} {w w0 : World} {S : List Nat} {G G0 G1 : List Ent} {d T : Nat} {pos : String} {e : Array Edge} {g : Option (Nat × Bool)} {x y s : Operand} {QQ : Exit → Act → World → Prop} {Z : Sl → World → Prop}
theorem fill_bldS {sz : Nat} {a : Act} (ha : St0 n L a) : ∀ (ps : List (Nat × Operand)) (cs cs' : List Value), bldS sz L ps cs = some cs' → Instr.fill (fun i => some (i * sz, sz)) cs.toArray (ps.map fun p => (p.1, a.eval p.2)) = some cs'.toArray := by
  intro ps
  induction ps with
  | nil => intro cs cs' h; simp only [bldS, Option.some.injEq] at h; subst h; simp [Instr.fill]
  | cons p r ih =>
    obtain ⟨i, x⟩ := p
    intro cs cs' h
    simp only [bldS] at h
    cases h2 : ev L x with
    | none => rw [h2] at h; simp at h
    | some v =>
      rw [h2] at h
      dsimp only at h
      cases h4 : (Nat.beq (cellsL v).length sz && Nat.ble (i * sz + (cellsL v).length) cs.length) with
      | false => rw [h4] at h; simp at h
      | true =>
        rw [h4] at h
        dsimp only at h
        simp only [Bool.and_eq_true] at h4
        have e1 : (cellsL v).length = sz := Nat.eq_of_beq_eq_true h4.1
        have e2 : i * sz + (cellsL v).length ≤ cs.length := Nat.le_of_ble_eq_true h4.2
        simp only [List.map_cons, Instr.fill, ha.eval h2, cellsL_eq]
        rw [if_neg (by rw [List.size_toArray, List.size_toArray]; intro hc; simp only [Bool.or_eq_true, decide_eq_true_eq] at hc; rcases hc with hc | hc <;> omega)]
        have := foldl_put (cellsL v) cs (i * sz) 0
        rw [← Array.toArray_toList (xs := (cellsL v).toArray.zipIdx)] at *
        simp only [Array.toList_zipIdx, List.foldl_toArray', Nat.add_zero] at this ⊢
        rw [this]
        exact ih _ _ h

theorem Y.buildSlice {t el len : Nat} {ti te : TyI} {ps : List (Nat × Operand)} {cs : List Value} (ht : nth E.T t = some (some ti)) (hd : ti.d = .slice el) (hte : nth E.T el = some (some te)) (hz : (cellsL te.zero).length = te.size) (hs : Nat.ble (len * te.size) 16777216 = true)
    (hb : bldS te.size L ps (zrow (len * te.size) (cellsL te.zero)) = some cs) (hn : Nat.blt d n = true) (H : Holds w0 S w G)
    (next : ∀ b w', Holds w0 S w' (⟨b, row cs el, true⟩ :: G) → w0.heap.size ≤ b → Z ((d, .slice (some ⟨b, 0, none⟩) len len) :: L) w') : StepZ E QQ n ⟨some d, .buildSlice t len ps.toArray, T, pos, e, g⟩ Z L w := by
  obtain ⟨hgood, _⟩ := E.ok t ti ht
  rw [hd] at hgood
  have hgood : E.P.underlying t = some (.slice el) := hgood
  refine StepZ.val (w' := w.alloc (row cs el)) rfl hn (fun a ha => ?_) (next _ _ (H.newRow cs el) H.fr.size)
  have hs' : len * te.size ≤ 16777216 := Nat.le_of_ble_eq_true hs
  have hzs : te.zero.cells.size = te.size := by rw [cellsL_eq]; simpa using hz
  have hfill := fill_bldS ha ps _ cs hb
  have hzl : ((Array.range (len * te.size)).map (fun i => (if len * te.size = 0 then (#[] : Array Value) else te.zero.cells)[i % (if len * te.size = 0 then (#[] : Array Value) else te.zero.cells).size]!)) = (zrow (len * te.size) (cellsL te.zero)).toArray := by
    by_cases h0 : len * te.size = 0
    · simp [h0, zrow, Array.range_zero']
    · rw [if_neg h0]
      apply Array.ext
      · simp [zrow]
      · intro i h1 h2
        simp at h1
        have hp : 0 < te.size := by
          rcases Nat.eq_zero_or_pos te.size with h | h
          · rw [h] at h0; simp at h0
          · exact h
        have hlt : i % te.zero.cells.size < te.zero.cells.size := Nat.mod_lt _ (by omega)
        simp only [Array.getElem_map, Array.getElem_range, zrow]
        rw [getElem!_pos te.zero.cells _ hlt]
        have hlt' : i % (cellsL te.zero).length < (cellsL te.zero).length := Nat.mod_lt _ (by omega)
        simp [cellsL_eq]
        rw [List.getElem?_eq_getElem hlt']
        rfl
  simp only [execOp, Instr.buildSlice, Sem.run_bind, run_underlying hgood, Result.andThen_ok, E.sizeOf w hte]
  rw [if_neg (by omega)]
  by_cases h0 : len * te.size = 0
  · rw [if_pos h0] at hzl
    simp only [Sem.run_bind, Sem.run_pure, Result.andThen_ok, if_pos h0, List.map_toArray, List.toList_toArray]
    rw [hzl, hfill]
    simp [newRow]
  · rw [if_neg h0] at hzl
    simp only [Sem.run_bind, Sem.run_pure, Result.andThen_ok, if_neg h0, E.zeroOf w hte, List.map_toArray, List.toList_toArray]
    rw [hzl, hfill]
    simp [newRow]
def normL : List Value → Option (List Value)
  | [] => some []
  | v :: r =>
    match normL r with
    | some l => some (v :: l)
    | none => none
theorem normL_eq : ∀ (l : List Value), normL l = some l
  | [] => rfl
  | v :: r => by simp [normL, normL_eq r]
theorem Y.buildSliceO {t el len : Nat} {ti te : TyI} {ps : List (Nat × Operand)} {cs cs' : List Value} (ht : nth E.T t = some (some ti)) (hd : ti.d = .slice el) (hte : nth E.T el = some (some te)) (hz : (cellsL te.zero).length = te.size) (hs : Nat.ble (len * te.size) 16777216 = true)
    (hb : bldS te.size L ps (zrow (len * te.size) (cellsL te.zero)) = some cs) (hc : normL cs = some cs') (hn : Nat.blt d n = true) (H : Holds w0 S w G)
    (next : ∀ b w', Holds w0 S w' (⟨b, row cs' el, true⟩ :: G) → w0.heap.size ≤ b → Z ((d, .slice (some ⟨b, 0, none⟩) len len) :: L) w') : StepZ E QQ n ⟨some d, .buildSlice t len ps.toArray, T, pos, e, g⟩ Z L w := by
  rw [normL_eq] at hc
  cases hc
  exact Y.buildSlice ht hd hte hz hs hb hn H next
end

/-! ### Frames -/
theorem Holds.ext {w0 w w' : World} {S : List Nat} {G : List Ent} (H : Holds w0 S w G) (h : Fr w w' []) : Holds w0 S w' G :=
  ⟨H.fr.trans h (fun _ h => h) (by simp), fun e he => h.get (H.at_ e he) (by simp), H.nd, H.wr⟩
/-- Cells in the middle of a row. -/
theorem Cs.ofGet {cs : List Value} : ∀ (n i : Nat) (vs : List Value), vs.length = n → (∀ j, j < n → cs[i + j]? = vs[j]?) → Cs cs i n vs
  | 0, i, vs, hl, _ => by
    have : vs = [] := List.eq_nil_of_length_eq_zero hl
    subst this
    exact .nil
  | n + 1, i, vs, hl, h => by
    cases vs with
    | nil => simp at hl
    | cons v vs =>
      refine .cons (by simpa using h 0 (by omega)) (Cs.ofGet n (i + 1) vs (by simpa using hl) fun j hj => ?_)
      have := h (j + 1) (by omega)
      rw [show i + 1 + j = i + (j + 1) by omega]
      simpa using this
theorem Cs.mid (a b c : List Value) : Cs (a ++ b ++ c) a.length b.length b := by
  refine Cs.ofGet _ _ _ rfl fun j hj => ?_
  rw [List.getElem?_append_left (by simp; omega), List.getElem?_append_right (by omega)]
  congr 1
  omega
def takeC : List Value → Nat → Option (List Value)
  | _, 0 => some []
  | [], _ + 1 => none
  | v :: r, n + 1 =>
    match takeC r n with
    | some l => some (v :: l)
    | none => none
theorem Cs.takeAux : ∀ (n : Nat) (r : List Value) (cs : List Value) (off : Nat) (vs : List Value), r = cs.drop off → takeC r n = some vs → Cs cs off n vs
  | 0, r, cs, off, vs, _, h => by simp [takeC] at h; subst h; exact .nil
  | n + 1, [], cs, off, vs, _, h => by simp [takeC] at h
  | n + 1, v :: r, cs, off, vs, hr, h => by
    simp only [takeC] at h
    cases h2 : takeC r n with
    | none => rw [h2] at h; simp at h
    | some l =>
      rw [h2] at h
      simp at h
      subst h
      have h3 : cs[off]? = some v := by
        have := congrArg (fun l => l[0]?) hr
        simpa using this.symm
      refine .cons h3 (Cs.takeAux n r cs (off + 1) l ?_ h2)
      have := congrArg (List.drop 1) hr
      simpa [List.drop_drop] using this
theorem Cs.take {cs : List Value} {off n : Nat} {vs : List Value} (h : takeC (cs.drop off) n = some vs) : Cs cs off n vs := Cs.takeAux n _ cs off vs rfl h
/-- Cells from a place on written over, told in full. -/
def putO : List Value → Nat → List Value → Option (List Value)
  | cs, 0, [] => some cs
  | [], _, _ => none
  | _ :: cs, 0, v :: vs =>
    match putO cs 0 vs with
    | some l => some (v :: l)
    | none => none
  | c :: cs, n + 1, vs =>
    match putO cs n vs with
    | some l => some (c :: l)
    | none => none
theorem putC_cons (c : Value) (vs : List Value) : ∀ (cs : List Value) (n : Nat), putC (c :: cs) (n + 1) vs = c :: putC cs n vs := by
  induction vs with
  | nil => intro cs n; rfl
  | cons v vs ih => intro cs n; simp only [putC, List.set_cons_succ]; exact ih _ _
theorem putO_spec : ∀ (cs : List Value) (n : Nat) (vs cs' : List Value), putO cs n vs = some cs' → putC cs n vs = cs' ∧ n + vs.length ≤ cs.length
  | [], 0, [], cs', h => by simp [putO] at h; subst h; simp [putC]
  | c :: cs, 0, [], cs', h => by simp [putO] at h; subst h; simp [putC]
  | [], 0, v :: vs, cs', h => by simp [putO] at h
  | [], n + 1, vs, cs', h => by simp [putO] at h
  | c :: cs, 0, v :: vs, cs', h => by
    simp only [putO] at h
    cases h2 : putO cs 0 vs with
    | none => rw [h2] at h; simp at h
    | some l =>
      rw [h2] at h
      simp at h
      obtain ⟨h3, h4⟩ := putO_spec cs 0 vs l h2
      subst h
      refine ⟨?_, by simp; omega⟩
      show putC ((c :: cs).set 0 v) (0 + 1) vs = _
      rw [List.set_cons_zero, putC_cons, h3]
  | c :: cs, n + 1, vs, cs', h => by
    have h : (match putO cs n vs with | some l => some (c :: l) | none => none) = some cs' := by
      cases vs <;> simpa [putO] using h
    cases h2 : putO cs n vs with
    | none => rw [h2] at h; simp at h
    | some l =>
      rw [h2] at h
      simp at h
      obtain ⟨h3, h4⟩ := putO_spec cs n vs l h2
      subst h
      refine ⟨by rw [putC_cons, h3], by simp; omega⟩
theorem Y.storeO {E : Env} {n : Nat} {L : Sl} {w w0 : World} {S : List Nat} {G G' : List Ent} {T : Nat} {pos : String} {e : Array Edge} {g : Option (Nat × Bool)} {x y : Operand} {v : Value} {QQ : Exit → Act → World → Prop} {Z : Sl → World → Prop} {t b off : Nat} {ti : TyI} {cs vs cs' : List Value} {T' : Nat}
    (hx : ev L x = some (.pointer (some ⟨b, off, none⟩))) (hy : ev L y = some v) (hv : v.cells = vs.toArray) (ht : nth E.T t = some (some ti)) (hsz : vs.length = ti.size) (h1 : vs.all Value.oneCell' = true)
    (H : Holds w0 S w G) (hp : Upd G b (row cs T') (row cs' T') G') (hc : putO cs off vs = some cs')
    (next : ∀ w', Holds w0 S w' G' → Z L w') : StepZ E QQ n ⟨none, .store t x y, T, pos, e, g⟩ Z L w :=
  let ⟨h2, h3⟩ := putO_spec _ _ _ _ hc
  Y.storeN hx hy hv ht hsz h1 H hp h3 h2 next
theorem chooseLt {α : Type} [Inhabited α] {n : Nat} {p : Nat → α → Prop} (h : ∀ i, i < n → ∃ x, p i x) : ∃ f : Nat → α, ∀ i, i < n → p i (f i) := by
  classical
  refine ⟨fun i => if hi : i < n then Classical.choose (h i hi) else default, fun i hi => ?_⟩
  simp only [dif_pos hi]
  exact Classical.choose_spec (h i hi)
theorem Src.cells {w0 w : World} {S : List Nat} {G G1 : List Ent} {b off m : Nat} {mm : Bool} {cs news : List Value} {T' : Nat} {fz : Nat × Nat} (H : Holds w0 S w G) (hq : Pick G b (.cells cs.toArray T' fz) mm G1) (hc : Cs cs off m news) : Src w (some ⟨b, off, none⟩) news :=
  fun j v hj => ⟨_, rfl, by rw [Addr.add_lit]; exact (cell_cells (H.pick hq)).trans (hc.get j v hj)⟩
theorem Cs.cast {cs : List Value} {i n i' n' : Nat} {vs vs' : List Value} (h : Cs cs i n vs) (h1 : i = i') (h2 : n = n') (h3 : vs = vs') : Cs cs i' n' vs' := by subst h1 h2 h3; exact h
theorem Fr.fresh {a b : World} {S : List Nat} (h : Fr a b S) (hS : ∀ x ∈ S, a.heap.size ≤ x) : Fr a b [] := h.mono (fun x hx hl => by have := hS x hx; omega)
theorem Holds.extAdd {w0 w w' : World} {S : List Nat} {G : List Ent} {b : Nat} {o : Obj} (H : Holds w0 S w G) (m : Bool) (h : Fr w w' []) (hb : w'.heap[b]? = some o) (hn : w.heap.size ≤ b) : Holds w0 S w' (⟨b, o, m⟩ :: G) :=
  (H.ext h).add m hb (fun e he => by have := lt_of_at (H.at_ e he); omega) (fun _ => .inr (Nat.le_trans H.fr.size hn))
theorem Fr.then {a b c : World} (h : Fr a b []) (h' : Fr b c []) : Fr a c [] := h.trans h' (by simp) (by simp)
end Go.Proofs.Ytaneenahapdabaa
