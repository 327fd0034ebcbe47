/- The engine of the proofs, part E: structs built, slices cut, made, appended to, cleared. No statement of the seat is proved here. -/
import Derived.Test.YtaneenahapdabaaEngD
import Derived.ArgAppend
namespace Go.Proofs.Ytaneenahapdabaa
open Go

theorem run_mapM_list {α β : Type} {P : Program} {w : World} (h : α → Sem β) (r : α → β) : ∀ (l : List α), (∀ x ∈ l, (h x).run P w = .ok (r x) w) → (l.mapM h).run P w = .ok (l.map r) w
  | [], _ => by simp
  | x :: l, hx => by
    have ih := run_mapM_list h r l (fun y hy => hx y (List.mem_cons_of_mem _ hy))
    simp [List.mapM_cons, hx x (List.mem_cons_self ..), ih]

theorem run_mapM_array {α β : Type} {P : Program} {w : World} (h : α → Sem β) (r : α → β) (l : Array α) (hx : ∀ x ∈ l, (h x).run P w = .ok (r x) w) : (l.mapM h).run P w = .ok (l.map r) w := by
  rw [Array.mapM_eq_mapM_toList]
  have := run_mapM_list (P := P) (w := w) h r l.toList (fun x hm => hx x (by simpa using hm))
  simp only [Sem.run_map, this, Result.andThen_ok]
  congr 1
  exact Array.ext' (by simp)

/-- All fields' types are in the table. -/
def fieldsOK (T : List (Option TyI)) (fs : List (Nat × Nat)) : Bool := fs.all fun p => match nth T p.2 with | some (some _) => true | _ => false

section
variable {E : Env} {n : Nat} {L : Sl} {w w0 : World} {S : List Nat} {G G0 G1 : List Ent} {d T : Nat} {pos : String} {e : Array Edge} {g : Option (Nat × Bool)} {x y s : Operand} {QQ : Exit → Act → World → Prop} {Z : Sl → World → Prop}

theorem X.build {t : Nat} {fs : List (Nat × Nat)} {ti : TyI} {z : List Value} {ps : List (Nat × Operand)} {cs : List Value} (ht : nth E.T t = some (some ti)) (hd : ti.d = .agg fs) (hz : ti.zero = .agg z.toArray) (hf : fieldsOK E.T fs = true) (hb : bld E.T fs L ps z = some cs) :
    PureOp E n L G ⟨some d, .build t ps.toArray, T, pos, e, g⟩ (.agg cs.toArray) := by
  obtain ⟨hgood, _⟩ := E.ok t ti ht
  rw [hd] at hgood
  obtain ⟨fl, hu, hm⟩ := hgood
  intro w _ a ha
  let sz : Field → Nat := fun f => match nth E.T f.type with | some (some ti) => ti.size | _ => 0
  have hsz : ∀ f ∈ fl, (sizeOf f.type).run E.P w = .ok (sz f) w := by
    intro f hf'
    have hmem : (f.offset, f.type) ∈ fs := by rw [← hm]; exact List.mem_map.2 ⟨f, by simpa using hf', rfl⟩
    have := List.all_eq_true.1 hf _ hmem
    dsimp only at this
    cases h : nth E.T f.type with
    | none => rw [h] at this; simp at this
    | some o =>
      cases o with
      | none => rw [h] at this; simp at this
      | some tj => rw [E.sizeOf w h]; simp only [sz, h]
  have hpl := run_mapM_array (P := E.P) (w := w) (fun f : Field => do pure (f.offset, ← sizeOf f.type)) (fun f => (f.offset, sz f)) fl (fun f hf' => by simp [hsz f hf'])
  have hfill := fill_bld (place := fun i => (fl.map fun f => (f.offset, sz f))[i]?) ha (fun i off ty tj h1 h2 => by
    rw [nth_eq, ← hm] at h1
    simp at h1
    obtain ⟨fd, h3, h4, h5⟩ := h1
    subst h5
    simp [h3, h4, sz, h2]) ps z cs hb
  simp only [execOp, Instr.build, Sem.run_bind, E.zeroOf w ht, Result.andThen_ok, run_underlying hu, hz, Value.cells]
  simp only [Sem.run_bind, hpl, Result.andThen_ok, List.map_toArray, List.toList_toArray]
  rw [hfill]
  simp

/-- A new row. -/
theorem Holds.newRow (H : Holds w0 S w G) (cs : List Value) (el : Nat) : Holds w0 S (w.alloc (row cs el)) (⟨w.heap.size, row cs el, true⟩ :: G) := H.alloc _ _

theorem Y.buildSlice1 {t el : Nat} {ti te : TyI} {v : Value} {cs : List Value} (hx : ev L x = some v) (hc : cellsL v = cs) (ht : nth E.T t = some (some ti)) (hd : ti.d = .slice el) (hte : nth E.T el = some (some te)) (hl : cs.length = te.size) (hz : (cellsL te.zero).length = te.size) (hs : Nat.ble te.size 16777216 = true) (h0 : Nat.blt 0 te.size = true)
    (hn : Nat.blt d n = true) (H : Holds w0 S w G)
    (next : ∀ b w', Holds w0 S w' (⟨b, row cs el, true⟩ :: G) → w0.heap.size ≤ b → Z ((d, .slice (some ⟨b, 0, none⟩) 1 1) :: L) w') : StepZ E QQ n ⟨some d, .buildSlice t 1 #[(0, x)], T, pos, e, g⟩ Z L w := by
  obtain ⟨hgood, _⟩ := E.ok t ti ht
  rw [hd] at hgood
  have hgood : E.P.underlying t = some (.slice el) := hgood
  refine StepZ.val (w' := w.alloc (row cs el)) rfl hn (fun a ha => ?_) (next _ _ (H.newRow cs el) H.fr.size)
  have hs' : te.size ≤ 16777216 := Nat.le_of_ble_eq_true hs
  have h0' : te.size ≠ 0 := by simp at h0; omega
  subst hc
  have hzl : ((Array.range te.size).map (fun i => te.zero.cells[i % te.zero.cells.size]!)) = (cellsL te.zero).toArray := by
    have hzs : te.zero.cells.size = te.size := by rw [cellsL_eq]; simpa using hz
    apply Array.ext
    · simp [hz]
    · intro i h1 h2
      simp at h1
      simp only [Array.getElem_map, Array.getElem_range, hzs, Nat.mod_eq_of_lt h1]
      rw [getElem!_pos _ _ (by rw [hzs]; exact h1)]
      simp [cellsL_eq]
  have hfold := foldl_put (cellsL v) (cellsL te.zero) 0 0
  have hput : putC (cellsL te.zero) 0 (cellsL v) = cellsL v := by
    have key : ∀ (vs cs pre : List Value), vs.length = cs.length → putC (pre ++ cs) pre.length vs = pre ++ vs := by
      intro vs
      induction vs with
      | nil => intro cs pre h; simp at h; have : cs = [] := List.eq_nil_of_length_eq_zero h.symm; simp [putC, this]
      | cons v vs ih =>
        intro cs pre h
        cases cs with
        | nil => simp at h
        | cons c cs =>
          have := ih cs (pre ++ [v]) (by simpa using h)
          simp only [putC]
          have hset : (pre ++ c :: cs).set pre.length v = (pre ++ [v]) ++ cs := by simp
          rw [hset]
          have hl : (pre ++ [v]).length = pre.length + 1 := by simp
          rw [← hl, this]
          simp
    exact key (cellsL v) (cellsL te.zero) [] (by rw [hl, hz])
  simp only [execOp, Instr.buildSlice, Sem.run_bind, run_underlying hgood, Result.andThen_ok, E.sizeOf w hte, Nat.one_mul]
  rw [if_neg (by omega)]
  simp only [Sem.run_bind, Sem.run_pure, Result.andThen_ok, Sem.run_ite, if_neg h0', E.zeroOf w hte, hzl, List.map_toArray, List.map_cons, List.map_nil, ha.eval hx, List.toList_toArray]
  have hfill : Instr.fill (fun i => some (i * te.size, te.size)) (cellsL te.zero).toArray [(0, v)] = some (cellsL v).toArray := by
    simp only [Instr.fill, Nat.zero_mul, cellsL_eq v]
    rw [if_neg (by rw [List.size_toArray, List.size_toArray]; intro hc; simp only [Bool.or_eq_true, decide_eq_true_eq] at hc; rcases hc with hc | hc <;> omega)]
    rw [← Array.toArray_toList (xs := (cellsL v).toArray.zipIdx)] at *
    simp only [Array.toList_zipIdx, List.foldl_toArray', Nat.add_zero] at hfold ⊢
    rw [hfold, hput]
  rw [hfill]
  simp [newRow]

/-! Cuts of slices -/
theorem run_bound {P : Program} {w : World} {k : IntKind} {i y : Nat} {code : BoundsCode} (h : i ≤ y) : (Instr.sliceBound (.int k (i : Nat)) y code).run P w = .ok i w := by
  have h' : (i : Int) ≤ (y : Int) := by omega
  simp [Instr.sliceBound, asIntOf, h']
theorem X.slice_all {t el len cap : Nat} {a : Option Addr} {ti te : TyI} (hx : ev L x = some (.slice a len cap)) (ht : nth E.T t = some (some ti)) (hd : ti.d = .slice el) (hte : nth E.T el = some (some te)) :
    PureOp E n L G ⟨some d, .slice t x none none none, T, pos, e, g⟩ (.slice (if cap = 0 then a else a.map (·.add (0 * te.size))) len cap) := by
  obtain ⟨hgood, _⟩ := E.ok t ti ht
  rw [hd] at hgood
  have hgood : E.P.underlying t = some (.slice el) := hgood
  intro w _ b hs
  simp [execOp, hs.eval hx, Instr.sliceAt, run_underlying hgood, Instr.slice, Instr.sliceBounds, E.sizeOf w hte]
theorem X.slice_h {t el len cap j : Nat} {kd : IntKind} {a : Option Addr} {ti te : TyI} (hx : ev L x = some (.slice a len cap)) (hy : ev L y = some (.int kd (j : Nat))) (hj : j ≤ cap) (ht : nth E.T t = some (some ti)) (hd : ti.d = .slice el) (hte : nth E.T el = some (some te)) :
    PureOp E n L G ⟨some d, .slice t x none (some y) none, T, pos, e, g⟩ (.slice a j cap) := by
  obtain ⟨hgood, _⟩ := E.ok t ti ht
  rw [hd] at hgood
  have hgood : E.P.underlying t = some (.slice el) := hgood
  intro w _ b hs
  simp only [execOp, hs.eval hx, Option.map_some, Option.map_none, hs.eval hy, Instr.sliceAt, Sem.run_bind, run_underlying hgood, Result.andThen_ok, Instr.slice, Instr.sliceBounds, run_bound hj, Sem.run_pure, E.sizeOf w hte, if_true]
  cases a <;> simp [Addr.add]
theorem X.slice_l {t el len cap j b off : Nat} {sz : Nat} {kd : IntKind} {ti te : TyI} (hx : ev L x = some (.slice (some ⟨b, off, none⟩) len cap)) (hy : ev L y = some (.int kd (j : Nat))) (hj : j ≤ len) (ht : nth E.T t = some (some ti)) (hd : ti.d = .slice el) (hte : nth E.T el = some (some te)) (hsz : tySize E.T el = some sz) :
    PureOp E n L G ⟨some d, .slice t x (some y) none none, T, pos, e, g⟩ (.slice (some ⟨b, if cap = j then off else off + j * sz, none⟩) (len - j) (cap - j)) := by
  obtain ⟨hgood, _⟩ := E.ok t ti ht
  rw [hd] at hgood
  have hgood : E.P.underlying t = some (.slice el) := hgood
  have hsz : te.size = sz := by simpa [tySize, hte] using hsz
  subst hsz
  intro w _ c hs
  simp only [execOp, hs.eval hx, Option.map_some, Option.map_none, hs.eval hy, Instr.sliceAt, Sem.run_bind, run_underlying hgood, Result.andThen_ok, Instr.slice, Instr.sliceBounds, run_bound hj, Sem.run_pure, E.sizeOf w hte, if_true]
  by_cases hc : cap = j <;> simp [hc, Addr.add_lit]
theorem X.slice_lh {t el len cap j i b off : Nat} {sz : Nat} {kd ke : IntKind} {z : Operand} {ti te : TyI} (hx : ev L x = some (.slice (some ⟨b, off, none⟩) len cap)) (hy : ev L y = some (.int kd (j : Nat))) (hz : ev L z = some (.int ke (i : Nat))) (hj : j ≤ i) (hi : i ≤ cap) (ht : nth E.T t = some (some ti)) (hd : ti.d = .slice el) (hte : nth E.T el = some (some te)) (hsz : tySize E.T el = some sz) :
    PureOp E n L G ⟨some d, .slice t x (some y) (some z) none, T, pos, e, g⟩ (.slice (some ⟨b, if cap = j then off else off + j * sz, none⟩) (i - j) (cap - j)) := by
  obtain ⟨hgood, _⟩ := E.ok t ti ht
  rw [hd] at hgood
  have hgood : E.P.underlying t = some (.slice el) := hgood
  have hsz : te.size = sz := by simpa [tySize, hte] using hsz
  subst hsz
  intro w _ c hs
  simp only [execOp, hs.eval hx, Option.map_some, Option.map_none, hs.eval hy, hs.eval hz, Instr.sliceAt, Sem.run_bind, run_underlying hgood, Result.andThen_ok, Instr.slice, Instr.sliceBounds, run_bound hi, run_bound hj, Sem.run_pure, E.sizeOf w hte, if_true]
  by_cases hc : cap = j <;> simp [hc, Addr.add_lit]
theorem X.slice_lhm {t el len cap j i q b off : Nat} {sz : Nat} {kd ke kf : IntKind} {z u : Operand} {ti te : TyI} (hx : ev L x = some (.slice (some ⟨b, off, none⟩) len cap)) (hy : ev L y = some (.int kd (j : Nat))) (hz : ev L z = some (.int ke (i : Nat))) (hu : ev L u = some (.int kf (q : Nat))) (hj : j ≤ i) (hi : i ≤ q) (hq : q ≤ cap) (ht : nth E.T t = some (some ti)) (hd : ti.d = .slice el) (hte : nth E.T el = some (some te)) (hsz : tySize E.T el = some sz) :
    PureOp E n L G ⟨some d, .slice t x (some y) (some z) (some u), T, pos, e, g⟩ (.slice (some ⟨b, if q = j then off else off + j * sz, none⟩) (i - j) (q - j)) := by
  obtain ⟨hgood, _⟩ := E.ok t ti ht
  rw [hd] at hgood
  have hgood : E.P.underlying t = some (.slice el) := hgood
  have hsz : te.size = sz := by simpa [tySize, hte] using hsz
  subst hsz
  intro w _ c hs
  simp only [execOp, hs.eval hx, Option.map_some, Option.map_none, hs.eval hy, hs.eval hz, hs.eval hu, Instr.sliceAt, Sem.run_bind, run_underlying hgood, Result.andThen_ok, Instr.slice, Instr.sliceBounds, run_bound hi, run_bound hj, run_bound hq, Sem.run_pure, E.sizeOf w hte, if_true]
  by_cases hc : q = j <;> simp [hc, Addr.add_lit]

/-! Slices made -/
theorem Holds.grown {w' : World} (H : Holds w0 S w G) (hg : w.grownBy w' none) : Holds w0 S w' G :=
  ⟨⟨hg.os.trans H.fr.os, hg.tape.trans H.fr.tape, hg.output.trans H.fr.output, Nat.le_trans H.fr.size hg.size, fun b hb hn => by rw [hg.block b (Nat.lt_of_lt_of_le hb H.fr.size) (by simp)]; exact H.fr.same b hb hn⟩,
   fun e he => by rw [hg.block e.b (lt_of_at (H.at_ e he)) (by simp)]; exact H.at_ e he, H.nd, H.wr⟩
theorem Holds.grownRow {w' : World} {b el : Nat} {cs : List Value} (H : Holds w0 S w G) (hg : w.grownBy w' none) (hb : w.heap.size ≤ b) (h : w'.heap[b]? = some (row cs el)) : Holds w0 S w' (⟨b, row cs el, true⟩ :: G) :=
  (H.grown hg).add true h (fun e he => by have := lt_of_at (H.at_ e he); omega) (fun _ => .inr (Nat.le_trans H.fr.size hb))

theorem toList_made (z : Value) (m : Nat) (hz : z.cells.size = 1) : (madeCells z.cells m).toList = List.replicate m (z.cells[0]!) := by
  apply List.ext_getElem
  · simp [madeCells]
  · intro i h1 h2
    simp [madeCells, hz, Nat.mod_one]

theorem Y.make {t el len cap : Nat} {kl kc : IntKind} {ti te : TyI} (hx : ev L x = some (.int kl (len : Nat))) (hy : ev L y = some (.int kc (cap : Nat))) (hl : len ≤ cap) (ht : nth E.T t = some (some ti)) (hd : ti.d = .slice el) (hte : nth E.T el = some (some te))
    (hz : (cellsL te.zero).length = te.size) (hb : te.bytes * cap ≤ 281474976710656) (hm : cap ≤ 9223372036854775807) (hn : Nat.blt d n = true) (H : Holds w0 S w G)
    (next : ∀ b cs w', Holds w0 S w' (⟨b, row cs el, true⟩ :: G) → w0.heap.size ≤ b → cs.length = cap * te.size → (te.size = 1 → cs = List.replicate cap (te.zero.cells[0]!)) → Z ((d, .slice (some ⟨b, 0, none⟩) len cap) :: L) w') :
    StepZ E QQ n ⟨some d, .makeSlice t x y, T, pos, e, g⟩ Z L w := by
  obtain ⟨hgood, _⟩ := E.ok t ti ht
  rw [hd] at hgood
  have hgood : E.P.underlying t = some (.slice el) := hgood
  obtain ⟨_, i, hi, hs, hby, hzo⟩ := E.ok el te hte
  have hb' : (te.bytes : Int) * (cap : Int) ≤ 281474976710656 := by
    have : ((te.bytes * cap : Nat) : Int) ≤ 281474976710656 := by omega
    rwa [Int.natCast_mul] at this
  have hr := run_make (P := E.P) w t el i te.zero hgood hi hzo kl kc len cap (by omega) (by omega) (by rw [hby]; exact hb') (by omega)
  simp only [Int.toNat_natCast] at hr
  have hzc : te.zero.cells.size = te.size := by rw [cellsL_eq]; simpa using hz
  refine StepZ.val (v := .slice (some ⟨w.heap.size, 0, none⟩) len cap) (w' := w.alloc (.cells (madeCells te.zero.cells (cap * i.size)) el)) rfl hn (fun a ha => ?_)
    (next w.heap.size (madeCells te.zero.cells (cap * i.size)).toList _ (by simpa [row] using H.alloc (.cells (madeCells te.zero.cells (cap * i.size)) el (0, 0)) true) H.fr.size (by simp [size_madeCells, hs]) (fun h1 => ?_))
  · simp [execOp, ha.eval hx, ha.eval hy, hr]
  · rw [toList_made _ _ (by rw [hzc, h1]), hs, h1, Nat.mul_one]

/-! append -/
/-- The cells that are appended: read off where they lie. -/
def Src (w : World) (xa : Option Addr) (news : List Value) : Prop := ∀ j v, news[j]? = some v → ∃ a, xa = some a ∧ w.cell? (a.add j) = some v
theorem Src.nil {w : World} {xa : Option Addr} : Src w xa [] := fun j v h => by simp at h
theorem Src.row {b off m : Nat} {mm : Bool} {cs news : List Value} {T' : Nat} (H : Holds w0 S w G) (hq : Pick G b (row cs T') mm G1) (hc : Cs cs off m news) : Src w (some ⟨b, off, none⟩) news :=
  fun j v hj => ⟨_, rfl, by rw [Addr.add_lit]; exact (cell_row (H.pick hq)).trans (hc.get j v hj)⟩
theorem run_first {P : Program} {xa : Option Addr} {m xc sz : Nat} {news : List Value} (hs : Src w xa news) (hl : news.length = m * sz) : (Builtin.firstCells sz m (.slice xa m xc)).run P w = .ok news.toArray w := by
  cases xa with
  | none =>
    have : news = [] := by
      cases news with
      | nil => rfl
      | cons v r => obtain ⟨a, ha, _⟩ := hs 0 v rfl; cases ha
    subst this
    simp [Builtin.firstCells]
  | some a =>
    exact run_firstCells_some (P := P) w sz m a m xc news hl (fun j v hj => by obtain ⟨a', h1, h2⟩ := hs j v hj; cases h1; exact h2)

/-- There is room. -/
theorem Y.append_room {t el b off len cap m xc : Nat} {xa : Option Addr} {ti te : TyI} {c news : List Value} (hs : ev L s = some (.slice (some ⟨b, off, none⟩) len cap)) (hx : ev L x = some (.slice xa m xc))
    (ht : nth E.T t = some (some ti)) (hd : ti.d = .slice el) (hte : nth E.T el = some (some te)) (H : Holds w0 S w G) (hp : Pick G b (row c el) true G0)
    (hroom : len + m ≤ cap) (hfit : off + cap * te.size ≤ c.length) (hl : news.length = m * te.size) (hsrc : Src w xa news) (h1 : ∀ v ∈ news, v.oneCell' = true) (hn : Nat.blt d n = true)
    (next : ∀ w', Holds w0 S w' (⟨b, row (putC c (off + len * te.size) news) el, true⟩ :: G0) → Z ((d, .slice (some ⟨b, off, none⟩) (len + m) cap) :: L) w') :
    StepZ E QQ n ⟨some d, .call { callee := .builtin .append, args := #[s, x], argTypes := #[t, t] }, T, pos, e, g⟩ Z L w := by
  obtain ⟨hgood, _⟩ := E.ok t ti ht
  rw [hd] at hgood
  have hgood : E.P.underlying t = some (.slice el) := hgood
  have HP := H.perm hp.perm
  have hb := HP.at_ _ (List.mem_cons_self ..)
  have hlen : off + len * te.size + news.length ≤ c.length := by
    have : (len + m) * te.size ≤ cap * te.size := Nat.mul_le_mul_right _ hroom
    rw [Nat.add_mul] at this
    omega
  obtain ⟨w', h2, h3, h4, h5, h6, h7, h8⟩ := run_storeCells_row (P := E.P) news w c (off + len * te.size) 0 hb (by omega) h1
  rw [Nat.add_zero] at h3
  have hf := run_first (P := E.P) (xc := xc) hsrc hl
  have hsz := E.sizeOf w hte
  refine StepZ.val (v := .slice (some ⟨b, off, none⟩) (len + m) cap) (w' := w') rfl hn (fun a ha => ?_) (next w' (HP.put h6 h7 h8 h5 h3 h4))
  simp only [execOp, resolve, Sem.run_bind, Sem.run_pure, Result.andThen_ok, invoke, builtin, List.map_toArray, List.map_cons, List.map_nil, ha.eval hs, ha.eval hx]
  simp [Builtin.append_, run_underlying hgood, hsz, Builtin.lenOf, hroom, hf, Addr.add_lit, h2]

theorem bytes_of {t : Nat} {te : TyI} (h : nth E.T t = some (some te)) : ∃ i, E.P.info? t = some i ∧ i.size = te.size ∧ i.bytes = te.bytes ∧ i.zero = some te.zero := (E.ok t te h).2

/-- There is no room: a new row. -/
theorem Y.append_grow {t el len cap m xc : Nat} {sa xa : Option Addr} {ti te : TyI} {olds news : List Value} (hs : ev L s = some (.slice sa len cap)) (hx : ev L x = some (.slice xa m xc))
    (ht : nth E.T t = some (some ti)) (hd : ti.d = .slice el) (hte : nth E.T el = some (some te)) (H : Holds w0 S w G)
    (hroom : cap < len + m) (holds : Src w sa olds) (hlo : olds.length = len * te.size) (hl : news.length = m * te.size) (hsrc : Src w xa news) (hz : (cellsL te.zero).length = te.size)
    (hb : (len + m) * te.bytes ≤ 140737488355328) (h63 : len + m ≤ 9223372036854775807) (hn : Nat.blt d n = true)
    (next : ∀ b cap' sp w', Holds w0 S w' (⟨b, row (olds ++ news ++ sp) el, true⟩ :: G) → w0.heap.size ≤ b → len + m ≤ cap' → cap' ≤ 9223372036854775807 → sp.length = (cap' - (len + m)) * te.size → Z ((d, .slice (some ⟨b, 0, none⟩) (len + m) cap') :: L) w') :
    StepZ E QQ n ⟨some d, .call { callee := .builtin .append, args := #[s, x], argTypes := #[t, t] }, T, pos, e, g⟩ Z L w := by
  obtain ⟨hgood, _⟩ := E.ok t ti ht
  rw [hd] at hgood
  have hgood : E.P.underlying t = some (.slice el) := hgood
  obtain ⟨i, hi, hsz, hby, hzo⟩ := bytes_of hte
  have hzc : te.zero.cells.size = te.size := by rw [cellsL_eq]; simpa using hz
  have hfo := run_first (P := E.P) (w := w.drew) (xc := cap) (m := len) (sz := te.size) (xa := sa) (news := olds) holds hlo
  have hfn := run_first (P := E.P) (w := w.drew) (xc := xc) (m := m) (sz := te.size) (xa := xa) (news := news) hsrc hl
  have h48 : ¬ (281474976710656 < Builtin.nextslicecap (len + m) cap * te.bytes) := by have := growslice_fits hroom hb; omega
  have h63' : ¬ (9223372036854775807 < ((len : Int) + (m : Int))) := by omega
  have hge := grownCap_ge w (len + m) cap el
  have hle : grownCap w (len + m) cap el ≤ maxLen := grownCap_le_maxLen w (len + m) cap el (by simp only [maxLen]; omega)
  refine StepZ.val (v := .slice (some ⟨w.heap.size, 0, none⟩) (len + m) (grownCap w (len + m) cap el)) (w' := w.drew.alloc (row (olds ++ news ++ (Builtin.zeroCells te.zero.cells (grownCap w (len + m) cap el - (len + m))).toList) el)) rfl hn (fun a ha => ?_)
    (next w.heap.size (grownCap w (len + m) cap el) (Builtin.zeroCells te.zero.cells (grownCap w (len + m) cap el - (len + m))).toList _ (by simpa using H.drew.alloc _ true) H.fr.size hge (by simp only [maxLen] at hle; omega) (by simp [size_zeroCells, hzc]))
  simp only [execOp, resolve, Sem.run_bind, Sem.run_pure, Result.andThen_ok, invoke, builtin, List.map_toArray, List.map_cons, List.map_nil, ha.eval hs, ha.eval hx]
  have hnr : ¬ (len + m ≤ cap) := by omega
  simp [Builtin.append_, run_underlying hgood, sizeOf, typeInfo, zeroValue, hi, hsz, hby, hzo, Builtin.lenOf, hnr, h48, h63', Question.forced, hfo, hfn, newRow, grownCap]
  congr 2
  exact Array.ext' (by simp)

/-! clear -/
theorem Y.clear {t el b off len cap : Nat} {ti te : TyI} {c : List Value} (hx : ev L x = some (.slice (some ⟨b, off, none⟩) len cap)) (ht : nth E.T t = some (some ti)) (hd : ti.d = .slice el) (hte : nth E.T el = some (some te)) (hz : (cellsL te.zero).length = te.size) (h1 : (cellsL te.zero).all Value.oneCell' = true)
    (H : Holds w0 S w G) (hp : Pick G b (row c el) true G0) (hfit : off + len * te.size ≤ c.length)
    (next : ∀ zs w', zs.length = len * te.size → Holds w0 S w' (⟨b, row (putC c off zs) el, true⟩ :: G0) → Z L w') :
    StepZ E QQ n ⟨none, .call { callee := .builtin .clear, args := #[x], argTypes := #[t] }, T, pos, e, g⟩ Z L w := by
  obtain ⟨hgood, _⟩ := E.ok t ti ht
  rw [hd] at hgood
  have hgood : E.P.underlying t = some (.slice el) := hgood
  have hzc : te.zero.cells.size = te.size := by rw [cellsL_eq]; simpa using hz
  have HP := H.perm hp.perm
  have hb := HP.at_ _ (List.mem_cons_self ..)
  cases len with
  | zero =>
    refine StepZ.valN (v := .tuple #[]) (w' := w) rfl (fun a ha => ?_) (next [] w (by simp) (by simpa [putC] using HP))
    simp only [execOp, resolve, Sem.run_bind, Sem.run_pure, Result.andThen_ok, invoke, builtin, List.map_toArray, List.map_cons, List.map_nil, ha.eval hx]
    simp [Builtin.clear_, run_underlying hgood]
  | succ m =>
    have hzl : (Builtin.zeroCells te.zero.cells (m + 1)).toList.length = (m + 1) * te.size := by simp [size_zeroCells, hzc]
    have hone : ∀ v ∈ (Builtin.zeroCells te.zero.cells (m + 1)).toList, v.oneCell' = true := by
      intro v hv
      simp only [Builtin.zeroCells, Array.toList_map, List.mem_map] at hv
      obtain ⟨i, hi, rfl⟩ := hv
      have hi' : i < (m + 1) * te.size := by simpa [hzc] using hi
      have hpos : 0 < te.size := by
        rcases Nat.eq_zero_or_pos te.size with h0 | h0
        · rw [h0] at hi'; omega
        · exact h0
      have hlt : i % te.zero.cells.size < te.zero.cells.size := Nat.mod_lt _ (by omega)
      show Value.oneCell' (te.zero.cells[i % te.zero.cells.size]!) = true
      rw [getElem!_pos te.zero.cells _ hlt]
      rw [List.all_eq_true] at h1
      have hm : te.zero.cells[i % te.zero.cells.size] ∈ te.zero.cells := Array.getElem_mem _
      generalize te.zero.cells[i % te.zero.cells.size] = v at hm ⊢
      rw [cellsL_eq] at hm
      exact h1 v (by simpa using hm)
    obtain ⟨w', h2, h3, h4, h5, h6, h7, h8⟩ := run_storeCells_row (P := E.P) (Builtin.zeroCells te.zero.cells (m + 1)).toList w c off 0 hb (by omega) hone
    refine StepZ.valN (v := .tuple #[]) (w' := w') rfl (fun a ha => ?_) (next _ w' hzl (HP.put h6 h7 h8 h5 h3 h4))
    simp only [execOp, resolve, Sem.run_bind, Sem.run_pure, Result.andThen_ok, invoke, builtin, List.map_toArray, List.map_cons, List.map_nil, ha.eval hx]
    simp [Builtin.clear_, run_underlying hgood, E.zeroOf w hte, h2]
end
end Go.Proofs.Ytaneenahapdabaa
