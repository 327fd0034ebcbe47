/- The engine of the proofs, part M: maps whose keys are numbers. No statement of the seat is proved here. -/
import Derived.Test.YtaneenahapdabaaEngH
import Derived.MapKept
namespace Go.Proofs.Ytaneenahapdabaa
open Go
theorem find_spec {k : IntKind} {x : Int} (l : List MapEntry) (i : Nat) (h : ∀ e ∈ l, ∃ y, e.key = .int k y) :
    (Instr.findNow (.int k) (.int k x) l i = some none ∧ ∀ e ∈ l, e.key ≠ .int k x) ∨ ∃ j e, Instr.findNow (.int k) (.int k x) l i = some (some (i + j, e.val)) ∧ l[j]? = some e ∧ e.key = .int k x := by
  induction l generalizing i with
  | nil => exact .inl ⟨rfl, by simp⟩
  | cons e es ih =>
    obtain ⟨y, hy⟩ := h e (List.mem_cons_self ..)
    by_cases hxy : x = y
    · subst hxy
      exact .inr ⟨0, e, by simp [Instr.findNow, Instr.sameNow, hy], rfl, hy⟩
    · have h1 : Instr.findNow (.int k) (.int k x) (e :: es) i = Instr.findNow (.int k) (.int k x) es (i + 1) := by
        have hb : (x == y) = false := by simpa using hxy
        simp [Instr.findNow, Instr.sameNow, hy, hb]
      rcases ih (i + 1) (fun e he => h e (List.mem_cons_of_mem _ he)) with ⟨h2, h3⟩ | ⟨j, e', h2, h3, h4⟩
      · refine .inl ⟨h1.trans h2, fun e' he' => ?_⟩
        rcases List.mem_cons.1 he' with rfl | he'
        · rw [hy]; simp; exact fun e => hxy e.symm
        · exact h3 e' he'
      · exact .inr ⟨j + 1, e', by rw [h1, h2]; simp; omega, by simpa using h3, h4⟩

/-- A map's entries: their keys are numbers, each stands once; f: what stands at a number. -/
structure Mp (k : IntKind) (es : Array MapEntry) (f : Int → Option Value) : Prop where
  key : ∀ (i : Nat) e, es[i]? = some e → ∃ x, e.key = .int k x ∧ f x = some e.val
  has : ∀ x v, f x = some v → ∃ (i : Nat) (e : MapEntry), es[i]? = some e ∧ e.key = .int k x ∧ e.val = v
  one : ∀ (i j : Nat) (e e' : MapEntry), es[i]? = some e → es[j]? = some e' → e.key = e'.key → i = j
theorem Mp.empty {k : IntKind} : Mp k #[] fun _ => none := ⟨by simp, by simp, by simp⟩
theorem Mp.miss {k : IntKind} {es : Array MapEntry} {f : Int → Option Value} (h : Mp k es f) {x : Int} (hx : f x = none) : Instr.findNow (.int k) (.int k x) es.toList 0 = some none := by
  rcases find_spec (x := x) es.toList 0 (fun e he => by obtain ⟨i, hi⟩ := List.getElem?_of_mem he; obtain ⟨y, hy, _⟩ := h.key i e (by simpa using hi); exact ⟨y, hy⟩) with ⟨h1, _⟩ | ⟨j, e, _, h2, h3⟩
  · exact h1
  · obtain ⟨y, hy, hf⟩ := h.key j e (by simpa using h2)
    rw [hy] at h3
    cases h3
    rw [hx] at hf
    cases hf
theorem Mp.hit {k : IntKind} {es : Array MapEntry} {f : Int → Option Value} (h : Mp k es f) {x : Int} {v : Value} (hx : f x = some v) : ∃ i e, Instr.findNow (.int k) (.int k x) es.toList 0 = some (some (i, v)) ∧ es[i]? = some e ∧ e.key = .int k x ∧ e.val = v := by
  rcases find_spec (x := x) es.toList 0 (fun e he => by obtain ⟨i, hi⟩ := List.getElem?_of_mem he; obtain ⟨y, hy, _⟩ := h.key i e (by simpa using hi); exact ⟨y, hy⟩) with ⟨_, h2⟩ | ⟨j, e, h1, h2, h3⟩
  · obtain ⟨i, e, h3, h4, _⟩ := h.has x v hx
    exact absurd h4 (h2 e (by simpa using List.mem_of_getElem? (by simpa using h3 : es.toList[i]? = some e)))
  · have h2 : es[j]? = some e := by simpa using h2
    obtain ⟨y, hy, hf⟩ := h.key j e h2
    have hxy : y = x := by rw [hy] at h3; cases h3; rfl
    subst hxy
    rw [hx] at hf
    cases hf
    exact ⟨j, e, by simpa using h1, h2, h3, rfl⟩
def upd (f : Int → Option Value) (x : Int) (v : Option Value) : Int → Option Value := fun y => if y = x then v else f y
theorem Mp.push {k : IntKind} {es : Array MapEntry} {f : Int → Option Value} (h : Mp k es f) {x : Int} (hx : f x = none) (v : Value) (c : Nat) : Mp k (es.push ⟨.int k x, v, c⟩) (upd f x (some v)) := by
  have hk : ∀ (i : Nat) (e : MapEntry), es[i]? = some e → e.key ≠ .int k x := by
    intro i e he hk
    obtain ⟨y, hy, hf⟩ := h.key i e he
    rw [hy] at hk
    cases hk
    rw [hx] at hf
    cases hf
  have hlt : ∀ (i : Nat) (e : MapEntry), es[i]? = some e → i < es.size := fun i e he => (Array.getElem?_eq_some_iff.1 he).1
  have hget : ∀ (i : Nat) e, (es.push ⟨.int k x, v, c⟩)[i]? = some e → (es[i]? = some e) ∨ (i = es.size ∧ e = ⟨.int k x, v, c⟩) := by
    intro i e he
    rw [Array.getElem?_push] at he
    split at he
    · exact .inr ⟨by assumption, by cases he; rfl⟩
    · exact .inl he
  refine ⟨fun i e he => ?_, fun y u hy => ?_, fun i j e e' he he' hkk => ?_⟩
  · rcases hget i e he with he | ⟨_, rfl⟩
    · obtain ⟨y, hy, hf⟩ := h.key i e he
      refine ⟨y, hy, ?_⟩
      unfold upd
      rw [if_neg (fun hyx => hk i e he (by rw [hy, hyx]))]
      exact hf
    · exact ⟨x, rfl, by unfold upd; rw [if_pos rfl]⟩
  · unfold upd at hy
    split at hy
    · cases hy
      have e0 : y = x := by assumption
      exact ⟨es.size, ⟨.int k x, v, c⟩, by simp, by rw [e0], rfl⟩
    · obtain ⟨i, e, h1, h2, h3⟩ := h.has y u hy
      refine ⟨i, e, ?_, h2, h3⟩
      have := hlt i e h1
      rw [Array.getElem?_push, if_neg (by omega)]
      exact h1
  · rcases hget i e he with he | ⟨hi, rfl⟩ <;> rcases hget j e' he' with he' | ⟨hj, rfl⟩
    · exact h.one i j e e' he he' hkk
    · exact absurd hkk (hk i e he)
    · exact absurd hkk.symm (hk j e' he')
    · omega
theorem Mp.modify {k : IntKind} {es : Array MapEntry} {f : Int → Option Value} (h : Mp k es f) {x : Int} {i : Nat} {e : MapEntry} (hi : es[i]? = some e) (hk : e.key = .int k x) (v : Value) : Mp k (es.modify i fun e => { e with key := .int k x, val := v }) (upd f x (some v)) := by
  have hget : ∀ (j : Nat) a, (es.modify i fun e => { e with key := .int k x, val := v })[j]? = some a → (j ≠ i ∧ es[j]? = some a) ∨ (j = i ∧ a = { e with key := .int k x, val := v }) := by
    intro j a ha
    rw [Array.getElem?_modify] at ha
    by_cases hij : i = j
    · subst hij
      rw [if_pos rfl, hi] at ha
      cases ha
      exact .inr ⟨rfl, rfl⟩
    · rw [if_neg hij] at ha
      exact .inl ⟨fun e => hij e.symm, ha⟩
  have hne : ∀ (j : Nat) (a : MapEntry), j ≠ i → es[j]? = some a → a.key ≠ .int k x := fun j a hj ha hka => hj (h.one j i a e ha hi (hka.trans hk.symm))
  refine ⟨fun j a ha => ?_, fun y u hy => ?_, fun j q a a' ha ha' hkk => ?_⟩
  · rcases hget j a ha with ⟨hj, ha⟩ | ⟨_, rfl⟩
    · obtain ⟨y, hy, hf⟩ := h.key j a ha
      refine ⟨y, hy, ?_⟩
      unfold upd
      rw [if_neg (fun hyx => hne j a hj ha (by rw [hy, hyx]))]
      exact hf
    · exact ⟨x, rfl, by unfold upd; rw [if_pos rfl]⟩
  · unfold upd at hy
    split at hy
    · cases hy
      have e0 : y = x := by assumption
      exact ⟨i, { e with key := .int k x, val := v }, by rw [Array.getElem?_modify, if_pos rfl, hi]; rfl, by rw [e0], rfl⟩
    · obtain ⟨j, a, h1, h2, h3⟩ := h.has y u hy
      refine ⟨j, a, ?_, h2, h3⟩
      rw [Array.getElem?_modify, if_neg ?_]
      · exact h1
      · rintro rfl
        rw [hi] at h1
        cases h1
        rw [hk] at h2
        cases h2
        exact absurd rfl (by assumption)
  · rcases hget j a ha with ⟨hj, ha⟩ | ⟨hj, rfl⟩ <;> rcases hget q a' ha' with ⟨hq, ha'⟩ | ⟨hq, rfl⟩
    · exact h.one j q a a' ha ha' hkk
    · exact absurd hkk (hne j a hj ha)
    · exact absurd hkk.symm (hne q a' hq ha')
    · omega
theorem Mp.erase {k : IntKind} {es : Array MapEntry} {f : Int → Option Value} (h : Mp k es f) {x : Int} {i : Nat} {e : MapEntry} (hi : es[i]? = some e) (hk : e.key = .int k x) : Mp k (es.eraseIdxIfInBounds i) (upd f x Option.none) := by
  have hlt : i < es.size := (Array.getElem?_eq_some_iff.1 hi).1
  have hg : ∀ j : Nat, (es.eraseIdxIfInBounds i)[j]? = if j < i then es[j]? else es[j + 1]? := by
    intro j
    unfold Array.eraseIdxIfInBounds
    rw [dif_pos hlt, ← Array.getElem?_toList, Array.toList_eraseIdx, List.getElem?_eraseIdx]
    split <;> simp
  have hne : ∀ (j : Nat) (a : MapEntry), j ≠ i → es[j]? = some a → a.key ≠ .int k x := fun j a hj ha hka => hj (h.one j i a e ha hi (hka.trans hk.symm))
  have hget : ∀ (j : Nat) a, (es.eraseIdxIfInBounds i)[j]? = some a → ∃ q, q ≠ i ∧ es[q]? = some a ∧ q = if j < i then j else j + 1 := by
    intro j a ha
    rw [hg] at ha
    split at ha
    · exact ⟨j, by omega, ha, by rw [if_pos (by assumption)]⟩
    · exact ⟨j + 1, by omega, ha, by rw [if_neg (by assumption)]⟩
  refine ⟨fun j a ha => ?_, fun y u hy => ?_, fun j q a a' ha ha' hkk => ?_⟩
  · obtain ⟨q, hq, ha, _⟩ := hget j a ha
    obtain ⟨y, hy, hf⟩ := h.key q a ha
    refine ⟨y, hy, ?_⟩
    unfold upd
    rw [if_neg (fun hyx => hne q a hq ha (by rw [hy, hyx]))]
    exact hf
  · unfold upd at hy
    split at hy
    · cases hy
    · obtain ⟨j, a, h1, h2, h3⟩ := h.has y u hy
      have hji : j ≠ i := by
        rintro rfl
        rw [hi] at h1
        cases h1
        rw [hk] at h2
        cases h2
        exact absurd rfl (by assumption)
      by_cases hj : j < i
      · exact ⟨j, a, by rw [hg, if_pos hj]; exact h1, h2, h3⟩
      · refine ⟨j - 1, a, ?_, h2, h3⟩
        rw [hg, if_neg (by omega), show j - 1 + 1 = j by omega]
        exact h1
  · obtain ⟨j', hj, ha, ej⟩ := hget j a ha
    obtain ⟨q', hq, ha', eq⟩ := hget q a' ha'
    have := h.one j' q' a a' ha ha' hkk
    split at ej <;> split at eq <;> omega

section
variable {E : Env} {n : Nat} {L : Sl} {w w0 : World} {S : List Nat} {G G0 G1 : List Ent} {d T : Nat} {pos : String} {e : Array Edge} {g : Option (Nat × Bool)} {x y z m : Operand} {QQ : Exit → Act → World → Prop} {Z : Sl → World → Prop}
theorem run_getMap {P : Program} {w : World} {r : Nat} {es : Array MapEntry} {c : Nat} (hb : w.heap[r]? = some (.map es c)) : (getObj r).run P w = .ok (.map es c) w := by
  simp [getObj, Sem.run, hb]
theorem run_checkInt {P : Program} {w : World} {kt : TypeId} {k : IntKind} {i : Int} (hd : P.underlying kt = some (.int k)) (b : Bool) : (Instr.checkKey b 10000 kt (.int k i)).run P w = .ok () w := by
  show (Instr.checkKey b (9999 + 1) kt (.int k i)).run P w = _
  generalize 9999 = q
  unfold Instr.checkKey
  simp [run_underlying hd]
theorem run_findInt {P : Program} {w : World} {kt : TypeId} {k : IntKind} {i : Int} {es : Array MapEntry} {a : Option (Nat × Value)} (hd : P.underlying kt = some (.int k)) (h : Instr.findNow (.int k) (.int k i) es.toList 0 = some a) : (Instr.findKey kt (.int k i) es.toList).run P w = .ok a w := by
  simp [Instr.findKey, run_underlying hd, h]
theorem run_lookup {P : Program} {w : World} {t kt el : TypeId} {k : IntKind} {i : Int} {r c : Nat} {es : Array MapEntry} {f : Int → Option Value} {zv : Value} (b : Bool) (hm : P.underlying t = some (.map kt el)) (hd : P.underlying kt = some (.int k)) (hz : (zeroValue el).run P w = .ok zv w) (hb : w.heap[r]? = some (.map es c)) (hM : Mp k es f) :
    (Instr.lookup t (.map (some r)) (.int k i) b).run P w = .ok (if b then .tuple #[(f i).getD zv, .bool (f i).isSome] else (f i).getD zv) w := by
  unfold Instr.lookup
  cases hf : f i with
  | none => cases b <;> simp [run_underlying hm, run_getMap hb, run_checkInt hd, run_findInt hd (hM.miss hf), hz]
  | some v =>
    obtain ⟨j, e, h1, _⟩ := hM.hit hf
    cases b <;> simp [run_underlying hm, run_getMap hb, run_checkInt hd, run_findInt hd h1]
theorem X.lookup {t kt el r c : Nat} {k : IntKind} {i : Int} {es : Array MapEntry} {f : Int → Option Value} {ti tk te : TyI} {mm : Bool} {v : Value} (hM : Mp k es f) (hp : Pick G r (.map es c) mm G0) (hx : ev L x = some (.map (some r))) (hy : ev L y = some (.int k i))
    (ht : nth E.T t = some (some ti)) (hd : ti.d = .map kt el) (htk : nth E.T kt = some (some tk)) (hdk : tk.d = .int k) (hte : nth E.T el = some (some te)) (hv : (f i).getD te.zero = v) :
    PureOp E n L G ⟨some d, .lookup t x y false, T, pos, e, g⟩ v := by
  obtain ⟨hg, _⟩ := E.ok t ti ht
  rw [hd] at hg
  obtain ⟨hg2, _⟩ := E.ok kt tk htk
  rw [hdk] at hg2
  intro w hG a hs
  have := run_lookup (P := E.P) (w := w) (i := i) false hg hg2 (E.zeroOf w hte) (pick_at hG hp) hM
  simp only [Bool.false_eq_true, if_false, hv] at this
  simp [execOp, hs.eval hx, hs.eval hy, this]
theorem X.lookupOk {t kt el r c : Nat} {k : IntKind} {i : Int} {es : Array MapEntry} {f : Int → Option Value} {ti tk te : TyI} {mm : Bool} {v : Value} {o : Bool} (hM : Mp k es f) (hp : Pick G r (.map es c) mm G0) (hx : ev L x = some (.map (some r))) (hy : ev L y = some (.int k i))
    (ht : nth E.T t = some (some ti)) (hd : ti.d = .map kt el) (htk : nth E.T kt = some (some tk)) (hdk : tk.d = .int k) (hte : nth E.T el = some (some te)) (hv : (f i).getD te.zero = v) (ho : (f i).isSome = o) :
    PureOp E n L G ⟨some d, .lookup t x y true, T, pos, e, g⟩ (.tuple #[v, .bool o]) := by
  obtain ⟨hg, _⟩ := E.ok t ti ht
  rw [hd] at hg
  obtain ⟨hg2, _⟩ := E.ok kt tk htk
  rw [hdk] at hg2
  intro w hG a hs
  have := run_lookup (P := E.P) (w := w) (i := i) true hg hg2 (E.zeroOf w hte) (pick_at hG hp) hM
  simp only [if_true, hv, ho] at this
  simp [execOp, hs.eval hx, hs.eval hy, this]
theorem Y.makeMap {t : Nat} (hn : Nat.blt d n = true) (H : Holds w0 S w G)
    (next : ∀ b w', Holds w0 S w' (⟨b, .map #[] 0, true⟩ :: G) → w0.heap.size ≤ b → Z ((d, .map (some b)) :: L) w') : StepZ E QQ n ⟨some d, .makeMap t none, T, pos, e, g⟩ Z L w := by
  refine StepZ.val (w' := w.alloc (.map #[] 0)) rfl hn (fun a ha => ?_) (next _ _ (H.alloc _ true) H.fr.size)
  have h : (Instr.makeMap t none).run E.P w = .ok (.map (some w.heap.size)) (w.alloc (.map #[] 0)) := rfl
  simp [execOp, h]
theorem sameBits_int (k : IntKind) (i : Int) : Instr.sameBits 10000 (.int k i) (.int k i) = true := by
  show Instr.sameBits (9999 + 1) _ _ = _
  simp [Instr.sameBits]
theorem heapSet {w : World} {r : Nat} {o o' : Obj} (hb : w.heap[r]? = some o) : (w.heap.setIfInBounds r o')[r]? = some o' ∧ (∀ c, c ≠ r → (w.heap.setIfInBounds r o')[c]? = w.heap[c]?) ∧ (w.heap.setIfInBounds r o').size = w.heap.size := by
  have hlt : r < w.heap.size := (Array.getElem?_eq_some_iff.1 hb).1
  exact ⟨by simp [hlt], fun c hne => by simp [Ne.symm hne], by simp⟩
theorem run_setMap {P : Program} {w : World} {r c : Nat} {es : Array MapEntry} {o' : Obj} (hb : w.heap[r]? = some (.map es c)) : (setObj r o').run P w = .ok () { w with heap := w.heap.setIfInBounds r o' } := by
  simp [setObj, Sem.run, hb]
theorem run_update {P : Program} {w : World} {t kt el : TypeId} {k : IntKind} {i : Int} {r c : Nat} {es : Array MapEntry} {f : Int → Option Value} {v : Value} (hm : P.underlying t = some (.map kt el)) (hd : P.underlying kt = some (.int k)) (hb : w.heap[r]? = some (.map es c)) (hM : Mp k es f) :
    ∃ es' c', (Instr.mapUpdate t (.map (some r)) (.int k i) v).run P w = .ok () { w with heap := w.heap.setIfInBounds r (.map es' c') } ∧ Mp k es' (upd f i (some v)) ∧ (es'.size = if (f i).isSome then es.size else es.size + 1) ∧ (MapKept.Stamped es c → MapKept.Stamped es' c') := by
  cases hf : f i with
  | none =>
    refine ⟨es.push ⟨.int k i, v, c⟩, c + 1, ?_, hM.push hf v c, by simp, fun hs => MapKept.stamped_push hs fun x hx hk => ?_⟩
    rotate_left
    · obtain ⟨j, hj⟩ := List.getElem?_of_mem hx
      obtain ⟨y, hy, hfy⟩ := hM.key j x (by simpa using hj)
      rw [hy] at hk
      cases hk
      rw [hf] at hfy
      cases hfy
    simp [Instr.mapUpdate, run_underlying hm, run_getMap hb, run_checkInt hd, run_findInt hd (hM.miss hf), run_setMap hb]
  | some u =>
    obtain ⟨j, e, h1, h2, h3, h4⟩ := hM.hit hf
    refine ⟨es.modify j fun e => { e with key := .int k i, val := v }, c, ?_, hM.modify h2 h3 v, by simp, fun hs => MapKept.stamped_modify hs j _ (fun _ _ => rfl) (fun x _ hx => by rw [h2] at hx; cases hx; exact h3.symm)⟩
    simp [Instr.mapUpdate, run_underlying hm, run_getMap hb, run_checkInt hd, run_findInt hd h1, h2, h3, Instr.keyThatStays, sameBits_int, run_setMap hb]
theorem Y.mapUpdate {t kt el r c : Nat} {k : IntKind} {i : Int} {es : Array MapEntry} {f : Int → Option Value} {ti tk : TyI} {v : Value} (hM : Mp k es f) (H : Holds w0 S w G) (hp : Pick G r (.map es c) true G0) (hx : ev L x = some (.map (some r))) (hy : ev L y = some (.int k i)) (hv : ev L z = some v)
    (ht : nth E.T t = some (some ti)) (hd : ti.d = .map kt el) (htk : nth E.T kt = some (some tk)) (hdk : tk.d = .int k)
    (next : ∀ es' c' w', Holds w0 S w' (⟨r, .map es' c', true⟩ :: G0) → Mp k es' (upd f i (some v)) → (es'.size = if (f i).isSome then es.size else es.size + 1) → (MapKept.Stamped es c → MapKept.Stamped es' c') → Z L w') :
    StepZ E QQ n ⟨none, .mapUpdate t x y z, T, pos, e, g⟩ Z L w := by
  obtain ⟨hg, _⟩ := E.ok t ti ht
  rw [hd] at hg
  obtain ⟨hg2, _⟩ := E.ok kt tk htk
  rw [hdk] at hg2
  have HP := H.perm hp.perm
  have hb := HP.at_ _ (List.mem_cons_self ..)
  obtain ⟨es', c', h1, h2, h3, h4⟩ := run_update (P := E.P) (i := i) (v := v) hg hg2 hb hM
  obtain ⟨k1, k2, k3⟩ := heapSet (o' := .map es' c') hb
  refine StepZ.skipN (w' := { w with heap := w.heap.setIfInBounds r (.map es' c') }) rfl (fun a hs => ?_) (next es' c' _ (HP.put rfl rfl rfl k3 k1 k2) h2 h3 h4)
  simp [execOp, hs.eval hx, hs.eval hy, hs.eval hv, h1]
theorem run_delete {P : Program} {w : World} {t kt el ty : TypeId} {k : IntKind} {i : Int} {r c : Nat} {es : Array MapEntry} {f : Int → Option Value} (hm : P.underlying t = some (.map kt el)) (hd : P.underlying kt = some (.int k)) (hb : w.heap[r]? = some (.map es c)) (hM : Mp k es f) :
    ∃ es', (Builtin.delete_ #[t, kt] ty #[.map (some r), .int k i]).run P w = .ok (.tuple #[]) { w with heap := w.heap.setIfInBounds r (.map es' c) } ∧ Mp k es' (upd f i none) := by
  cases hf : f i with
  | none =>
    refine ⟨es, ?_, ?_⟩
    · simp [Builtin.delete_, run_underlying hm, run_getMap hb, run_checkInt hd, run_findInt hd (hM.miss hf), run_setMap hb]
    · have : upd f i none = f := by
        funext y
        unfold upd
        split
        · subst y; exact hf.symm
        · rfl
      rw [this]
      exact hM
  | some u =>
    obtain ⟨j, e, h1, h2, h3, h4⟩ := hM.hit hf
    refine ⟨es.eraseIdxIfInBounds j, ?_, hM.erase h2 h3⟩
    simp [Builtin.delete_, run_underlying hm, run_getMap hb, run_checkInt hd, run_findInt hd h1, run_setMap hb]
theorem Y.delete {t kt el r c : Nat} {k : IntKind} {i : Int} {es : Array MapEntry} {f : Int → Option Value} {ti tk : TyI} (hM : Mp k es f) (H : Holds w0 S w G) (hp : Pick G r (.map es c) true G0) (hx : ev L x = some (.map (some r))) (hy : ev L y = some (.int k i))
    (ht : nth E.T t = some (some ti)) (hd : ti.d = .map kt el) (htk : nth E.T kt = some (some tk)) (hdk : tk.d = .int k) (hn : Nat.blt d n = true)
    (next : ∀ es' w', Holds w0 S w' (⟨r, .map es' c, true⟩ :: G0) → Mp k es' (upd f i none) → Z ((d, .tuple #[]) :: L) w') :
    StepZ E QQ n ⟨some d, .call { callee := .builtin .delete, args := #[x, y], argTypes := #[t, kt] }, T, pos, e, g⟩ Z L w := by
  obtain ⟨hg, _⟩ := E.ok t ti ht
  rw [hd] at hg
  obtain ⟨hg2, _⟩ := E.ok kt tk htk
  rw [hdk] at hg2
  have HP := H.perm hp.perm
  have hb := HP.at_ _ (List.mem_cons_self ..)
  obtain ⟨es', h1, h2⟩ := run_delete (P := E.P) (i := i) (ty := T) hg hg2 hb hM
  obtain ⟨k1, k2, k3⟩ := heapSet (o' := .map es' c) hb
  refine StepZ.val (w' := { w with heap := w.heap.setIfInBounds r (.map es' c) }) rfl hn (fun a hs => ?_) (next es' _ (HP.put rfl rfl rfl k3 k1 k2) h2)
  simp only [execOp, resolve, Sem.run_bind, Sem.run_pure, Result.andThen_ok, invoke, builtin, List.map_toArray, List.map_cons, List.map_nil, hs.eval hx, hs.eval hy]
  simp [h1]
theorem Y.deleteN {t kt el r c : Nat} {k : IntKind} {i : Int} {es : Array MapEntry} {f : Int → Option Value} {ti tk : TyI} (hM : Mp k es f) (H : Holds w0 S w G) (hp : Pick G r (.map es c) true G0) (hx : ev L x = some (.map (some r))) (hy : ev L y = some (.int k i))
    (ht : nth E.T t = some (some ti)) (hd : ti.d = .map kt el) (htk : nth E.T kt = some (some tk)) (hdk : tk.d = .int k)
    (next : ∀ es' w', Holds w0 S w' (⟨r, .map es' c, true⟩ :: G0) → Mp k es' (upd f i none) → Z L w') :
    StepZ E QQ n ⟨none, .call { callee := .builtin .delete, args := #[x, y], argTypes := #[t, kt] }, T, pos, e, g⟩ Z L w := by
  obtain ⟨hg, _⟩ := E.ok t ti ht
  rw [hd] at hg
  obtain ⟨hg2, _⟩ := E.ok kt tk htk
  rw [hdk] at hg2
  have HP := H.perm hp.perm
  have hb := HP.at_ _ (List.mem_cons_self ..)
  obtain ⟨es', h1, h2⟩ := run_delete (P := E.P) (i := i) (ty := T) hg hg2 hb hM
  obtain ⟨k1, k2, k3⟩ := heapSet (o' := .map es' c) hb
  refine StepZ.valN (v := .tuple #[]) (w' := { w with heap := w.heap.setIfInBounds r (.map es' c) }) rfl (fun a hs => ?_) (next es' _ (HP.put rfl rfl rfl k3 k1 k2) h2)
  simp only [execOp, resolve, Sem.run_bind, Sem.run_pure, Result.andThen_ok, invoke, builtin, List.map_toArray, List.map_cons, List.map_nil, hs.eval hx, hs.eval hy]
  simp [h1]
theorem X.len_map {t kt el r c : Nat} {es : Array MapEntry} {ti : TyI} {mm : Bool} (hx : ev L x = some (.map (some r))) (ht : nth E.T t = some (some ti)) (hd : ti.d = .map kt el) (hp : Pick G r (.map es c) mm G0) :
    PureOp E n L G ⟨some d, .call { callee := .builtin .len, args := #[x], argTypes := #[t] }, T, pos, e, g⟩ (.int .i64 (es.size : Nat)) := by
  obtain ⟨hgood, _⟩ := E.ok t ti ht
  rw [hd] at hgood
  have hgood : E.P.underlying t = some (.map kt el) := hgood
  intro w hG a hs
  have hb := pick_at hG hp
  simp [execOp, hs.eval hx, resolve, invoke, builtin, Builtin.len_, run_underlying hgood, run_getMap hb, goInt]
end
end Go.Proofs.Ytaneenahapdabaa
