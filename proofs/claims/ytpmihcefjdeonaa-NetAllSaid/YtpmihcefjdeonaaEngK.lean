/- The engine of the proofs, part K: maps whose keys are structs. No statement of the seat is proved here. -/
import Derived.Test.YtpmihcefjdeonaaEngM
import Derived.Laws.StructEq
namespace Go.Proofs.Ytpmihcefjdeonaa
open Go
/-- A type of keys that are compared part by part. -/
structure KOk (P : Program) (kt : TypeId) {κ : Type} [DecidableEq κ] (ky : κ → Value) : Prop where
  inj : ∀ a b, ky a = ky b → a = b
  st : ∃ fs, P.underlying kt = some (.struct fs)
  chk : ∀ b a w, (Instr.checkKey b 10000 kt (ky a)).run P w = .ok () w
  eq : ∀ a b w, (Op.equal kt (ky a) (ky b)).run P w = .ok (decide (a = b)) w
  same : ∀ a, Instr.sameBits 10000 (ky a) (ky a) = true
section
variable {κ : Type} [DecidableEq κ] {ky : κ → Value} {P : Program} {kt : TypeId}
theorem find_ask (K : KOk P kt ky) {w : World} (x : κ) (l : List MapEntry) (i : Nat) (h : ∀ e ∈ l, ∃ y, e.key = ky y) :
    ((Instr.findAsking kt (ky x) l i).run P w = .ok none w ∧ ∀ e ∈ l, e.key ≠ ky x) ∨ ∃ j e, (Instr.findAsking kt (ky x) l i).run P w = .ok (some (i + j, e.val)) w ∧ l[j]? = some e ∧ e.key = ky x := by
  induction l generalizing i with
  | nil => exact .inl ⟨by simp [Instr.findAsking], by simp⟩
  | cons e es ih =>
    obtain ⟨y, hy⟩ := h e (List.mem_cons_self ..)
    have he : (Op.equal kt (ky x) e.key).run P w = .ok (decide (x = y)) w := by rw [hy]; exact K.eq x y w
    by_cases hxy : x = y
    · subst hxy
      exact .inr ⟨0, e, by simp [Instr.findAsking, he], rfl, hy⟩
    · have h1 : (Instr.findAsking kt (ky x) (e :: es) i).run P w = (Instr.findAsking kt (ky x) es (i + 1)).run P w := by
        simp [Instr.findAsking, he, hxy]
      rcases ih (i + 1) (fun e he => h e (List.mem_cons_of_mem _ he)) with ⟨h2, h3⟩ | ⟨j, e', h2, h3, h4⟩
      · refine .inl ⟨h1.trans h2, fun e' he' => ?_⟩
        rcases List.mem_cons.1 he' with rfl | he'
        · rw [hy]; exact fun e => hxy (K.inj _ _ e).symm
        · exact h3 e' he'
      · exact .inr ⟨j + 1, e', by rw [h1, h2]; simp; omega, by simpa using h3, h4⟩
theorem find_key (K : KOk P kt ky) {w : World} (x : κ) (l : List MapEntry) (h : ∀ e ∈ l, ∃ y, e.key = ky y) :
    ((Instr.findKey kt (ky x) l).run P w = .ok none w ∧ ∀ e ∈ l, e.key ≠ ky x) ∨ ∃ (j : Nat) (e : MapEntry), (Instr.findKey kt (ky x) l).run P w = .ok (some (j, e.val)) w ∧ l[j]? = some e ∧ e.key = ky x := by
  obtain ⟨fs, hs⟩ := K.st
  cases l with
  | nil => exact .inl ⟨by simp [Instr.findKey, run_underlying hs, Instr.findNow], by simp⟩
  | cons e es =>
    have h0 : Instr.findNow (.struct fs) (ky x) (e :: es) 0 = none := by simp [Instr.findNow, Instr.sameNow]
    have h1 : (Instr.findKey kt (ky x) (e :: es)).run P w = (Instr.findAsking kt (ky x) (e :: es) 0).run P w := by simp [Instr.findKey, run_underlying hs, h0]
    rcases find_ask (w := w) K x (e :: es) 0 h with ⟨h2, h3⟩ | ⟨j, e', h2, h3, h4⟩
    · exact .inl ⟨h1.trans h2, h3⟩
    · exact .inr ⟨j, e', by rw [h1, h2]; simp, h3, h4⟩
end
/-- A map's entries, by their keys. -/
structure Mk {κ : Type} (ky : κ → Value) (es : Array MapEntry) (f : κ → Option Value) : Prop where
  key : ∀ (i : Nat) e, es[i]? = some e → ∃ x, e.key = ky x ∧ f x = some e.val
  has : ∀ x v, f x = some v → ∃ (i : Nat) (e : MapEntry), es[i]? = some e ∧ e.key = ky x ∧ e.val = v
  one : ∀ (i j : Nat) (e e' : MapEntry), es[i]? = some e → es[j]? = some e' → e.key = e'.key → i = j
theorem Mk.empty {κ : Type} {ky : κ → Value} : Mk ky #[] fun _ => none := ⟨by simp, by simp, by simp⟩
section
variable {κ : Type} [DecidableEq κ] {ky : κ → Value} {P : Program} {kt : TypeId} {es : Array MapEntry} {f : κ → Option Value}
theorem Mk.miss (h : Mk ky es f) (K : KOk P kt ky) {w : World} {x : κ} (hx : f x = none) : (Instr.findKey kt (ky x) es.toList).run P w = .ok none w := by
  rcases find_key (w := w) K x es.toList (fun e he => by obtain ⟨i, hi⟩ := List.getElem?_of_mem he; obtain ⟨y, hy, _⟩ := h.key i e (by simpa using hi); exact ⟨y, hy⟩) with ⟨h1, _⟩ | ⟨j, e, _, h2, h3⟩
  · exact h1
  · obtain ⟨y, hy, hf⟩ := h.key j e (by simpa using h2)
    rw [hy] at h3
    rw [K.inj _ _ h3, hx] at hf
    cases hf
theorem Mk.hit (h : Mk ky es f) (K : KOk P kt ky) {w : World} {x : κ} {v : Value} (hx : f x = some v) : ∃ i e, (Instr.findKey kt (ky x) es.toList).run P w = .ok (some (i, v)) w ∧ es[i]? = some e ∧ e.key = ky x ∧ e.val = v := by
  rcases find_key (w := w) K x es.toList (fun e he => by obtain ⟨i, hi⟩ := List.getElem?_of_mem he; obtain ⟨y, hy, _⟩ := h.key i e (by simpa using hi); exact ⟨y, hy⟩) with ⟨_, h2⟩ | ⟨j, e, h1, h2, h3⟩
  · obtain ⟨i, e, h3, h4, _⟩ := h.has x v hx
    exact absurd h4 (h2 e (by simpa using List.mem_of_getElem? (by simpa using h3 : es.toList[i]? = some e)))
  · have h2 : es[j]? = some e := by simpa using h2
    obtain ⟨y, hy, hf⟩ := h.key j e h2
    have hxy : y = x := by rw [hy] at h3; exact K.inj _ _ h3
    subst hxy
    rw [hx] at hf
    cases hf
    exact ⟨j, e, by simpa using h1, h2, h3, rfl⟩
def updk (f : κ → Option Value) (x : κ) (v : Option Value) : κ → Option Value := fun y => if y = x then v else f y
theorem Mk.push (h : Mk ky es f) (inj : ∀ a b, ky a = ky b → a = b) {x : κ} (hx : f x = none) (v : Value) (c : Nat) : Mk ky (es.push ⟨ky x, v, c⟩) (updk f x (some v)) := by
  have hk : ∀ (i : Nat) (e : MapEntry), es[i]? = some e → e.key ≠ ky x := by
    intro i e he hk
    obtain ⟨y, hy, hf⟩ := h.key i e he
    rw [hy] at hk
    rw [inj _ _ hk, hx] at hf
    cases hf
  have hlt : ∀ (i : Nat) (e : MapEntry), es[i]? = some e → i < es.size := fun i e he => (Array.getElem?_eq_some_iff.1 he).1
  have hget : ∀ (i : Nat) e, (es.push ⟨ky x, v, c⟩)[i]? = some e → (es[i]? = some e) ∨ (i = es.size ∧ e = ⟨ky x, v, c⟩) := by
    intro i e he
    rw [Array.getElem?_push] at he
    split at he
    · exact .inr ⟨by assumption, by cases he; rfl⟩
    · exact .inl he
  refine ⟨fun i e he => ?_, fun y u hy => ?_, fun i j e e' he he' hkk => ?_⟩
  · rcases hget i e he with he | ⟨_, rfl⟩
    · obtain ⟨y, hy, hf⟩ := h.key i e he
      refine ⟨y, hy, ?_⟩
      unfold updk
      rw [if_neg (fun hyx => hk i e he (by rw [hy, hyx]))]
      exact hf
    · exact ⟨x, rfl, by unfold updk; rw [if_pos rfl]⟩
  · unfold updk at hy
    split at hy
    · cases hy
      have e0 : y = x := by assumption
      exact ⟨es.size, ⟨ky x, v, c⟩, by simp, by rw [e0], rfl⟩
    · obtain ⟨i, e, h1, h2, h3⟩ := h.has y u hy
      refine ⟨i, e, ?_, h2, h3⟩
      have := hlt i e h1
      rw [Array.getElem?_push, if_neg (by omega)]
      exact h1
  · rcases hget i e he with he | ⟨hi, rfl⟩ <;> rcases hget j e' he' with he' | ⟨hj, rfl⟩
    · exact h.one i j e e' he he' hkk
    · exact absurd hkk (hk i e he)
    · exact absurd hkk.symm (hk j e' he')
    · omega
theorem Mk.modify (h : Mk ky es f) (inj : ∀ a b, ky a = ky b → a = b) {x : κ} {i : Nat} {e : MapEntry} (hi : es[i]? = some e) (hk : e.key = ky x) (v : Value) : Mk ky (es.modify i fun e => { e with key := ky x, val := v }) (updk f x (some v)) := by
  have hget : ∀ (j : Nat) a, (es.modify i fun e => { e with key := ky x, val := v })[j]? = some a → (j ≠ i ∧ es[j]? = some a) ∨ (j = i ∧ a = { e with key := ky x, val := v }) := by
    intro j a ha
    rw [Array.getElem?_modify] at ha
    by_cases hij : i = j
    · subst hij
      rw [if_pos rfl, hi] at ha
      cases ha
      exact .inr ⟨rfl, rfl⟩
    · rw [if_neg hij] at ha
      exact .inl ⟨fun e => hij e.symm, ha⟩
  have hne : ∀ (j : Nat) (a : MapEntry), j ≠ i → es[j]? = some a → a.key ≠ ky x := fun j a hj ha hka => hj (h.one j i a e ha hi (hka.trans hk.symm))
  refine ⟨fun j a ha => ?_, fun y u hy => ?_, fun j q a a' ha ha' hkk => ?_⟩
  · rcases hget j a ha with ⟨hj, ha⟩ | ⟨_, rfl⟩
    · obtain ⟨y, hy, hf⟩ := h.key j a ha
      refine ⟨y, hy, ?_⟩
      unfold updk
      rw [if_neg (fun hyx => hne j a hj ha (by rw [hy, hyx]))]
      exact hf
    · exact ⟨x, rfl, by unfold updk; rw [if_pos rfl]⟩
  · unfold updk at hy
    split at hy
    · cases hy
      have e0 : y = x := by assumption
      exact ⟨i, { e with key := ky x, val := v }, by rw [Array.getElem?_modify, if_pos rfl, hi]; rfl, by rw [e0], rfl⟩
    · obtain ⟨j, a, h1, h2, h3⟩ := h.has y u hy
      refine ⟨j, a, ?_, h2, h3⟩
      rw [Array.getElem?_modify, if_neg ?_]
      · exact h1
      · rintro rfl
        rw [hi] at h1
        cases h1
        rw [hk] at h2
        exact absurd (inj _ _ h2).symm (by assumption)
  · rcases hget j a ha with ⟨hj, ha⟩ | ⟨hj, rfl⟩ <;> rcases hget q a' ha' with ⟨hq, ha'⟩ | ⟨hq, rfl⟩
    · exact h.one j q a a' ha ha' hkk
    · exact absurd hkk (hne j a hj ha)
    · exact absurd hkk.symm (hne q a' hq ha')
    · omega
end
section
variable {κ : Type} [DecidableEq κ] {ky : κ → Value} {f : κ → Option Value} {E : Env} {n : Nat} {L : Sl} {w w0 : World} {S : List Nat} {G G0 G1 : List Ent} {d T : Nat} {pos : String} {e : Array Edge} {g : Option (Nat × Bool)} {x y z m : Operand} {QQ : Exit → Act → World → Prop} {Z : Sl → World → Prop}
theorem run_lookupK {P : Program} {w : World} {t kt el : TypeId} {i : κ} {r c : Nat} {es : Array MapEntry} {zv : Value} (K : KOk P kt ky) (hm : P.underlying t = some (.map kt el)) (hz : (zeroValue el).run P w = .ok zv w) (hb : w.heap[r]? = some (.map es c)) (hM : Mk ky es f) :
    (Instr.lookup t (.map (some r)) (ky i) false).run P w = .ok ((f i).getD zv) w := by
  unfold Instr.lookup
  cases hf : f i with
  | none => simp [run_underlying hm, run_getMap hb, K.chk, hM.miss K hf, hz]
  | some v =>
    obtain ⟨j, e, h1, _⟩ := hM.hit K (w := w) hf
    simp [run_underlying hm, run_getMap hb, K.chk, h1]
theorem X.lookupK {t kt el r c : Nat} {i : κ} {es : Array MapEntry} {ti te : TyI} {mm : Bool} {v : Value} (K : KOk E.P kt ky) (hM : Mk ky es f) (hp : Pick G r (.map es c) mm G0) (hx : ev L x = some (.map (some r))) (hy : ev L y = some (ky i))
    (ht : nth E.T t = some (some ti)) (hd : ti.d = .map kt el) (hte : nth E.T el = some (some te)) (hv : (f i).getD te.zero = v) :
    PureOp E n L G ⟨some d, .lookup t x y false, T, pos, e, g⟩ v := by
  obtain ⟨hg, _⟩ := E.ok t ti ht
  rw [hd] at hg
  intro w hG a hs
  have := run_lookupK (P := E.P) (w := w) (i := i) K hg (E.zeroOf w hte) (pick_at hG hp) hM
  simp only [hv] at this
  simp [execOp, hs.eval hx, hs.eval hy, this]
theorem run_updateK {P : Program} {w : World} {t kt el : TypeId} {i : κ} {r c : Nat} {es : Array MapEntry} {v : Value} (K : KOk P kt ky) (hm : P.underlying t = some (.map kt el)) (hb : w.heap[r]? = some (.map es c)) (hM : Mk ky es f) :
    ∃ es' c', (Instr.mapUpdate t (.map (some r)) (ky i) v).run P w = .ok () { w with heap := w.heap.setIfInBounds r (.map es' c') } ∧ Mk ky es' (updk f i (some v)) ∧ (MapKept.Stamped es c → MapKept.Stamped es' c') ∧ ((f i).isSome → es'.toList.map (·.born) = es.toList.map (·.born) ∧ c' = c) := by
  cases hf : f i with
  | none =>
    refine ⟨es.push ⟨ky i, v, c⟩, c + 1, ?_, hM.push K.inj hf v c, fun hs => MapKept.stamped_push hs fun x hx hk => ?_, by simp⟩
    rotate_left
    · obtain ⟨j, hj⟩ := List.getElem?_of_mem hx
      obtain ⟨y, hy, hfy⟩ := hM.key j x (by simpa using hj)
      rw [hy] at hk
      rw [K.inj _ _ hk, hf] at hfy
      cases hfy
    simp [Instr.mapUpdate, run_underlying hm, run_getMap hb, K.chk, hM.miss K hf, run_setMap hb]
  | some u =>
    obtain ⟨j, e, h1, h2, h3, h4⟩ := hM.hit K (w := w) hf
    refine ⟨es.modify j fun e => { e with key := ky i, val := v }, c, ?_, hM.modify K.inj h2 h3 v, fun hs => MapKept.stamped_modify hs j _ (fun _ _ => rfl) (fun x _ hx => by rw [h2] at hx; cases hx; exact h3.symm), fun _ => ⟨?_, rfl⟩⟩
    · simp [Instr.mapUpdate, run_underlying hm, run_getMap hb, K.chk, h1, h2, h3, Instr.keyThatStays, K.same, run_setMap hb]
    · apply List.ext_getElem?
      intro q
      simp only [List.getElem?_map, Array.getElem?_toList, Array.getElem?_modify]
      by_cases hq : j = q
      · subst hq
        cases he : es[j]? with
        | none => simp
        | some e => simp
      · simp [hq]
theorem Y.mapUpdateK {t kt el r c : Nat} {i : κ} {es : Array MapEntry} {ti : TyI} {v : Value} (K : KOk E.P kt ky) (hM : Mk ky es f) (H : Holds w0 S w G) (hp : Pick G r (.map es c) true G0) (hx : ev L x = some (.map (some r))) (hy : ev L y = some (ky i)) (hv : ev L z = some v)
    (ht : nth E.T t = some (some ti)) (hd : ti.d = .map kt el)
    (next : ∀ es' c' w', Holds w0 S w' (⟨r, .map es' c', true⟩ :: G0) → Mk ky es' (updk f i (some v)) → (MapKept.Stamped es c → MapKept.Stamped es' c') → ((f i).isSome → es'.toList.map (·.born) = es.toList.map (·.born) ∧ c' = c) → Z L w') :
    StepZ E QQ n ⟨none, .mapUpdate t x y z, T, pos, e, g⟩ Z L w := by
  obtain ⟨hg, _⟩ := E.ok t ti ht
  rw [hd] at hg
  have HP := H.perm hp.perm
  have hb := HP.at_ _ (List.mem_cons_self ..)
  obtain ⟨es', c', h1, h2, h4, h5⟩ := run_updateK (P := E.P) (i := i) (v := v) K hg hb hM
  obtain ⟨k1, k2, k3⟩ := heapSet (o' := .map es' c') hb
  refine StepZ.skipN (w' := { w with heap := w.heap.setIfInBounds r (.map es' c') }) rfl (fun a hs => ?_) (next es' c' _ (HP.put rfl rfl rfl k3 k1 k2) h2 h4 h5)
  simp [execOp, hs.eval hx, hs.eval hy, hs.eval hv, h1]
end
theorem AnyS.mono {P : Program} {ops : Array Oper} {Q : Exit → Act → World → Prop} {S S' : World → Prop} {nd : Nat → Bool} (hs : ∀ w, S' w → S w) : ∀ (m : Nat) (listed : Array Bool) (a : Act) (w : World), AnyS P ops Q S' nd m listed a w → AnyS P ops Q S nd m listed a w
  | 0, _, _, _, h => h
  | m + 1, _, _, _, h => ⟨h.1, fun i hi => wpOp_mono (fun _ _ h' => by
      split at h'
      · rename_i hn
        rw [if_pos hn]
        exact ⟨hs _ h'.1, AnyS.mono hs m _ _ _ h'.2⟩
      · rename_i hn
        rw [if_neg hn]
        exact h') (h.2 i hi)⟩
/-- From here on more is known. -/
theorem Draw.more {E : Env} {f : FuncId} {R : Ending → World → Prop} {n : Nat} {ops : List Oper} {k : Sl → World → Prop} {L : Sl} {w w0 : World} {S : List Nat} {G G' : List Ent} {tl td : List Nat} {m : Nat} {listed : Array Bool} (H : Holds w0 S w G') (hs : ∀ e ∈ G, ∃ e' ∈ G', e'.b = e.b ∧ e'.o = e.o) (h : Draw E f R n ops k G' tl td m listed L w) : Draw E f R n ops k G tl td m listed L w :=
  fun _ a ha => AnyS.mono (fun w hw e he => by obtain ⟨e', h1, h2, h3⟩ := hs e he; rw [← h2, ← h3]; exact hw e' h1) m listed a w (h H.at_ a ha)
/-- Three operations ready at once. -/
theorem Draw.eff3 {E : Env} {f : FuncId} {R : Ending → World → Prop} {n : Nat} {ops : List Oper} {k : Sl → World → Prop} {L : Sl} {w : World} {G : List Ent} {tl td : List Nat} {m i j l : Nat} {oi oj ol : Oper} {listed : Array Bool} (td1 td2 td3 : List Nat) (hi : nth ops i = some oi) (gi : gok ops L oi = some true) (hj : nth ops j = some oj) (gj : gok ops L oj = some true) (hl : nth ops l = some ol) (gl : gok ops L ol = some true)
    (hr : (Region.ready .any ops.toArray listed == [i, j, l] && !tl.contains i && !tl.contains j && !tl.contains l) = true)
    (h1 : StepZ E (QK E.P f R n k) n oi (fun L' w' => Kept G w' ∧ Draw E f R n ops k G tl td1 m (listed.setIfInBounds i true) L' w') L w)
    (h2 : StepZ E (QK E.P f R n k) n oj (fun L' w' => Kept G w' ∧ Draw E f R n ops k G tl td2 m (listed.setIfInBounds j true) L' w') L w)
    (h3 : StepZ E (QK E.P f R n k) n ol (fun L' w' => Kept G w' ∧ Draw E f R n ops k G tl td3 m (listed.setIfInBounds l true) L' w') L w) : Draw E f R n ops k G tl td (m + 1) listed L w := by
  intro hS a ha
  simp only [Bool.and_eq_true, beq_iff_eq] at hr
  obtain ⟨⟨⟨hr1, hr2⟩, hr3⟩, hr4⟩ := hr
  refine ⟨fun h0 => (by rw [hr1] at h0; cases h0), fun q hq => ?_⟩
  rw [hr1] at hq
  simp only [List.mem_cons, List.not_mem_nil, or_false] at hq
  rcases hq with rfl | rfl | rfl
  · refine wpOp_of hi (gok_wanted ha gi) (h1 a _ ha fun L' w' a' hz hs => ?_)
    rw [if_pos hr2]
    exact ⟨hz.1, hz.2 hz.1 a' hs⟩
  · refine wpOp_of hj (gok_wanted ha gj) (h2 a _ ha fun L' w' a' hz hs => ?_)
    rw [if_pos hr3]
    exact ⟨hz.1, hz.2 hz.1 a' hs⟩
  · refine wpOp_of hl (gok_wanted ha gl) (h3 a _ ha fun L' w' a' hz hs => ?_)
    rw [if_pos hr4]
    exact ⟨hz.1, hz.2 hz.1 a' hs⟩
end Go.Proofs.Ytpmihcefjdeonaa
