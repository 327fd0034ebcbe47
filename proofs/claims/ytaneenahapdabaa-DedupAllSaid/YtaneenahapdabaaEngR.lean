/- The engine of the proofs, part R: what the reading of an argument tells of memory. No statement of the seat is proved here. -/
import Derived.Test.YtaneenahapdabaaEngE
import Derived.ProofKit
import Derived.OpenShut
import Derived.Deep.Slices
import Derived.ChangeOld
namespace Go.Proofs.Ytaneenahapdabaa
open Go

/-- A slice in memory: n elements of sz cells; F i: the cells of element i. -/
def Arr (w : World) (v : Value) (sz n : Nat) (F : Nat → List Value) : Prop :=
  ∃ a cap, v = .slice a n cap ∧ n ≤ cap ∧ cap ≤ 9223372036854775807 ∧ (a = none → n = 0 ∧ cap = 0) ∧
    (0 < n → ∃ b off cs T fz, a = some ⟨b, off, none⟩ ∧ w.heap[b]? = some (.cells cs T fz) ∧ ∀ i, i < n → Cs cs.toList (off + i * sz) sz (F i))

theorem cs_of_get {cs : List Value} : ∀ (n i : Nat) (vs : List Value), vs.length = n → (∀ j, j < n → cs[i + j]? = vs[j]?) → Cs cs i n vs
  | 0, i, vs, hl, _ => by
    have : vs = [] := List.eq_nil_of_length_eq_zero hl
    subst this
    exact .nil
  | n + 1, i, vs, hl, h => by
    cases vs with
    | nil => simp at hl
    | cons v vs =>
      refine .cons (by simpa using h 0 (by omega)) (cs_of_get n (i + 1) vs (by simpa using hl) fun j hj => ?_)
      have := h (j + 1) (by omega)
      rw [show i + 1 + j = i + (j + 1) by omega]
      simpa using this

theorem cells?_spec {w : World} {a : Addr} {n : Nat} {vs : List Value} (h : w.cells? 0 a n = some vs) : vs.length = n ∧ ∀ j, j < n → w.cell? (a.add j) = vs[j]? := by
  unfold World.cells? at h
  rw [if_pos (Nat.zero_le _)] at h
  have key : ∀ (l : List Nat) (vs : List Value), (l.mapM fun i => w.cell? (a.add i)) = some vs → vs.length = l.length ∧ ∀ j (hj : j < l.length), w.cell? (a.add l[j]) = vs[j]? := by
    intro l
    induction l with
    | nil => intro vs h; simp at h; subst h; simp
    | cons x l ih =>
      intro vs h
      simp only [List.mapM_cons, Option.bind_eq_bind, Option.bind_eq_some_iff] at h
      obtain ⟨v, h1, us, h2, h3⟩ := h
      simp at h3
      subst h3
      obtain ⟨e1, e2⟩ := ih us h2
      refine ⟨by simp [e1], fun j hj => ?_⟩
      cases j with
      | zero => simpa using h1
      | succ j => simpa using e2 j (by simpa using hj)
  obtain ⟨e1, e2⟩ := key _ _ h
  refine ⟨by simpa using e1, fun j hj => ?_⟩
  have := e2 j (by simpa using hj)
  simpa using this

section
variable {H : Type} {enc : TypeId × Value → H} {P : Program} {w : World} {spare : Nat → Bool} {held : Bool}

theorem cell_plain {w : World} {a : Addr} {v : Value} (h : w.cell? a = some v) : ∃ cs T fz, w.heap[a.block]? = some (.cells cs T fz) ∧ a.spot = none ∧ cs[a.off]? = some v := by
  unfold World.cell? at h
  split at h
  · rename_i c e f hb
    cases hs : a.spot with
    | none => simp [hs] at h; exact ⟨c, e, f, hb, rfl, h⟩
    | some _ => simp [hs] at h
  · simp at h

theorem arr_of_trod {t e sz fuel : Nat} {cs : List Value} {x : DataW H × List MemPlace} (ht : P.underlying t = some (.slice e)) (hsz : P.cellsOf e = sz) (h0 : 0 < sz) (h : DataW.trod enc P w 0 spare held fuel t cs = some x) :
    ∃ v n F, cs = [v] ∧ Arr w v sz n F ∧ ∀ i, i < n → ∃ m y, DataW.trod enc P w 0 spare held m e (F i) = some y := by
  subst hsz
  rcases Go.Deep.open_slice ht h with ⟨rfl, _⟩ | ⟨a, len, cap, m, q, D, Pl, rfl, hb, hl, hm, hmm, _, hx⟩
  · exact ⟨_, 0, fun _ => [], rfl, ⟨none, 0, rfl, Nat.le_refl _, by omega, fun _ => ⟨rfl, rfl⟩, fun h => absurd h (Nat.lt_irrefl 0)⟩, fun i hi => absurd hi (Nat.not_lt_zero _)⟩
  · have hle : len ≤ m := by rw [hmm]; split <;> omega
    obtain ⟨F, hF⟩ := Go.Deep.choose_lt (α := List Value) (p := fun i cs' => w.cells? 0 (a.add (i * P.cellsOf e)) (P.cellsOf e) = some cs' ∧ DataW.trod enc P w 0 spare held q e cs' = some (D i, Pl i)) hx
    refine ⟨_, len, F, rfl, ⟨some a, cap, rfl, hl, by simp only [maxLen] at hm; omega, fun h => (nomatch h), fun hpos => ?_⟩, fun i hi => ⟨q, _, (hF i (by omega)).2⟩⟩
    obtain ⟨hl0, hc0⟩ := cells?_spec (hF 0 (by omega)).1
    have hv : ∃ v, (F 0)[0]? = some v := by
      cases hF0 : F 0 with
      | nil => rw [hF0] at hl0; simp at hl0; omega
      | cons v r => exact ⟨v, rfl⟩
    obtain ⟨v, hv⟩ := hv
    have hcell := (hc0 0 h0).trans hv
    rw [Nat.zero_mul] at hcell
    have hcell : w.cell? a = some v := by simpa [Addr.add] using hcell
    obtain ⟨cells, T, fz, hheap, hspot, _⟩ := cell_plain hcell
    obtain ⟨b, off, spot⟩ := a
    dsimp only at hspot hheap
    subst hspot
    refine ⟨b, off, cells, T, fz, rfl, hheap, fun i hi => ?_⟩
    obtain ⟨hli, hci⟩ := cells?_spec (hF i (by omega)).1
    refine cs_of_get _ _ _ hli fun j hj => ?_
    have := hci j hj
    rw [Addr.add_lit, Addr.add_lit] at this
    rw [← this]
    simp [World.cell?, hheap]

theorem Arr.mem {w : World} {v : Value} {sz n : Nat} {F : Nat → List Value} (h : Arr w v sz n F) : ∃ a cap, v = .slice a n cap ∧ n ≤ cap ∧ cap ≤ 9223372036854775807 :=
  let ⟨a, cap, h1, h2, h3, _⟩ := h
  ⟨a, cap, h1, h2, h3⟩

theorem Arr.get {w : World} {v : Value} {sz n : Nat} {F : Nat → List Value} (h : Arr w v sz n F) (hn : 0 < n) :
    ∃ b off cap cs T fz, v = .slice (some ⟨b, off, none⟩) n cap ∧ n ≤ cap ∧ cap ≤ 9223372036854775807 ∧ w.heap[b]? = some (.cells (List.toArray cs) T fz) ∧ ∀ i, i < n → Cs cs (off + i * sz) sz (F i) := by
  obtain ⟨a, cap, rfl, h2, h3, _, h5⟩ := h
  obtain ⟨b, off, cs, T, fz, rfl, h6, h7⟩ := h5 hn
  exact ⟨b, off, cap, cs.toList, T, fz, rfl, h2, h3, by simpa using h6, h7⟩

/-- The cells of an integer: one, in its kind's range. -/
def IsInt (k : IntKind) (lo hi : Int) (cs : List Value) : Prop := ∃ n, cs = [.int k n] ∧ lo ≤ n ∧ n ≤ hi
theorem int_of_trod {t fuel : Nat} {k : IntKind} {cs : List Value} {x : DataW H × List MemPlace} (ht : P.underlying t = some (.int k)) (h : DataW.trod enc P w 0 spare held fuel t cs = some x) : IsInt k k.min k.max cs := by
  obtain ⟨n, rfl, _, hwf⟩ := DataW.trod_int ht h
  simp only [Lit.wf, Bool.and_eq_true, decide_eq_true_eq] at hwf
  exact ⟨n, rfl, hwf.1, hwf.2⟩
theorem bool_of_trod {t fuel : Nat} {cs : List Value} {x : DataW H × List MemPlace} (ht : P.underlying t = some .bool) (h : DataW.trod enc P w 0 spare held fuel t cs = some x) : ∃ b, cs = [.bool b] := by
  obtain ⟨b, rfl, _⟩ := DataW.trod_bool ht h
  exact ⟨b, rfl⟩
theorem str_of_trod {t fuel : Nat} {cs : List Value} {x : DataW H × List MemPlace} (ht : P.underlying t = some .string) (h : DataW.trod enc P w 0 spare held fuel t cs = some x) : ∃ s : ByteArray, cs = [.string s] ∧ s.size ≤ 9223372036854775807 := by
  obtain ⟨s, rfl, _, hs⟩ := DataW.trod_string ht h
  exact ⟨s, rfl, by simp only [maxLen] at hs; omega⟩
/-- A struct's fields, each by its own cells. -/
theorem struct_of_trod {t fuel : Nat} {fs : Array Field} {cs : List Value} {x : DataW H × List MemPlace} (ht : P.underlying t = some (.struct fs)) (h : DataW.trod enc P w 0 spare held fuel t cs = some x) :
    cs.length = P.cellsOf t ∧ ∀ (i : Nat) (f : Field), fs[i]? = some f → ∃ m y, DataW.trod enc P w 0 spare held m f.type ((cs.drop f.offset).take (P.cellsOf f.type)) = some y := by
  obtain ⟨xs, m, _, _, hl, hxs, hf⟩ := DataW.trod_struct ht h
  refine ⟨hl, fun i f hi => ?_⟩
  have hlt : i < xs.length := by rw [hxs]; exact (Array.getElem?_eq_some_iff.1 hi).1
  exact ⟨m, xs[i], by rw [hf i f hi, List.getElem?_eq_getElem hlt]⟩
end

section
variable {E : Env} {H : Type} {enc : TypeId × Value → H} {w : World} {spare : Nat → Bool} {held : Bool} {t fuel : Nat} {cs : List Value} {x : DataW H × List MemPlace} {ti : TyI}
theorem Env.cells {t sz : Nat} (h : tySize E.T t = some sz) : E.P.cellsOf t = sz := by
  unfold tySize at h
  split at h
  · rename_i d s b z hn
    simp at h
    subst h
    obtain ⟨_, i, hi, hs, _⟩ := E.ok t _ hn
    simp [Program.cellsOf, hi, hs]
  · cases h
theorem tint (k : IntKind) (lo hi : Int) (ht : nth E.T t = some (some ti)) (hd : ti.d = .int k) (hlo : k.min = lo) (hhi : k.max = hi) (h : DataW.trod enc E.P w 0 spare held fuel t cs = some x) : ∃ n, cs = [.int k n] ∧ lo ≤ n ∧ n ≤ hi := by
  obtain ⟨hg, _⟩ := E.ok t ti ht
  rw [hd] at hg
  subst hlo hhi
  exact int_of_trod hg h
theorem tbool (ht : nth E.T t = some (some ti)) (hd : ti.d = .bool) (h : DataW.trod enc E.P w 0 spare held fuel t cs = some x) : ∃ b, cs = [.bool b] := by
  obtain ⟨hg, _⟩ := E.ok t ti ht
  rw [hd] at hg
  exact bool_of_trod hg h
theorem tstr (ht : nth E.T t = some (some ti)) (hd : ti.d = .str) (h : DataW.trod enc E.P w 0 spare held fuel t cs = some x) : ∃ s : ByteArray, cs = [.string s] ∧ s.size ≤ 9223372036854775807 := by
  obtain ⟨hg, _⟩ := E.ok t ti ht
  rw [hd] at hg
  exact str_of_trod hg h
theorem tarr {el sz : Nat} (ht : nth E.T t = some (some ti)) (hd : ti.d = .slice el) (hsz : tySize E.T el = some sz) (h0 : Nat.blt 0 sz = true) (h : DataW.trod enc E.P w 0 spare held fuel t cs = some x) :
    ∃ v n F, cs = [v] ∧ Arr w v sz n F ∧ ∀ i, i < n → ∃ m y, DataW.trod enc E.P w 0 spare held m el (F i) = some y := by
  obtain ⟨hg, _⟩ := E.ok t ti ht
  rw [hd] at hg
  exact arr_of_trod hg (E.cells hsz) (by simpa using h0) h
theorem tstruct {fs : List (Nat × Nat)} (ht : nth E.T t = some (some ti)) (hd : ti.d = .agg fs) (h : DataW.trod enc E.P w 0 spare held fuel t cs = some x) :
    cs.length = ti.size ∧ ∀ (i off ty sz : Nat), nth fs i = some (off, ty) → tySize E.T ty = some sz → ∃ m y, DataW.trod enc E.P w 0 spare held m ty ((cs.drop off).take sz) = some y := by
  obtain ⟨hg, j, hj, hs, _⟩ := E.ok t ti ht
  rw [hd] at hg
  obtain ⟨fl, hu, hm⟩ := hg
  obtain ⟨hl, hf⟩ := struct_of_trod hu h
  refine ⟨by rw [hl]; simp [Program.cellsOf, hj, hs], fun i off ty sz hi hty => ?_⟩
  rw [nth_eq, ← hm] at hi
  simp at hi
  obtain ⟨fd, h1, h2, h3⟩ := hi
  obtain ⟨m, y, h4⟩ := hf i fd (by simpa using h1)
  rw [h2, h3, E.cells hty] at h4
  exact ⟨m, y, h4⟩
end

theorem Fr.below {w w' : World} (h : Fr w w' []) : Go.RowKit.Below w.heap.size w w' := ⟨h.os, h.tape, h.output, h.size, fun k hk => h.same k hk (by simp)⟩

/-- A law's contract, as its row wants it. -/
theorem law_calls {P : Program} {f : FuncId} {args : List Value} {w : World} (h : Fn P f args w fun v w' => v = .bool true ∧ Fr w w' []) :
    Calls P f args.toArray w fun e w' => e = .returned (.bool true) ∧ Go.RowKit.Below w.heap.size w w' :=
  Calls.mono h fun _ _ ⟨_, he, hv, hf⟩ => ⟨by rw [he, hv], hf.below⟩
end Go.Proofs.Ytaneenahapdabaa
