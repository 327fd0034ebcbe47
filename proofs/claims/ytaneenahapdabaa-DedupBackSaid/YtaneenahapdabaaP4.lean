/- The plain law of a window: what Put makes of it; which blocks it is. -/
import Derived.Test.YtaneenahapdabaaP3
namespace Go.Proofs.Ytaneenahapdabaa
open Go

def cs0 : CS := ⟨0, [], fun _ => none⟩
def updA (f : Int → Option (List Int)) (x : Int) (v : Option (List Int)) : Int → Option (List Int) := fun y => if y = x then v else f y
def insC (size : Int) (s : CS) (seq : Int) (bs : List Int) : CS :=
  if size < ((insL (bsL s.seqs seq) seq s.seqs).length : Nat) then ⟨(insL (bsL s.seqs seq) seq s.seqs).getD 0 0, (insL (bsL s.seqs seq) seq s.seqs).tail, updA (updA s.ans seq (some bs)) ((insL (bsL s.seqs seq) seq s.seqs).getD 0 0) none⟩
  else ⟨s.floor, insL (bsL s.seqs seq) seq s.seqs, updA s.ans seq (some bs)⟩
/-- Put's answer, and what it leaves of a client. -/
def putE (N : Nat) (s : Option CS) (seq : Int) (bs : List Int) : Int :=
  if seq = 0 then 1 else if 65536 < bs.length then 2 else if askK s seq ≠ 1 then 50 else if s.isNone ∧ 1024 ≤ N then 200 else 0
def putS (size : Int) (N : Nat) (s : Option CS) (seq : Int) (bs : List Int) : Option CS := if putE N s seq bs = 0 then some (insC size (s.getD cs0) seq bs) else s
def putN (N : Nat) (s : Option CS) (seq : Int) (bs : List Int) : Nat := if putE N s seq bs = 0 ∧ s.isNone then N + 1 else N
def footC (c : CL) : List Nat := [c.cb, c.sb, c.ab]
/-- What Put may write. -/
def footP (W : WS) (id : Int) : List Nat := W.mb :: (match W.m id with | none => [] | some c => footC c)
/-- All blocks of a window. -/
def Foot (W : WS) (b : Nat) : Prop := b = W.wb ∨ b = W.mb ∨ ∃ x c, W.m x = some c ∧ b ∈ footC c
def Dj (W W2 : WS) : Prop := ∀ b, Foot W b → ¬ Foot W2 b
theorem footP_foot {W : WS} {id : Int} {b : Nat} (h : b ∈ footP W id) : Foot W b := by
  unfold footP at h
  rcases List.mem_cons.1 h with h | h
  · exact .inr (.inl h)
  · cases hm : W.m id with
    | none => rw [hm] at h; cases h
    | some c => rw [hm] at h; exact .inr (.inr ⟨id, c, hm, h⟩)
/-- What stands at a window's blocks. -/
theorem Wn.foot {w : World} {W : WS} (h : Wn w W) {b : Nat} (hb : Foot W b) : (∃ es k, w.heap[b]? = some (.map es k)) ∨ (∃ ds, w.heap[b]? = some (row ds 61)) ∨ (∃ ds, w.heap[b]? = some (row ds 28)) ∨ ∃ ds, w.heap[b]? = some (row ds 57) := by
  rcases hb with rfl | rfl | ⟨x, c, hx, hc⟩
  · exact .inr (.inr (.inr ⟨_, h.at_⟩))
  · obtain ⟨es, k, _, h1, _⟩ := h.mp
    exact .inl ⟨es, k, h1⟩
  · obtain ⟨⟨v, h1, _⟩, es, k, _, h2, _⟩ := h.cl x c hx
    simp only [footC, List.mem_cons, List.not_mem_nil, or_false] at hc
    rcases hc with rfl | rfl | rfl
    · exact .inr (.inl ⟨_, h1⟩)
    · rcases h.real x c hx with e | ⟨ds, e⟩
      · rw [e]; exact .inr (.inl ⟨_, h1⟩)
      · exact .inr (.inr (.inl ⟨ds, e⟩))
    · exact .inl ⟨es, k, h2⟩
theorem Wn.lt {w : World} {W : WS} (h : Wn w W) {b : Nat} (hb : Foot W b) : b < w.heap.size := by
  rcases h.foot hb with ⟨_, _, h⟩ | ⟨_, h⟩ | ⟨_, h⟩ | ⟨_, h⟩ <;> exact lt_of_at h
theorem Wn.no5 {w : World} {W : WS} (h : Wn w W) {b : Nat} (hb : Foot W b) : No5 w b := by
  rcases h.foot hb with ⟨_, _, h⟩ | ⟨_, h⟩ | ⟨_, h⟩ | ⟨_, h⟩
  · exact No5.map h
  · exact No5.row h (by decide)
  · exact No5.row h (by decide)
  · exact No5.row h (by decide)
/-- Another window stays as it is. -/
theorem Wn.other {w w' : World} {W W2 : WS} {S : List Nat} (h : Wn w W) (h2 : Wn w W2) (hd : Dj W W2) (hf : Fr w w' S) (hS : ∀ b ∈ S, Foot W b) : Wn w' W2 := by
  have k : ∀ b, Foot W2 b → b ∉ S := fun b hb hm => hd b (hS b hm) hb
  have k5 : ∀ b ∈ S, No5 w b := fun b hm => h.no5 (hS b hm)
  obtain ⟨es, q, f, a1, a2⟩ := h2.mp
  have kc : ∀ x c, W2.m x = some c → c.cb ∉ S ∧ c.sb ∉ S ∧ c.ab ∉ S := fun x c hx =>
    ⟨k _ (.inr (.inr ⟨x, c, hx, by simp [footC]⟩)), k _ (.inr (.inr ⟨x, c, hx, by simp [footC]⟩)), k _ (.inr (.inr ⟨x, c, hx, by simp [footC]⟩))⟩
  exact ⟨hf.get h2.at_ (k _ (.inl rfl)), ⟨es, q, f, hf.get a1 (k _ (.inr (.inl rfl))), a2⟩, fun x c hx => (h2.cl x c hx).keep hf (kc x c hx).1 (kc x c hx).2.1 (kc x c hx).2.2 k5,
    fun x c hx => (h2.real x c hx).imp (fun e => e) (fun ⟨ds, hd⟩ => ⟨ds, hf.get hd (kc x c hx).2.1⟩), h2.ne, h2.mb, h2.len, fun es' k' h' => by rw [hf.get a1 (k _ (.inr (.inl rfl)))] at h'; cases h'; exact h2.stp es q a1⟩
def updM (m : Int → Option CL) (x : Int) (c : CL) : Int → Option CL := fun y => if y = x then some c else m y
theorem updM_self (m : Int → Option CL) (x : Int) (c : CL) : updM m x c x = some c := by simp [updM]
theorem updM_ne {m : Int → Option CL} {x y : Int} {c : CL} (h : y ≠ x) : updM m x c y = m y := by simp [updM, h]
/-- Two clients of a window. -/
theorem Wn.apart {w : World} {W : WS} (h : Wn w W) {x y : Int} {c c' : CL} (hxy : x ≠ y) (hx : W.m x = some c) (hy : W.m y = some c') : c'.cb ∉ footC c ∧ c'.sb ∉ footC c ∧ c'.ab ∉ footC c := by
  obtain ⟨⟨v, a1, _⟩, es, k, _, a2, _⟩ := h.cl x c hx
  obtain ⟨⟨v', b1, _⟩, es', k', _, b2, _⟩ := h.cl y c' hy
  obtain ⟨n1, n2, n3⟩ := h.ne x y c c' hxy hx hy
  have m1 : ∀ {b : Nat} {ds : List Value} {t : Nat} {e : Array MapEntry} {q : Nat}, w.heap[b]? = some (row ds t) → w.heap[b]? ≠ some (.map e q) := fun h1 h2 => by rw [h1] at h2; cases h2
  have r1 := h.real x c hx
  have r2 := h.real y c' hy
  simp only [footC, List.mem_cons, List.not_mem_nil, or_false, not_or]
  refine ⟨⟨n1.symm, ?_, fun e => m1 b1 (by rw [e]; exact a2)⟩, ⟨?_, n2.symm, ?_⟩, ⟨fun e => m1 a1 (by rw [← e]; exact b2), ?_, n3.symm⟩⟩
  · rcases r1 with e | ⟨ds, e⟩
    · rw [e]; exact n1.symm
    · exact ne_of_ty b1 e (by decide)
  · rcases r2 with e | ⟨ds, e⟩
    · rw [e]; exact n1.symm
    · exact ne_of_ty e a1 (by decide)
  · rcases r2 with e | ⟨ds, e⟩
    · rw [e]; exact fun e => m1 b1 (by rw [e]; exact a2)
    · exact fun e' => m1 e (by rw [e']; exact a2)
  · rcases r1 with e | ⟨ds, e⟩
    · rw [e]; exact fun e => m1 a1 (by rw [← e]; exact b2)
    · exact fun e' => m1 e (by rw [← e']; exact b2)
/-- One client is another one now. -/
theorem Wn.replace {w w' : World} {W : WS} {id : Int} {c c2 : CL} (h : Wn w W) (hc : W.m id = some c) (hf : Fr w w' (footC c)) (h2 : Cl w' c2) (e1 : c2.cb = c.cb) (e2 : c2.ab = c.ab) (e3 : c2.sb = c.sb ∨ w.heap.size ≤ c2.sb) (hr : c2.sb = c2.cb ∨ ∃ ds, w'.heap[c2.sb]? = some (row ds 28)) (hl : c2.s.seqs.length ≤ 64) :
    Wn w' { W with m := updM W.m id c2 } := by
  obtain ⟨⟨v, a1, _⟩, es, k, _, a2, _⟩ := h.cl id c hc
  obtain ⟨mes, q, f, m1, m2, m3, m4⟩ := h.mp
  have hm1 : ∀ {b : Nat} {ds : List Value} {t : Nat} {e : Array MapEntry} {q : Nat}, w.heap[b]? = some (row ds t) → w.heap[b]? ≠ some (.map e q) := fun h1 h2 => by rw [h1] at h2; cases h2
  have r1 := h.real id c hc
  have hwb : W.wb ∉ footC c := by
    simp only [footC, List.mem_cons, List.not_mem_nil, or_false, not_or]
    refine ⟨ne_of_ty h.at_ a1 (by decide), ?_, fun e => hm1 h.at_ (by rw [e]; exact a2)⟩
    rcases r1 with e | ⟨ds, e⟩
    · rw [e]; exact ne_of_ty h.at_ a1 (by decide)
    · exact ne_of_ty h.at_ e (by decide)
  have hmb : W.mb ∉ footC c := by
    simp only [footC, List.mem_cons, List.not_mem_nil, or_false, not_or]
    refine ⟨fun e => hm1 a1 (by rw [← e]; exact m1), ?_, (h.mb id c hc).symm⟩
    rcases r1 with e | ⟨ds, e⟩
    · rw [e]; exact fun e => hm1 a1 (by rw [← e]; exact m1)
    · exact fun e' => hm1 e (by rw [← e']; exact m1)
  have h5 : ∀ b ∈ footC c, No5 w b := fun b hb => h.no5 (.inr (.inr ⟨id, c, hc, hb⟩))
  have hsplit : ∀ x d, updM W.m id c2 x = some d → (x = id ∧ d = c2) ∨ (x ≠ id ∧ W.m x = some d) := by
    intro x d hx
    by_cases e : x = id
    · subst e
      rw [updM_self] at hx
      cases hx
      exact .inl ⟨rfl, rfl⟩
    · rw [updM_ne e] at hx
      exact .inr ⟨e, hx⟩
  have hsb : ∀ x d, W.m x = some d → d.sb < w.heap.size := fun x d hx => h.lt (.inr (.inr ⟨x, d, hx, by simp [footC]⟩))
  refine ⟨hf.get h.at_ hwb, ⟨mes, q, f, hf.get m1 hmb, m2, m3, fun x => ?_⟩, fun x d hx => ?_, fun x d hx => ?_, fun x y d d' hxy hx hy => ?_, fun x d hx => ?_, fun x d hx => ?_, fun es' k' h' => by rw [hf.get m1 hmb] at h'; cases h'; exact h.stp mes q m1⟩
  · rw [m4 x]
    by_cases e : x = id
    · subst e
      show _ = (updM W.m x c2 x).map _
      rw [updM_self, hc]
      simp [e1]
    · show _ = (updM W.m id c2 x).map _
      rw [updM_ne e]
  · rcases hsplit x d hx with ⟨rfl, rfl⟩ | ⟨hne, hx⟩
    · exact h2
    · obtain ⟨k1, k2, k3⟩ := h.apart (fun e => hne e.symm) hc hx
      exact (h.cl x d hx).keep hf k1 k2 k3 h5
  · rcases hsplit x d hx with ⟨rfl, rfl⟩ | ⟨hne, hx⟩
    · exact hr
    · obtain ⟨k1, k2, k3⟩ := h.apart (fun e => hne e.symm) hc hx
      exact (h.real x d hx).imp (fun e => e) (fun ⟨ds, hd⟩ => ⟨ds, hf.get hd k2⟩)
  · rcases hsplit x d hx with ⟨rfl, rfl⟩ | ⟨hne, hx'⟩ <;> rcases hsplit y d' hy with ⟨rfl, rfl⟩ | ⟨hne', hy'⟩
    · exact absurd rfl hxy
    · obtain ⟨n1, n2, n3⟩ := h.ne x y c d' hxy hc hy'
      have := hsb y d' hy'
      refine ⟨by rw [e1]; exact n1, ?_, by rw [e2]; exact n3⟩
      rcases e3 with e | e
      · rw [e]; exact n2
      · omega
    · obtain ⟨n1, n2, n3⟩ := h.ne x y d c hxy hx' hc
      have := hsb x d hx'
      refine ⟨by rw [e1]; exact n1, ?_, by rw [e2]; exact n3⟩
      rcases e3 with e | e
      · rw [e]; exact n2
      · omega
    · exact h.ne x y d d' hxy hx' hy'
  · rcases hsplit x d hx with ⟨rfl, rfl⟩ | ⟨hne, hx⟩
    · rw [e2]; exact h.mb x c hc
    · exact h.mb x d hx
  · rcases hsplit x d hx with ⟨rfl, rfl⟩ | ⟨hne, hx⟩
    · exact hl
    · exact h.len x d hx
/-- A client more. -/
theorem Wn.more {w w' : World} {W : WS} {id : Int} {c2 : CL} {es : Array MapEntry} {k : Nat} {f f' : Int → Option Value} (h : Wn w W) (hc : W.m id = none) (hf : Fr w w' [W.mb]) (h2 : Cl w' c2) (z1 : w.heap.size ≤ c2.cb) (z2 : c2.sb = c2.cb) (z3 : w.heap.size ≤ c2.ab) (hl : c2.s.seqs.length ≤ 64)
    (hm : w'.heap[W.mb]? = some (.map es k)) (hM : Mp .u64 es f') (hs : es.size = W.N + 1) (hst : MapKept.Stamped es k) (h0 : ∀ x, f x = (W.m x).map fun c => .pointer (some ⟨c.cb, 0, none⟩)) (hu : f' = upd f id (some (.pointer (some ⟨c2.cb, 0, none⟩)))) :
    Wn w' { W with m := updM W.m id c2, N := W.N + 1 } := by
  have hmbl : W.mb < w.heap.size := h.lt (.inr (.inl rfl))
  obtain ⟨mes, q, g, m1, m2, m3, m4⟩ := h.mp
  have hm1 : ∀ {b : Nat} {ds : List Value} {t : Nat} {e : Array MapEntry} {q : Nat}, w.heap[b]? = some (row ds t) → w.heap[b]? ≠ some (.map e q) := fun h1 h2 => by rw [h1] at h2; cases h2
  have hlt : ∀ x d, W.m x = some d → d.cb < w.heap.size ∧ d.sb < w.heap.size ∧ d.ab < w.heap.size := fun x d hx =>
    ⟨h.lt (.inr (.inr ⟨x, d, hx, by simp [footC]⟩)), h.lt (.inr (.inr ⟨x, d, hx, by simp [footC]⟩)), h.lt (.inr (.inr ⟨x, d, hx, by simp [footC]⟩))⟩
  have hsplit : ∀ x d, updM W.m id c2 x = some d → (x = id ∧ d = c2) ∨ (x ≠ id ∧ W.m x = some d) := by
    intro x d hx
    by_cases e : x = id
    · subst e
      rw [updM_self] at hx
      cases hx
      exact .inl ⟨rfl, rfl⟩
    · rw [updM_ne e] at hx
      exact .inr ⟨e, hx⟩
  have hk : ∀ x d, W.m x = some d → d.cb ∉ [W.mb] ∧ d.sb ∉ [W.mb] ∧ d.ab ∉ [W.mb] := by
    intro x d hx
    obtain ⟨⟨v, a1, _⟩, _⟩ := h.cl x d hx
    refine ⟨?_, ?_, by simpa using h.mb x d hx⟩
    · simp only [List.mem_singleton]
      exact fun e => hm1 a1 (by rw [e]; exact m1)
    · simp only [List.mem_singleton]
      rcases h.real x d hx with e | ⟨ds, e⟩
      · rw [e]; exact fun e => hm1 a1 (by rw [e]; exact m1)
      · exact fun e' => hm1 e (by rw [e']; exact m1)
  refine ⟨hf.get h.at_ ?_, ⟨es, k, f', hm, hM, hs, fun x => ?_⟩, fun x d hx => ?_, fun x d hx => ?_, fun x y d d' hxy hx hy => ?_, fun x d hx => ?_, fun x d hx => ?_, fun es' k' h' => by rw [hm] at h'; cases h'; exact hst⟩
  · simp only [List.mem_singleton]
    exact fun e => hm1 h.at_ (by rw [e]; exact m1)
  · show f' x = (updM W.m id c2 x).map _
    rw [hu]
    by_cases e : x = id
    · subst e
      rw [updM_self]
      simp [upd]
    · rw [updM_ne e]
      simp only [upd, if_neg e]
      exact h0 x
  · rcases hsplit x d hx with ⟨rfl, rfl⟩ | ⟨hne, hx⟩
    · exact h2
    · exact (h.cl x d hx).keep hf (hk x d hx).1 (hk x d hx).2.1 (hk x d hx).2.2 (fun b hb => h.no5 (by simp at hb; exact .inr (.inl hb)))
  · rcases hsplit x d hx with ⟨rfl, rfl⟩ | ⟨hne, hx⟩
    · exact .inl z2
    · exact (h.real x d hx).imp (fun e => e) (fun ⟨ds, hd⟩ => ⟨ds, hf.get hd (hk x d hx).2.1⟩)
  · rcases hsplit x d hx with ⟨rfl, rfl⟩ | ⟨hne, hx'⟩ <;> rcases hsplit y d' hy with ⟨rfl, rfl⟩ | ⟨hne', hy'⟩
    · exact absurd rfl hxy
    · obtain ⟨l1, l2, l3⟩ := hlt y d' hy'
      omega
    · obtain ⟨l1, l2, l3⟩ := hlt x d hx'
      omega
    · exact h.ne x y d d' hxy hx' hy'
  · rcases hsplit x d hx with ⟨rfl, rfl⟩ | ⟨hne, hx⟩
    · show d.ab ≠ W.mb
      omega
    · exact h.mb x d hx
  · rcases hsplit x d hx with ⟨rfl, rfl⟩ | ⟨hne, hx⟩
    · exact hl
    · exact h.len x d hx
end Go.Proofs.Ytaneenahapdabaa
