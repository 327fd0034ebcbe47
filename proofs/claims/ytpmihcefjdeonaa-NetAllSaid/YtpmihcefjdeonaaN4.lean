/- What a network is when a box, or who is there, is another. No statement of the seat is proved here. -/
import Derived.Test.YtpmihcefjdeonaaN3
namespace Go.Proofs.Ytpmihcefjdeonaa
open Go
set_option maxHeartbeats 1000000
section
variable {w w' : World} {g : PG} {S : List Nat}
def updb {α : Type} (f : Nat → α) (i : Nat) (v : α) : Nat → α := fun x => if x = i then v else f x
theorem updb_self {α : Type} (f : Nat → α) (i : Nat) (v : α) : updb f i v i = v := by simp [updb]
theorem updb_ne {α : Type} {f : Nat → α} {i x : Nat} {v : α} (h : x ≠ i) : updb f i v x = f x := by simp [updb, h]
theorem abs_updb (g : PG) (i : Nat) (ob : Option Nat) (l : List ((Nat × List Int) × Value)) : PG.abs { g with bx := updb g.bx i ob, box := updb g.box i l } = g.abs.setB i (l.map (·.1)) := by
  unfold PG.abs Ns.setB
  congr 1
  funext x
  simp only [updb]
  split <;> rfl
theorem abs_updu (g : PG) (i : Nat) (b : Bool) : PG.abs { g with up := updb g.up i b } = g.abs.setU i b := rfl
/-- A box that is another one. -/
theorem PN.setBox {i : Nat} {cs : List Value} {v' : Value} {ob' : Option Nat} {ms' : List ((Nat × List Int) × Value)} (h : PN w g) (hi : i < g.n) (hf : Fr w w' S) (hS : ∀ b ∈ S, b = g.xb ∨ g.bx i = some b)
    (hx : w.heap[g.xb]? = some (row cs 72)) (hx' : w'.heap[g.xb]? = some (row (cs.set i v') 72)) (hL : Lst w' v' ob' 52 2 ms'.length (ms'.flatMap msC)) (ho : ∀ b, ob' = some b → g.bx i = some b ∨ w.heap.size ≤ b)
    (hbn : ∀ p ∈ ms', p ∈ g.box i ∨ (Bts w' p.2 p.1.2 ∧ ∀ b, blkV p.2 = some b → w.heap.size ≤ b)) (h1 : ∀ (k l : Nat) (p q : (Nat × List Int) × Value) (b : Nat), ms'[k]? = some p → ms'[l]? = some q → blkV p.2 = some b → blkV q.2 = some b → k = l) : PStep w g w' { g with bx := updb g.bx i ob', box := updb g.box i ms' } := by
  have hk : KT [72, 52] w w' := KT.of hf (fun b hb => by
    rcases hS b hb with rfl | e
    · exact ⟨cs, 72, by simp, hx⟩
    · obtain ⟨cs, hc⟩ := h.tyBox hi e; exact ⟨cs, 52, by simp, hc⟩)
  have hb : ∀ p ∈ ms', Bts w' p.2 p.1.2 := fun p hp => by
    rcases hbn p hp with h1 | h1
    · exact (h.boxb i hi p h1).kt hk (by simp)
    · exact h1.1
  have h2 : ∀ p ∈ ms', ∀ b, blkV p.2 = some b → (∃ q ∈ g.box i, blkV q.2 = some b) ∨ w.heap.size ≤ b := fun p hp b e => by
    rcases hbn p hp with h1 | h1
    · exact .inl ⟨p, h1, e⟩
    · exact .inr (h1.2 b e)
  obtain ⟨cu, cx, fv, a1, a2, a3, a4, a5, a6⟩ := h.net
  obtain ⟨us, u1, u2⟩ := h.upr
  obtain ⟨xs, x1, x2, x3⟩ := h.boxr
  obtain ⟨es, k, f, m1, m2⟩ := h.mp
  obtain rfl : xs = cs := by rw [hx] at x1; simp at x1; exact x1.symm
  have hM : ∀ b, PM { g with bx := updb g.bx i ob', box := updb g.box i ms' } b → PM g b ∨ w.heap.size ≤ b := by
    rintro b ⟨j, p, hj, hp, e⟩
    by_cases hij : j = i
    · subst hij
      replace hp : p ∈ updb g.box j ms' j := hp
      rw [updb_self] at hp
      rcases h2 p hp b e with ⟨q, hq, e'⟩ | e'
      · exact .inl ⟨j, q, hj, hq, e'⟩
      · exact .inr e'
    · replace hp : p ∈ updb g.box i ms' j := hp
      rw [updb_ne hij] at hp
      exact .inl ⟨j, p, hj, hp, e⟩
  have hlt : ∀ {j q : Nat}, j < g.n → g.bx j = some q → q < w.heap.size := fun hj hq => h.lt (.inl (.inr (.inr (.inr (.inr (.inr (.inl ⟨_, hj, hq⟩)))))))
  have hM' : ∀ {j : Nat} {p : (Nat × List Int) × Value} {b : Nat}, j < g.n → p ∈ g.box j → blkV p.2 = some b → b < w.heap.size := fun hj hp e => h.ltM ⟨_, _, hj, hp, e⟩
  refine ⟨⟨⟨cu, cx, fv, hk.row _ _ _ (by simp) a1, a2, a3, a4, a5, a6.kt hk (by simp)⟩, fun p hp => (h.flyb p hp).kt hk (by simp), ⟨us, hk.row _ _ _ (by simp) u1, u2⟩, ⟨_, hx', by simpa using x2, fun j hj => ?_⟩, fun j hj p hp => ?_, ⟨es, k, f, hk.map _ _ _ m1, m2⟩,
    fun a c hc => (h.wayr a c hc).kt hk (by simp) (by simp), fun a c hc p hp => (h.wayb a c hc p hp).kt hk (by simp), h.rng, h.n64, h.dw, fun j q r hj hq hne e => ?_, fun j q k l p p' b hj hq hp hp' e e' => ?_, fun b hb hi => ?_⟩, ⟨S, hf, fun b hb => .inl ?_⟩, fun b hb => ?_, fun b hb => .inl hb, rfl, rfl⟩
  · by_cases hij : j = i
    · subst hij
      have hlen : j < xs.length := by omega
      refine ⟨v', by simp [hlen], ?_⟩
      show Lst w' v' (updb g.bx j ob' j) 52 2 (updb g.box j ms' j).length ((updb g.box j ms' j).flatMap msC)
      rw [updb_self, updb_self]
      exact hL
    · obtain ⟨v, e1, e2⟩ := x3 j hj
      refine ⟨v, by rw [List.getElem?_set_ne (fun e => hij e.symm)]; exact e1, ?_⟩
      show Lst w' v (updb g.bx i ob' j) 52 2 (updb g.box i ms' j).length ((updb g.box i ms' j).flatMap msC)
      rw [updb_ne hij, updb_ne hij]
      refine e2.keep hf (fun b hb hm => ?_)
      rcases hS b hm with e | e
      · have := rows_ne (h.tyBox hj hb) (by rw [e]; exact h.tyXb); omega
      · exact h.dx j i b hj hi hij hb e
  · by_cases hij : j = i
    · subst hij
      replace hp : p ∈ updb g.box j ms' j := hp
      rw [updb_self] at hp
      exact hb p hp
    · replace hp : p ∈ updb g.box i ms' j := hp
      rw [updb_ne hij] at hp
      exact (h.boxb j hj p hp).kt hk (by simp)
  · replace e : updb g.bx i ob' j = some r := e
    show updb g.bx i ob' q ≠ some r
    intro e'
    by_cases hji : j = i
    · subst hji
      rw [updb_self] at e
      rw [updb_ne (fun e => hne e.symm)] at e'
      rcases ho r e with e1 | e1
      · exact h.dx j q r hj hq hne e1 e'
      · have := hlt hq e'; omega
    · rw [updb_ne hji] at e
      by_cases hqi : q = i
      · subst hqi
        rw [updb_self] at e'
        rcases ho r e' with e1 | e1
        · exact h.dx j q r hj hq hne e e1
        · have := hlt hj e; omega
      · rw [updb_ne hqi] at e'
        exact h.dx j q r hj hq hne e e'
  · replace hp : (updb g.box i ms' j)[k]? = some p := hp
    replace hp' : (updb g.box i ms' q)[l]? = some p' := hp'
    by_cases hji : j = i <;> by_cases hqi : q = i
    · subst hji
      subst hqi
      rw [updb_self] at hp hp'
      exact ⟨rfl, h1 k l p p' b hp hp' e e'⟩
    · subst hji
      rw [updb_self] at hp
      rw [updb_ne hqi] at hp'
      rcases h2 p (List.mem_of_getElem? hp) b e with ⟨r, hr, e1⟩ | e1
      · obtain ⟨z, hz⟩ := List.getElem?_of_mem hr
        exact absurd (h.dm j q z l r p' b hj hq hz hp' e1 e').1 (fun e => hqi e.symm)
      · have := hM' hq (List.mem_of_getElem? hp') e'; omega
    · subst hqi
      rw [updb_ne hji] at hp
      rw [updb_self] at hp'
      rcases h2 p' (List.mem_of_getElem? hp') b e' with ⟨r, hr, e1⟩ | e1
      · obtain ⟨z, hz⟩ := List.getElem?_of_mem hr
        exact absurd (h.dm j q k z p r b hj hq hp hz e e1).1 hji
      · have := hM' hj (List.mem_of_getElem? hp) e; omega
    · rw [updb_ne hji] at hp
      rw [updb_ne hqi] at hp'
      exact h.dm j q k l p p' b hj hq hp hp' e e'
  · rcases hM b hb with h3 | h3
    · exact h.di b h3 hi
    · have := h.ltI hi; omega
  · rcases hS b hb with e | e
    · exact .inr (.inr (.inr (.inl e)))
    · exact .inr (.inr (.inr (.inr (.inr (.inl ⟨i, hi, e⟩)))))
  · rcases hb with (e | e | e | e | e | ⟨j, hj, e⟩ | e) | e
    · exact .inl (.inl (.inl e))
    · exact .inl (.inl (.inr (.inl e)))
    · exact .inl (.inl (.inr (.inr (.inl e))))
    · exact .inl (.inl (.inr (.inr (.inr (.inl e)))))
    · exact .inl (.inl (.inr (.inr (.inr (.inr (.inl e))))))
    · replace e : updb g.bx i ob' j = some b := e
      by_cases hji : j = i
      · subst hji
        rw [updb_self] at e
        rcases ho b e with e1 | e1
        · exact .inl (.inl (.inr (.inr (.inr (.inr (.inr (.inl ⟨j, hj, e1⟩)))))))
        · exact .inr e1
      · rw [updb_ne hji] at e
        exact .inl (.inl (.inr (.inr (.inr (.inr (.inr (.inl ⟨j, hj, e⟩)))))))
    · exact .inl (.inl (.inr (.inr (.inr (.inr (.inr (.inr e)))))))
    · rcases hM b e with h3 | h3
      · exact .inl (.inr h3)
      · exact .inr h3
/-- Another one is there, or is not. -/
theorem PN.setUp {i : Nat} {cs : List Value} {v : Bool} (h : PN w g) (hi : i < g.n) (hf : Fr w w' [g.ub]) (hx : w.heap[g.ub]? = some (row cs 4)) (hx' : w'.heap[g.ub]? = some (row (cs.set i (.bool v)) 4)) : PStep w g w' { g with up := updb g.up i v } := by
  have hk : KT [4] w w' := KT.of hf (fun b hb => by simp at hb; subst hb; exact ⟨cs, 4, by simp, hx⟩)
  obtain ⟨cu, cx, fv, a1, a2, a3, a4, a5, a6⟩ := h.net
  obtain ⟨us, u1, u2, u3⟩ := h.upr
  obtain ⟨xs, x1, x2, x3⟩ := h.boxr
  obtain ⟨es, k, f, m1, m2⟩ := h.mp
  obtain rfl : us = cs := by rw [hx] at u1; simp at u1; exact u1.symm
  refine ⟨⟨⟨cu, cx, fv, hk.row _ _ _ (by simp) a1, a2, a3, a4, a5, a6.kt hk (by simp)⟩, fun p hp => (h.flyb p hp).kt hk (by simp), ⟨_, hx', by simpa using u2, fun j hj => ?_⟩, ⟨xs, hk.row _ _ _ (by simp) x1, x2, fun i hi => ?_⟩, fun i hi p hp => (h.boxb i hi p hp).kt hk (by simp), ⟨es, k, f, hk.map _ _ _ m1, m2⟩,
    fun a c hc => (h.wayr a c hc).kt hk (by simp) (by simp), fun a c hc p hp => (h.wayb a c hc p hp).kt hk (by simp), h.rng, h.n64, h.dw, h.dx, h.dm, h.di⟩, ⟨_, hf, fun b hb => by simp at hb; exact .inl (.inr (.inl hb))⟩, fun b hb => .inl hb, fun b hb => .inl hb, rfl, rfl⟩
  · show _ = some (Value.bool (updb g.up i v j))
    by_cases e : j = i
    · subst e
      rw [updb_self, List.getElem?_set_self (by omega)]
    · rw [updb_ne e, List.getElem?_set_ne (fun h => e h.symm)]
      exact u3 j hj
  · obtain ⟨v, h1, h2⟩ := x3 i hi
    exact ⟨v, h1, h2.kt hk (by simp)⟩
end
end Go.Proofs.Ytpmihcefjdeonaa
