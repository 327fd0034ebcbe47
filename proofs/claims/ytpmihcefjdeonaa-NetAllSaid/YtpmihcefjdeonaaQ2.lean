/- What the document's network is when one part of it is another. No statement of the seat is proved here. -/
import Derived.Test.YtpmihcefjdeonaaQ1
namespace Go.Proofs.Ytpmihcefjdeonaa
open Go
set_option maxHeartbeats 1000000
section
variable {w w' : World} {g : RG} {S : List Nat}
theorem rwC_len (c : RW) : (rwC c).length = 4 := rfl
/-- Another way. -/
theorem RN.setWay {i j : Nat} {c : RW} {off cap : Nat} {cs : List Value} (h : RN w g) (hi : i < g.n) (hj : j < g.n) (hf : Fr w w' [g.rows i]) (hv : g.rv i = .slice (some ⟨g.rows i, off, none⟩) g.n cap) (hc : w.heap[g.rows i]? = some (row cs 99)) (hc' : w'.heap[g.rows i]? = some (row (putC cs (off + j * 4) (rwC c)) 99))
    (hL : Lst w' c.sv c.sb 28 1 c.ss.length (c.ss.map (·.2))) (hbn : ∀ p ∈ c.ss, Bts w' p.2 p.1 ∧ ∀ b, blkV p.2 = some b → RB g b ∨ w.heap.size ≤ b) (ho : ∀ b, c.sb = some b → (g.way (i, j)).sb = some b ∨ w.heap.size ≤ b) : RStep w g w' { g with way := upda g.way (i, j) c } := by
  have hk : KT [99] w w' := KT.of hf (fun b hb => by simp at hb; subst hb; exact ⟨cs, 99, by simp, hc⟩)
  obtain ⟨tv, yv, xv, av, a1, a2, a3, a4, a5⟩ := h.net
  have hsplit : ∀ i' j', (i', j') = (i, j) ∨ upda g.way (i, j) c (i', j') = g.way (i', j') := fun i' j' => by
    by_cases e : (i', j') = (i, j)
    · exact .inl e
    · exact .inr (upda_ne e)
  refine ⟨⟨⟨tv, yv, xv, av, hk.row _ _ _ (by simp) a1, a2.kt hk (by simp), a3.kt hk (by simp), a4.kt hk (by simp), a5.kt hk (by simp)⟩, fun i' hi' => ?_, fun i hi => (h.box i hi).kt hk (by simp), fun i' j' hi' hj' => ?_, fun p hp => (h.airb p hp).kt hk (by simp), fun i hi p hp => (h.boxb i hi p hp).kt hk (by simp), fun i' j' hi' hj' p hp => ?_, h.n64, h.dr⟩,
    ⟨_, hf, fun b hb => by simp at hb; exact .inr (.inr (.inr (.inr (.inr (.inl ⟨i, hi, .inl hb⟩)))))⟩, fun b hb => ?_, rfl, rfl, h⟩
  · by_cases e : i' = i
    · subst e
      have h1 := h.rowr i' hi'
      rw [hv] at h1
      obtain ⟨off', cap', cs', e1, e2, e3, e4, e5, e6⟩ := h1
      cases e1
      rw [hc] at e4
      simp at e4
      subst e4
      show Lst w' (g.rv i') (some (g.rows i')) 99 4 g.n ((List.range g.n).flatMap fun j' => rwC (upda g.way (i', j) c (i', j')))
      rw [hv]
      have hle : g.n * 4 ≤ cap * 4 := Nat.mul_le_mul_right _ e2
      refine ⟨off, cap, _, rfl, e2, e3, hc', by rw [putC_length]; exact e5, (e6.setAt (fun _ => rwC_len _) hj (rwC_len c) (by omega)).cast rfl rfl (flat_congr fun q hq => ?_)⟩
      by_cases e : q = j
      · subst e; rw [updb_self, upda_self]
      · rw [updb_ne e, upda_ne (by simp [e])]
    · have h1 := (h.rowr i' hi').keep hf (fun b hb hm => by cases hb; simp at hm; exact h.dr i' i hi' hi e hm)
      show Lst w' (g.rv i') (some (g.rows i')) 99 4 g.n ((List.range g.n).flatMap fun j' => rwC (upda g.way (i, j) c (i', j')))
      have e2 : ((List.range g.n).flatMap fun j' => rwC (upda g.way (i, j) c (i', j'))) = (List.range g.n).flatMap fun j' => rwC (g.way (i', j')) := flat_congr fun q hq => by rw [upda_ne (by simp [e])]
      rw [e2]
      exact h1
  · show Lst w' (upda g.way (i, j) c (i', j')).sv (upda g.way (i, j) c (i', j')).sb 28 1 (upda g.way (i, j) c (i', j')).ss.length ((upda g.way (i, j) c (i', j')).ss.map (·.2))
    rcases hsplit i' j' with e | e
    · rw [e, upda_self]; exact hL
    · rw [e]; exact (h.sent i' j' hi' hj').kt hk (by simp)
  · replace hp : p ∈ (upda g.way (i, j) c (i', j')).ss := hp
    rcases hsplit i' j' with e | e
    · rw [e, upda_self] at hp; exact (hbn p hp).1
    · rw [e] at hp; exact (h.sentb i' j' hi' hj' p hp).kt hk (by simp)
  · rcases hb with (e | e | e | e | e | e | ⟨i', j', hi', hj', e⟩) | (e | e | ⟨i', j', p, hi', hj', hp, e⟩)
    · exact .inl (.inl (.inl e))
    · exact .inl (.inl (.inr (.inl e)))
    · exact .inl (.inl (.inr (.inr (.inl e))))
    · exact .inl (.inl (.inr (.inr (.inr (.inl e)))))
    · exact .inl (.inl (.inr (.inr (.inr (.inr (.inl e))))))
    · exact .inl (.inl (.inr (.inr (.inr (.inr (.inr (.inl e)))))))
    · replace e : (upda g.way (i, j) c (i', j')).sb = some b := e
      rcases hsplit i' j' with e' | e'
      · rw [e', upda_self] at e
        rcases ho b e with e | e
        · exact .inl (.inl (.inr (.inr (.inr (.inr (.inr (.inr ⟨i, j, hi, hj, e⟩)))))))
        · exact .inr e
      · rw [e'] at e
        exact .inl (.inl (.inr (.inr (.inr (.inr (.inr (.inr ⟨i', j', hi', hj', e⟩)))))))
    · exact .inl (.inr (.inl e))
    · exact .inl (.inr (.inr (.inl e)))
    · replace hp : p ∈ (upda g.way (i, j) c (i', j')).ss := hp
      rcases hsplit i' j' with e' | e'
      · rw [e', upda_self] at hp
        rcases (hbn p hp).2 b e with h1 | h1
        · exact .inl (.inr h1)
        · exact .inr h1
      · rw [e'] at hp
        exact .inl (.inr (.inr (.inr ⟨i', j', p, hi', hj', hp, e⟩)))
/-- Another list of messages that wait. -/
theorem RN.setBox {i off cap : Nat} {cs : List Value} {v' : Value} {ob' : Option Nat} {ms' : List ((Nat × List Int) × Value)} (h : RN w g) (hi : i < g.n) (hf : Fr w w' [g.xb]) (hv : ∃ tv yv av, w.heap[g.rb]? = some (row [tv, yv, .slice (some ⟨g.xb, off, none⟩) g.n cap, av] 69)) (hc : w.heap[g.xb]? = some (row cs 72)) (hc' : w'.heap[g.xb]? = some (row (putC cs (off + i * 1) [v']) 72))
    (hL : Lst w' v' ob' 52 2 ms'.length (ms'.flatMap msC)) (hbn : ∀ p ∈ ms', Bts w' p.2 p.1.2 ∧ ∀ b, blkV p.2 = some b → RB g b ∨ w.heap.size ≤ b) (ho : ∀ b, ob' = some b → g.bx i = some b ∨ w.heap.size ≤ b) : RStep w g w' { g with bv := updb g.bv i v', bx := updb g.bx i ob', box := updb g.box i ms' } := by
  have hk : KT [72] w w' := KT.of hf (fun b hb => by simp at hb; subst hb; exact ⟨cs, 72, by simp, hc⟩)
  obtain ⟨tv, yv, xv, av, a1, a2, a3, a4, a5⟩ := h.net
  obtain ⟨tv0, yv0, av0, hv⟩ := hv
  rw [a1] at hv
  simp at hv
  obtain ⟨rfl, rfl, rfl, rfl⟩ := hv
  obtain ⟨off', cap', cs', e1, e2, e3, e4, e5, e6⟩ := a4
  cases e1
  rw [hc] at e4
  simp at e4
  subst e4
  refine ⟨⟨⟨_, _, _, _, hk.row _ _ _ (by simp) a1, a2.kt hk (by simp), a3.kt hk (by simp), ⟨off, cap, _, rfl, e2, e3, hc', by rw [putC_length]; exact e5, (e6.setAt (fun _ => rfl) hi rfl (by omega)).cast rfl rfl (flat_congr fun q hq => ?_)⟩, a5.kt hk (by simp)⟩, fun i hi => (h.rowr i hi).kt hk (by simp), fun q hq => ?_, fun i j hi hj => (h.sent i j hi hj).kt hk (by simp), fun p hp => (h.airb p hp).kt hk (by simp), fun q hq p hp => ?_, fun i j hi hj p hp => (h.sentb i j hi hj p hp).kt hk (by simp), h.n64, h.dr⟩,
    ⟨_, hf, fun b hb => by simp at hb; exact .inr (.inr (.inr (.inl hb)))⟩, fun b hb => ?_, rfl, rfl, h⟩
  · by_cases e : q = i
    · subst e; simp [updb_self]
    · simp [updb_ne e]
  · show Lst w' (updb g.bv i v' q) (updb g.bx i ob' q) 52 2 (updb g.box i ms' q).length ((updb g.box i ms' q).flatMap msC)
    by_cases e : q = i
    · subst e
      rw [updb_self, updb_self, updb_self]
      exact hL
    · rw [updb_ne e, updb_ne e, updb_ne e]
      exact (h.box q hq).kt hk (by simp)
  · replace hp : p ∈ updb g.box i ms' q := hp
    by_cases e : q = i
    · subst e
      rw [updb_self] at hp
      exact (hbn p hp).1
    · rw [updb_ne e] at hp
      exact (h.boxb q hq p hp).kt hk (by simp)
  · rcases hb with (e | e | e | e | e | ⟨q, hq, e | e⟩ | e) | (e | ⟨q, p, hq, hp, e⟩ | e)
    · exact .inl (.inl (.inl e))
    · exact .inl (.inl (.inr (.inl e)))
    · exact .inl (.inl (.inr (.inr (.inl e))))
    · exact .inl (.inl (.inr (.inr (.inr (.inl e)))))
    · exact .inl (.inl (.inr (.inr (.inr (.inr (.inl e))))))
    · exact .inl (.inl (.inr (.inr (.inr (.inr (.inr (.inl ⟨q, hq, .inl e⟩)))))))
    · replace e : updb g.bx i ob' q = some b := e
      by_cases hqi : q = i
      · subst hqi
        rw [updb_self] at e
        rcases ho b e with e | e
        · exact .inl (.inl (.inr (.inr (.inr (.inr (.inr (.inl ⟨q, hq, .inr e⟩)))))))
        · exact .inr e
      · rw [updb_ne hqi] at e
        exact .inl (.inl (.inr (.inr (.inr (.inr (.inr (.inl ⟨q, hq, .inr e⟩)))))))
    · exact .inl (.inl (.inr (.inr (.inr (.inr (.inr (.inr e)))))))
    · exact .inl (.inr (.inl e))
    · replace hp : p ∈ updb g.box i ms' q := hp
      by_cases hqi : q = i
      · subst hqi
        rw [updb_self] at hp
        rcases (hbn p hp).2 b e with h1 | h1
        · exact .inl (.inr h1)
        · exact .inr h1
      · rw [updb_ne hqi] at hp
        exact .inl (.inr (.inr (.inl ⟨q, p, hq, hp, e⟩)))
    · exact .inl (.inr (.inr (.inr e)))
/-- Another one is there, or is not. -/
theorem RN.setUp {i off cap : Nat} {cs : List Value} {v : Bool} (h : RN w g) (hi : i < g.n) (hf : Fr w w' [g.tb]) (hv : ∃ yv xv av, w.heap[g.rb]? = some (row [.slice (some ⟨g.tb, off, none⟩) g.n cap, yv, xv, av] 69)) (hc : w.heap[g.tb]? = some (row cs 4)) (hc' : w'.heap[g.tb]? = some (row (putC cs (off + i * 1) [.bool v]) 4)) : RStep w g w' { g with up := updb g.up i v } := by
  have hk : KT [4] w w' := KT.of hf (fun b hb => by simp at hb; subst hb; exact ⟨cs, 4, by simp, hc⟩)
  obtain ⟨tv, yv, xv, av, a1, a2, a3, a4, a5⟩ := h.net
  obtain ⟨yv0, xv0, av0, hv⟩ := hv
  rw [a1] at hv
  simp at hv
  obtain ⟨rfl, rfl, rfl, rfl⟩ := hv
  obtain ⟨off', cap', cs', e1, e2, e3, e4, e5, e6⟩ := a2
  cases e1
  rw [hc] at e4
  simp at e4
  subst e4
  refine ⟨⟨⟨_, _, _, _, hk.row _ _ _ (by simp) a1, ⟨off, cap, _, rfl, e2, e3, hc', by rw [putC_length]; exact e5, (e6.setAt (fun _ => rfl) hi rfl (by omega)).cast rfl rfl (flat_congr fun q hq => ?_)⟩, a3.kt hk (by simp), a4.kt hk (by simp), a5.kt hk (by simp)⟩, fun i hi => (h.rowr i hi).kt hk (by simp), fun i hi => (h.box i hi).kt hk (by simp), fun i j hi hj => (h.sent i j hi hj).kt hk (by simp), fun p hp => (h.airb p hp).kt hk (by simp), fun i hi p hp => (h.boxb i hi p hp).kt hk (by simp), fun i j hi hj p hp => (h.sentb i j hi hj p hp).kt hk (by simp), h.n64, h.dr⟩,
    ⟨_, hf, fun b hb => by simp at hb; exact .inr (.inl hb)⟩, fun b hb => .inl hb, rfl, rfl, h⟩
  by_cases e : q = i
  · subst e; simp [updb_self]
  · simp [updb_ne e]
end
end Go.Proofs.Ytpmihcefjdeonaa
