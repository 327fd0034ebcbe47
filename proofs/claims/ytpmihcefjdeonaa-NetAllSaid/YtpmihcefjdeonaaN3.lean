/- What a network is when one part of it is another. No statement of the seat is proved here. -/
import Derived.Test.YtpmihcefjdeonaaN2
namespace Go.Proofs.Ytpmihcefjdeonaa
open Go
set_option maxHeartbeats 1000000
section
variable {w w' : World} {g : PG} {S : List Nat}
theorem PN.tyNet (h : PN w g) : ∃ cs, w.heap[g.nb]? = some (row cs 84) := by obtain ⟨_, _, _, h1, _⟩ := h.net; exact ⟨_, h1⟩
theorem PN.tyFly (h : PN w g) {b : Nat} (hb : g.fb = some b) : ∃ cs, w.heap[b]? = some (row cs 81) := by obtain ⟨_, _, _, _, _, _, _, _, h1⟩ := h.net; rw [hb] at h1; exact h1.ty
theorem PN.tyUp (h : PN w g) : ∃ cs, w.heap[g.ub]? = some (row cs 4) := by obtain ⟨_, h1, _⟩ := h.upr; exact ⟨_, h1⟩
theorem PN.tyXb (h : PN w g) : ∃ cs, w.heap[g.xb]? = some (row cs 72) := by obtain ⟨_, h1, _⟩ := h.boxr; exact ⟨_, h1⟩
theorem PN.tyBox (h : PN w g) {i b : Nat} (hi : i < g.n) (hb : g.bx i = some b) : ∃ cs, w.heap[b]? = some (row cs 52) := by obtain ⟨_, _, _, h1⟩ := h.boxr; obtain ⟨v, _, h2⟩ := h1 i hi; rw [hb] at h2; exact h2.ty
theorem PN.tyWay (h : PN w g) {a : Nat × Nat} {c : WG} (hc : g.way a = some c) : ∃ cs, w.heap[c.wb]? = some (row cs 78) := by obtain ⟨_, h1, _⟩ := h.wayr a c hc; exact ⟨_, h1⟩
theorem PN.tySb (h : PN w g) {a : Nat × Nat} {c : WG} {b : Nat} (hc : g.way a = some c) (hb : c.sb = some b) : ∃ cs, w.heap[b]? = some (row cs 28) := by obtain ⟨_, _, h1⟩ := h.wayr a c hc; rw [hb] at h1; exact h1.ty
theorem PN.tyMap (h : PN w g) : ∃ es k, w.heap[g.mb]? = some (.map es k) := by obtain ⟨_, _, _, h1, _⟩ := h.mp; exact ⟨_, _, h1⟩
theorem PN.ltM (h : PN w g) {b : Nat} (hb : PM g b) : b < w.heap.size := h.lt (.inr hb)
theorem rows_ne {w : World} {b : Nat} {T T' : Nat} (h : ∃ cs, w.heap[b]? = some (row cs T)) (h' : ∃ cs, w.heap[b]? = some (row cs T')) : T = T' := by
  obtain ⟨cs, h⟩ := h
  obtain ⟨cs', h'⟩ := h'
  rw [h] at h'
  simp at h'
  exact h'.2
/-- Other packets on the way. -/
theorem PN.setFly {fv' : Value} {ob' : Option Nat} {ps' : List (Pk × Value)} (h : PN w g) (hf : Fr w w' S) (hS : ∀ b ∈ S, b = g.nb ∨ g.fb = some b)
    (hnet : ∃ cu cx, w'.heap[g.nb]? = some (row [.slice (some ⟨g.ub, 0, none⟩) g.n cu, .map (some g.mb), fv', .slice (some ⟨g.xb, 0, none⟩) g.n cx] 84) ∧ g.n ≤ cu ∧ g.n ≤ cx ∧ cu ≤ 9223372036854775807 ∧ cx ≤ 9223372036854775807)
    (hL : Lst w' fv' ob' 81 6 ps'.length (ps'.flatMap pkC)) (hbn : ∀ p ∈ ps', p ∈ g.fly ∨ (Bts w' p.2 p.1.b ∧ ∀ b, blkV p.2 = some b → PI g b ∨ w.heap.size ≤ b)) (ho : ∀ b, ob' = some b → g.fb = some b ∨ w.heap.size ≤ b) :
    PStep w g w' { g with fb := ob', fly := ps' } := by
  obtain ⟨cu', cx', e1, e2, e3, e4, e5⟩ := hnet
  have hk : KT [84, 81] w w' := KT.of hf (fun b hb => by
    rcases hS b hb with rfl | e
    · obtain ⟨cs, hc⟩ := h.tyNet; exact ⟨cs, 84, by simp, hc⟩
    · obtain ⟨cs, hc⟩ := h.tyFly e; exact ⟨cs, 81, by simp, hc⟩)
  have hb : ∀ p ∈ ps', Bts w' p.2 p.1.b := fun p hp => by
    rcases hbn p hp with h1 | h1
    · exact (h.flyb p h1).kt hk (by simp)
    · exact h1.1
  have hn : ∀ p ∈ ps', ∀ b, blkV p.2 = some b → PI g b ∨ w.heap.size ≤ b := fun p hp b e => by
    rcases hbn p hp with h1 | h1
    · exact .inl (.inl ⟨p, h1, e⟩)
    · exact h1.2 b e
  obtain ⟨us, u1, u2⟩ := h.upr
  obtain ⟨xs, x1, x2, x3⟩ := h.boxr
  obtain ⟨es, k, f, m1, m2⟩ := h.mp
  have hI : ∀ b, PI { g with fb := ob', fly := ps' } b → PI g b ∨ w.heap.size ≤ b := by
    rintro b (⟨p, hp, e⟩ | ⟨a, c, p, hc, hp, e⟩)
    · exact hn p hp b e
    · exact .inl (.inr ⟨a, c, p, hc, hp, e⟩)
  refine ⟨⟨⟨cu', cx', fv', e1, e2, e3, e4, e5, hL⟩, hb, ⟨us, hk.row _ _ _ (by simp) u1, u2⟩, ⟨xs, hk.row _ _ _ (by simp) x1, x2, fun i hi => ?_⟩, fun i hi p hp => (h.boxb i hi p hp).kt hk (by simp), ⟨es, k, f, hk.map _ _ _ m1, m2⟩,
    fun a c hc => (h.wayr a c hc).kt hk (by simp) (by simp), fun a c hc p hp => (h.wayb a c hc p hp).kt hk (by simp), h.rng, h.n64, h.dw, h.dx, h.dm, fun b hb hi => ?_⟩, ⟨S, hf, fun b hb => .inl ?_⟩, fun b hb => ?_, hI, rfl, rfl⟩
  · obtain ⟨v, h1, h2⟩ := x3 i hi
    exact ⟨v, h1, h2.kt hk (by simp)⟩
  · rcases hI b hi with h1 | h1
    · exact h.di b hb h1
    · have := h.ltM hb; omega
  · rcases hS b hb with e | e
    · exact .inl e
    · exact .inr (.inr (.inr (.inr (.inl e))))
  · rcases hb with (e | e | e | e | e | e | e) | e
    · exact .inl (.inl (.inl e))
    · exact .inl (.inl (.inr (.inl e)))
    · exact .inl (.inl (.inr (.inr (.inl e))))
    · exact .inl (.inl (.inr (.inr (.inr (.inl e)))))
    · rcases ho b e with e | e
      · exact .inl (.inl (.inr (.inr (.inr (.inr (.inl e))))))
      · exact .inr e
    · exact .inl (.inl (.inr (.inr (.inr (.inr (.inr (.inl e)))))))
    · exact .inl (.inl (.inr (.inr (.inr (.inr (.inr (.inr e)))))))
    · exact .inl (.inr e)
def updw (f : Nat × Nat → Option WG) (a : Nat × Nat) (c : WG) : Nat × Nat → Option WG := fun x => if x = a then some c else f x
theorem updw_self (f : Nat × Nat → Option WG) (a : Nat × Nat) (c : WG) : updw f a c a = some c := by simp [updw]
theorem updw_ne {f : Nat × Nat → Option WG} {a x : Nat × Nat} {c : WG} (h : x ≠ a) : updw f a c x = f x := by simp [updw, h]
theorem updw_cases {f : Nat × Nat → Option WG} {a x : Nat × Nat} {c d : WG} (h : updw f a c x = some d) : (x = a ∧ d = c) ∨ (x ≠ a ∧ f x = some d) := by
  by_cases e : x = a
  · subst e
    rw [updw_self] at h
    cases h
    exact .inl ⟨rfl, rfl⟩
  · rw [updw_ne e] at h
    exact .inr ⟨e, h⟩
theorem abs_updw (g : PG) (a : Nat × Nat) (c : WG) : PG.abs { g with way := updw g.way a c } = g.abs.setW a (absW (some c)) := by
  unfold PG.abs Ns.setW
  congr 1
  funext x
  simp only [updw]
  split <;> rfl
/-- A way that is another one now. -/
theorem PN.setWay {a : Nat × Nat} {c c' : WG} (h : PN w g) (hc : g.way a = some c) (hf : Fr w w' S) (hS : ∀ b ∈ S, b = c.wb ∨ c.sb = some b) (hw : c'.wb = c.wb) (hs : ∀ b, c'.sb = some b → c.sb = some b ∨ w.heap.size ≤ b) (hat : WayAt w' c')
    (hbn : ∀ p ∈ c'.ss, p ∈ c.ss ∨ (Bts w' p.2 p.1 ∧ ∀ b, blkV p.2 = some b → PI g b ∨ w.heap.size ≤ b)) : PStep w g w' { g with way := updw g.way a c' } := by
  have hk : KT [78, 28] w w' := KT.of hf (fun b hb => by
    rcases hS b hb with rfl | e
    · obtain ⟨cs, hc⟩ := h.tyWay hc; exact ⟨cs, 78, by simp, hc⟩
    · obtain ⟨cs, hc⟩ := h.tySb hc e; exact ⟨cs, 28, by simp, hc⟩)
  have hb : ∀ p ∈ c'.ss, Bts w' p.2 p.1 := fun p hp => by
    rcases hbn p hp with h1 | h1
    · exact (h.wayb a c hc p h1).kt hk (by simp)
    · exact h1.1
  have hn : ∀ p ∈ c'.ss, ∀ b, blkV p.2 = some b → PI g b ∨ w.heap.size ≤ b := fun p hp b e => by
    rcases hbn p hp with h1 | h1
    · exact .inl (.inr ⟨a, c, p, hc, h1, e⟩)
    · exact h1.2 b e
  obtain ⟨cu, cx, fv, a1, a2, a3, a4, a5, a6⟩ := h.net
  obtain ⟨us, u1, u2⟩ := h.upr
  obtain ⟨xs, x1, x2, x3⟩ := h.boxr
  obtain ⟨es, k, f, m1, m2, m3, m4⟩ := h.mp
  have hI : ∀ b, PI { g with way := updw g.way a c' } b → PI g b ∨ w.heap.size ≤ b := by
    rintro b (⟨p, hp, e⟩ | ⟨x, d, p, hd, hp, e⟩)
    · exact .inl (.inl ⟨p, hp, e⟩)
    · rcases updw_cases hd with ⟨rfl, rfl⟩ | ⟨hx, hd⟩
      · exact hn p hp b e
      · exact .inl (.inr ⟨x, d, p, hd, hp, e⟩)
  have hlt : ∀ {x : Nat × Nat} {d : WG} {q : Nat}, g.way x = some d → d.sb = some q → q < w.heap.size := fun hd hq => h.lt (.inl (.inr (.inr (.inr (.inr (.inr (.inr ⟨_, _, hd, .inr hq⟩)))))))
  refine ⟨⟨⟨cu, cx, fv, hk.row _ _ _ (by simp) a1, a2, a3, a4, a5, a6.kt hk (by simp)⟩, fun p hp => (h.flyb p hp).kt hk (by simp), ⟨us, hk.row _ _ _ (by simp) u1, u2⟩, ⟨xs, hk.row _ _ _ (by simp) x1, x2, fun i hi => ?_⟩, fun i hi p hp => (h.boxb i hi p hp).kt hk (by simp),
    ⟨es, k, f, hk.map _ _ _ m1, m2, m3, fun x => ?_⟩, fun x d hd => ?_, fun x d hd p hp => ?_, fun x d hd => ?_, h.n64, fun x y d e hxy hd he => ?_, h.dx, h.dm, fun b hb hi => ?_⟩, ⟨S, hf, fun b hb => .inl (.inr (.inr (.inr (.inr (.inr (.inr ⟨a, c, hc, hS b hb⟩))))))⟩, fun b hb => ?_, hI, rfl, rfl⟩
  · obtain ⟨v, h1, h2⟩ := x3 i hi
    exact ⟨v, h1, h2.kt hk (by simp)⟩
  · rw [m4 x]
    by_cases e : x = a
    · subst e
      show _ = (updw g.way x c' x).map _
      rw [updw_self, hc]
      simp [hw]
    · show _ = (updw g.way a c' x).map _
      rw [updw_ne e]
  · rcases updw_cases hd with ⟨rfl, rfl⟩ | ⟨hx, hd⟩
    · exact hat
    · obtain ⟨n1, n2⟩ := h.dw x a d c hx hd hc
      refine (h.wayr x d hd).keep hf (fun hm => ?_) (fun b hb hm => ?_)
      · rcases hS _ hm with e | e
        · exact n1 e
        · have := rows_ne (h.tyWay hd) (h.tySb hc e); omega
      · rcases hS _ hm with e | e
        · have := rows_ne (h.tySb hd hb) (by rw [e]; exact h.tyWay hc); omega
        · exact n2 b hb e
  · rcases updw_cases hd with ⟨rfl, rfl⟩ | ⟨hx, hd⟩
    · exact hb p hp
    · exact (h.wayb x d hd p hp).kt hk (by simp)
  · rcases updw_cases hd with ⟨rfl, rfl⟩ | ⟨hx, hd⟩
    · exact h.rng _ _ hc
    · exact h.rng _ _ hd
  · rcases updw_cases hd with ⟨rfl, rfl⟩ | ⟨hx, hd'⟩ <;> rcases updw_cases he with ⟨rfl, rfl⟩ | ⟨hy, he'⟩
    · exact absurd rfl hxy
    · obtain ⟨n1, n2⟩ := h.dw _ _ c e hxy hc he'
      refine ⟨by rw [hw]; exact n1, fun q hq hq' => ?_⟩
      rcases hs q hq with e1 | e1
      · exact n2 q e1 hq'
      · have := hlt he' hq'; omega
    · obtain ⟨n1, n2⟩ := h.dw _ _ d c hxy hd' hc
      refine ⟨by rw [hw]; exact n1, fun q hq hq' => ?_⟩
      rcases hs q hq' with e1 | e1
      · exact n2 q hq e1
      · have := hlt hd' hq; omega
    · exact h.dw x y d e hxy hd' he'
  · rcases hI b hi with h1 | h1
    · exact h.di b hb h1
    · have := h.ltM hb; omega
  · rcases hb with (e | e | e | e | e | e | ⟨x, d, hd, e⟩) | e
    · exact .inl (.inl (.inl e))
    · exact .inl (.inl (.inr (.inl e)))
    · exact .inl (.inl (.inr (.inr (.inl e))))
    · exact .inl (.inl (.inr (.inr (.inr (.inl e)))))
    · exact .inl (.inl (.inr (.inr (.inr (.inr (.inl e))))))
    · exact .inl (.inl (.inr (.inr (.inr (.inr (.inr (.inl e)))))))
    · rcases updw_cases hd with ⟨rfl, rfl⟩ | ⟨hx, hd⟩
      · rcases e with e | e
        · exact .inl (.inl (.inr (.inr (.inr (.inr (.inr (.inr ⟨_, _, hc, .inl (by rw [e, hw])⟩)))))))
        · rcases hs b e with e1 | e1
          · exact .inl (.inl (.inr (.inr (.inr (.inr (.inr (.inr ⟨_, _, hc, .inr e1⟩)))))))
          · exact .inr e1
      · exact .inl (.inl (.inr (.inr (.inr (.inr (.inr (.inr ⟨_, _, hd, e⟩)))))))
    · exact .inl (.inr e)
/-- A way that begins. -/
theorem PN.newWay {a : Nat × Nat} {c' : WG} {es : Array MapEntry} {k : Nat} {f f' : Nat × Nat → Option Value} (h : PN w g) (ha : a.1 < g.n ∧ a.2 < g.n) (hf : Fr w w' [g.mb]) (hw : w.heap.size ≤ c'.wb) (hs : c'.sb = none) (hat : WayAt w' c') (hss : c'.ss = [])
    (hm : w'.heap[g.mb]? = some (.map es k)) (hM : Mk lk es f') (hst : MapKept.Stamped es k) (h0 : ∀ a, f a = (g.way a).map fun c => .pointer (some ⟨c.wb, 0, none⟩)) (hu : f' = updk f a (some (.pointer (some ⟨c'.wb, 0, none⟩)))) : PStep w g w' { g with way := updw g.way a c' } := by
  have hk : ∀ (b : Nat) cs T, w.heap[b]? = some (row cs T) → w'.heap[b]? = some (row cs T) := fun b cs T hb => hf.get hb (fun hx => by
    simp at hx
    subst hx
    obtain ⟨es, q, he⟩ := h.tyMap
    rw [hb] at he
    cases he)
  have hk' : ∀ {v : Value} {ob : Option Nat} {el sz n : Nat} {vs : List Value}, Lst w v ob el sz n vs → Lst w' v ob el sz n vs := fun {v ob el sz n vs} hl => hl.keep hf (fun b hb hx => by
    subst hb
    obtain ⟨cs, hc⟩ := hl.ty
    simp at hx
    subst hx
    obtain ⟨es, q, he⟩ := h.tyMap
    rw [hc] at he
    cases he)
  have hk5 : ∀ {v : Value} {xs : List Int}, Bts w v xs → Bts w' v xs := fun {v xs} hl => hl.keep hf (fun b hb hx => by
    obtain ⟨cs, hc⟩ := hl.ty hb
    simp at hx
    subst hx
    obtain ⟨es, q, he⟩ := h.tyMap
    rw [hc] at he
    cases he)
  obtain ⟨cu, cx, fv, a1, a2, a3, a4, a5, a6⟩ := h.net
  obtain ⟨us, u1, u2⟩ := h.upr
  obtain ⟨xs, x1, x2, x3⟩ := h.boxr
  have hI : ∀ b, PI { g with way := updw g.way a c' } b → PI g b := by
    rintro b (⟨p, hp, e⟩ | ⟨x, d, p, hd, hp, e⟩)
    · exact .inl ⟨p, hp, e⟩
    · rcases updw_cases hd with ⟨rfl, rfl⟩ | ⟨hx, hd⟩
      · rw [hss] at hp; cases hp
      · exact .inr ⟨x, d, p, hd, hp, e⟩
  have hlt : ∀ {x : Nat × Nat} {d : WG}, g.way x = some d → d.wb < w.heap.size := fun hd => h.lt (.inl (.inr (.inr (.inr (.inr (.inr (.inr ⟨_, _, hd, .inl rfl⟩)))))))
  refine ⟨⟨⟨cu, cx, fv, hk _ _ _ a1, a2, a3, a4, a5, hk' a6⟩, fun p hp => hk5 (h.flyb p hp), ⟨us, hk _ _ _ u1, u2⟩, ⟨xs, hk _ _ _ x1, x2, fun i hi => ?_⟩, fun i hi p hp => hk5 (h.boxb i hi p hp),
    ⟨es, k, f', hm, hM, hst, fun x => ?_⟩, fun x d hd => ?_, fun x d hd p hp => ?_, fun x d hd => ?_, h.n64, fun x y d e hxy hd he => ?_, h.dx, h.dm, fun b hb hi => h.di b hb (hI b hi)⟩, ⟨[g.mb], hf, fun b hb => by simp at hb; exact .inl (.inr (.inr (.inl hb)))⟩, fun b hb => ?_, fun b hb => .inl (hI b hb), rfl, rfl⟩
  · obtain ⟨v, h1, h2⟩ := x3 i hi
    exact ⟨v, h1, hk' h2⟩
  · rw [hu]
    by_cases e : x = a
    · subst e
      show _ = (updw g.way x c' x).map _
      rw [updw_self]
      simp [updk]
    · show _ = (updw g.way a c' x).map _
      rw [updw_ne e]
      simp only [updk, if_neg e]
      exact h0 x
  · rcases updw_cases hd with ⟨rfl, rfl⟩ | ⟨hx, hd⟩
    · exact hat
    · obtain ⟨sv, h1, h2⟩ := h.wayr x d hd
      exact ⟨sv, hk _ _ _ h1, hk' h2⟩
  · rcases updw_cases hd with ⟨rfl, rfl⟩ | ⟨hx, hd⟩
    · rw [hss] at hp; cases hp
    · exact hk5 (h.wayb x d hd p hp)
  · rcases updw_cases hd with ⟨rfl, rfl⟩ | ⟨hx, hd⟩
    · exact ha
    · exact h.rng _ _ hd
  · rcases updw_cases hd with ⟨rfl, rfl⟩ | ⟨hx, hd'⟩ <;> rcases updw_cases he with ⟨rfl, rfl⟩ | ⟨hy, he'⟩
    · exact absurd rfl hxy
    · have := hlt he'
      exact ⟨by omega, fun q hq => by rw [hs] at hq; cases hq⟩
    · have := hlt hd'
      exact ⟨by omega, fun q hq => by rw [hs]; simp⟩
    · exact h.dw x y d e hxy hd' he'
  · rcases hb with (e | e | e | e | e | e | ⟨x, d, hd, e⟩) | e
    · exact .inl (.inl (.inl e))
    · exact .inl (.inl (.inr (.inl e)))
    · exact .inl (.inl (.inr (.inr (.inl e))))
    · exact .inl (.inl (.inr (.inr (.inr (.inl e)))))
    · exact .inl (.inl (.inr (.inr (.inr (.inr (.inl e))))))
    · exact .inl (.inl (.inr (.inr (.inr (.inr (.inr (.inl e)))))))
    · rcases updw_cases hd with ⟨rfl, rfl⟩ | ⟨hx, hd⟩
      · rcases e with e | e
        · exact .inr (by omega)
        · rw [hs] at e; cases e
      · exact .inl (.inl (.inr (.inr (.inr (.inr (.inr (.inr ⟨_, _, hd, e⟩)))))))
    · exact .inl (.inr e)
end
end Go.Proofs.Ytpmihcefjdeonaa
