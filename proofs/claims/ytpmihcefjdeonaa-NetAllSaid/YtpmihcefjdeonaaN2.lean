/- A network in memory, and what it stands for. No statement of the seat is proved here. -/
import Derived.Test.YtpmihcefjdeonaaN1
namespace Go.Proofs.Ytpmihcefjdeonaa
open Go

/-! ### What it stands for -/
structure Pk where
  fr : Nat
  to : Nat
  ack : Bool
  seq : Nat
  ep : Nat
  b : List Int
structure Wy where
  ep : Nat
  sent : List (List Int)
  told : Nat
  came : Nat
structure Ns where
  n : Nat
  up : Nat → Bool
  way : Nat × Nat → Wy
  fly : List Pk
  box : Nat → List (Nat × List Int)
def wy0 : Wy := ⟨1, [], 0, 0⟩
def Ns.setW (s : Ns) (a : Nat × Nat) (c : Wy) : Ns := { s with way := fun x => if x = a then c else s.way x }
def Ns.setB (s : Ns) (i : Nat) (l : List (Nat × List Int)) : Ns := { s with box := fun x => if x = i then l else s.box x }
def Ns.setU (s : Ns) (i : Nat) (b : Bool) : Ns := { s with up := fun x => if x = i then b else s.up x }

/-! ### Where it stands -/
structure WG where
  wb : Nat
  sb : Option Nat
  ep : Nat
  ss : List (List Int × Value)
  told : Nat
  came : Nat
structure PG where
  n : Nat
  nb : Nat
  ub : Nat
  mb : Nat
  xb : Nat
  fb : Option Nat
  up : Nat → Bool
  way : Nat × Nat → Option WG
  fly : List (Pk × Value)
  bx : Nat → Option Nat
  box : Nat → List ((Nat × List Int) × Value)
def pkC (p : Pk × Value) : List Value := [.int .i64 (p.1.fr : Nat), .int .i64 (p.1.to : Nat), .bool p.1.ack, .int .u64 (p.1.seq : Nat), .int .u64 (p.1.ep : Nat), p.2]
def msC (p : (Nat × List Int) × Value) : List Value := [.int .i64 (p.1.1 : Nat), p.2]
def absW : Option WG → Wy
  | none => wy0
  | some c => ⟨c.ep, c.ss.map (·.1), c.told, c.came⟩
def PG.abs (g : PG) : Ns := ⟨g.n, g.up, fun a => absW (g.way a), g.fly.map (·.1), fun i => (g.box i).map (·.1)⟩
def WayAt (w : World) (c : WG) : Prop := ∃ sv, w.heap[c.wb]? = some (row [.int .u64 (c.ep : Nat), sv, .int .i64 (c.told : Nat), .int .i64 (c.came : Nat)] 78) ∧ Lst w sv c.sb 28 1 c.ss.length (c.ss.map (·.2))
def PI (g : PG) (b : Nat) : Prop := (∃ p ∈ g.fly, blkV p.2 = some b) ∨ ∃ a c p, g.way a = some c ∧ p ∈ c.ss ∧ blkV p.2 = some b
def PM (g : PG) (b : Nat) : Prop := ∃ i p, i < g.n ∧ p ∈ g.box i ∧ blkV p.2 = some b
def PS (g : PG) (b : Nat) : Prop := b = g.nb ∨ b = g.ub ∨ b = g.mb ∨ b = g.xb ∨ g.fb = some b ∨ (∃ i, i < g.n ∧ g.bx i = some b) ∨ ∃ a c, g.way a = some c ∧ (b = c.wb ∨ c.sb = some b)
def PF (g : PG) (b : Nat) : Prop := PS g b ∨ PM g b
structure PN (w : World) (g : PG) : Prop where
  net : ∃ cu cx fv, w.heap[g.nb]? = some (row [.slice (some ⟨g.ub, 0, none⟩) g.n cu, .map (some g.mb), fv, .slice (some ⟨g.xb, 0, none⟩) g.n cx] 84) ∧ g.n ≤ cu ∧ g.n ≤ cx ∧ cu ≤ 9223372036854775807 ∧ cx ≤ 9223372036854775807 ∧ Lst w fv g.fb 81 6 g.fly.length (g.fly.flatMap pkC)
  flyb : ∀ p ∈ g.fly, Bts w p.2 p.1.b
  upr : ∃ cs, w.heap[g.ub]? = some (row cs 4) ∧ g.n ≤ cs.length ∧ ∀ i, i < g.n → cs[i]? = some (.bool (g.up i))
  boxr : ∃ cs, w.heap[g.xb]? = some (row cs 72) ∧ g.n ≤ cs.length ∧ ∀ i, i < g.n → ∃ v, cs[i]? = some v ∧ Lst w v (g.bx i) 52 2 (g.box i).length ((g.box i).flatMap msC)
  boxb : ∀ i, i < g.n → ∀ p ∈ g.box i, Bts w p.2 p.1.2
  mp : ∃ es k f, w.heap[g.mb]? = some (.map es k) ∧ Mk lk es f ∧ MapKept.Stamped es k ∧ ∀ a, f a = (g.way a).map fun c => .pointer (some ⟨c.wb, 0, none⟩)
  wayr : ∀ a c, g.way a = some c → WayAt w c
  wayb : ∀ a c, g.way a = some c → ∀ p ∈ c.ss, Bts w p.2 p.1
  rng : ∀ a c, g.way a = some c → a.1 < g.n ∧ a.2 < g.n
  n64 : 1 ≤ g.n ∧ g.n ≤ 64
  dw : ∀ a b c d, a ≠ b → g.way a = some c → g.way b = some d → c.wb ≠ d.wb ∧ ∀ q, c.sb = some q → d.sb ≠ some q
  dx : ∀ i j q, i < g.n → j < g.n → i ≠ j → g.bx i = some q → g.bx j ≠ some q
  dm : ∀ (i j k l : Nat) (p q : (Nat × List Int) × Value) (b : Nat), i < g.n → j < g.n → (g.box i)[k]? = some p → (g.box j)[l]? = some q → blkV p.2 = some b → blkV q.2 = some b → i = j ∧ k = l
  di : ∀ b, PM g b → ¬ PI g b
/-! ### Frames by the kinds of blocks -/
structure KT (Ts : List Nat) (w w' : World) : Prop where
  row : ∀ (b : Nat) cs T, T ∉ Ts → w.heap[b]? = some (row cs T) → w'.heap[b]? = some (row cs T)
  map : ∀ (b : Nat) es k, w.heap[b]? = some (.map es k) → w'.heap[b]? = some (.map es k)
theorem KT.of {Ts : List Nat} {w w' : World} {S : List Nat} (hf : Fr w w' S) (hS : ∀ b ∈ S, ∃ cs T, T ∈ Ts ∧ w.heap[b]? = some (Go.Proofs.Ytpmihcefjdeonaa.row cs T)) : KT Ts w w' := by
  refine ⟨fun b cs T hT hb => hf.get hb (fun hm => ?_), fun b es k hb => hf.get hb (fun hm => ?_)⟩
  · obtain ⟨cs', T', h1, h2⟩ := hS b hm
    rw [hb] at h2
    simp at h2
    exact hT (h2.2 ▸ h1)
  · obtain ⟨cs', T', h1, h2⟩ := hS b hm
    rw [hb] at h2
    cases h2
theorem Lst.kt {Ts : List Nat} {w w' : World} {v : Value} {ob : Option Nat} {el sz n : Nat} {vs : List Value} (h : Lst w v ob el sz n vs) (hk : KT Ts w w') (hT : el ∉ Ts) : Lst w' v ob el sz n vs := by
  cases ob with
  | none => exact h
  | some b =>
    obtain ⟨off, cap, cs, h1, h2, h3, h4, h5⟩ := h
    exact ⟨off, cap, cs, h1, h2, h3, hk.row _ _ _ hT h4, h5⟩
theorem Bts.kt {Ts : List Nat} {w w' : World} {v : Value} {xs : List Int} (h : Bts w v xs) (hk : KT Ts w w') (hT : 5 ∉ Ts) : Bts w' v xs := by
  obtain ⟨a, cap, b, off, cs, rfl, h2, h3, h4⟩ := h
  refine ⟨a, cap, b, off, cs, rfl, h2, h3, fun hp => ?_⟩
  obtain ⟨rfl, h5, h6⟩ := h4 hp
  exact ⟨rfl, hk.row _ _ _ hT h5, h6⟩
theorem WayAt.kt {Ts : List Nat} {w w' : World} {c : WG} (h : WayAt w c) (hk : KT Ts w w') (h1 : 78 ∉ Ts) (h2 : 28 ∉ Ts) : WayAt w' c := by
  obtain ⟨sv, h3, h4⟩ := h
  exact ⟨sv, hk.row _ _ _ h1 h3, h4.kt hk h2⟩
theorem WayAt.keep {w w' : World} {S : List Nat} {c : WG} (h : WayAt w c) (hf : Fr w w' S) (h1 : c.wb ∉ S) (h2 : ∀ b, c.sb = some b → b ∉ S) : WayAt w' c := by
  obtain ⟨sv, h3, h4⟩ := h
  exact ⟨sv, hf.get h3 h1, h4.keep hf h2⟩
section
variable {w w' : World} {g : PG} {S : List Nat}
/-- What stands at a network's blocks. -/
theorem PN.ty (h : PN w g) {b : Nat} (hb : PS g b) : (∃ es k, w.heap[b]? = some (.map es k)) ∨ ∃ cs T, T ∈ [84, 4, 72, 81, 52, 78, 28] ∧ w.heap[b]? = some (row cs T) := by
  rcases hb with rfl | rfl | rfl | rfl | hb | ⟨i, hi, hb⟩ | ⟨a, c, hc, rfl | hb⟩
  · obtain ⟨cu, cx, fv, h1, _⟩ := h.net
    exact .inr ⟨_, 84, by simp, h1⟩
  · obtain ⟨cs, h1, _⟩ := h.upr
    exact .inr ⟨_, 4, by simp, h1⟩
  · obtain ⟨es, k, _, h1, _⟩ := h.mp
    exact .inl ⟨_, _, h1⟩
  · obtain ⟨cs, h1, _⟩ := h.boxr
    exact .inr ⟨_, 72, by simp, h1⟩
  · obtain ⟨cu, cx, fv, _, _, _, _, _, h1⟩ := h.net
    rw [hb] at h1
    obtain ⟨cs, h2⟩ := h1.ty
    exact .inr ⟨_, 81, by simp, h2⟩
  · obtain ⟨cs, _, _, h1⟩ := h.boxr
    obtain ⟨v, _, h2⟩ := h1 i hi
    rw [hb] at h2
    obtain ⟨cs, h2⟩ := h2.ty
    exact .inr ⟨_, 52, by simp, h2⟩
  · obtain ⟨sv, h1, _⟩ := h.wayr a c hc
    exact .inr ⟨_, 78, by simp, h1⟩
  · obtain ⟨sv, _, h1⟩ := h.wayr a c hc
    rw [hb] at h1
    obtain ⟨cs, h2⟩ := h1.ty
    exact .inr ⟨_, 28, by simp, h2⟩
theorem PN.ms (h : PN w g) {b : Nat} (hb : PM g b) : ∃ cs, w.heap[b]? = some (row cs 5) := by
  obtain ⟨i, p, hi, hp, e⟩ := hb
  exact (h.boxb i hi p hp).ty e
theorem PN.im (h : PN w g) {b : Nat} (hb : PI g b) : ∃ cs, w.heap[b]? = some (row cs 5) := by
  rcases hb with ⟨p, hp, e⟩ | ⟨a, c, p, hc, hp, e⟩
  · exact (h.flyb p hp).ty e
  · exact (h.wayb a c hc p hp).ty e
theorem PN.no5 (h : PN w g) {b : Nat} (hb : PS g b) : ∀ cs, w.heap[b]? ≠ some (row cs 5) := by
  intro cs hc
  rcases h.ty hb with ⟨es, k, h1⟩ | ⟨cs', T, hT, h1⟩
  · rw [hc] at h1; cases h1
  · rw [hc] at h1
    simp at h1
    rw [← h1.2] at hT
    simp at hT
theorem PN.lt (h : PN w g) {b : Nat} (hb : PF g b) : b < w.heap.size := by
  rcases hb with hb | hb
  · rcases h.ty hb with ⟨es, k, h1⟩ | ⟨cs', T, hT, h1⟩ <;> exact lt_of_at h1
  · obtain ⟨cs, h1⟩ := h.ms hb
    exact lt_of_at h1
theorem PN.ltI (h : PN w g) {b : Nat} (hb : PI g b) : b < w.heap.size := by
  obtain ⟨cs, h1⟩ := h.im hb
  exact lt_of_at h1
/-- Others' doings leave it. -/
theorem PN.keep (h : PN w g) (hf : Fr w w' S) (hS : ∀ b ∈ S, ¬ PF g b ∧ ¬ PI g b) : PN w' g := by
  have hP : ∀ b, PS g b → b ∉ S := fun b hb hm => (hS b hm).1 (.inl hb)
  have hM : ∀ b, PM g b → b ∉ S := fun b hb hm => (hS b hm).1 (.inr hb)
  have hI : ∀ b, PI g b → b ∉ S := fun b hb hm => (hS b hm).2 hb
  obtain ⟨cu, cx, fv, a1, a2, a3, a4, a5, a6⟩ := h.net
  obtain ⟨us, u1, u2⟩ := h.upr
  obtain ⟨xs, x1, x2, x3⟩ := h.boxr
  obtain ⟨es, k, f, m1, m2⟩ := h.mp
  refine ⟨⟨cu, cx, fv, hf.get a1 (hP _ (.inl rfl)), a2, a3, a4, a5, a6.keep hf fun b hb => hP b (.inr (.inr (.inr (.inr (.inl hb)))))⟩, fun p hp => (h.flyb p hp).keep hf fun b hb => hI b (.inl ⟨p, hp, hb⟩),
    ⟨us, hf.get u1 (hP _ (.inr (.inl rfl))), u2⟩, ⟨xs, hf.get x1 (hP _ (.inr (.inr (.inr (.inl rfl))))), x2, fun i hi => ?_⟩, fun i hi p hp => (h.boxb i hi p hp).keep hf fun b hb => hM b ⟨i, p, hi, hp, hb⟩,
    ⟨es, k, f, hf.get m1 (hP _ (.inr (.inr (.inl rfl)))), m2⟩, fun a c hc => (h.wayr a c hc).keep hf (hP _ (.inr (.inr (.inr (.inr (.inr (.inr ⟨a, c, hc, .inl rfl⟩))))))) fun b hb => hP _ (.inr (.inr (.inr (.inr (.inr (.inr ⟨a, c, hc, .inr hb⟩)))))),
    fun a c hc p hp => (h.wayb a c hc p hp).keep hf fun b hb => hI b (.inr ⟨a, c, p, hc, hp, hb⟩), h.rng, h.n64, h.dw, h.dx, h.dm, h.di⟩
  obtain ⟨v, h1, h2⟩ := x3 i hi
  exact ⟨v, h1, h2.keep hf fun b hb => hP b (.inr (.inr (.inr (.inr (.inr (.inl ⟨i, hi, hb⟩))))))⟩
theorem PN.ext (h : PN w g) (hf : Fr w w' []) : PN w' g := h.keep hf (by simp)
end
/-- A step: what a call makes of a network. -/
structure PStep (w : World) (g : PG) (w' : World) (g' : PG) : Prop where
  ok : PN w' g'
  fr : ∃ S, Fr w w' S ∧ ∀ b ∈ S, PF g b
  own : ∀ b, PF g' b → PF g b ∨ w.heap.size ≤ b
  imm : ∀ b, PI g' b → PI g b ∨ w.heap.size ≤ b
  nb : g'.nb = g.nb
  n : g'.n = g.n
theorem PStep.rfl' {w w' : World} {g : PG} (h : PN w g) (hf : Fr w w' []) : PStep w g w' g := ⟨h.ext hf, ⟨[], hf, by simp⟩, fun _ h => .inl h, fun _ h => .inl h, rfl, rfl⟩
theorem PStep.trans {w w1 w2 : World} {g g1 g2 : PG} (h : PStep w g w1 g1) (h' : PStep w1 g1 w2 g2) : PStep w g w2 g2 := by
  obtain ⟨S, hS, hS'⟩ := h.fr
  obtain ⟨U, hU, hU'⟩ := h'.fr
  have hsz := hS.size
  refine ⟨h'.ok, ⟨S ++ U.filter (· < w.heap.size), hS.trans hU (fun x hx => List.mem_append_left _ hx) (fun x hx hl => List.mem_append_right _ (List.mem_filter.2 ⟨hx, by simpa using hl⟩)), fun b hb => ?_⟩, fun b hb => ?_, fun b hb => ?_, h'.nb.trans h.nb, h'.n.trans h.n⟩
  · rcases List.mem_append.1 hb with hb | hb
    · exact hS' b hb
    · obtain ⟨h1, h2⟩ := List.mem_filter.1 hb
      rcases h.own b (hU' b h1) with h3 | h3
      · exact h3
      · simp at h2; omega
  · rcases h'.own b hb with h1 | h1
    · exact h.own b h1
    · exact .inr (by omega)
  · rcases h'.imm b hb with h1 | h1
    · exact h.imm b h1
    · exact .inr (by omega)
theorem PStep.ext {w w1 w2 : World} {g g1 : PG} (h : PStep w g w1 g1) (hf : Fr w1 w2 []) : PStep w g w2 g1 := h.trans (.rfl' h.ok hf)
theorem PStep.pre {w w1 w2 : World} {g g1 : PG} (h : PN w g) (hf : Fr w w1 []) (h' : PStep w1 g w2 g1) : PStep w g w2 g1 := (PStep.rfl' h hf).trans h'
end Go.Proofs.Ytpmihcefjdeonaa
