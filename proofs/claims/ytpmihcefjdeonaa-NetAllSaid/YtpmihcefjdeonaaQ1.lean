/- The document's network in memory. No statement of the seat is proved here. -/
import Derived.Test.YtpmihcefjdeonaaNH
namespace Go.Proofs.Ytpmihcefjdeonaa
open Go
set_option maxHeartbeats 1000000

theorem Cs.setAt {cs us : List Value} {off n sz i : Nat} {f : Nat → List Value} (h : Cs cs off (n * sz) ((List.range n).flatMap f)) (hf : ∀ j, (f j).length = sz) (hi : i < n) (hu : us.length = sz) (hl : off + n * sz ≤ cs.length) : Cs (putC cs (off + i * sz) us) off (n * sz) ((List.range n).flatMap (updb f i us)) := by
  have hisz : (i + 1) * sz ≤ n * sz := Nat.mul_le_mul_right _ hi
  rw [Nat.add_mul] at hisz
  have hput : off + i * sz + us.length ≤ cs.length := by omega
  have hf' : ∀ j, (updb f i us j).length = sz := fun j => by
    by_cases e : j = i
    · subst e; rw [updb_self]; exact hu
    · rw [updb_ne e]; exact hf j
  have hlen : ∀ (g : Nat → List Value), (∀ j, (g j).length = sz) → ∀ m, ((List.range m).flatMap g).length = m * sz := fun g hg m => by
    induction m with
    | zero => simp
    | succ m ih => rw [flat_succ, List.length_append, ih, hg, Nat.add_mul]; omega
  refine Cs.ofGet _ _ _ (hlen _ hf' n) fun j hj => ?_
  have h0 : 0 < sz := by
    rcases Nat.eq_zero_or_pos sz with h | h
    · rw [h] at hj; simp at hj
    · exact h
  have hq : j / sz < n := Nat.div_lt_of_lt_mul (by rw [Nat.mul_comm]; exact hj)
  have hr : j % sz < sz := Nat.mod_lt _ h0
  have hjd : j = j / sz * sz + j % sz := by rw [Nat.mul_comm]; exact (Nat.div_add_mod j sz).symm
  have e1 := flat_get hf n (j / sz) (j % sz) hq hr
  have e2 := flat_get hf' n (j / sz) (j % sz) hq hr
  rw [← hjd] at e1 e2
  rw [e2, putC_get _ _ _ hput, h.toGet hj, e1]
  by_cases e : j / sz = i
  · rw [e, updb_self, if_pos (by rw [hjd, e]; omega)]
    congr 1
    rw [hjd, e]
    have : (i * sz + j % sz) % sz = j % sz := by simp
    omega
  · rw [updb_ne e, if_neg]
    intro hc
    apply e
    have a1 : i * sz ≤ j := by omega
    have a2 : j < i * sz + sz := by omega
    have b1 := Nat.div_le_div_right (c := sz) a1
    rw [Nat.mul_div_cancel _ h0] at b1
    have b2 : j / sz < i + 1 := Nat.div_lt_of_lt_mul (by rw [Nat.mul_add, Nat.mul_one, Nat.mul_comm]; omega)
    omega
structure RW where
  ep : Nat
  told : Nat
  came : Nat
  sv : Value
  sb : Option Nat
  ss : List (List Int × Value)
structure RG where
  n : Nat
  rb : Nat
  tb : Nat
  yb : Nat
  xb : Nat
  ab : Option Nat
  up : Nat → Bool
  rv : Nat → Value
  rows : Nat → Nat
  way : Nat × Nat → RW
  bv : Nat → Value
  bx : Nat → Option Nat
  box : Nat → List ((Nat × List Int) × Value)
  air : List (Pk × Value)
def rwC (c : RW) : List Value := [.int .u64 (c.ep : Nat), c.sv, .int .i64 (c.told : Nat), .int .i64 (c.came : Nat)]
def absR (c : RW) : Wy := ⟨c.ep, c.ss.map (·.1), c.told, c.came⟩
def RG.abs (g : RG) : Ns := ⟨g.n, g.up, fun a => absR (g.way a), g.air.map (·.1), fun i => (g.box i).map (·.1)⟩
def RB (g : RG) (b : Nat) : Prop := (∃ p ∈ g.air, blkV p.2 = some b) ∨ (∃ i p, i < g.n ∧ p ∈ g.box i ∧ blkV p.2 = some b) ∨ ∃ i j p, i < g.n ∧ j < g.n ∧ p ∈ (g.way (i, j)).ss ∧ blkV p.2 = some b
def RS (g : RG) (b : Nat) : Prop := b = g.rb ∨ b = g.tb ∨ b = g.yb ∨ b = g.xb ∨ g.ab = some b ∨ (∃ i, i < g.n ∧ (b = g.rows i ∨ g.bx i = some b)) ∨ ∃ i j, i < g.n ∧ j < g.n ∧ (g.way (i, j)).sb = some b
def RD (g : RG) (b : Nat) : Prop := RS g b ∨ RB g b
structure RN (w : World) (g : RG) : Prop where
  net : ∃ tv yv xv av, w.heap[g.rb]? = some (row [tv, yv, xv, av] 69) ∧ Lst w tv (some g.tb) 4 1 g.n ((List.range g.n).flatMap fun i => [.bool (g.up i)]) ∧ Lst w yv (some g.yb) 96 1 g.n ((List.range g.n).flatMap fun i => [g.rv i]) ∧ Lst w xv (some g.xb) 72 1 g.n ((List.range g.n).flatMap fun i => [g.bv i]) ∧ Lst w av g.ab 81 6 g.air.length (g.air.flatMap pkC)
  rowr : ∀ i, i < g.n → Lst w (g.rv i) (some (g.rows i)) 99 4 g.n ((List.range g.n).flatMap fun j => rwC (g.way (i, j)))
  box : ∀ i, i < g.n → Lst w (g.bv i) (g.bx i) 52 2 (g.box i).length ((g.box i).flatMap msC)
  sent : ∀ i j, i < g.n → j < g.n → Lst w (g.way (i, j)).sv (g.way (i, j)).sb 28 1 (g.way (i, j)).ss.length ((g.way (i, j)).ss.map (·.2))
  airb : ∀ p ∈ g.air, Bts w p.2 p.1.b
  boxb : ∀ i, i < g.n → ∀ p ∈ g.box i, Bts w p.2 p.1.2
  sentb : ∀ i j, i < g.n → j < g.n → ∀ p ∈ (g.way (i, j)).ss, Bts w p.2 p.1
  n64 : 1 ≤ g.n ∧ g.n ≤ 64
  dr : ∀ i j, i < g.n → j < g.n → i ≠ j → g.rows i ≠ g.rows j
section
variable {w w' : World} {g : RG} {S : List Nat}
theorem RN.tyR (h : RN w g) : ∃ cs, w.heap[g.rb]? = some (row cs 69) := by obtain ⟨_, _, _, _, h1, _⟩ := h.net; exact ⟨_, h1⟩
theorem RN.tyT (h : RN w g) : ∃ cs, w.heap[g.tb]? = some (row cs 4) := by obtain ⟨_, _, _, _, _, h1, _⟩ := h.net; exact h1.ty
theorem RN.tyY (h : RN w g) : ∃ cs, w.heap[g.yb]? = some (row cs 96) := by obtain ⟨_, _, _, _, _, _, h1, _⟩ := h.net; exact h1.ty
theorem RN.tyX (h : RN w g) : ∃ cs, w.heap[g.xb]? = some (row cs 72) := by obtain ⟨_, _, _, _, _, _, _, h1, _⟩ := h.net; exact h1.ty
theorem RN.tyA (h : RN w g) {b : Nat} (hb : g.ab = some b) : ∃ cs, w.heap[b]? = some (row cs 81) := by obtain ⟨_, _, _, _, _, _, _, _, h1⟩ := h.net; rw [hb] at h1; exact h1.ty
theorem RN.tyRow (h : RN w g) {i : Nat} (hi : i < g.n) : ∃ cs, w.heap[g.rows i]? = some (row cs 99) := (h.rowr i hi).ty
theorem RN.tyB (h : RN w g) {i b : Nat} (hi : i < g.n) (hb : g.bx i = some b) : ∃ cs, w.heap[b]? = some (row cs 52) := by have h1 := h.box i hi; rw [hb] at h1; exact h1.ty
theorem RN.tyS (h : RN w g) {i j b : Nat} (hi : i < g.n) (hj : j < g.n) (hb : (g.way (i, j)).sb = some b) : ∃ cs, w.heap[b]? = some (row cs 28) := by have h1 := h.sent i j hi hj; rw [hb] at h1; exact h1.ty
theorem RN.tyRB (h : RN w g) {b : Nat} (hb : RB g b) : ∃ cs, w.heap[b]? = some (row cs 5) := by
  rcases hb with ⟨p, hp, e⟩ | ⟨i, p, hi, hp, e⟩ | ⟨i, j, p, hi, hj, hp, e⟩
  · exact (h.airb p hp).ty e
  · exact (h.boxb i hi p hp).ty e
  · exact (h.sentb i j hi hj p hp).ty e
theorem RN.ty (h : RN w g) {b : Nat} (hb : RD g b) : ∃ cs T, w.heap[b]? = some (row cs T) := by
  rcases hb with (rfl | rfl | rfl | rfl | hb | ⟨i, hi, rfl | hb⟩ | ⟨i, j, hi, hj, hb⟩) | hb
  · obtain ⟨cs, hc⟩ := h.tyR; exact ⟨_, _, hc⟩
  · obtain ⟨cs, hc⟩ := h.tyT; exact ⟨_, _, hc⟩
  · obtain ⟨cs, hc⟩ := h.tyY; exact ⟨_, _, hc⟩
  · obtain ⟨cs, hc⟩ := h.tyX; exact ⟨_, _, hc⟩
  · obtain ⟨cs, hc⟩ := h.tyA hb; exact ⟨_, _, hc⟩
  · obtain ⟨cs, hc⟩ := h.tyRow hi; exact ⟨_, _, hc⟩
  · obtain ⟨cs, hc⟩ := h.tyB hi hb; exact ⟨_, _, hc⟩
  · obtain ⟨cs, hc⟩ := h.tyS hi hj hb; exact ⟨_, _, hc⟩
  · obtain ⟨cs, hc⟩ := h.tyRB hb; exact ⟨_, _, hc⟩
theorem RN.lt (h : RN w g) {b : Nat} (hb : RD g b) : b < w.heap.size := by
  obtain ⟨cs, T, hc⟩ := h.ty hb
  exact lt_of_at hc
theorem RN.keep (h : RN w g) (hf : Fr w w' S) (hS : ∀ b ∈ S, ¬ RD g b) : RN w' g := by
  have hP : ∀ b, RS g b → b ∉ S := fun b hb hm => hS b hm (.inl hb)
  have hB : ∀ b, RB g b → b ∉ S := fun b hb hm => hS b hm (.inr hb)
  obtain ⟨tv, yv, xv, av, a1, a2, a3, a4, a5⟩ := h.net
  refine ⟨⟨tv, yv, xv, av, hf.get a1 (hP _ (.inl rfl)), a2.keep hf fun b hb => by cases hb; exact hP _ (.inr (.inl rfl)), a3.keep hf fun b hb => by cases hb; exact hP _ (.inr (.inr (.inl rfl))), a4.keep hf fun b hb => by cases hb; exact hP _ (.inr (.inr (.inr (.inl rfl)))), a5.keep hf fun b hb => hP _ (.inr (.inr (.inr (.inr (.inl hb)))))⟩,
    fun i hi => (h.rowr i hi).keep hf fun b hb => by cases hb; exact hP _ (.inr (.inr (.inr (.inr (.inr (.inl ⟨i, hi, .inl rfl⟩)))))), fun i hi => (h.box i hi).keep hf fun b hb => hP _ (.inr (.inr (.inr (.inr (.inr (.inl ⟨i, hi, .inr hb⟩)))))),
    fun i j hi hj => (h.sent i j hi hj).keep hf fun b hb => hP _ (.inr (.inr (.inr (.inr (.inr (.inr ⟨i, j, hi, hj, hb⟩)))))), fun p hp => (h.airb p hp).keep hf fun b hb => hB _ (.inl ⟨p, hp, hb⟩), fun i hi p hp => (h.boxb i hi p hp).keep hf fun b hb => hB _ (.inr (.inl ⟨i, p, hi, hp, hb⟩)),
    fun i j hi hj p hp => (h.sentb i j hi hj p hp).keep hf fun b hb => hB _ (.inr (.inr ⟨i, j, p, hi, hj, hp, hb⟩)), h.n64, h.dr⟩
theorem RN.ext (h : RN w g) (hf : Fr w w' []) : RN w' g := h.keep hf (by simp)
end
theorem RN.no5 {w : World} {g : RG} (h : RN w g) {b : Nat} (hb : RS g b) : ∀ cs, w.heap[b]? ≠ some (row cs 5) := by
  intro cs' h'
  have key : ∀ T, T ≠ 5 → (∃ cs, w.heap[b]? = some (row cs T)) → False := fun T hT hc => by obtain ⟨cs, hc⟩ := hc; exact not5 hc hT _ h'
  rcases hb with rfl | rfl | rfl | rfl | e | ⟨i, hi, rfl | e⟩ | ⟨i, j, hi, hj, e⟩
  · exact key 69 (by decide) h.tyR
  · exact key 4 (by decide) h.tyT
  · exact key 96 (by decide) h.tyY
  · exact key 72 (by decide) h.tyX
  · exact key 81 (by decide) (h.tyA e)
  · exact key 99 (by decide) (h.tyRow hi)
  · exact key 52 (by decide) (h.tyB hi e)
  · exact key 28 (by decide) (h.tyS hi hj e)
structure RStep (w : World) (g : RG) (w' : World) (g' : RG) : Prop where
  ok : RN w' g'
  fr : ∃ S, Fr w w' S ∧ ∀ b ∈ S, RS g b
  own : ∀ b, RD g' b → RD g b ∨ w.heap.size ≤ b
  rb : g'.rb = g.rb
  n : g'.n = g.n
  ok0 : RN w g
theorem RStep.rfl' {w w' : World} {g : RG} (h : RN w g) (hf : Fr w w' []) : RStep w g w' g := ⟨h.ext hf, ⟨[], hf, by simp⟩, fun _ h => .inl h, rfl, rfl, h⟩
theorem RStep.ownS {w w' : World} {g g' : RG} (h : RStep w g w' g') {b : Nat} (hb : RS g' b) : RS g b ∨ w.heap.size ≤ b := by
  rcases h.own b (.inl hb) with (h1 | h1) | h1
  · exact .inl h1
  · obtain ⟨cs, hc⟩ := h.ok0.tyRB h1
    obtain ⟨S, hf, hS⟩ := h.fr
    exact absurd (hf.get hc (fun hm => h.ok0.no5 (hS b hm) _ hc)) (h.ok.no5 hb _)
  · exact .inr h1
theorem RStep.trans {w w1 w2 : World} {g g1 g2 : RG} (h : RStep w g w1 g1) (h' : RStep w1 g1 w2 g2) : RStep w g w2 g2 := by
  obtain ⟨S, hS, hS'⟩ := h.fr
  obtain ⟨U, hU, hU'⟩ := h'.fr
  have hsz := hS.size
  refine ⟨h'.ok, ⟨S ++ U.filter (· < w.heap.size), hS.trans hU (fun x hx => List.mem_append_left _ hx) (fun x hx hl => List.mem_append_right _ (List.mem_filter.2 ⟨hx, by simpa using hl⟩)), fun b hb => ?_⟩, fun b hb => ?_, h'.rb.trans h.rb, h'.n.trans h.n, h.ok0⟩
  · rcases List.mem_append.1 hb with hb | hb
    · exact hS' b hb
    · obtain ⟨h1, h2⟩ := List.mem_filter.1 hb
      rcases h.ownS (hU' b h1) with h3 | h3
      · exact h3
      · simp at h2; omega
  · rcases h'.own b hb with h1 | h1
    · exact h.own b h1
    · exact .inr (by omega)
theorem RStep.ext {w w1 w2 : World} {g g1 : RG} (h : RStep w g w1 g1) (hf : Fr w1 w2 []) : RStep w g w2 g1 := h.trans (.rfl' h.ok hf)
theorem RStep.pre {w w1 w2 : World} {g g1 : RG} (h : RN w g) (hf : Fr w w1 []) (h' : RStep w1 g w2 g1) : RStep w g w2 g1 := (RStep.rfl' h hf).trans h'
theorem rabs_n (g : RG) : g.abs.n = g.n := rfl
theorem rabs_up (g : RG) (i : Nat) : g.abs.up i = g.up i := rfl
theorem rabs_way (g : RG) (a : Nat × Nat) : g.abs.way a = absR (g.way a) := rfl
theorem rabs_fly (g : RG) : g.abs.fly = g.air.map (·.1) := rfl
theorem rabs_box (g : RG) (i : Nat) : g.abs.box i = (g.box i).map (·.1) := rfl
def upda {α : Type} (f : Nat × Nat → α) (a : Nat × Nat) (v : α) : Nat × Nat → α := fun x => if x = a then v else f x
theorem upda_self {α : Type} (f : Nat × Nat → α) (a : Nat × Nat) (v : α) : upda f a v a = v := by simp [upda]
theorem upda_ne {α : Type} {f : Nat × Nat → α} {a x : Nat × Nat} {v : α} (h : x ≠ a) : upda f a v x = f x := by simp [upda, h]
theorem rabs_upda (g : RG) (a : Nat × Nat) (c : RW) : RG.abs { g with way := upda g.way a c } = g.abs.setW a (absR c) := by
  unfold RG.abs Ns.setW
  congr 1
  funext x
  simp only [upda]
  split <;> rfl
theorem rabs_updb (g : RG) (i : Nat) (v : Value) (ob : Option Nat) (l : List ((Nat × List Int) × Value)) : RG.abs { g with bv := updb g.bv i v, bx := updb g.bx i ob, box := updb g.box i l } = g.abs.setB i (l.map (·.1)) := by
  unfold RG.abs Ns.setB
  congr 1
  funext x
  simp only [updb]
  split <;> rfl
section
variable {w w' : World} {g : RG} {S : List Nat}
/-- Another air. -/
theorem RN.setAir {tv yv xv av' : Value} {ob' : Option Nat} {ps' : List (Pk × Value)} (h : RN w g) (hf : Fr w w' [g.rb]) (h0 : ∃ av, w.heap[g.rb]? = some (row [tv, yv, xv, av] 69)) (h1 : w'.heap[g.rb]? = some (row [tv, yv, xv, av'] 69))
    (hL : Lst w' av' ob' 81 6 ps'.length (ps'.flatMap pkC)) (hbn : ∀ p ∈ ps', Bts w' p.2 p.1.b ∧ ∀ b, blkV p.2 = some b → RB g b ∨ w.heap.size ≤ b) (ho : ∀ b, ob' = some b → g.ab = some b ∨ w.heap.size ≤ b) : RStep w g w' { g with ab := ob', air := ps' } := by
  have hk : KT [69] w w' := KT.of hf (fun b hb => by simp at hb; subst hb; obtain ⟨cs, hc⟩ := h.tyR; exact ⟨cs, 69, by simp, hc⟩)
  obtain ⟨tv0, yv0, xv0, av0, a1, a2, a3, a4, a5⟩ := h.net
  obtain ⟨av, h0⟩ := h0
  rw [h0] at a1
  simp at a1
  obtain ⟨rfl, rfl, rfl, rfl⟩ := a1
  refine ⟨⟨⟨_, _, _, av', h1, a2.kt hk (by simp), a3.kt hk (by simp), a4.kt hk (by simp), hL⟩, fun i hi => (h.rowr i hi).kt hk (by simp), fun i hi => (h.box i hi).kt hk (by simp), fun i j hi hj => (h.sent i j hi hj).kt hk (by simp), fun p hp => (hbn p hp).1, fun i hi p hp => (h.boxb i hi p hp).kt hk (by simp), fun i j hi hj p hp => (h.sentb i j hi hj p hp).kt hk (by simp), h.n64, h.dr⟩,
    ⟨_, hf, fun b hb => by simp at hb; exact .inl hb⟩, fun b hb => ?_, rfl, rfl, h⟩
  rcases hb with (e | e | e | e | e | e | e) | (⟨p, hp, e⟩ | e | e)
  · exact .inl (.inl (.inl e))
  · exact .inl (.inl (.inr (.inl e)))
  · exact .inl (.inl (.inr (.inr (.inl e))))
  · exact .inl (.inl (.inr (.inr (.inr (.inl e)))))
  · rcases ho b e with e | e
    · exact .inl (.inl (.inr (.inr (.inr (.inr (.inl e))))))
    · exact .inr e
  · exact .inl (.inl (.inr (.inr (.inr (.inr (.inr (.inl e)))))))
  · exact .inl (.inl (.inr (.inr (.inr (.inr (.inr (.inr e)))))))
  · rcases (hbn p hp).2 b e with h1 | h1
    · exact .inl (.inr h1)
    · exact .inr h1
  · exact .inl (.inr (.inr (.inl e)))
  · exact .inl (.inr (.inr (.inr e)))
end
end Go.Proofs.Ytpmihcefjdeonaa
