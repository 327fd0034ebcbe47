/- The plain law of layer 6: what a call makes of a network stays within bounds. No statement of the seat is proved here. -/
import Derived.Test.YtpmihcefjdeonaaNH
namespace Go.Proofs.Ytpmihcefjdeonaa
open Go

def plc (i : Int) (n : Nat) : Int := if n = 0 then i else i % (n : Int)
structure AC where
  kind : Int
  a : Int
  to : Int
  i : Int
  b : List Int
  how : Bool
def Ns.place (s : Ns) (c : AC) : Int := if c.how then plc c.i s.fly.length else c.i
def Ns.act (s : Ns) (c : AC) : Ns :=
  if c.kind = 0 then s.send c.a c.to c.b
  else if c.kind = 1 then s.recv c.a
  else if c.kind = 2 then s.deliver (s.place c)
  else if c.kind = 3 then s.lose (s.place c)
  else if c.kind = 4 then s.twice (s.place c)
  else if c.kind = 5 then s.tick c.a
  else if c.kind = 6 then s.down c.a
  else if c.kind = 7 then s.upS c.a
  else s
theorem setW_way (s : Ns) (a : Nat × Nat) (c : Wy) (x : Nat × Nat) : (s.setW a c).way x = if x = a then c else s.way x := rfl
theorem setB_box (s : Ns) (i : Nat) (l : List (Nat × List Int)) (x : Nat) : (s.setB i l).box x = if x = i then l else s.box x := rfl
theorem anew_way (s : Ns) (a x : Nat × Nat) : (s.anew a).way x = if x = a then ⟨(s.way a).ep + 1, [], 0, 0⟩ else s.way x := rfl
theorem upTo_way (s : Ns) (i m : Nat) (x : Nat × Nat) : (s.upTo i m).way x = if (x.1 = i ∧ x.2 < m) ∨ (x.2 = i ∧ x.1 < m) then ⟨(s.way x).ep + 1, [], 0, 0⟩ else s.way x := by
  induction m generalizing x with
  | zero => simp [Ns.upTo]; rfl
  | succ m ih =>
    obtain ⟨p, q⟩ := x
    unfold Ns.upTo
    dsimp only at ih ⊢
    by_cases hmi : m = i
    · rw [if_pos hmi, anew_way]
      by_cases h : (p, q) = (i, m)
      · rw [if_pos h]
        obtain ⟨rfl, rfl⟩ := Prod.mk.inj h
        rw [if_pos (by omega), ih, if_neg (by dsimp only; omega)]
      · rw [if_neg h, ih]
        have h' : ¬ (p = i ∧ q = m) := fun e => h (by rw [e.1, e.2])
        have e : ((p = i ∧ q < m) ∨ (q = i ∧ p < m)) ↔ ((p = i ∧ q < m + 1) ∨ (q = i ∧ p < m + 1)) := by omega
        simp only [e]
    · rw [if_neg hmi, anew_way, anew_way]
      have hne : (m, i) ≠ (i, m) := fun e => hmi (Prod.mk.inj e).1
      rw [if_neg hne]
      by_cases h : (p, q) = (m, i)
      · rw [if_pos h]
        obtain ⟨rfl, rfl⟩ := Prod.mk.inj h
        rw [if_pos (by omega), ih, if_neg (by dsimp only; omega)]
      · rw [if_neg h, anew_way]
        by_cases h2 : (p, q) = (i, m)
        · rw [if_pos h2]
          obtain ⟨rfl, rfl⟩ := Prod.mk.inj h2
          rw [if_pos (by omega), ih, if_neg (by dsimp only; omega)]
        · rw [if_neg h2, ih]
          have h' : ¬ (p = i ∧ q = m) := fun e => h2 (by rw [e.1, e.2])
          have h'' : ¬ (p = m ∧ q = i) := fun e => h (by rw [e.1, e.2])
          have e : ((p = i ∧ q < m) ∨ (q = i ∧ p < m)) ↔ ((p = i ∧ q < m + 1) ∨ (q = i ∧ p < m + 1)) := by omega
          simp only [e]
theorem upTo_rest (s : Ns) (i m : Nat) : (s.upTo i m).n = s.n ∧ (s.upTo i m).fly = s.fly ∧ (s.upTo i m).box = s.box ∧ (s.upTo i m).up = (s.setU i true).up := by
  induction m with
  | zero => exact ⟨rfl, rfl, rfl, rfl⟩
  | succ m ih =>
    unfold Ns.upTo
    split <;> exact ih
/-! ### Within bounds -/
theorem Ns.Ok.mono {s : Ns} {k l : Nat} (h : s.Ok k) (hk : k ≤ l) : s.Ok l :=
  ⟨fun a => by obtain ⟨h1, h2, h3, h4, h5⟩ := h.way a; exact ⟨by omega, by omega, h3, by omega, h5⟩, ⟨h.fly.1, fun p hp => by obtain ⟨h1, h2, h3, h4, h5⟩ := h.fly.2 p hp; exact ⟨h1, h2, h3, by omega, by omega⟩⟩, fun i => ⟨by have := (h.box i).1; omega, (h.box i).2⟩⟩
theorem Ns.Ok.flies {s : Ns} {k : Nat} (h : s.Ok k) {p : Pk} (hp : p.fr < s.n ∧ p.to < s.n ∧ p.b.length ≤ 65536 ∧ p.seq ≤ k ∧ p.ep ≤ k + 1) : (s.flies p).Ok k := by
  unfold Ns.flies
  split
  · refine ⟨h.way, ⟨by simp; omega, fun q hq => ?_⟩, h.box⟩
    simp at hq
    rcases hq with hq | rfl
    · exact h.fly.2 q hq
    · exact hp
  · exact h
theorem flies_n (s : Ns) (p : Pk) : (s.flies p).n = s.n := by unfold Ns.flies; split <;> rfl
theorem flies_box (s : Ns) (p : Pk) : (s.flies p).box = s.box := by unfold Ns.flies; split <;> rfl
theorem flies_up (s : Ns) (p : Pk) : (s.flies p).up = s.up := by unfold Ns.flies; split <;> rfl
theorem Ns.Ok.setW {s : Ns} {k : Nat} (h : s.Ok k) {a : Nat × Nat} {c : Wy} (hc : c.ep ≤ k + 1 ∧ c.sent.length ≤ k ∧ c.told ≤ c.sent.length ∧ c.came ≤ k ∧ ∀ b ∈ c.sent, b.length ≤ 65536) : (s.setW a c).Ok k :=
  ⟨fun x => by rw [setW_way]; split; exact hc; exact h.way x, h.fly, h.box⟩
theorem Ns.Ok.setB {s : Ns} {k : Nat} (h : s.Ok k) {i : Nat} {l : List (Nat × List Int)} (hl : l.length ≤ k ∧ ∀ m ∈ l, m.1 < s.n ∧ m.2.length ≤ 65536) : (s.setB i l).Ok k :=
  ⟨h.way, h.fly, fun x => by rw [setB_box]; split; exact hl; exact h.box x⟩
theorem Ns.Ok.setU {s : Ns} {k : Nat} (h : s.Ok k) (i : Nat) (b : Bool) : (s.setU i b).Ok k := ⟨h.way, h.fly, h.box⟩
theorem Ns.Ok.send {s : Ns} {k : Nat} (h : s.Ok k) (f t : Int) (b : List Int) : (s.send f t b).Ok (k + 1) := by
  have h1 := h.mono (Nat.le_succ k)
  unfold Ns.send
  split
  · rename_i he
    unfold Ns.sendE at he
    split at he
    · rename_i hft
      split at he
      · cases he
      · rename_i hl
        obtain ⟨i, rfl, hi, _⟩ := there_iff.1 hft.1
        obtain ⟨j, rfl, hj⟩ := isN_iff.1 hft.2
        obtain ⟨w1, w2, w3, w4, w5⟩ := h.way (i, j)
        simp only [Int.toNat_natCast] at hl ⊢
        unfold Ns.send1
        refine Ns.Ok.flies (h1.setW ⟨by dsimp only; omega, by simp; omega, by simp; omega, by dsimp only; omega, fun c hc => ?_⟩) ⟨hi, hj, by dsimp only; omega, by dsimp only; omega, by dsimp only; omega⟩
        simp at hc
        rcases hc with hc | rfl
        · exact w5 c hc
        · omega
    · cases he
  · exact h1
theorem Ns.Ok.recv {s : Ns} {k : Nat} (h : s.Ok k) (i : Int) : (s.recv i).Ok k := by
  unfold Ns.recv
  split
  · exact h.setB ⟨by have := (h.box i.toNat).1; simp; omega, fun m hm => (h.box i.toNat).2 m (List.mem_of_mem_tail hm)⟩
  · exact h
theorem Ns.Ok.twice {s : Ns} {k : Nat} (h : s.Ok k) (i : Int) : (s.twice i).Ok k := by
  unfold Ns.twice
  split
  · rename_i hi
    simp [Ns.inF] at hi
    have hl : i.toNat < s.fly.length := by omega
    exact h.flies (h.fly.2 _ (by rw [List.getD_eq_getElem?_getD, List.getElem?_eq_getElem hl]; exact List.getElem_mem hl))
  · exact h
theorem gets_n (s : Ns) (p : Pk) : (s.gets p).n = s.n := by unfold Ns.gets; split <;> rfl
theorem Ns.Ok.gets {s : Ns} {k : Nat} (h : s.Ok k) {p : Pk} (hp : p.fr < s.n ∧ p.to < s.n ∧ p.b.length ≤ 65536 ∧ p.seq ≤ k ∧ p.ep ≤ k + 1) : (s.gets p).Ok (k + 1) := by
  have h1 := h.mono (Nat.le_succ k)
  unfold Ns.gets
  split
  · rename_i he
    obtain ⟨w1, w2, w3, w4, w5⟩ := h1.way (p.fr, p.to)
    refine Ns.Ok.setB (h1.setW (a := (p.fr, p.to)) (c := { s.way (p.fr, p.to) with came := (s.way (p.fr, p.to)).came + 1 }) ⟨w1, w2, w3, by dsimp only; omega, w5⟩) ⟨by have := (h.box p.to).1; simp; omega, fun m hm => ?_⟩
    simp at hm
    rcases hm with hm | rfl
    · exact (h.box p.to).2 m hm
    · exact ⟨hp.1, hp.2.2.1⟩
  · exact h1
theorem Ns.Ok.comes {s : Ns} {k : Nat} (h : s.Ok k) {p : Pk} (hp : p.fr < s.n ∧ p.to < s.n ∧ p.b.length ≤ 65536 ∧ p.seq ≤ k ∧ p.ep ≤ k + 1) : (s.comes p).Ok (k + 1) := by
  have h1 := h.mono (Nat.le_succ k)
  unfold Ns.comes
  split
  · unfold Ns.hears
    split
    · obtain ⟨w1, w2, w3, w4, w5⟩ := h1.way (p.to, p.fr)
      exact h1.setW ⟨w1, w2, by dsimp only; omega, w4, w5⟩
    · exact h1
  · unfold Ns.lands
    split
    · refine (h.gets hp).flies ⟨by rw [gets_n]; exact hp.2.1, by rw [gets_n]; exact hp.1, by simp, ((h.gets hp).way _).2.2.2.1, by dsimp only; omega⟩
    · exact h1
theorem Ns.Ok.deliver {s : Ns} {k : Nat} (h : s.Ok k) (i : Int) : (s.deliver i).Ok (k + 1) := by
  have h1 := h.mono (Nat.le_succ k)
  unfold Ns.deliver
  split
  · rename_i hi
    have hi' := hi
    simp [Ns.inF] at hi
    have hl : i.toNat < s.fly.length := by omega
    have hp := h.fly.2 _ (show s.fly.getD i.toNat pk0 ∈ s.fly by rw [List.getD_eq_getElem?_getD, List.getElem?_eq_getElem hl]; exact List.getElem_mem hl)
    split
    · refine (h.lose i).comes ?_
      have : (s.lose i).n = s.n := by unfold Ns.lose; split <;> rfl
      rw [this]
      exact hp
    · exact h1.lose i
  · exact h1
theorem again_n (s : Ns) (a : Nat × Nat) (m : Nat) : (s.again a m).n = s.n ∧ (s.again a m).box = s.box ∧ (s.again a m).up = s.up := by
  induction m with
  | zero => exact ⟨rfl, rfl, rfl⟩
  | succ m ih => rw [Ns.again, flies_n, flies_box, flies_up]; exact ih
theorem tickTo_n (s : Ns) (i m : Nat) : (s.tickTo i m).n = s.n ∧ (s.tickTo i m).box = s.box ∧ (s.tickTo i m).up = s.up := by
  induction m with
  | zero => exact ⟨rfl, rfl, rfl⟩
  | succ m ih => obtain ⟨h1, h2, h3⟩ := again_n (s.tickTo i m) (i, m) (s.lag (i, m)); rw [Ns.tickTo, h1, h2, h3]; exact ih
theorem Ns.Ok.again {s : Ns} {k : Nat} (h : s.Ok k) {a : Nat × Nat} (ha : a.1 < s.n ∧ a.2 < s.n) (m : Nat) (hm : m ≤ s.lag a) : (s.again a m).Ok k := by
  induction m with
  | zero => exact h
  | succ m ih =>
    rw [Ns.again]
    obtain ⟨w1, w2, w3, w4, w5⟩ := h.way a
    unfold Ns.lag at hm
    refine (ih (by unfold Ns.lag; omega)).flies ?_
    rw [(again_n s a m).1]
    unfold Ns.msg
    have hl : (s.way a).told + m + 1 - 1 < (s.way a).sent.length := by omega
    exact ⟨ha.1, ha.2, by dsimp only; rw [List.getD_eq_getElem?_getD, List.getElem?_eq_getElem hl]; exact w5 _ (List.getElem_mem hl), by dsimp only; omega, w1⟩
theorem tickTo_lag (s : Ns) (i m : Nat) (a : Nat × Nat) : (s.tickTo i m).lag a = s.lag a := by unfold Ns.lag; rw [tickTo_way]
theorem Ns.Ok.tickTo {s : Ns} {k : Nat} (h : s.Ok k) {i : Nat} (hi : i < s.n) (m : Nat) (hm : m ≤ s.n) : (s.tickTo i m).Ok k := by
  induction m with
  | zero => exact h
  | succ m ih =>
    rw [Ns.tickTo]
    refine (ih (by omega)).again ?_ _ (by rw [tickTo_lag]; exact Nat.le_refl _)
    rw [(tickTo_n s i m).1]
    exact ⟨hi, by dsimp only; omega⟩
theorem Ns.Ok.tick {s : Ns} {k : Nat} (h : s.Ok k) (i : Int) : (s.tick i).Ok k := by
  unfold Ns.tick
  split
  · rename_i hi
    obtain ⟨j, rfl, hj, _⟩ := there_iff.1 hi
    exact h.tickTo hj _ (Nat.le_refl _)
  · exact h
theorem Ns.Ok.down {s : Ns} {k : Nat} (h : s.Ok k) (i : Int) : (s.down i).Ok k := by
  unfold Ns.down
  split
  · exact (h.setU _ _).setB ⟨by simp, by simp⟩
  · exact h
theorem Ns.Ok.upS {s : Ns} {k : Nat} (h : s.Ok k) (i : Int) : (s.upS i).Ok (k + 1) := by
  unfold Ns.upS
  split
  · obtain ⟨h1, h2, h3, h4⟩ := upTo_rest s i.toNat s.n
    refine ⟨fun x => ?_, ?_, ?_⟩
    · rw [upTo_way]
      obtain ⟨w1, w2, w3, w4, w5⟩ := h.way x
      split
      · exact ⟨by dsimp only; omega, by simp, by simp, by simp, by simp⟩
      · exact ⟨by omega, by omega, w3, by omega, w5⟩
    · rw [h2, h1]
      exact (h.mono (Nat.le_succ k)).fly
    · rw [h3, h1]
      exact (h.mono (Nat.le_succ k)).box
  · exact h.mono (Nat.le_succ k)
theorem Ns.Ok.act {s : Ns} {k : Nat} (h : s.Ok k) (c : AC) : (s.act c).Ok (k + 1) := by
  have hm := Nat.le_succ k
  unfold Ns.act
  repeat' split
  · exact h.send _ _ _
  · exact (h.recv _).mono hm
  · exact h.deliver _
  · exact (h.lose _).mono hm
  · exact (h.twice _).mono hm
  · exact (h.tick _).mono hm
  · exact (h.down _).mono hm
  · exact h.upS _
  · exact h.mono hm
theorem ns0_ok (n : Nat) : (ns0 n).Ok 0 := ⟨fun a => ⟨Nat.le_refl _, Nat.le_refl _, Nat.le_refl _, Nat.le_refl _, by simp [ns0, wy0]⟩, ⟨by simp [ns0], by simp [ns0]⟩, fun i => ⟨by simp [ns0], by simp [ns0]⟩⟩
theorem act_n (s : Ns) (c : AC) : (s.act c).n = s.n := by
  have hf := flies_n
  unfold Ns.act
  repeat' split
  · unfold Ns.send; split; exact hf _ _; rfl
  · unfold Ns.recv; split <;> rfl
  · unfold Ns.deliver
    have hl : ∀ i, (s.lose i).n = s.n := fun i => by unfold Ns.lose; split <;> rfl
    repeat' split
    · unfold Ns.comes
      split
      · unfold Ns.hears; split; exact hl _; exact hl _
      · unfold Ns.lands
        split
        · rw [hf, gets_n, hl]
        · exact hl _
    · exact hl _
    · rfl
  · unfold Ns.lose; split <;> rfl
  · unfold Ns.twice; split; exact hf _ _; rfl
  · unfold Ns.tick; split; exact (tickTo_n _ _ _).1; rfl
  · unfold Ns.down; split <;> rfl
  · unfold Ns.upS; split; exact (upTo_rest _ _ _).1; rfl
  · rfl
end Go.Proofs.Ytpmihcefjdeonaa
