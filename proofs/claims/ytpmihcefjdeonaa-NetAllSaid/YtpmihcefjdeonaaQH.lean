/- The plain law of layer 6: what holds of a network whatever was called; what comes in the end. No statement of the seat is proved here. -/
import Derived.Test.YtpmihcefjdeonaaQC
namespace Go.Proofs.Ytpmihcefjdeonaa
open Go

structure Ns.Inv (s : Ns) : Prop where
  w : ∀ a, (s.way a).told ≤ (s.way a).came ∧ (s.way a).came ≤ (s.way a).sent.length
  m : ∀ p ∈ s.fly, p.ack = false → p.ep ≤ (s.way (p.fr, p.to)).ep ∧ (p.ep = (s.way (p.fr, p.to)).ep → 1 ≤ p.seq ∧ (s.way (p.fr, p.to)).sent[p.seq - 1]? = some p.b)
  k : ∀ p ∈ s.fly, p.ack = true → p.ep ≤ (s.way (p.to, p.fr)).ep ∧ (p.ep = (s.way (p.to, p.fr)).ep → p.seq ≤ (s.way (p.to, p.fr)).came)
theorem ns0_inv (n : Nat) : (ns0 n).Inv := ⟨fun _ => ⟨Nat.le_refl _, Nat.le_refl _⟩, by simp [ns0], by simp [ns0]⟩
theorem Ns.Inv.flies {s : Ns} (h : s.Inv) {p : Pk} (hm : p.ack = false → p.ep ≤ (s.way (p.fr, p.to)).ep ∧ (p.ep = (s.way (p.fr, p.to)).ep → 1 ≤ p.seq ∧ (s.way (p.fr, p.to)).sent[p.seq - 1]? = some p.b))
    (hk : p.ack = true → p.ep ≤ (s.way (p.to, p.fr)).ep ∧ (p.ep = (s.way (p.to, p.fr)).ep → p.seq ≤ (s.way (p.to, p.fr)).came)) : (s.flies p).Inv := by
  unfold Ns.flies
  split
  · refine ⟨h.w, fun q hq => ?_, fun q hq => ?_⟩ <;> simp at hq <;> rcases hq with hq | rfl
    · exact h.m q hq
    · exact hm
    · exact h.k q hq
    · exact hk
  · exact h
/-- A way gets another: of the same epoch, with more. -/
theorem Ns.Inv.setW {s : Ns} (h : s.Inv) {a : Nat × Nat} {c : Wy} (hw : c.told ≤ c.came ∧ c.came ≤ c.sent.length) (he : c.ep = (s.way a).ep) (hs : ∀ (j : Nat) b, (s.way a).sent[j]? = some b → c.sent[j]? = some b) (hc : (s.way a).came ≤ c.came) : (s.setW a c).Inv := by
  refine ⟨fun x => ?_, fun p hp hack => ?_, fun p hp hack => ?_⟩
  · rw [setW_way]; split; exact hw; exact h.w x
  · have := h.m p hp hack
    rw [setW_way]
    split
    · rename_i e
      rw [e] at this
      rw [he]
      exact ⟨this.1, fun h1 => ⟨(this.2 h1).1, hs _ _ (this.2 h1).2⟩⟩
    · exact this
  · have := h.k p hp hack
    rw [setW_way]
    split
    · rename_i e
      rw [e] at this
      rw [he]
      exact ⟨this.1, fun h1 => Nat.le_trans (this.2 h1) hc⟩
    · exact this
theorem Ns.Inv.ofFly {s : Ns} (h : s.Inv) {l : List Pk} (hl : ∀ p ∈ l, p ∈ s.fly) : Ns.Inv { s with fly := l } := ⟨h.w, fun p hp => h.m p (hl p hp), fun p hp => h.k p (hl p hp)⟩
theorem Ns.Inv.setB {s : Ns} (h : s.Inv) (i : Nat) (l : List (Nat × List Int)) : (s.setB i l).Inv := ⟨h.w, h.m, h.k⟩
theorem Ns.Inv.setU {s : Ns} (h : s.Inv) (i : Nat) (b : Bool) : (s.setU i b).Inv := ⟨h.w, h.m, h.k⟩
theorem Ns.Inv.send {s : Ns} (h : s.Inv) (f t : Int) (b : List Int) : (s.send f t b).Inv := by
  unfold Ns.send
  split
  · unfold Ns.send1
    refine Ns.Inv.flies (h.setW (c := { s.way (f.toNat, t.toNat) with sent := (s.way (f.toNat, t.toNat)).sent ++ [b] }) ⟨(h.w _).1, by have := (h.w (f.toNat, t.toNat)).2; simp; omega⟩ rfl (fun j b hj => ?_) (Nat.le_refl _)) (fun _ => ?_) ?_
    rotate_left 2
    · intro h; cases h
    · rw [List.getElem?_append_left (List.getElem?_eq_some_iff.1 hj).1]
      exact hj
    · rw [setW_way, if_pos rfl]
      exact ⟨Nat.le_refl _, fun _ => ⟨by dsimp only; omega, by simp⟩⟩
  · exact h
theorem Ns.Inv.recv {s : Ns} (h : s.Inv) (i : Int) : (s.recv i).Inv := by
  unfold Ns.recv; split; exact h.setB _ _; exact h
theorem Ns.Inv.lose {s : Ns} (h : s.Inv) (i : Int) : (s.lose i).Inv := by
  unfold Ns.lose; split; exact h.ofFly (fun p hp => List.mem_of_mem_eraseIdx hp); exact h
theorem getD_mem {l : List Pk} {i : Nat} (h : i < l.length) : l.getD i pk0 ∈ l := by
  rw [List.getD_eq_getElem?_getD, List.getElem?_eq_getElem h]; exact List.getElem_mem h
theorem Ns.Inv.twice {s : Ns} (h : s.Inv) (i : Int) : (s.twice i).Inv := by
  unfold Ns.twice
  split
  · rename_i hi
    simp [Ns.inF] at hi
    have hp := getD_mem (l := s.fly) (i := i.toNat) (by omega)
    exact h.flies (h.m _ hp) (h.k _ hp)
  · exact h
theorem Ns.Inv.hears {s : Ns} (h : s.Inv) {p : Pk} (hk : p.ep = (s.way (p.to, p.fr)).ep → p.seq ≤ (s.way (p.to, p.fr)).came) : (s.hears p).Inv := by
  unfold Ns.hears
  split
  · rename_i he
    have h1 := h.w (p.to, p.fr)
    have h2 := hk he.1
    exact h.setW ⟨by dsimp only; omega, h1.2⟩ rfl (fun _ _ h => h) (Nat.le_refl _)
  · exact h
theorem gets_fly (s : Ns) (p : Pk) : (s.gets p).fly = s.fly := by unfold Ns.gets; split <;> rfl
theorem Ns.Inv.gets {s : Ns} (h : s.Inv) {p : Pk} (hm : 1 ≤ p.seq ∧ (s.way (p.fr, p.to)).sent[p.seq - 1]? = some p.b) : (s.gets p).Inv := by
  unfold Ns.gets
  split
  · rename_i he
    have h1 := h.w (p.fr, p.to)
    have h2 := (List.getElem?_eq_some_iff.1 hm.2).1
    exact (h.setW (a := (p.fr, p.to)) (c := { s.way (p.fr, p.to) with came := (s.way (p.fr, p.to)).came + 1 }) ⟨by dsimp only; omega, by dsimp only; omega⟩ rfl (fun _ _ h => h) (by dsimp only; omega)).setB _ _
  · exact h
theorem gets_ep (s : Ns) (p : Pk) (a : Nat × Nat) : ((s.gets p).way a).ep = (s.way a).ep ∧ ((s.gets p).way a).sent = (s.way a).sent ∧ ((s.gets p).way a).told = (s.way a).told := by
  unfold Ns.gets
  split
  · show (((s.setW _ _).way a).ep = _) ∧ _
    rw [show ((s.setW (p.fr, p.to) { s.way (p.fr, p.to) with came := (s.way (p.fr, p.to)).came + 1 }).setB p.to (s.box p.to ++ [(p.fr, p.b)])).way a = if a = (p.fr, p.to) then { s.way (p.fr, p.to) with came := (s.way (p.fr, p.to)).came + 1 } else s.way a from rfl, setW_way]
    split
    · rename_i e; subst e; exact ⟨rfl, rfl, rfl⟩
    · exact ⟨rfl, rfl, rfl⟩
  · exact ⟨rfl, rfl, rfl⟩
theorem Ns.Inv.comes {s : Ns} (h : s.Inv) {p : Pk} (hm : p.ack = false → p.ep = (s.way (p.fr, p.to)).ep → 1 ≤ p.seq ∧ (s.way (p.fr, p.to)).sent[p.seq - 1]? = some p.b) (hk : p.ack = true → p.ep = (s.way (p.to, p.fr)).ep → p.seq ≤ (s.way (p.to, p.fr)).came) : (s.comes p).Inv := by
  unfold Ns.comes
  split
  · rename_i hack; exact h.hears (hk hack)
  · rename_i hack
    unfold Ns.lands
    split
    · rename_i he
      refine (h.gets (hm (by simpa using hack) he)).flies (fun h => by cases h) (fun _ => ?_)
      dsimp only
      rw [(gets_ep s p (p.fr, p.to)).1]
      exact ⟨by omega, fun _ => Nat.le_refl _⟩
    · exact h
theorem lose_way (s : Ns) (i : Int) : (s.lose i).way = s.way ∧ (s.lose i).up = s.up ∧ (s.lose i).n = s.n ∧ (s.lose i).box = s.box := by unfold Ns.lose; split <;> exact ⟨rfl, rfl, rfl, rfl⟩
theorem Ns.Inv.deliver {s : Ns} (h : s.Inv) (i : Int) : (s.deliver i).Inv := by
  unfold Ns.deliver
  split
  · rename_i hi
    have hi' := hi
    simp [Ns.inF] at hi
    have hp := getD_mem (l := s.fly) (i := i.toNat) (by omega)
    split
    · refine (h.lose i).comes (fun hack he => ?_) (fun hack he => ?_)
      · rw [(lose_way s i).1] at he ⊢
        exact (h.m _ hp hack).2 he
      · rw [(lose_way s i).1] at he ⊢
        exact (h.k _ hp hack).2 he
    · exact h.lose i
  · exact h
theorem Ns.Inv.again {s : Ns} (h : s.Inv) (a : Nat × Nat) (m : Nat) (hm : m ≤ s.lag a) : (s.again a m).Inv := by
  induction m with
  | zero => exact h
  | succ m ih =>
    rw [Ns.again]
    refine (ih (by omega)).flies (fun _ => ?_) (fun h => by cases h)
    rw [again_way]
    unfold Ns.msg
    unfold Ns.lag at hm
    refine ⟨Nat.le_refl _, fun _ => ⟨by dsimp only; omega, ?_⟩⟩
    dsimp only
    have hl : (s.way a).told + m + 1 - 1 < (s.way a).sent.length := by omega
    rw [List.getD_eq_getElem?_getD, List.getElem?_eq_getElem hl]
    rfl
theorem Ns.Inv.tickTo {s : Ns} (h : s.Inv) (i m : Nat) : (s.tickTo i m).Inv := by
  induction m with
  | zero => exact h
  | succ m ih =>
    rw [Ns.tickTo]
    exact ih.again _ _ (by rw [tickTo_lag]; exact Nat.le_refl _)
theorem Ns.Inv.tick {s : Ns} (h : s.Inv) (i : Int) : (s.tick i).Inv := by unfold Ns.tick; split; exact h.tickTo _ _; exact h
theorem Ns.Inv.down {s : Ns} (h : s.Inv) (i : Int) : (s.down i).Inv := by unfold Ns.down; split; exact (h.setU _ _).setB _ _; exact h
theorem Ns.Inv.upS {s : Ns} (h : s.Inv) (i : Int) : (s.upS i).Inv := by
  unfold Ns.upS
  split
  · obtain ⟨_, h2, _, _⟩ := upTo_rest s i.toNat s.n
    refine ⟨fun a => ?_, fun p hp hack => ?_, fun p hp hack => ?_⟩
    · rw [upTo_way]; split; exact ⟨Nat.le_refl _, Nat.le_refl _⟩; exact h.w a
    · rw [h2] at hp
      have := h.m p hp hack
      rw [upTo_way]
      split
      · exact ⟨by dsimp only; omega, fun e => by dsimp only at e; omega⟩
      · exact this
    · rw [h2] at hp
      have := h.k p hp hack
      rw [upTo_way]
      split
      · exact ⟨by dsimp only; omega, fun e => by dsimp only at e; omega⟩
      · exact this
  · exact h
theorem Ns.Inv.act {s : Ns} (h : s.Inv) (c : AC) : (s.act c).Inv := by
  unfold Ns.act
  repeat' split
  · exact h.send _ _ _
  · exact h.recv _
  · exact h.deliver _
  · exact h.lose _
  · exact h.twice _
  · exact h.tick _
  · exact h.down _
  · exact h.upS _
  · exact h
def Ns.run (s : Ns) (A : Nat → AC) : Nat → Ns
  | 0 => s
  | m + 1 => (s.run A m).act (A m)
theorem run_ok {s : Ns} (h : s.Ok 0) (A : Nat → AC) (m : Nat) : (s.run A m).Ok m := by
  induction m with
  | zero => exact h
  | succ m ih => exact ih.act _
theorem run_inv {s : Ns} (h : s.Inv) (A : Nat → AC) (m : Nat) : (s.run A m).Inv := by
  induction m with
  | zero => exact h
  | succ m ih => exact ih.act _
theorem run_n (s : Ns) (A : Nat → AC) (m : Nat) : (s.run A m).n = s.n := by
  induction m with
  | zero => rfl
  | succ m ih => rw [Ns.run, act_n, ih]
end Go.Proofs.Ytpmihcefjdeonaa
