/- The plain law of layer 6: messages come once, and in their order. No statement of the seat is proved here. -/
import Derived.Test.YtpmihcefjdeonaaQC
namespace Go.Proofs.Ytpmihcefjdeonaa
open Go

structure Ns.Inv (s : Ns) : Prop where
  w : ∀ a, (s.way a).told ≤ (s.way a).came ∧ (s.way a).came ≤ (s.way a).sent.length
  m : ∀ p ∈ s.fly, p.ack = false → p.ep ≤ (s.way (p.fr, p.to)).ep ∧ (p.ep = (s.way (p.fr, p.to)).ep → 1 ≤ p.seq ∧ (s.way (p.fr, p.to)).sent[p.seq - 1]? = some p.b)
  k : ∀ p ∈ s.fly, p.ack = true → p.ep ≤ (s.way (p.to, p.fr)).ep ∧ (p.ep = (s.way (p.to, p.fr)).ep → p.seq ≤ (s.way (p.to, p.fr)).came)
theorem ns0_inv (n : Nat) : (ns0 n).Inv := ⟨fun _ => ⟨Nat.le_refl _, Nat.le_refl _⟩, by simp [ns0], by simp [ns0]⟩
theorem Ns.Inv.flies {s : Ns} (h : s.Inv) {p : Pk} (hm : p.ack = false → p.ep ≤ (s.way (p.fr, p.to)).ep ∧ (p.ep = (s.way (p.fr, p.to)).ep → 1 ≤ p.seq ∧ (s.way (p.fr, p.to)).sent[p.seq - 1]? = some p.b))
    (hk : p.ack = true → p.ep ≤ (s.way (p.to, p.fr)).ep ∧ (p.ep = (s.way (p.to, p.fr)).ep → p.seq ≤ (s.way (p.to, p.fr)).came)) : (s.flies p).Inv := by
  unfold Ns.flies
  split
  · refine ⟨h.w, fun q hq => ?_, fun q hq => ?_⟩ <;> simp at hq <;> rcases hq with hq | rfl
    · exact h.m q hq
    · exact hm
    · exact h.k q hq
    · exact hk
  · exact h
/-- A way gets another: of the same epoch, with more. -/
theorem Ns.Inv.setW {s : Ns} (h : s.Inv) {a : Nat × Nat} {c : Wy} (hw : c.told ≤ c.came ∧ c.came ≤ c.sent.length) (he : c.ep = (s.way a).ep) (hs : ∀ (j : Nat) b, (s.way a).sent[j]? = some b → c.sent[j]? = some b) (hc : (s.way a).came ≤ c.came) : (s.setW a c).Inv := by
  refine ⟨fun x => ?_, fun p hp hack => ?_, fun p hp hack => ?_⟩
  · rw [setW_way]; split; exact hw; exact h.w x
  · have := h.m p hp hack
    rw [setW_way]
    split
    · rename_i e
      rw [e] at this
      rw [he]
      exact ⟨this.1, fun h1 => ⟨(this.2 h1).1, hs _ _ (this.2 h1).2⟩⟩
    · exact this
  · have := h.k p hp hack
    rw [setW_way]
    split
    · rename_i e
      rw [e] at this
      rw [he]
      exact ⟨this.1, fun h1 => Nat.le_trans (this.2 h1) hc⟩
    · exact this
theorem Ns.Inv.ofFly {s : Ns} (h : s.Inv) {l : List Pk} (hl : ∀ p ∈ l, p ∈ s.fly) : Ns.Inv { s with fly := l } := ⟨h.w, fun p hp => h.m p (hl p hp), fun p hp => h.k p (hl p hp)⟩
theorem Ns.Inv.setB {s : Ns} (h : s.Inv) (i : Nat) (l : List (Nat × List Int)) : (s.setB i l).Inv := ⟨h.w, h.m, h.k⟩
theorem Ns.Inv.setU {s : Ns} (h : s.Inv) (i : Nat) (b : Bool) : (s.setU i b).Inv := ⟨h.w, h.m, h.k⟩
theorem Ns.Inv.send {s : Ns} (h : s.Inv) (f t : Int) (b : List Int) : (s.send f t b).Inv := by
  unfold Ns.send
  split
  · unfold Ns.send1
    refine Ns.Inv.flies (h.setW (c := { s.way (f.toNat, t.toNat) with sent := (s.way (f.toNat, t.toNat)).sent ++ [b] }) ⟨(h.w _).1, by have := (h.w (f.toNat, t.toNat)).2; simp; omega⟩ rfl (fun j b hj => ?_) (Nat.le_refl _)) (fun _ => ?_) ?_
    rotate_left 2
    · intro h; cases h
    · rw [List.getElem?_append_left (List.getElem?_eq_some_iff.1 hj).1]
      exact hj
    · rw [setW_way, if_pos rfl]
      exact ⟨Nat.le_refl _, fun _ => ⟨by dsimp only; omega, by simp⟩⟩
  · exact h
theorem Ns.Inv.recv {s : Ns} (h : s.Inv) (i : Int) : (s.recv i).Inv := by
  unfold Ns.recv; split; exact h.setB _ _; exact h
theorem Ns.Inv.lose {s : Ns} (h : s.Inv) (i : Int) : (s.lose i).Inv := by
  unfold Ns.lose; split; exact h.ofFly (fun p hp => List.mem_of_mem_eraseIdx hp); exact h
theorem getD_mem {l : List Pk} {i : Nat} (h : i < l.length) : l.getD i pk0 ∈ l := by
  rw [List.getD_eq_getElem?_getD, List.getElem?_eq_getElem h]; exact List.getElem_mem h
theorem Ns.Inv.twice {s : Ns} (h : s.Inv) (i : Int) : (s.twice i).Inv := by
  unfold Ns.twice
  split
  · rename_i hi
    simp [Ns.inF] at hi
    have hp := getD_mem (l := s.fly) (i := i.toNat) (by omega)
    exact h.flies (h.m _ hp) (h.k _ hp)
  · exact h
theorem Ns.Inv.hears {s : Ns} (h : s.Inv) {p : Pk} (hk : p.ep = (s.way (p.to, p.fr)).ep → p.seq ≤ (s.way (p.to, p.fr)).came) : (s.hears p).Inv := by
  unfold Ns.hears
  split
  · rename_i he
    have h1 := h.w (p.to, p.fr)
    have h2 := hk he.1
    exact h.setW ⟨by dsimp only; omega, h1.2⟩ rfl (fun _ _ h => h) (Nat.le_refl _)
  · exact h
theorem gets_fly (s : Ns) (p : Pk) : (s.gets p).fly = s.fly := by unfold Ns.gets; split <;> rfl
theorem Ns.Inv.gets {s : Ns} (h : s.Inv) {p : Pk} (hm : 1 ≤ p.seq ∧ (s.way (p.fr, p.to)).sent[p.seq - 1]? = some p.b) : (s.gets p).Inv := by
  unfold Ns.gets
  split
  · rename_i he
    have h1 := h.w (p.fr, p.to)
    have h2 := (List.getElem?_eq_some_iff.1 hm.2).1
    exact (h.setW (a := (p.fr, p.to)) (c := { s.way (p.fr, p.to) with came := (s.way (p.fr, p.to)).came + 1 }) ⟨by dsimp only; omega, by dsimp only; omega⟩ rfl (fun _ _ h => h) (by dsimp only; omega)).setB _ _
  · exact h
theorem gets_ep (s : Ns) (p : Pk) (a : Nat × Nat) : ((s.gets p).way a).ep = (s.way a).ep ∧ ((s.gets p).way a).sent = (s.way a).sent ∧ ((s.gets p).way a).told = (s.way a).told := by
  unfold Ns.gets
  split
  · show (((s.setW _ _).way a).ep = _) ∧ _
    rw [show ((s.setW (p.fr, p.to) { s.way (p.fr, p.to) with came := (s.way (p.fr, p.to)).came + 1 }).setB p.to (s.box p.to ++ [(p.fr, p.b)])).way a = if a = (p.fr, p.to) then { s.way (p.fr, p.to) with came := (s.way (p.fr, p.to)).came + 1 } else s.way a from rfl, setW_way]
    split
    · rename_i e; subst e; exact ⟨rfl, rfl, rfl⟩
    · exact ⟨rfl, rfl, rfl⟩
  · exact ⟨rfl, rfl, rfl⟩
theorem Ns.Inv.comes {s : Ns} (h : s.Inv) {p : Pk} (hm : p.ack = false → p.ep = (s.way (p.fr, p.to)).ep → 1 ≤ p.seq ∧ (s.way (p.fr, p.to)).sent[p.seq - 1]? = some p.b) (hk : p.ack = true → p.ep = (s.way (p.to, p.fr)).ep → p.seq ≤ (s.way (p.to, p.fr)).came) : (s.comes p).Inv := by
  unfold Ns.comes
  split
  · rename_i hack; exact h.hears (hk hack)
  · rename_i hack
    unfold Ns.lands
    split
    · rename_i he
      refine (h.gets (hm (by simpa using hack) he)).flies (fun h => by cases h) (fun _ => ?_)
      dsimp only
      rw [(gets_ep s p (p.fr, p.to)).1]
      exact ⟨by omega, fun _ => Nat.le_refl _⟩
    · exact h
theorem lose_way (s : Ns) (i : Int) : (s.lose i).way = s.way ∧ (s.lose i).up = s.up ∧ (s.lose i).n = s.n ∧ (s.lose i).box = s.box := by unfold Ns.lose; split <;> exact ⟨rfl, rfl, rfl, rfl⟩
theorem Ns.Inv.deliver {s : Ns} (h : s.Inv) (i : Int) : (s.deliver i).Inv := by
  unfold Ns.deliver
  split
  · rename_i hi
    have hi' := hi
    simp [Ns.inF] at hi
    have hp := getD_mem (l := s.fly) (i := i.toNat) (by omega)
    split
    · refine (h.lose i).comes (fun hack he => ?_) (fun hack he => ?_)
      · rw [(lose_way s i).1] at he ⊢
        exact (h.m _ hp hack).2 he
      · rw [(lose_way s i).1] at he ⊢
        exact (h.k _ hp hack).2 he
    · exact h.lose i
  · exact h
theorem Ns.Inv.again {s : Ns} (h : s.Inv) (a : Nat × Nat) (m : Nat) (hm : m ≤ s.lag a) : (s.again a m).Inv := by
  induction m with
  | zero => exact h
  | succ m ih =>
    rw [Ns.again]
    refine (ih (by omega)).flies (fun _ => ?_) (fun h => by cases h)
    rw [again_way]
    unfold Ns.msg
    unfold Ns.lag at hm
    refine ⟨Nat.le_refl _, fun _ => ⟨by dsimp only; omega, ?_⟩⟩
    dsimp only
    have hl : (s.way a).told + m + 1 - 1 < (s.way a).sent.length := by omega
    rw [List.getD_eq_getElem?_getD, List.getElem?_eq_getElem hl]
    rfl
theorem Ns.Inv.tickTo {s : Ns} (h : s.Inv) (i m : Nat) : (s.tickTo i m).Inv := by
  induction m with
  | zero => exact h
  | succ m ih =>
    rw [Ns.tickTo]
    exact ih.again _ _ (by rw [tickTo_lag]; exact Nat.le_refl _)
theorem Ns.Inv.tick {s : Ns} (h : s.Inv) (i : Int) : (s.tick i).Inv := by unfold Ns.tick; split; exact h.tickTo _ _; exact h
theorem Ns.Inv.down {s : Ns} (h : s.Inv) (i : Int) : (s.down i).Inv := by unfold Ns.down; split; exact (h.setU _ _).setB _ _; exact h
theorem Ns.Inv.upS {s : Ns} (h : s.Inv) (i : Int) : (s.upS i).Inv := by
  unfold Ns.upS
  split
  · obtain ⟨_, h2, _, _⟩ := upTo_rest s i.toNat s.n
    refine ⟨fun a => ?_, fun p hp hack => ?_, fun p hp hack => ?_⟩
    · rw [upTo_way]; split; exact ⟨Nat.le_refl _, Nat.le_refl _⟩; exact h.w a
    · rw [h2] at hp
      have := h.m p hp hack
      rw [upTo_way]
      split
      · exact ⟨by dsimp only; omega, fun e => by dsimp only at e; omega⟩
      · exact this
    · rw [h2] at hp
      have := h.k p hp hack
      rw [upTo_way]
      split
      · exact ⟨by dsimp only; omega, fun e => by dsimp only at e; omega⟩
      · exact this
  · exact h
theorem Ns.Inv.act {s : Ns} (h : s.Inv) (c : AC) : (s.act c).Inv := by
  unfold Ns.act
  repeat' split
  · exact h.send _ _ _
  · exact h.recv _
  · exact h.deliver _
  · exact h.lose _
  · exact h.twice _
  · exact h.tick _
  · exact h.down _
  · exact h.upS _
  · exact h
def Ns.run (s : Ns) (A : Nat → AC) : Nat → Ns
  | 0 => s
  | m + 1 => (s.run A m).act (A m)
theorem run_ok {s : Ns} (h : s.Ok 0) (A : Nat → AC) (m : Nat) : (s.run A m).Ok m := by
  induction m with
  | zero => exact h
  | succ m ih => exact ih.act _
theorem run_inv {s : Ns} (h : s.Inv) (A : Nat → AC) (m : Nat) : (s.run A m).Inv := by
  induction m with
  | zero => exact h
  | succ m ih => exact ih.act _
theorem run_n (s : Ns) (A : Nat → AC) (m : Nat) : (s.run A m).n = s.n := by
  induction m with
  | zero => rfl
  | succ m ih => rw [Ns.run, act_n, ih]
end Go.Proofs.Ytpmihcefjdeonaa

namespace Go.Proofs.Ytpmihcefjdeonaa
open Go

def filt (f : Nat) (l : List (Nat × List Int)) : List (List Int) := (l.filter fun m => decide (m.1 = f)).map (·.2)
theorem filt_cons (f : Nat) (m : Nat × List Int) (l : List (Nat × List Int)) : filt f (m :: l) = if m.1 = f then m.2 :: filt f l else filt f l := by
  unfold filt
  by_cases h : m.1 = f <;> simp [h]
theorem filt_append (f : Nat) (l r : List (Nat × List Int)) : filt f (l ++ r) = filt f l ++ filt f r := by unfold filt; simp
structure OS where
  sent : Nat → Nat → List (List Int)
  got : Nat → Nat → Nat
  old : Nat → Nat → Nat
def upd2 {α : Type} (F : Nat → Nat → α) (i j : Nat) (v : α) : Nat → Nat → α := fun a b => if a = i ∧ b = j then v else F a b
/-- What the law knows of what came. -/
structure Onc (n : Nat) (s : Ns) (o : OS) : Prop where
  sent : ∀ f t, f < n → t < n → o.sent f t = (s.way (f, t)).sent
  up : ∀ f t, f < n → t < n → s.up t = true → ∃ l, l.length = o.old f t ∧ filt f (s.box t) = l ++ ((s.way (f, t)).sent.take (s.way (f, t)).came).drop (o.got f t) ∧ o.got f t ≤ (s.way (f, t)).came
  down : ∀ t, t < n → s.up t = false → s.box t = []
def os0 : OS := ⟨fun _ _ => [], fun _ _ => 0, fun _ _ => 0⟩
theorem onc0 (n : Nat) : Onc n (ns0 n) os0 := ⟨fun _ _ _ _ => rfl, fun f t _ _ _ => ⟨[], rfl, by simp [ns0, filt, wy0], Nat.le_refl _⟩, fun t ht h => rfl⟩
theorem Onc.congr {n : Nat} {s s' : Ns} {o : OS} (h : Onc n s o) (hs : ∀ x, (s'.way x).sent = (s.way x).sent) (hc : ∀ x, (s'.way x).came = (s.way x).came) (hb : s'.box = s.box) (hu : s'.up = s.up) : Onc n s' o :=
  ⟨fun f t hf ht => by rw [hs]; exact h.sent f t hf ht, fun f t hf ht h1 => by rw [hs, hc, hb]; rw [hu] at h1; exact h.up f t hf ht h1, fun t ht h1 => by rw [hb]; rw [hu] at h1; exact h.down t ht h1⟩
theorem Onc.flies {n : Nat} {s : Ns} {o : OS} (h : Onc n s o) (p : Pk) : Onc n (s.flies p) o := h.congr (fun x => by rw [flies_way]) (fun x => by rw [flies_way]) (flies_box s p) (flies_up s p)
theorem Onc.lose {n : Nat} {s : Ns} {o : OS} (h : Onc n s o) (i : Int) : Onc n (s.lose i) o := by
  obtain ⟨h1, h2, h3, h4⟩ := lose_way s i
  exact h.congr (fun x => by rw [h1]) (fun x => by rw [h1]) h4 h2
theorem Onc.twice {n : Nat} {s : Ns} {o : OS} (h : Onc n s o) (i : Int) : Onc n (s.twice i) o := by unfold Ns.twice; split; exact h.flies _; exact h
theorem Onc.tick {n : Nat} {s : Ns} {o : OS} (h : Onc n s o) (i : Int) : Onc n (s.tick i) o := by
  unfold Ns.tick
  split
  · obtain ⟨_, h2, h3⟩ := tickTo_n s i.toNat s.n
    exact h.congr (fun x => by rw [tickTo_way]) (fun x => by rw [tickTo_way]) h2 h3
  · exact h
theorem Onc.downS {n : Nat} {s : Ns} {o : OS} (h : Onc n s o) (i : Int) : Onc n (s.down i) o := by
  unfold Ns.down
  split
  · refine ⟨h.sent, fun f t hf ht h1 => ?_, fun t ht h1 => ?_⟩
    · rw [setB_box]
      replace h1 : (if t = i.toNat then false else s.up t) = true := h1
      by_cases e : t = i.toNat
      · rw [if_pos e] at h1; cases h1
      · rw [if_neg e] at h1 ⊢
        exact h.up f t hf ht h1
    · rw [setB_box]
      replace h1 : (if t = i.toNat then false else s.up t) = false := h1
      by_cases e : t = i.toNat
      · rw [if_pos e]
      · rw [if_neg e] at h1 ⊢
        exact h.down t ht h1
  · exact h
theorem Onc.deliver {n : Nat} {s : Ns} {o : OS} (h : Onc n s o) (hI : s.Inv) (hn : s.n = n) (i : Int) : Onc n (s.deliver i) o := by
  unfold Ns.deliver
  split
  · rename_i hi
    simp [Ns.inF] at hi
    have hp := getD_mem (l := s.fly) (i := i.toNat) (by omega)
    generalize s.fly.getD i.toNat pk0 = p at hp ⊢
    obtain ⟨e1, e2, e3, e4⟩ := lose_way s i
    have hL := h.lose i
    split
    · rename_i hup
      unfold Ns.comes
      split
      · unfold Ns.hears
        split
        · refine hL.congr (fun x => ?_) (fun x => ?_) rfl rfl
          · rw [setW_way]; split; (rename_i e; rw [e]); rfl
          · rw [setW_way]; split; (rename_i e; rw [e]); rfl
        · exact hL
      · rename_i hack
        unfold Ns.lands
        split
        · rename_i he
          refine Onc.flies ?_ _
          have hm := hI.m p hp (by simpa using hack)
          rw [e1] at he
          have hm := hm.2 he
          unfold Ns.gets
          split
          · rename_i hq
            rw [e1] at hq
            have hsent : (s.way (p.fr, p.to)).sent[(s.way (p.fr, p.to)).came]? = some p.b := by
              have := hm.2
              rw [hq, Nat.add_sub_cancel] at this
              exact this
            have hlt := (List.getElem?_eq_some_iff.1 hsent).1
            refine ⟨fun f t hf ht => ?_, fun f t hf ht h1 => ?_, fun t ht h1 => ?_⟩
            · show o.sent f t = (((s.lose i).setW (p.fr, p.to) _).way (f, t)).sent
              rw [setW_way, e1]
              split
              · rename_i e; rw [← e]; exact h.sent f t hf ht
              · exact h.sent f t hf ht
            · replace h1 : s.up t = true := by rw [← e2]; exact h1
              obtain ⟨l, hl1, hl2, hl3⟩ := h.up f t hf ht h1
              show ∃ l : List (List Int), l.length = o.old f t ∧ filt f (((s.lose i).setB p.to _).box t) = l ++ ((((s.lose i).setW (p.fr, p.to) _).way (f, t)).sent.take (((s.lose i).setW (p.fr, p.to) _).way (f, t)).came).drop (o.got f t) ∧ o.got f t ≤ (((s.lose i).setW (p.fr, p.to) _).way (f, t)).came
              rw [setW_way, e1, setB_box, e4]
              by_cases hft : (f, t) = (p.fr, p.to)
              · obtain ⟨rfl, rfl⟩ := Prod.mk.inj hft
                rw [if_pos rfl, if_pos rfl]
                refine ⟨l, hl1, ?_, by dsimp only; omega⟩
                dsimp only
                rw [filt_append, hl2, filt_cons, if_pos rfl, List.append_assoc]
                have htk : (s.way (p.fr, p.to)).sent.take ((s.way (p.fr, p.to)).came + 1) = (s.way (p.fr, p.to)).sent.take (s.way (p.fr, p.to)).came ++ [p.b] := by
                  rw [List.take_add_one, hsent]; rfl
                rw [htk, List.drop_append_of_le_length (by rw [List.length_take]; omega)]
                rfl
              · rw [if_neg hft]
                refine ⟨l, hl1, ?_, hl3⟩
                by_cases hpt : t = p.to
                · rw [if_pos hpt, filt_append, ← hpt, hl2, filt_cons]
                  rw [if_neg (fun e => hft (by rw [hpt]; exact Prod.ext e.symm rfl))]
                  show _ ++ filt f [] = _
                  simp [filt]
                · rw [if_neg hpt]
                  exact hl2
            · replace h1 : s.up t = false := by rw [← e2]; exact h1
              show (((s.lose i).setB p.to _).box t) = []
              rw [setB_box, e4]
              by_cases hpt : t = p.to
              · rw [← hpt, h1] at hup; cases hup
              · rw [if_neg hpt]
                exact h.down t ht h1
          · exact hL
        · exact hL
    · exact hL
  · exact h
theorem Onc.sendS {n : Nat} {s : Ns} {o : OS} (h : Onc n s o) (hI : s.Inv) (f t : Nat) (b : List Int) : Onc n (s.send1 (f, t) b) { o with sent := upd2 o.sent f t (o.sent f t ++ [b]) } := by
  unfold Ns.send1
  refine Onc.flies ?_ _
  refine ⟨fun a c ha hc => ?_, fun a c ha hc h1 => ?_, h.down⟩
  · rw [setW_way]
    show upd2 o.sent f t _ a c = _
    unfold upd2
    by_cases e : a = f ∧ c = t
    · obtain ⟨rfl, rfl⟩ := e
      rw [if_pos ⟨rfl, rfl⟩, if_pos rfl, h.sent a c ha hc]
    · rw [if_neg e, if_neg (fun q => e (Prod.mk.inj q))]
      exact h.sent a c ha hc
  · obtain ⟨l, hl1, hl2, hl3⟩ := h.up a c ha hc h1
    refine ⟨l, hl1, ?_⟩
    rw [setW_way]
    by_cases e : (a, c) = (f, t)
    · obtain ⟨rfl, rfl⟩ := Prod.mk.inj e
      rw [if_pos rfl]
      dsimp only
      rw [List.take_append_of_le_length (hI.w (a, c)).2]
      exact ⟨hl2, hl3⟩
    · rw [if_neg e]
      exact ⟨hl2, hl3⟩
/-- A message is received: of an older epoch, or the next one. -/
theorem Onc.recvS {n : Nat} {s : Ns} {o : OS} (h : Onc n s o) (hI : s.Inv) {t : Nat} {f : Nat} {b : List Int} {rest : List (Nat × List Int)} (ht : t < n) (hu : s.up t = true) (hf : f < n) (hb : s.box t = (f, b) :: rest) :
    (0 < o.old f t → Onc n (s.setB t rest) { o with old := upd2 o.old f t (o.old f t - 1) }) ∧
    (o.old f t = 0 → (o.sent f t)[o.got f t]? = some b ∧ Onc n (s.setB t rest) { o with got := upd2 o.got f t (o.got f t + 1) }) := by
  obtain ⟨l, hl1, hl2, hl3⟩ := h.up f t hf ht hu
  rw [hb, filt_cons, if_pos rfl] at hl2
  have hother : ∀ a c, a < n → c < n → s.up c = true → ¬ (a = f ∧ c = t) → ∃ l, l.length = o.old a c ∧ filt a ((s.setB t rest).box c) = l ++ ((s.way (a, c)).sent.take (s.way (a, c)).came).drop (o.got a c) ∧ o.got a c ≤ (s.way (a, c)).came := by
    intro a c ha hc hu' hn
    obtain ⟨m, hm1, hm2, hm3⟩ := h.up a c ha hc hu'
    refine ⟨m, hm1, ?_, hm3⟩
    rw [setB_box]
    by_cases e : c = t
    · rw [if_pos e]
      rw [e] at hm2 hn ⊢
      rw [hb, filt_cons, if_neg (fun q => hn ⟨q.symm, rfl⟩)] at hm2
      exact hm2
    · rw [if_neg e]; exact hm2
  have hdown : ∀ c, c < n → s.up c = false → (s.setB t rest).box c = [] := by
    intro c hc hu'
    rw [setB_box]
    by_cases e : c = t
    · rw [e, hu] at hu'; cases hu'
    · rw [if_neg e]; exact h.down c hc hu'
  refine ⟨fun h0 => ?_, fun h0 => ?_⟩
  · cases l with
    | nil => simp at hl1; omega
    | cons x l =>
      simp only [List.cons_append, List.cons.injEq] at hl2
      refine ⟨h.sent, fun a c ha hc hu' => ?_, hdown⟩
      by_cases e : a = f ∧ c = t
      · obtain ⟨rfl, rfl⟩ := e
        refine ⟨l, ?_, ?_, hl3⟩
        · show l.length = upd2 o.old a c _ a c
          unfold upd2
          rw [if_pos ⟨rfl, rfl⟩, ← hl1]
          simp
        · rw [setB_box, if_pos rfl]; exact hl2.2
      · show ∃ l : List (List Int), l.length = upd2 o.old f t _ a c ∧ _
        unfold upd2
        rw [if_neg e]
        exact hother a c ha hc hu' e
  · have hl : l = [] := List.eq_nil_of_length_eq_zero (by omega)
    subst hl
    rw [List.nil_append] at hl2
    have hw := hI.w (f, t)
    have hlt : o.got f t < (s.way (f, t)).came := by
      rcases Nat.lt_or_ge (o.got f t) (s.way (f, t)).came with q | q
      · exact q
      · rw [List.drop_of_length_le (by rw [List.length_take]; omega)] at hl2
        cases hl2
    have hlen : o.got f t < ((s.way (f, t)).sent.take (s.way (f, t)).came).length := by rw [List.length_take]; omega
    rw [List.drop_eq_getElem_cons hlen] at hl2
    simp only [List.cons.injEq] at hl2
    refine ⟨?_, h.sent, fun a c ha hc hu' => ?_, hdown⟩
    · rw [h.sent f t hf ht, List.getElem?_eq_getElem (by omega), hl2.1]
      simp
    · by_cases e : a = f ∧ c = t
      · obtain ⟨rfl, rfl⟩ := e
        refine ⟨[], ?_, ?_, ?_⟩
        · exact h0.symm
        · rw [setB_box, if_pos rfl]
          show _ = [] ++ List.drop (upd2 o.got a c _ a c) _
          unfold upd2
          rw [if_pos ⟨rfl, rfl⟩, List.nil_append]
          exact hl2.2
        · show upd2 o.got a c _ a c ≤ _
          unfold upd2
          rw [if_pos ⟨rfl, rfl⟩]
          exact hlt
      · show ∃ l : List (List Int), l.length = o.old a c ∧ filt a _ = l ++ List.drop (upd2 o.got f t _ a c) _ ∧ upd2 o.got f t _ a c ≤ _
        unfold upd2
        rw [if_neg e]
        exact hother a c ha hc hu' e
/-- A node comes back. -/
def OS.anew (o : OS) (s : Ns) (i : Nat) : OS := ⟨fun f t => if f = i ∨ t = i then [] else o.sent f t, fun f t => if f = i ∨ t = i then 0 else o.got f t, fun f t => if t = i then 0 else if f = i then (filt i (s.box t)).length else o.old f t⟩
theorem Onc.upSt {n : Nat} {s : Ns} {o : OS} (h : Onc n s o) (hn : s.n = n) {i : Nat} (hi : i < n) (hd : s.up i = false) : Onc n (s.upTo i s.n) (o.anew s i) := by
  obtain ⟨_, _, h3, h4⟩ := upTo_rest s i s.n
  have hway : ∀ f t, f < n → t < n → (s.upTo i s.n).way (f, t) = if f = i ∨ t = i then ⟨(s.way (f, t)).ep + 1, [], 0, 0⟩ else s.way (f, t) := by
    intro f t hf ht
    rw [upTo_way, hn]
    have e : ((f, t).1 = i ∧ (f, t).2 < n ∨ (f, t).2 = i ∧ (f, t).1 < n) ↔ (f = i ∨ t = i) := by
      dsimp only
      constructor
      · rintro (⟨q, _⟩ | ⟨q, _⟩); exact .inl q; exact .inr q
      · rintro (q | q); exact .inl ⟨q, ht⟩; exact .inr ⟨q, hf⟩
    simp only [e]
  refine ⟨fun f t hf ht => ?_, fun f t hf ht h1 => ?_, fun t ht h1 => ?_⟩
  · rw [hway f t hf ht]
    unfold OS.anew
    dsimp only
    split
    · rfl
    · exact h.sent f t hf ht
  · rw [h4] at h1
    rw [hway f t hf ht, h3]
    unfold OS.anew
    dsimp only
    by_cases e : t = i
    · have q : f = i ∨ t = i := .inr e
      simp only [if_pos q, if_pos e]
      rw [e, h.down i hi hd]
      exact ⟨[], rfl, by simp [filt], Nat.le_refl _⟩
    · replace h1 : s.up t = true := by
        have q : (if t = i then true else s.up t) = true := h1
        rwa [if_neg e] at q
      by_cases e2 : f = i
      · have q : f = i ∨ t = i := .inl e2
        simp only [if_pos q, if_neg e, if_pos e2]
        rw [e2]
        exact ⟨filt i (s.box t), rfl, by simp, Nat.le_refl _⟩
      · have q : ¬ (f = i ∨ t = i) := by omega
        simp only [if_neg q, if_neg e, if_neg e2]
        exact h.up f t hf ht h1
  · rw [h4] at h1
    rw [h3]
    have q : (if t = i then true else s.up t) = false := h1
    by_cases e : t = i
    · rw [if_pos e] at q; cases q
    · rw [if_neg e] at q
      exact h.down t ht q
end Go.Proofs.Ytpmihcefjdeonaa
