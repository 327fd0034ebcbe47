/- The plain law of layer 6: all that was sent comes in the end. No statement of the seat is proved here. -/
import Derived.Test.YtpmihcefjdeonaaQH
namespace Go.Proofs.Ytpmihcefjdeonaa
open Go

def msgs (a : Nat × Nat) (ep : Nat) (sent : List (List Int)) (d : Nat) : List Pk := (List.range (sent.length - d)).map fun j => ⟨a.1, a.2, false, d + j + 1, ep, sent.getD (d + j) []⟩
theorem msgs_cons {a : Nat × Nat} {ep : Nat} {sent : List (List Int)} {d : Nat} (h : d < sent.length) : msgs a ep sent d = ⟨a.1, a.2, false, d + 1, ep, sent.getD d []⟩ :: msgs a ep sent (d + 1) := by
  unfold msgs
  have e : sent.length - d = (sent.length - (d + 1)) + 1 := by omega
  rw [e, List.range_succ_eq_map, List.map_cons, List.map_map]
  refine congrArg (List.cons _) (List.map_congr_left fun j _ => ?_)
  have e1 : d + (j + 1) = d + 1 + j := by omega
  show (⟨a.1, a.2, false, d + (j + 1) + 1, ep, sent.getD (d + (j + 1)) []⟩ : Pk) = _
  rw [e1]
def sumLag (s : Ns) (i : Nat) : Nat → Nat
  | 0 => 0
  | m + 1 => sumLag s i m + s.lag (i, m)
theorem again_fly (s : Ns) (a : Nat × Nat) (m : Nat) (h : s.fly.length + m ≤ 4096) : (s.again a m).fly = s.fly ++ (List.range m).map fun j => s.msg a ((s.way a).told + j + 1) := by
  induction m with
  | zero => simp [Ns.again]
  | succ m ih =>
    have ih := ih (by omega)
    rw [Ns.again]
    unfold Ns.flies
    rw [if_pos (by rw [ih]; simp; omega)]
    dsimp only
    rw [ih, List.range_succ, List.map_append, ← List.append_assoc]
    rfl
theorem tickTo_fly (s : Ns) (i m : Nat) (h : s.fly.length + sumLag s i m ≤ 4096) : (s.tickTo i m).fly.length = s.fly.length + sumLag s i m ∧ ∀ b, b < m → (msgs (i, b) (s.way (i, b)).ep (s.way (i, b)).sent (s.way (i, b)).told).Sublist (s.tickTo i m).fly := by
  induction m with
  | zero => exact ⟨rfl, fun b hb => by omega⟩
  | succ m ih =>
    rw [sumLag] at h
    obtain ⟨h1, h2⟩ := ih (by omega)
    have e := again_fly (s.tickTo i m) (i, m) (s.lag (i, m)) (by omega)
    rw [tickTo_way] at e
    rw [Ns.tickTo, sumLag, e]
    refine ⟨by simp [h1]; omega, fun b hb => ?_⟩
    by_cases hbm : b = m
    · subst hbm
      have e2 : msgs (i, b) (s.way (i, b)).ep (s.way (i, b)).sent (s.way (i, b)).told = (List.range (s.lag (i, b))).map fun j => (s.tickTo i b).msg (i, b) ((s.way (i, b)).told + j + 1) := by
        unfold msgs Ns.lag Ns.msg
        rw [tickTo_way]
        rfl
      rw [e2]
      exact List.sublist_append_right ..
    · exact (h2 b (by omega)).trans (List.sublist_append_left ..)
/-! ### One delivery -/
def wt (l : List Pk) : Nat := (l.map fun p => if p.ack then 1 else 2).sum
theorem wt_le (l : List Pk) : wt l ≤ 2 * l.length := by
  induction l with
  | nil => simp [wt]
  | cons p l ih =>
    have e : wt (p :: l) = (if p.ack then 1 else 2) + wt l := by simp [wt]
    rw [e, List.length_cons]
    split <;> omega
theorem deliver_cons {s : Ns} {p : Pk} {rest : List Pk} (hf : s.fly = p :: rest) : s.deliver 0 = if s.up p.to then Ns.comes { s with fly := rest } p else { s with fly := rest } := by
  have hin : s.inF 0 = true := by simp [Ns.inF, hf]
  have hl : s.lose 0 = { s with fly := rest } := by unfold Ns.lose; rw [if_pos hin, hf]; rfl
  unfold Ns.deliver
  rw [if_pos hin, hl, hf]
  rfl
theorem gets_rest (s : Ns) (p : Pk) : (s.gets p).fly = s.fly ∧ (s.gets p).up = s.up ∧ (s.gets p).n = s.n := by unfold Ns.gets; split <;> exact ⟨rfl, rfl, rfl⟩
theorem gets_came (s : Ns) (p : Pk) (x : Nat × Nat) : ((s.gets p).way x).came = if x = (p.fr, p.to) ∧ p.seq = (s.way (p.fr, p.to)).came + 1 then (s.way x).came + 1 else (s.way x).came := by
  unfold Ns.gets
  by_cases h : p.seq = (s.way (p.fr, p.to)).came + 1
  · rw [if_pos h]
    show (if x = (p.fr, p.to) then ({ s.way (p.fr, p.to) with came := (s.way (p.fr, p.to)).came + 1 } : Wy) else s.way x).came = _
    by_cases e : x = (p.fr, p.to)
    · subst e; rw [if_pos rfl, if_pos ⟨rfl, h⟩]
    · rw [if_neg e, if_neg (fun q => e q.1)]
  · rw [if_neg h, if_neg (fun q => h q.2)]
structure Grown (s s' : Ns) (p : Pk) (rest : List Pk) : Prop where
  ep : ∀ x, (s'.way x).ep = (s.way x).ep
  sent : ∀ x, (s'.way x).sent = (s.way x).sent
  told : ∀ x, (s.way x).told ≤ (s'.way x).told
  came : ∀ x, (s.way x).came ≤ (s'.way x).came
  up : s'.up = s.up
  n : s'.n = s.n
  sub : rest.Sublist s'.fly
  len : s'.fly.length ≤ rest.length + 1
  wt : wt s'.fly + 1 ≤ (if p.ack then 1 else 2) + wt rest
  heard : p.ack = true → s.up p.to = true → p.ep = (s.way (p.to, p.fr)).ep → p.seq ≤ (s.way (p.to, p.fr)).sent.length → p.seq ≤ (s'.way (p.to, p.fr)).told
  got : p.ack = false → s.up p.to = true → p.ep = (s.way (p.fr, p.to)).ep → (p.seq ≤ (s.way (p.fr, p.to)).came + 1 → p.seq ≤ (s'.way (p.fr, p.to)).came) ∧ (⟨p.to, p.fr, true, (s'.way (p.fr, p.to)).came, p.ep, []⟩ : Pk) ∈ s'.fly
theorem deliver_grown {s : Ns} {p : Pk} {rest : List Pk} (hf : s.fly = p :: rest) (hl : rest.length < 4096) : Grown s (s.deliver 0) p rest := by
  rw [deliver_cons hf]
  have h12 : 1 ≤ (if p.ack = true then 1 else 2) := by split <;> omega
  cases hu : s.up p.to with
  | false =>
    rw [if_neg (by simp)]
    exact ⟨fun _ => rfl, fun _ => rfl, fun _ => Nat.le_refl _, fun _ => Nat.le_refl _, rfl, rfl, List.Sublist.refl _, Nat.le_succ _, by dsimp only; omega, by simp [hu], by simp [hu]⟩
  | true =>
    rw [if_pos rfl]
    unfold Ns.comes
    cases hack : p.ack with
    | true =>
      rw [if_pos rfl]
      unfold Ns.hears
      split
      · rename_i he
        dsimp only at he ⊢
        refine ⟨fun x => ?_, fun x => ?_, fun x => ?_, fun x => ?_, rfl, rfl, List.Sublist.refl _, Nat.le_succ _, (by rw [if_pos hack]; show wt rest + 1 ≤ 1 + wt rest; omega), fun _ _ _ _ => ?_, by simp [hack]⟩
        · rw [setW_way]; split; (rename_i e; rw [e]); rfl
        · rw [setW_way]; split; (rename_i e; rw [e]); rfl
        · rw [setW_way]; split; (rename_i e; rw [e]; dsimp only; omega); exact Nat.le_refl _
        · rw [setW_way]; split; (rename_i e; rw [e]; exact Nat.le_refl _); exact Nat.le_refl _
        · rw [setW_way, if_pos rfl]; dsimp only; omega
      · rename_i he
        exact ⟨fun _ => rfl, fun _ => rfl, fun _ => Nat.le_refl _, fun _ => Nat.le_refl _, rfl, rfl, List.Sublist.refl _, Nat.le_succ _, (by rw [if_pos hack]; show wt rest + 1 ≤ 1 + wt rest; omega), fun _ _ h1 h2 => absurd ⟨h1, h2⟩ he, by simp [hack]⟩
    | false =>
      rw [if_neg (by simp)]
      unfold Ns.lands
      obtain ⟨gf, gu, gn⟩ := gets_rest { s with fly := rest } p
      split
      · rename_i he
        dsimp only at he
        have hroom : (Ns.gets { s with fly := rest } p).fly.length < 4096 := by rw [gf]; exact hl
        unfold Ns.flies
        rw [if_pos hroom, gf]
        dsimp only
        have hwt : ∀ q : Pk, q.ack = true → wt (rest ++ [q]) = wt rest + 1 := fun q hq => by simp [wt, hq]
        refine ⟨fun x => (gets_ep { s with fly := rest } p x).1, fun x => (gets_ep { s with fly := rest } p x).2.1, fun x => Nat.le_of_eq (gets_ep { s with fly := rest } p x).2.2.symm, fun x => ?_, gu, gn, List.sublist_append_left .., by simp, by rw [hwt _ rfl, if_neg (by simp [hack])]; omega, by simp [hack], fun _ _ _ => ⟨fun h1 => ?_, by simp⟩⟩
        · rw [gets_came]; split; exact Nat.le_succ _; exact Nat.le_refl _
        · rw [gets_came]
          dsimp only
          split
          · omega
          · rename_i hn
            have : p.seq ≠ (s.way (p.fr, p.to)).came + 1 := fun e => hn ⟨rfl, e⟩
            omega
      · rename_i he
        exact ⟨fun _ => rfl, fun _ => rfl, fun _ => Nat.le_refl _, fun _ => Nat.le_refl _, rfl, rfl, List.Sublist.refl _, Nat.le_succ _, by dsimp only; omega, by simp [hack], fun _ _ h1 => absurd h1 he⟩
/-! ### What comes -/
def Coming (s : Ns) (a b : Nat) : Prop :=
  (s.way (a, b)).told = (s.way (a, b)).sent.length ∨ (⟨b, a, true, (s.way (a, b)).sent.length, (s.way (a, b)).ep, []⟩ : Pk) ∈ s.fly ∨
  ∃ d, d < (s.way (a, b)).sent.length ∧ d ≤ (s.way (a, b)).came ∧ (msgs (a, b) (s.way (a, b)).ep (s.way (a, b)).sent d).Sublist s.fly
theorem coming_step {s : Ns} {a b : Nat} (hI : s.Inv) (hok : ∀ x, (s.way x).told ≤ (s.way x).sent.length) (ha : s.up a = true) (hb : s.up b = true) {p : Pk} {rest : List Pk} (hf : s.fly = p :: rest) (hl : rest.length < 4096) (h : Coming s a b) : Coming (s.deliver 0) a b := by
  have G := deliver_grown hf hl
  have hI' := hI.deliver 0
  have hw' := hI'.w (a, b)
  unfold Coming
  have he := G.ep (a, b)
  have hs := G.sent (a, b)
  have ht := G.told (a, b)
  have hc := G.came (a, b)
  rw [hs] at hw'
  rw [he, hs]
  rcases h with h | h | ⟨d, h1, h2, h3⟩
  · exact .inl (by omega)
  · rw [hf] at h
    rcases List.mem_cons.1 h with h | h
    · have := G.heard (by rw [← h]) (by rw [← h]; exact ha) (by rw [← h]) (by rw [← h]; exact Nat.le_refl _)
      rw [← h] at this
      dsimp only at this
      exact .inl (by omega)
    · exact .inr (.inl (G.sub.subset h))
  · rw [hf, msgs_cons h1] at h3
    cases h3 with
    | cons _ h3 =>
      exact .inr (.inr ⟨d, h1, by omega, by rw [msgs_cons h1]; exact h3.trans G.sub⟩)
    | cons_cons _ h3 =>
      obtain ⟨g1, g2⟩ := G.got rfl hb rfl
      dsimp only at g1 g2
      have g1 := g1 (by omega)
      by_cases hd : d + 1 < (s.way (a, b)).sent.length
      · exact .inr (.inr ⟨d + 1, hd, g1, h3.trans G.sub⟩)
      · have e : ((s.deliver 0).way (a, b)).came = (s.way (a, b)).sent.length := by omega
        rw [e] at g2
        exact .inr (.inl g2)
theorem coming_tick {s : Ns} {a b : Nat} (hI : s.Inv) (hok : ∀ x, (s.way x).told ≤ (s.way x).sent.length) (ha : s.there (a : Nat) = true) (hb : b < s.n) (hr : s.fly.length + sumLag s a s.n ≤ 4096) : Coming (s.tick (a : Nat)) a b ∧ (s.tick (a : Nat)).fly.length = s.fly.length + sumLag s a s.n := by
  obtain ⟨h1, h2⟩ := tickTo_fly s a s.n hr
  unfold Ns.tick
  rw [if_pos ha, Int.toNat_natCast]
  refine ⟨?_, h1⟩
  unfold Coming
  rw [tickTo_way]
  by_cases h : (s.way (a, b)).told = (s.way (a, b)).sent.length
  · exact .inl h
  · exact .inr (.inr ⟨_, by have := hok (a, b); omega, (hI.w (a, b)).1, h2 b hb⟩)
theorem coming_end {s : Ns} {a b : Nat} (h : Coming s a b) (hf : s.fly = []) : (s.way (a, b)).told = (s.way (a, b)).sent.length := by
  rcases h with h | h | ⟨d, h1, h2, h3⟩
  · exact h
  · rw [hf] at h; cases h
  · rw [hf, msgs_cons h1] at h3; cases h3
end Go.Proofs.Ytpmihcefjdeonaa
