/- Walks of layer 6: Flights. -/
import Derived.Test.YtpmihcefjdeonaaNG
namespace Go.Proofs.Ytpmihcefjdeonaa
open Go
set_option maxRecDepth 20000
set_option maxHeartbeats 2000000
attribute [local irreducible] Run Ops Fn Draw Draw2 PureOp StepZ

theorem pk_set {cs : List Value} {off : Nat} {ps : List (Pk × Value)} {i : Nat} {p : Pk} {v v' : Value} (h : Cs cs off (ps.length * 6) (ps.flatMap pkC)) (hi : i < ps.length) (hp : ps[i] = (p, v)) (hl : off + ps.length * 6 ≤ cs.length) : Cs (putC cs (off + i * 6 + 5) [v']) off (ps.length * 6) ((ps.set i (p, v')).flatMap pkC) := by
  have hput : off + i * 6 + 5 + [v'].length ≤ cs.length := by simp; omega
  have hlt : (ps.take i).length = i := by simp; omega
  have hs : ps.set i (p, v') = ps.take i ++ [(p, v')] ++ ps.drop (i + 1) := by rw [List.set_eq_take_append_cons_drop, if_pos hi]; simp
  have hsp := pk_split hi
  rw [hp] at hsp
  rw [hsp] at h
  have hAP : ((ps.take i).flatMap pkC ++ pkC (p, v)).length = (i + 1) * 6 := by rw [List.length_append, pk_len, hlt]; simp [pkC]; omega
  have e1 := ((h.sub 0 (i * 6) (by omega)).cast (vs' := (ps.take i).flatMap pkC) (i' := off) (n' := i * 6) rfl rfl (by rw [List.drop_zero, List.append_assoc, List.take_append_of_le_length (by rw [pk_len, hlt]; omega), List.take_of_length_le (by rw [pk_len, hlt]; omega)])).apart hput (.inl (by omega))
  have e2 := ((h.sub (i * 6) 5 (by omega)).cast (vs' := (pkC (p, v)).take 5) (i' := off + i * 6) (n' := 5) rfl rfl (by
    rw [List.append_assoc, List.drop_append_of_le_length (by rw [pk_len, hlt]; omega), List.drop_of_length_le (by rw [pk_len, hlt]; omega), List.nil_append, List.take_append_of_le_length (by simp [pkC])])).apart hput (.inl (by omega))
  have e3 := Cs.put hput
  have e4 := ((h.sub ((i + 1) * 6) ((ps.length - (i + 1)) * 6) (by omega)).cast (vs' := (ps.drop (i + 1)).flatMap pkC) (i' := off + (i + 1) * 6) (n' := (ps.length - (i + 1)) * 6) rfl rfl (by
    rw [List.drop_append_of_le_length (by omega), List.drop_of_length_le (by omega), List.nil_append, List.take_of_length_le (by rw [pk_len]; simp)])).apart hput (.inr (by simp; omega))
  have e5 := ((e1.append (e2.cast rfl rfl rfl)).append (e3.cast (by omega) rfl rfl)).append (e4.cast (by simp; omega) rfl rfl)
  refine e5.cast rfl (by simp; omega) ?_
  rw [hs, List.flatMap_append, List.flatMap_append]
  simp [pkC]
/-- What is on the way, as it lies in memory. -/
structure FlyAt (w : World) (nb : Nat) (fb : Option Nat) (ps : List (Pk × Value)) : Prop where
  net : ∃ uv mv fv xv, w.heap[nb]? = some (row [uv, mv, fv, xv] 84) ∧ Lst w fv fb 81 6 ps.length (ps.flatMap pkC)
  by_ : ∀ p ∈ ps, Bts w p.2 p.1.b
theorem flights_fl (z : World) (nb : Nat) (fb : Option Nat) (fl : List (Pk × Value)) (h : FlyAt z nb fb fl) (hfl : fl.length ≤ 4096) (hln : ∀ p ∈ fl, p.1.b.length ≤ 65536) : Fn env.P 11 [.pointer (some ⟨nb, 0, none⟩)] z fun v w' => Fr z w' [] ∧ ∃ ob, ∃ ps : List (Pk × Value), Lst w' v ob 81 6 ps.length (ps.flatMap pkC) ∧ ps.map (·.1) = fl.map (·.1) ∧ (∀ b, ob = some b → z.heap.size ≤ b) ∧ (∀ p ∈ ps, Bts w' p.2 p.1.b ∧ ∀ b, blkV p.2 = some b → z.heap.size ≤ b) ∧ ∀ (i j : Nat) p q b, ps[i]? = some p → ps[j]? = some q → i ≠ j → blkV p.2 = some b → blkV q.2 ≠ some b := by
  obtain ⟨uv, mv, fv, xv, a1, a6⟩ := h.net
  obtain ⟨fa, fc, rfl, _⟩ := a6.slice
  have H := (Holds.start z []).add false a1 (by simp) (by simp)
  have HF := Try.func11; refine Fn.enter Try.func11 Try.ntmps11 rfl rfl rfl ?_
  refine Run.seq ?_
  (refine Run.region ?_; intro K hK)
  refine Ops.pure H (X.assign rfl) rfl rfl rfl ?_
  (refine Ops.nil (hK _ _ ?_); clear hK K)
  refine Run.seq ?_
  (refine Run.region ?_; intro K hK)
  refine Ops.pure H (X.move rfl) rfl rfl rfl ?_
  refine Ops.pure H (X.nilCheck rfl) rfl rfl rfl ?_
  refine Ops.pure H (X.fieldAddr rfl rfl rfl rfl rfl rfl) rfl rfl rfl ?_
  refine Ops.pure H (X.load1 rfl rfl rfl rfl Pick.head rfl) rfl rfl rfl ?_
  refine Ops.eff rfl (Y.call rfl rfl (by first | assumption | decide +kernel) rfl (pclone_any _ _ fb fl.length (fl.flatMap pkC) (a6.ext H.fr) (by omega)) rfl ?_)
  rintro v2 w2 ⟨hf2, ob2, hL2, hob2⟩
  replace H := H.ext hf2
  obtain ⟨ca, cc, rfl, _⟩ := hL2.slice
  have hszw := H.fr.size
  refine Ops.pure H (X.assign rfl) rfl rfl rfl ?_
  (refine Ops.nil (hK _ _ ?_); clear hK K)
  refine Run.seq ?_
  refine Run.seq ?_
  (refine Run.region ?_; intro K hK)
  refine Ops.pure H (X.move rfl) rfl rfl rfl ?_
  refine Ops.pure H (X.len_slice rfl rfl rfl) rfl rfl rfl ?_
  refine Ops.pure H (X.move rfl) rfl rfl rfl ?_
  (refine Ops.nil (hK _ _ ?_); clear hK K)
  refine Run.block ?_
  refine Run.rounds (fun (x : Nat) => [(3, .slice ca fl.length cc), (11, .int .i64 (fl.length : Nat)), (12, .int .i64 (x : Nat))])
    (fun x w' => x ≤ fl.length ∧ Fr z w' [] ∧ ∃ ps : List (Pk × Value), ps.length = fl.length ∧ Lst w' (.slice ca fl.length cc) ob2 81 6 fl.length (ps.flatMap pkC) ∧ ps.map (·.1) = fl.map (·.1) ∧ (∀ j p, ps[j]? = some p → Bts w' p.2 p.1.b ∧ (j < x → ∀ b, blkV p.2 = some b → z.heap.size ≤ b)) ∧ ∀ (i j : Nat) p q b, i < x → j < x → ps[i]? = some p → ps[j]? = some q → i ≠ j → blkV p.2 = some b → blkV q.2 ≠ some b) (fun x => fl.length - x) 0 (by repeat (first | exact trivial | refine ⟨rfl, ?_⟩))
    ⟨by omega, H.fr, fl, rfl, hL2.ext (Fr.refl _ _), rfl, fun j p hp => ⟨(h.by_ p (List.mem_of_getElem? hp)).ext H.fr, by omega⟩, fun i j p q b hi => by omega⟩ ?_
  clear H
  rintro x w3 ⟨hx, hf3, ps, hpl, hL, hpm, hall, hds⟩ IH
  by_cases hlt : x < fl.length
  · obtain ⟨c, off, cap, cs, rfl, e, l1, l2, l3, l4, l5⟩ := hL.pos (by omega)
    cases e
    have hcz := hob2 c rfl
    obtain ⟨p, hp⟩ : ∃ p, ps[x]? = some p := ⟨ps[x], by simp [hpl, hlt]⟩
    have hpx : ps[x] = p := by rw [List.getElem?_eq_getElem (by omega)] at hp; simpa using hp
    obtain ⟨hBp, _⟩ := hall x p hp
    obtain ⟨pk, pv⟩ := p
    obtain ⟨pa, pc, hpv⟩ := hBp.slice
    dsimp only at hpv hBp
    subst hpv
    have hpk : pk ∈ fl.map (·.1) := by rw [← hpm]; exact List.mem_map.2 ⟨_, List.mem_of_getElem? hp, rfl⟩
    have hbl : pk.b.length ≤ 65536 := by
      obtain ⟨q, hq, e⟩ := List.mem_map.1 hpk
      rw [← e]
      exact hln q hq
    rw [← hpl] at l5
    have hcell : cs[off + x * 6 + 5]? = some (.slice pa pk.b.length pc) := by
      have hsp := pk_split (l := ps) (i := x) (by omega)
      rw [hpx] at hsp
      rw [Nat.add_assoc, l5.toGet (by omega), hsp, List.append_assoc, List.getElem?_append_right (by rw [pk_len]; simp; omega), pk_len]
      simp [pkC, show min x ps.length = x by omega]
    have H := (Holds.start w3 []).add false l3 (by simp) (by simp)
    refine Run.seq ?_
    (refine Run.region ?_; intro K hK)
    refine Ops.pure H (X.cmp rfl rfl rfl) rfl rfl rfl ?_
    (refine Ops.nil (hK _ _ ?_); clear hK K)
    refine Run.seq ?_
    refine Run.cond_dec rfl (fun h13 => ?x0) (fun h13 => ?y0)
    case' y0 => exfalso; omega
    case' x0 =>
      refine Run.skip ?_
      refine Run.seq ?_
      refine Run.block ?_
      refine Run.seq ?_
      (refine Run.region ?_; intro K hK)
      refine Ops.pure H (X.move rfl) rfl rfl rfl ?_
      refine Ops.pure H (X.assign rfl) rfl rfl rfl ?_
      (refine Ops.nil (hK _ _ ?_); clear hK K)
      (refine Run.region ?_; intro K hK)
      refine Ops.pure H (X.move rfl) rfl rfl rfl ?_
      refine Ops.pure H (X.move rfl) rfl rfl rfl ?_
      refine Ops.pure H (X.move rfl) rfl rfl rfl ?_
      refine Ops.pure H (X.move rfl) rfl rfl rfl ?_
      refine Ops.pure H (X.indexAddr rfl rfl (by omega) rfl rfl rfl rfl) rfl rfl rfl ?_
      refine Ops.pure H (X.fieldAddr rfl rfl rfl rfl rfl rfl) rfl rfl rfl ?_
      refine Ops.pure H (X.load1 rfl rfl rfl rfl Pick.head (by assumption)) rfl rfl rfl ?_
    refine Ops.eff rfl (Y.call rfl rfl (by first | assumption | decide +kernel) rfl (bclone_any _ _ pk.b (hBp.ext H.fr).bys (by omega)) rfl ?_)
    rintro v4 w4 ⟨hB, hf4, hbk⟩
    have hs3 := H.fr.size
    replace H := H.ext hf4
    have hF4 := H.fr
    replace H := H.anew (S' := [c]) (G' := [⟨_, _, true⟩]) (by repeat constructor) (by simp)
    obtain ⟨va4, vc4, rfl⟩ := hB.slice
    have hcn : ∀ b, blkV (.slice va4 pk.b.length vc4) = some b → z.heap.size ≤ b := fun b hb => by have := hbk b hb; have := hf3.size; omega
    have l34 := hF4.get l3 (by simp)
    refine Ops.pure H (X.indexAddr rfl rfl (by omega) rfl rfl rfl rfl) rfl rfl rfl ?_
    refine Ops.pure H (X.fieldAddr rfl rfl rfl rfl rfl rfl) rfl rfl rfl ?_
    (refine Ops.eff rfl (Y.storeI rfl rfl rfl rfl rfl rfl H Upd.head (by omega) ?_); intro w H0; clear H; have H := H0; clear H0)
    (refine Ops.nil (hK _ _ ?_); clear hK K)
    refine Run.inBlock ?_
    (refine Run.region ?_; intro K hK)
    refine Ops.pure H (X.succ rfl rfl (by omega)) rfl rfl rfl ?_
    refine Ops.pure H (X.move rfl) rfl rfl rfl ?_
    (refine Ops.nil (hK _ _ ?_); clear hK K)
    have hT := hF4.trans (U := [c]) H.fr (by simp) (by simp)
    refine (IH (x + 1) _ (by omega) ⟨by omega, hf3.trans hT (by simp) (by simp; omega), ps.set x (pk, .slice va4 pk.b.length vc4), by simpa using hpl, ⟨off, cc, putC cs (off + x * 6 + 5) [.slice va4 pk.b.length vc4], rfl, l1, l2, by have := H.pick (b := c) (by first | exact .head | exact .tail .head | exact .tail (.tail .head) | exact .tail (.tail (.tail .head)) | exact .tail (.tail (.tail (.tail .head))) | exact .tail (.tail (.tail (.tail (.tail .head)))) | exact .tail (.tail (.tail (.tail (.tail (.tail .head)))))); simpa [putC] using this, by rw [putC_length]; exact l4, ?_⟩, ?_, fun j p hj => ?_, fun i j p q b hi hj hp hq hij hb => ?_⟩).weak (by repeat (first | exact trivial | refine ⟨rfl, ?_⟩))
    · rw [← hpl]
      exact pk_set l5 (by omega) hpx (by omega)
    · rw [← hpm]
      apply List.ext_getElem?
      intro j
      simp only [List.getElem?_map, List.getElem?_set]
      split
      · subst j
        rw [hp]
        simp [hpl, hlt]
      · rfl
    · have hk5 : ∀ b ∈ [c], ∀ cs, w4.heap[b]? ≠ some (row cs 5) := by intro b hb; simp at hb; subst hb; exact not5 l34 (by decide)
      have hk5' : ∀ b ∈ [c], ∀ cs, w3.heap[b]? ≠ some (row cs 5) := by intro b hb; simp at hb; subst hb; exact not5 l3 (by decide)
      rw [List.getElem?_set] at hj
      split at hj
      · subst j
        rw [if_pos (by omega)] at hj
        cases hj
        exact ⟨hB.keepT H.fr hk5, fun _ => hcn⟩
      · obtain ⟨q1, q2⟩ := hall j p hj
        exact ⟨q1.keepT hT hk5', fun hjx => q2 (by omega)⟩
    · have hlt3 : ∀ (j : Nat) (q : Pk × Value) (b : Nat), ps[j]? = some q → blkV q.2 = some b → b < w3.heap.size := fun j q b hq hb => (hall j q hq).1.lt hb
      rw [List.getElem?_set] at hp hq
      split at hp
      · subst i
        rw [if_pos (by omega)] at hp
        cases hp
        rw [if_neg hij] at hq
        intro hb'
        have := hbk b hb
        have := hlt3 j q b hq hb'
        omega
      · split at hq
        · subst j
          rw [if_pos (by omega)] at hq
          cases hq
          intro hb'
          have := hbk b hb'
          have := hlt3 i p b hp hb
          omega
        · exact hds i j p q b (by omega) (by omega) hp hq hij hb
  · have H := Holds.start w3 []
    refine Run.seq ?_
    (refine Run.region ?_; intro K hK)
    refine Ops.pure H (X.cmp rfl rfl rfl) rfl rfl rfl ?_
    (refine Ops.nil (hK _ _ ?_); clear hK K)
    refine Run.seq ?_
    refine Run.cond_dec rfl (fun h13 => ?x1) (fun h13 => ?y1)
    case' y1 =>
      refine Run.exit rfl ?_
      refine Run.seq ?_
      (refine Run.region ?_; intro K hK)
      refine Ops.pure H (X.move rfl) rfl rfl rfl ?_
      refine Ops.pure H (X.assign rfl) rfl rfl rfl ?_
      (refine Ops.nil (hK _ _ ?_); clear hK K)
    case' x1 => exfalso; omega
    (first | refine Fn.ret1 HF rfl rfl ?_ | refine Fn.ret2 HF rfl rfl rfl ?_ | refine Fn.ret3 HF rfl rfl rfl rfl ?_ | refine Fn.ret0 HF rfl ?_ | refine Fn.fin0 HF rfl ?_ | refine Fn.retG (E := env) HF rfl H (by first | exact RVs.cellN rfl rfl rfl (by first | exact .head | exact .tail .head | exact .tail (.tail .head) | exact .tail (.tail (.tail .head)) | exact .tail (.tail (.tail (.tail .head))) | exact .tail (.tail (.tail (.tail (.tail .head)))) | exact .tail (.tail (.tail (.tail (.tail (.tail .head)))))) (by first | assumption | exact Cs.take rfl) RVs.nil | exact RVs.cellN rfl rfl rfl (by first | exact .head | exact .tail .head | exact .tail (.tail .head) | exact .tail (.tail (.tail .head)) | exact .tail (.tail (.tail (.tail .head))) | exact .tail (.tail (.tail (.tail (.tail .head)))) | exact .tail (.tail (.tail (.tail (.tail (.tail .head)))))) (by first | assumption | exact Cs.take rfl) (RVs.tmp rfl RVs.nil) | exact RVs.cellN rfl rfl rfl (by first | exact .head | exact .tail .head | exact .tail (.tail .head) | exact .tail (.tail (.tail .head)) | exact .tail (.tail (.tail (.tail .head))) | exact .tail (.tail (.tail (.tail (.tail .head)))) | exact .tail (.tail (.tail (.tail (.tail (.tail .head)))))) (by first | assumption | exact Cs.take rfl) (RVs.tmp rfl (RVs.tmp rfl RVs.nil))) rfl ?_)
    refine ⟨hf3.then H.fr, ob2, ps, by rw [hpl]; exact hL.ext H.fr, hpm, fun b hb => by have := hob2 b hb; omega, fun p hp => ?_, fun i j p q b hp hq => hds i j p q b (by have := (List.getElem?_eq_some_iff.1 hp).1; omega) (by have := (List.getElem?_eq_some_iff.1 hq).1; omega) hp hq⟩
    obtain ⟨j, hj⟩ := List.getElem?_of_mem hp
    obtain ⟨q1, q2⟩ := hall j p hj
    exact ⟨q1.ext H.fr, q2 (by have := (List.getElem?_eq_some_iff.1 hj).1; omega)⟩
theorem PN.flyAt {w : World} {g : PG} (h : PN w g) : FlyAt w g.nb g.fb g.fly := by
  obtain ⟨cu, cx, fv, a1, _, _, _, _, a6⟩ := h.net
  exact ⟨⟨_, _, fv, _, a1, a6⟩, h.flyb⟩
theorem flights_any (z : World) (g : PG) (k : Nat) (h : PN z g) (hok : g.abs.Ok k) : Fn env.P 11 [.pointer (some ⟨g.nb, 0, none⟩)] z fun v w' => Fr z w' [] ∧ ∃ ob, ∃ ps : List (Pk × Value), Lst w' v ob 81 6 ps.length (ps.flatMap pkC) ∧ ps.map (·.1) = g.abs.fly ∧ (∀ b, ob = some b → z.heap.size ≤ b) ∧ ∀ p ∈ ps, Bts w' p.2 p.1.b ∧ ∀ b, blkV p.2 = some b → z.heap.size ≤ b := by
  refine (flights_fl z g.nb g.fb g.fly h.flyAt (by rw [← fly_len]; exact hok.fly.1) (fun p hp => (hok.fly.2 p.1 (by rw [abs_fly]; exact List.mem_map.2 ⟨p, hp, rfl⟩)).2.2.1)).mono ?_
  rintro v w' ⟨hf, ob, ps, hL, hps, h1, h2, _⟩
  exact ⟨hf, ob, ps, hL, by rw [hps, abs_fly], h1, h2⟩
end Go.Proofs.Ytpmihcefjdeonaa
