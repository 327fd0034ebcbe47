/- Walks: the document's examples (lives). -/
import Derived.Test.YthidohdnaeboaaaO6
namespace Go.Proofs.Ythidohdnaeboaaa
open Go
set_option maxRecDepth 20000
set_option maxHeartbeats 2000000
attribute [local irreducible] Run Ops Fn Draw Draw2 PureOp StepZ

theorem sub1 : subOut 3 0 1 1 [0] [] = (1, 0, 1, [⟨1, 1, 1, [0]⟩]) := rfl
theorem sub2 : subOut 3 1 1 2 [0, 1] [⟨1, 1, 1, [0]⟩] = (2, 0, 2, [⟨1, 1, 1, [0]⟩, ⟨2, 1, 2, [0, 1]⟩]) := rfl
theorem sub3 : subOut 3 2 1 3 [1] [⟨1, 1, 1, [0]⟩, ⟨2, 1, 2, [0, 1]⟩] = (3, 0, 3, [⟨1, 1, 1, [0]⟩, ⟨2, 1, 2, [0, 1]⟩, ⟨3, 1, 3, [1]⟩]) := rfl
abbrev l3 : List Tk := [⟨1, 1, 1, [0]⟩, ⟨2, 1, 2, [0, 1]⟩, ⟨3, 1, 3, [1]⟩]
theorem ready3 : readyTo l3 l3.length = [1] := rfl
theorem ends32 : endsE l3 2 true = 8 ∧ endsL l3 2 true = l3 := ⟨rfl, rfl⟩
theorem ends31 : endsE l3 1 true = 0 := rfl
/-- A block of another type was written. -/
theorem Ord.keep1 {w w' : World} {o c b T : Nat} {bs : List Value} {n last : Int} {l : List Tk} (h : Ord w o c n last l) (hb : w.heap[b]? = some (row bs T)) (hT : T ≠ 3) (_ : T ≠ 56) (h1 : b ≠ o) (h2 : b ≠ c) (hf : Fr w w' [b]) : Ord w' o c n last l :=
  h.keep hf (by simpa using h1.symm) (fun hm => by simp at hm; exact absurd hm.symm h2) (fun x hx ds hd => by simp at hx; subst hx; exact ne_of_ty hb hd hT rfl)
theorem lives_any (z : World) : Fn env.P 15 [] z fun v w' => v = .bool true ∧ Fr z w' [] := by
  have H := Holds.start z []
  have HF := Try.func15; refine Fn.enter Try.func15 Try.ntmps15 rfl rfl rfl ?_
  refine Run.seq ?_
  (refine Run.region ?_; intro K hK)
  refine Ops.pure H (X.assign rfl) rfl rfl rfl ?_
  (refine Ops.nil (hK _ _ ?_); clear hK K)
  refine Run.seq ?_
  (refine Run.region ?_; intro K hK)
  refine Ops.eff rfl (Y.call rfl rfl (by first | assumption | decide +kernel) rfl (orderNew_yes _ 3 (by decide) (by decide)) rfl ?_)
  rintro v w1 ⟨o, rfl, hO, hT, hoz⟩
  have hol : o < w1.heap.size := by obtain ⟨v, hv, _⟩ := hO; exact lt_of_at hv
  replace H := H.ext hT
  refine Ops.pure H (X.move rfl) rfl rfl rfl ?_
  refine Ops.pure H (X.extract rfl rfl) rfl rfl rfl ?_
  refine Ops.pure H (X.extract rfl rfl) rfl rfl rfl ?_
  refine Ops.pure H (X.assign rfl) rfl rfl rfl ?_
  refine Ops.pure H (X.assign rfl) rfl rfl rfl ?_
  (refine Ops.nil (hK _ _ ?_); clear hK K)
  refine Run.seq ?_
  (refine Run.region ?_; intro K hK)
  refine Ops.eff rfl (Y.call rfl rfl (by first | assumption | decide +kernel) rfl (newClock_yes _ 3 (by decide) (by decide)) rfl ?_)
  rintro v w2 ⟨cb, rfl, H2, hcb⟩
  have hO2 := hO.ext H2.fr
  have hT2 := hT.then H2.fr
  have hck := H2.pick .head
  have hs1 := hT.size
  have hs2 := H2.fr.size
  have hcl := lt_of_at hck
  clear H
  have H := Holds.start w2 []
  clear H2
  refine Ops.pure H (X.move rfl) rfl rfl rfl ?_
  refine Ops.pure H (X.extract rfl rfl) rfl rfl rfl ?_
  refine Ops.pure H (X.extract rfl rfl) rfl rfl rfl ?_
  refine Ops.pure H (X.assign rfl) rfl rfl rfl ?_
  refine Ops.pure H (X.assign rfl) rfl rfl rfl ?_
  (refine Ops.nil (hK _ _ ?_); clear hK K)
  refine Run.seq ?_
  refine Run.seq ?_
  (refine Run.region ?_; intro K hK)
  refine Ops.pure H (X.move rfl) rfl rfl rfl ?_
  refine Ops.pure H (X.cmp rfl rfl rfl) rfl rfl rfl ?_
  refine Ops.pure H (X.move rfl) rfl rfl rfl ?_
  refine Ops.pure H (X.move rfl) rfl rfl rfl ?_
  refine Ops.pure H (X.cmp rfl rfl rfl) rfl rfl rfl ?_
  refine Ops.pure H (X.pick_f rfl rfl) rfl rfl rfl ?_
  refine Ops.pure H (X.move rfl) rfl rfl rfl ?_
  refine Ops.pure H (X.move rfl) rfl rfl rfl ?_
  refine Ops.pure H (X.ptrNil rfl rfl rfl rfl rfl) rfl rfl rfl ?_
  refine Ops.pure H (X.pick_f rfl rfl) rfl rfl rfl ?_
  refine Ops.pure H (X.move rfl) rfl rfl rfl ?_
  refine Ops.pure H (X.move rfl) rfl rfl rfl ?_
  refine Ops.pure H (X.ptrNil rfl rfl rfl rfl rfl) rfl rfl rfl ?_
  refine Ops.pure H (X.pick_f rfl rfl) rfl rfl rfl ?_
  (refine Ops.nil (hK _ _ ?_); clear hK K)
  refine Run.cond_false rfl ?_
  refine Run.skip ?_
  refine Run.seq ?_
  (refine Run.region ?_; intro K hK)
  refine Ops.pure H (X.move rfl) rfl rfl rfl ?_
  (refine Ops.eff rfl (Y.buildSliceO rfl rfl rfl rfl rfl rfl rfl rfl H ?_); intro b40 w H0 hb40; clear H; have H := H0; clear H0)
  refine Ops.eff rfl (Y.call rfl rfl (by first | assumption | decide +kernel) rfl (submit_any _ o o 3 0 1 1 [] _ [0] (hO2.ext H.fr) ⟨_, _, b40, 0, _, 3, (0, 0), rfl, by simp, by simp, fun _ => ⟨rfl, H.pick .head⟩, Cs.take rfl⟩ (by rintro - b off m cap ⟨⟩; exact ⟨by omega, fun e => by omega⟩) (by decide) (by decide) (by decide)) rfl ?_)
  rintro v w3 hp
  rw [sub1] at hp
  dsimp only [SubPost] at hp
  obtain ⟨rfl, hf3, c3, hO3, hc3⟩ := hp
  have hs3 := hf3.size
  have hs3' := H.fr.size
  have hT3 := (hT2.then H.fr).grow hf3 (by simp; omega)
  replace hck := hf3.get (H.fr.get hck (by simp)) (by simp; omega)
  have hc3l : c3 ≠ cb ∧ z.heap.size ≤ c3 := by omega
  clear H
  have H := Holds.start w3 []
  refine Ops.pure H (X.move rfl) rfl rfl rfl ?_
  refine Ops.pure H (X.extract rfl rfl) rfl rfl rfl ?_
  refine Ops.pure H (X.extract rfl rfl) rfl rfl rfl ?_
  refine Ops.pure H (X.assign rfl) rfl rfl rfl ?_
  refine Ops.pure H (X.assign rfl) rfl rfl rfl ?_
  (refine Ops.nil (hK _ _ ?_); clear hK K)
  refine Run.seq ?_
  (refine Run.region ?_; intro K hK)
  refine Ops.pure H (X.move rfl) rfl rfl rfl ?_
  (refine Ops.eff rfl (Y.buildSliceO rfl rfl rfl rfl rfl rfl rfl rfl H ?_); intro b46 w H0 hb46; clear H; have H := H0; clear H0)
  refine Ops.eff rfl (Y.call rfl rfl (by first | assumption | decide +kernel) rfl (submit_any _ o c3 3 1 1 2 _ _ [0, 1] (hO3.ext H.fr) ⟨_, _, b46, 0, _, 3, (0, 0), rfl, by simp, by simp, fun _ => ⟨rfl, H.pick .head⟩, Cs.take rfl⟩ (by rintro - b off m cap ⟨⟩; exact ⟨by omega, fun e ds => ne_of_ty' (H.pick .head) e (by decide)⟩) (by decide) (by decide) (by decide)) rfl ?_)
  rintro v w4 hp
  rw [sub2] at hp
  dsimp only [SubPost] at hp
  obtain ⟨rfl, hf4, c4, hO4, hc4⟩ := hp
  have hs4 := hf4.size
  have hs4' := H.fr.size
  have hT4 := (hT3.then H.fr).grow hf4 (by simp; omega)
  replace hck := hf4.get (H.fr.get hck (by simp)) (by simp; omega)
  have hcb3 := lt_of_at hck
  have hc4l : c4 ≠ cb ∧ z.heap.size ≤ c4 := by omega
  clear H
  have H := Holds.start w4 []
  refine Ops.pure H (X.move rfl) rfl rfl rfl ?_
  refine Ops.pure H (X.extract rfl rfl) rfl rfl rfl ?_
  refine Ops.pure H (X.extract rfl rfl) rfl rfl rfl ?_
  refine Ops.pure H (X.assign rfl) rfl rfl rfl ?_
  refine Ops.pure H (X.assign rfl) rfl rfl rfl ?_
  (refine Ops.nil (hK _ _ ?_); clear hK K)
  refine Run.seq ?_
  (refine Run.region ?_; intro K hK)
  refine Ops.pure H (X.move rfl) rfl rfl rfl ?_
  (refine Ops.eff rfl (Y.buildSliceO rfl rfl rfl rfl rfl rfl rfl rfl H ?_); intro b52 w H0 hb52; clear H; have H := H0; clear H0)
  refine Ops.eff rfl (Y.call rfl rfl (by first | assumption | decide +kernel) rfl (submit_any _ o c4 3 2 1 3 _ _ [1] (hO4.ext H.fr) ⟨_, _, b52, 0, _, 3, (0, 0), rfl, by simp, by simp, fun _ => ⟨rfl, H.pick .head⟩, Cs.take rfl⟩ (by rintro - b off m cap ⟨⟩; exact ⟨by omega, fun e ds => ne_of_ty' (H.pick .head) e (by decide)⟩) (by decide) (by decide) (by decide)) rfl ?_)
  rintro v w5 hp
  rw [sub3] at hp
  dsimp only [SubPost] at hp
  obtain ⟨rfl, hf5, c5, hO5, hc5⟩ := hp
  have hs5 := hf5.size
  have hs5' := H.fr.size
  have hT5 := (hT4.then H.fr).grow hf5 (by simp; omega)
  replace hck := hf5.get (H.fr.get hck (by simp)) (by simp; omega)
  have hc5l : c5 ≠ cb ∧ z.heap.size ≤ c5 := by omega
  clear H
  have H := Holds.start w5 []
  refine Ops.pure H (X.move rfl) rfl rfl rfl ?_
  refine Ops.pure H (X.extract rfl rfl) rfl rfl rfl ?_
  refine Ops.pure H (X.extract rfl rfl) rfl rfl rfl ?_
  refine Ops.pure H (X.assign rfl) rfl rfl rfl ?_
  refine Ops.pure H (X.assign rfl) rfl rfl rfl ?_
  (refine Ops.nil (hK _ _ ?_); clear hK K)
  refine Run.seq ?_
  (refine Run.region ?_; intro K hK)
  refine Ops.pure H (X.move rfl) rfl rfl rfl ?_
  refine Ops.eff rfl (Y.call rfl rfl (by first | assumption | decide +kernel) rfl (ready_any _ o c5 3 3 l3 (hO5.ext H.fr) (by decide)) rfl ?_)
  rintro v w6 ⟨hR, hf6⟩
  rw [ready3] at hR
  obtain ⟨rb, rcap, rcs, rfl, hr1, hr2, hr3, hr4, hr5, hr6⟩ := hR.get (by decide)
  have hr7 : rcs[0 + 0 * 1]? = some (.int .u64 1) := hr6.get 0 _ rfl
  have hO6 := hO5.ext hf6
  have hT6 := hT5.then hf6
  replace hck := hf6.get hck (by simp)
  have hs6 := hf6.size
  clear H
  have H := Holds.start w6 []
  refine Ops.pure H (X.assign rfl) rfl rfl rfl ?_
  (refine Ops.nil (hK _ _ ?_); clear hK K)
  refine Run.seq ?_
  (refine Run.region ?_; intro K hK)
  refine Ops.pure H (X.move rfl) rfl rfl rfl ?_
  refine Ops.eff rfl (Y.call rfl rfl (by first | assumption | decide +kernel) rfl (next_goes _ cb 0 3 hck (by decide) (by decide) (by decide) (by decide)) rfl ?_)
  rintro v w7 ⟨e7, h7⟩
  rw [show ((0 : Int) + 1) * 128 + 3 = 131 from rfl] at e7
  subst e7
  have hT7 := hT6.grow h7.fr (by simp; omega)
  have hc7 : cb ≠ o ∧ cb ≠ c5 := by omega
  have hO7 := hO6.keep1 hck (by decide) (by decide) hc7.1 hc7.2 h7.fr
  replace hck := h7.pick .head
  have hs7 := h7.fr.size
  clear H
  have H := Holds.start w7 []
  refine Ops.pure H (X.move rfl) rfl rfl rfl ?_
  refine Ops.pure H (X.extract rfl rfl) rfl rfl rfl ?_
  refine Ops.pure H (X.extract rfl rfl) rfl rfl rfl ?_
  refine Ops.pure H (X.assign rfl) rfl rfl rfl ?_
  refine Ops.pure H (X.assign rfl) rfl rfl rfl ?_
  (refine Ops.nil (hK _ _ ?_); clear hK K)
  refine Run.seq ?_
  (refine Run.region ?_; intro K hK)
  refine Ops.pure H (X.move rfl) rfl rfl rfl ?_
  refine Ops.eff rfl (Y.call rfl rfl (by first | assumption | decide +kernel) rfl (see_any _ cb 1 3 1000 hck (by decide) (by decide)) rfl ?_)
  rintro v w8 h8
  rw [show (if (1000 : Int) / 128 > 1 then (1000 : Int) / 128 else 1) = 7 from rfl] at h8
  have hT8 := hT7.grow h8.fr (by simp; omega)
  have hO8 := hO7.keep1 hck (by decide) (by decide) hc7.1 hc7.2 h8.fr
  replace hck := h8.pick .head
  have hs8 := h8.fr.size
  clear H
  have H := Holds.start w8 []
  (refine Ops.nil (hK _ _ ?_); clear hK K)
  refine Run.seq ?_
  (refine Run.region ?_; intro K hK)
  refine Ops.pure H (X.move rfl) rfl rfl rfl ?_
  refine Ops.eff rfl (Y.call rfl rfl (by first | assumption | decide +kernel) rfl (next_goes _ cb 7 3 hck (by decide) (by decide) (by decide) (by decide)) rfl ?_)
  rintro v w9 ⟨e9, h9⟩
  rw [show ((7 : Int) + 1) * 128 + 3 = 1027 from rfl] at e9
  subst e9
  have hT9 := hT8.grow h9.fr (by simp; omega)
  have hO9 := hO8.keep1 hck (by decide) (by decide) hc7.1 hc7.2 h9.fr
  have hs9 := h9.fr.size
  have hrc : rb ≠ cb := by omega
  have hr9 := h9.fr.get (h8.fr.get (h7.fr.get hr4 (by simpa using hrc)) (by simpa using hrc)) (by simpa using hrc)
  clear H
  have H := (Holds.start w9 []).add false hr9 (by simp) (by simp)
  rw [show ([1] : List Int).length = 1 from rfl]
  refine Ops.pure H (X.move rfl) rfl rfl rfl ?_
  refine Ops.pure H (X.extract rfl rfl) rfl rfl rfl ?_
  refine Ops.pure H (X.extract rfl rfl) rfl rfl rfl ?_
  refine Ops.pure H (X.assign rfl) rfl rfl rfl ?_
  refine Ops.pure H (X.assign rfl) rfl rfl rfl ?_
  (refine Ops.nil (hK _ _ ?_); clear hK K)
  refine Run.seq ?_
  (refine Run.region ?_; intro K hK)
  refine Ops.pure H (X.move rfl) rfl rfl rfl ?_
  refine Ops.pure H (X.cmp rfl rfl rfl) rfl rfl rfl ?_
  refine Ops.pure H (X.move rfl) rfl rfl rfl ?_
  refine Ops.pure H (X.move rfl) rfl rfl rfl ?_
  refine Ops.pure H (X.cmp rfl rfl rfl) rfl rfl rfl ?_
  refine Ops.pure H (X.pick_t rfl rfl) rfl rfl rfl ?_
  refine Ops.pure H (X.move rfl) rfl rfl rfl ?_
  refine Ops.pure H (X.move rfl) rfl rfl rfl ?_
  refine Ops.pure H (X.cmp rfl rfl rfl) rfl rfl rfl ?_
  refine Ops.pure H (X.pick_t rfl rfl) rfl rfl rfl ?_
  refine Ops.pure H (X.move rfl) rfl rfl rfl ?_
  refine Ops.pure H (X.move rfl) rfl rfl rfl ?_
  refine Ops.pure H (X.cmp rfl rfl rfl) rfl rfl rfl ?_
  refine Ops.pure H (X.pick_t rfl rfl) rfl rfl rfl ?_
  refine Ops.pure H (X.move rfl) rfl rfl rfl ?_
  refine Ops.pure H (X.move rfl) rfl rfl rfl ?_
  refine Ops.pure H (X.cmp rfl rfl rfl) rfl rfl rfl ?_
  refine Ops.pure H (X.pick_t rfl rfl) rfl rfl rfl ?_
  refine Ops.pure H (X.move rfl) rfl rfl rfl ?_
  refine Ops.pure H (X.move rfl) rfl rfl rfl ?_
  refine Ops.pure H (X.cmp rfl rfl rfl) rfl rfl rfl ?_
  refine Ops.pure H (X.pick_t rfl rfl) rfl rfl rfl ?_
  refine Ops.pure H (X.move rfl) rfl rfl rfl ?_
  refine Ops.pure H (X.move rfl) rfl rfl rfl ?_
  refine Ops.pure H (X.len_slice rfl rfl rfl) rfl rfl rfl ?_
  refine Ops.pure H (X.cmp rfl rfl rfl) rfl rfl rfl ?_
  refine Ops.pure H (X.pick_t rfl rfl) rfl rfl rfl ?_
  refine Ops.pure H (X.move rfl) rfl rfl rfl ?_
  refine Ops.pure H (X.move rfl) rfl rfl rfl ?_
  refine Ops.pure H (X.indexAddrK (j := 0) rfl rfl rfl (by omega) rfl rfl rfl rfl) rfl rfl rfl ?_
  refine Ops.pure H (X.load1 rfl rfl rfl rfl Pick.head (by assumption)) rfl rfl rfl ?_
  refine Ops.pure H (X.cmp rfl rfl rfl) rfl rfl rfl ?_
  refine Ops.pure H (X.pick_t rfl rfl) rfl rfl rfl ?_
  refine Ops.pure H (X.move rfl) rfl rfl rfl ?_
  refine Ops.pure H (X.move rfl) rfl rfl rfl ?_
  refine Ops.split_dec rfl rfl (fun h105 => ?x0) (fun h105 => ?y0)
  case' y0 => exfalso; omega
  refine Ops.eff rfl (Y.call rfl rfl (by first | assumption | decide +kernel) rfl (done_any _ o c5 3 3 2 l3 (hO9.ext H.fr)) rfl ?_)
  rintro v w10 ⟨rfl, hf10, hO10⟩
  rw [ends32.2] at hO10
  rw [ends32.1]
  have hT10 := (hT9.then H.fr).grow hf10 (by simp; omega)
  clear H
  have H := Holds.start w10 []
  refine Ops.pure H (X.cmp rfl rfl rfl) rfl rfl rfl ?_
  refine Ops.pure H (X.pick_t rfl rfl) rfl rfl rfl ?_
  refine Ops.pure H (X.move rfl) rfl rfl rfl ?_
  refine Ops.pure H (X.move rfl) rfl rfl rfl ?_
  refine Ops.split_dec rfl rfl (fun h110 => ?x1) (fun h110 => ?y1)
  case' y1 => exfalso; omega
  refine Ops.eff rfl (Y.call rfl rfl (by first | assumption | decide +kernel) rfl (done_any _ o c5 3 3 1 l3 (hO10.ext H.fr)) rfl ?_)
  rintro v w11 ⟨rfl, hf11, hO11⟩
  rw [ends31]
  have hT11 := (hT10.then H.fr).grow hf11 (by simp; omega)
  clear H
  have H := Holds.start w11 []
  refine Ops.pure H (X.cmp rfl rfl rfl) rfl rfl rfl ?_
  refine Ops.pure H (X.pick_t rfl rfl) rfl rfl rfl ?_
  refine Ops.pure H (X.move rfl) rfl rfl rfl ?_
  refine Ops.pure H (X.move rfl) rfl rfl rfl ?_
  refine Ops.pure H (X.cmp rfl rfl rfl) rfl rfl rfl ?_
  refine Ops.pure H (X.pick_t rfl rfl) rfl rfl rfl ?_
  refine Ops.pure H (X.move rfl) rfl rfl rfl ?_
  refine Ops.pure H (X.move rfl) rfl rfl rfl ?_
  refine Ops.pure H (X.cmp rfl rfl rfl) rfl rfl rfl ?_
  refine Ops.pure H (X.pick_t rfl rfl) rfl rfl rfl ?_
  refine Ops.pure H (X.move rfl) rfl rfl rfl ?_
  refine Ops.pure H (X.move rfl) rfl rfl rfl ?_
  refine Ops.pure H (X.cmp rfl rfl rfl) rfl rfl rfl ?_
  refine Ops.pure H (X.pick_t rfl rfl) rfl rfl rfl ?_
  refine Ops.pure H (X.move rfl) rfl rfl rfl ?_
  refine Ops.pure H (X.move rfl) rfl rfl rfl ?_
  refine Ops.pure H (X.cmp rfl rfl rfl) rfl rfl rfl ?_
  refine Ops.pure H (X.pick_t rfl rfl) rfl rfl rfl ?_
  refine Ops.pure H (X.assign rfl) rfl rfl rfl ?_
  (refine Ops.nil (hK _ _ ?_); clear hK K)
  (first | refine Fn.ret1 HF rfl rfl ?_ | refine Fn.ret2 HF rfl rfl rfl ?_ | refine Fn.ret3 HF rfl rfl rfl rfl ?_ | refine Fn.ret0 HF rfl ?_ | refine Fn.fin0 HF rfl ?_ | refine Fn.retG (E := env) HF rfl H (by first | exact RVs.cellN rfl rfl rfl (by first | exact .head | exact .tail .head | exact .tail (.tail .head) | exact .tail (.tail (.tail .head)) | exact .tail (.tail (.tail (.tail .head))) | exact .tail (.tail (.tail (.tail (.tail .head)))) | exact .tail (.tail (.tail (.tail (.tail (.tail .head)))))) (by first | assumption | exact Cs.take rfl) RVs.nil | exact RVs.cellN rfl rfl rfl (by first | exact .head | exact .tail .head | exact .tail (.tail .head) | exact .tail (.tail (.tail .head)) | exact .tail (.tail (.tail (.tail .head))) | exact .tail (.tail (.tail (.tail (.tail .head)))) | exact .tail (.tail (.tail (.tail (.tail (.tail .head)))))) (by first | assumption | exact Cs.take rfl) (RVs.tmp rfl RVs.nil)) rfl ?_)
  exact ⟨rfl, hT11⟩
end Go.Proofs.Ythidohdnaeboaaa