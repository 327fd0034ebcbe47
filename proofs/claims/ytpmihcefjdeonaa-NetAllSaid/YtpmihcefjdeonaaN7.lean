/- Walks of layer 6: slices.Delete, take, Lose, Twice. -/
import Derived.Test.YtpmihcefjdeonaaN6
namespace Go.Proofs.Ytpmihcefjdeonaa
open Go
set_option maxRecDepth 20000
set_option maxHeartbeats 2000000
attribute [local irreducible] Run Ops Fn Draw Draw2 PureOp StepZ

theorem delete_any (z : World) (c off i m cap : Nat) (cs A P B : List Value) (hc : z.heap[c]? = some (row cs 81)) (hcap : i + 1 + m ≤ cap) (hmx : cap ≤ 9223372036854775807) (hl : off + cap * 6 ≤ cs.length) (hA : A.length = i * 6) (hP : P.length = 6) (hB : B.length = m * 6)
    (hC : Cs cs off ((i + 1 + m) * 6) (A ++ P ++ B)) (h1 : ∀ v ∈ B, v.oneCell' = true) :
    Fn env.P 60 [.slice (some ⟨c, off, none⟩) (i + 1 + m) cap, .int .i64 (i : Nat), .int .i64 ((i + 1 : Nat) : Nat)] z fun v w' => v = .slice (some ⟨c, off, none⟩) (i + m) cap ∧ Fr z w' [c] ∧ ∃ cs', w'.heap[c]? = some (row cs' 81) ∧ off + cap * 6 ≤ cs'.length ∧ Cs cs' off ((i + m) * 6) (A ++ B) := by
  have H := (Holds.start z [c]).add true hc (by simp) (by simp)
  have hCA : Cs cs off (i * 6) A := (hC.sub 0 (i * 6) (by omega)).cast rfl rfl (by simp [← hA])
  have hCB : Cs cs (off + (i + 1) * 6) (m * 6) B := (hC.sub ((i + 1) * 6) (m * 6) (by omega)).cast rfl rfl (by
    rw [List.drop_append_of_le_length (by simp; omega), List.drop_of_length_le (by simp; omega)]
    simp [← hB])
  have HF := Try.func60; refine Fn.enter Try.func60 Try.ntmps60 rfl rfl rfl ?_
  refine Run.seq ?_
  (refine Run.region ?_; intro K hK)
  refine Ops.pure H (X.assign rfl) rfl rfl rfl ?_
  (refine Ops.nil (hK _ _ ?_); clear hK K)
  refine Run.seq ?_
  (refine Run.region ?_; intro K hK)
  refine Ops.pure H (X.move rfl) rfl rfl rfl ?_
  refine Ops.pure H (X.move rfl) rfl rfl rfl ?_
  refine Ops.pure H (X.move rfl) rfl rfl rfl ?_
  refine Ops.pure H (X.move rfl) rfl rfl rfl ?_
  refine Ops.pure H (X.len_slice rfl rfl rfl) rfl rfl rfl ?_
  refine Ops.pure H (X.slice_lhm rfl rfl rfl rfl (by omega) (by omega) (by omega) rfl rfl rfl rfl) rfl rfl rfl ?_
  (refine Ops.nil (hK _ _ ?_); clear hK K)
  refine Run.seq ?_
  refine Run.seq ?_
  (refine Run.region ?_; intro K hK)
  refine Ops.pure H (X.move rfl) rfl rfl rfl ?_
  refine Ops.pure H (X.move rfl) rfl rfl rfl ?_
  refine Ops.pure H (X.cmp rfl rfl rfl) rfl rfl rfl ?_
  (refine Ops.nil (hK _ _ ?_); clear hK K)
  refine Run.cond_dec rfl (fun h16 => ?x0) (fun h16 => ?y0)
  case' y0 =>
    refine Run.skip ?_
    refine Run.seq ?_
    (refine Run.region ?_; intro K hK)
    refine Ops.pure H (X.move rfl) rfl rfl rfl ?_
    refine Ops.pure H (X.len_slice rfl rfl rfl) rfl rfl rfl ?_
    refine Ops.pure H (X.assign rfl) rfl rfl rfl ?_
    (refine Ops.nil (hK _ _ ?_); clear hK K)
    refine Run.seq ?_
    (refine Run.draw H [6] [0, 1, 2, 3, 4, 5, 6, 7] ?_; clear H; intro K hK w H)
    refine Draw.take0 rfl (X.move rfl) rfl rfl rfl (by decide +kernel) ?_
    refine Draw.take0 rfl (X.move rfl) rfl rfl rfl (by decide +kernel) ?_
    refine Draw.take0 rfl (X.slice_h rfl rfl (by omega) rfl rfl rfl) rfl rfl rfl (by decide +kernel) ?_
    refine Draw.take0 rfl (X.move rfl) rfl rfl rfl (by decide +kernel) ?_
    refine Draw.take0 rfl (X.move rfl) rfl rfl rfl (by decide +kernel) ?_
    refine Draw.take0 rfl (X.slice_l rfl rfl (by omega) rfl rfl rfl rfl) rfl rfl rfl (by decide +kernel) ?_
  case' x0 => exfalso; omega
  simp only [show i + 1 + m - (i + 1) = m by omega]
  have hsrc : Src w (some ⟨c, if cap = i + 1 then off else off + (i + 1) * 6, none⟩) B := by
    by_cases hm : m = 0
    · subst hm
      rw [List.eq_nil_of_length_eq_zero (by omega : B.length = 0)]
      exact Src.nil
    · rw [if_neg (by omega)]
      exact Src.row H .head hCB
  refine Draw.last rfl rfl (by decide +kernel) (Y.append_room (news := B) rfl rfl rfl rfl rfl H .head (by omega) (by dsimp only; omega) hB hsrc h1 rfl ?_)
  intro w3 H3
  dsimp only at H3
  clear H
  have H := H3
  clear H3
  have hp1 : off + i * 6 + B.length ≤ cs.length := by omega
  refine Draw2.take rfl (X.assign rfl) rfl rfl rfl (by decide +kernel) ?_
  (refine Draw2.done (by decide +kernel) (hK _ _ ?_); clear hK K)
  refine Run.seq ?_
  (refine Run.region ?_; intro K hK)
  refine Ops.pure H (X.move rfl) rfl rfl rfl ?_
  refine Ops.pure H (X.move rfl) rfl rfl rfl ?_
  refine Ops.pure H (X.len_slice rfl rfl rfl) rfl rfl rfl ?_
  refine Ops.pure H (X.move rfl) rfl rfl rfl ?_
  refine Ops.pure H (X.slice_lh rfl rfl rfl (by omega) (by omega) rfl rfl rfl rfl) rfl rfl rfl ?_
  simp only [if_neg (show ¬ cap = i + m by omega), show i + 1 + m - (i + m) = 1 by omega]
  refine Ops.eff rfl (Y.clear rfl rfl rfl rfl rfl rfl H .head (by rw [putC_length]; dsimp only; omega) ?_)
  intro zs w4 hz H4
  dsimp only at hz
  clear H
  have H := H4
  clear H4
  have hp2 : off + (i + m) * 6 + zs.length ≤ (putC cs (off + i * 6) B).length := by rw [putC_length]; omega
  (refine Ops.nil (hK _ _ ?_); clear hK K)
  refine Run.seq ?_
  (refine Run.region ?_; intro K hK)
  refine Ops.pure H (X.move rfl) rfl rfl rfl ?_
  refine Ops.pure H (X.assign rfl) rfl rfl rfl ?_
  (refine Ops.nil (hK _ _ ?_); clear hK K)
  (first | refine Fn.ret1 HF rfl rfl ?_ | refine Fn.ret2 HF rfl rfl rfl ?_ | refine Fn.ret3 HF rfl rfl rfl rfl ?_ | refine Fn.ret0 HF rfl ?_ | refine Fn.fin0 HF rfl ?_ | refine Fn.retG (E := env) HF rfl H (by first | exact RVs.cellN rfl rfl rfl (by first | exact .head | exact .tail .head | exact .tail (.tail .head) | exact .tail (.tail (.tail .head)) | exact .tail (.tail (.tail (.tail .head))) | exact .tail (.tail (.tail (.tail (.tail .head)))) | exact .tail (.tail (.tail (.tail (.tail (.tail .head)))))) (by first | assumption | exact Cs.take rfl) RVs.nil | exact RVs.cellN rfl rfl rfl (by first | exact .head | exact .tail .head | exact .tail (.tail .head) | exact .tail (.tail (.tail .head)) | exact .tail (.tail (.tail (.tail .head))) | exact .tail (.tail (.tail (.tail (.tail .head)))) | exact .tail (.tail (.tail (.tail (.tail (.tail .head)))))) (by first | assumption | exact Cs.take rfl) (RVs.tmp rfl RVs.nil) | exact RVs.cellN rfl rfl rfl (by first | exact .head | exact .tail .head | exact .tail (.tail .head) | exact .tail (.tail (.tail .head)) | exact .tail (.tail (.tail (.tail .head))) | exact .tail (.tail (.tail (.tail (.tail .head)))) | exact .tail (.tail (.tail (.tail (.tail (.tail .head)))))) (by first | assumption | exact Cs.take rfl) (RVs.tmp rfl (RVs.tmp rfl RVs.nil))) rfl ?_)
  refine ⟨rfl, H.fr, _, H.pick .head, by rw [putC_length, putC_length]; exact hl, ?_⟩
  have e1 := (hCA.apart hp1 (.inl (by omega))).apart hp2 (.inl (by omega))
  have e2 := (Cs.put hp1).apart hp2 (.inl (by omega))
  exact (e1.append e2).cast rfl (by omega) rfl
theorem pk_one {w : World} {l : List (Pk × Value)} (h : ∀ p ∈ l, Bts w p.2 p.1.b) : ∀ v ∈ l.flatMap pkC, v.oneCell' = true := by
  intro v hv
  obtain ⟨p, hp, hv⟩ := List.mem_flatMap.1 hv
  simp [pkC] at hv
  rcases hv with rfl | rfl | rfl | rfl | rfl | rfl <;> first | rfl | exact (h p hp).one
theorem pk_len (l : List (Pk × Value)) : (l.flatMap pkC).length = l.length * 6 := by
  induction l with
  | nil => rfl
  | cons p r ih => rw [List.flatMap_cons, List.length_append, ih]; simp [pkC]; omega
theorem split_at {α : Type} {l : List α} {i : Nat} (h : i < l.length) : l = l.take i ++ [l[i]] ++ l.drop (i + 1) := by simp
theorem pk_split {l : List (Pk × Value)} {i : Nat} (h : i < l.length) : l.flatMap pkC = (l.take i).flatMap pkC ++ pkC l[i] ++ (l.drop (i + 1)).flatMap pkC := by
  conv => lhs; rw [split_at h]
  rw [List.flatMap_append, List.flatMap_append]
  simp
def pk0 : Pk := ⟨0, 0, false, 0, 0, []⟩
/-- A packet is taken off the way. -/
theorem take_any (z : World) (g : PG) (i : Int) (h : PN z g) (hfl : g.fly.length ≤ 4096) : Fn env.P 48 [.pointer (some ⟨g.nb, 0, none⟩), .int .i64 i] z fun v w' =>
    (¬ (0 ≤ i ∧ i < g.fly.length) ∧ v = .tuple #[.agg (pkC (pk0, .slice none 0 0)).toArray, .bool false] ∧ Fr z w' []) ∨
    ∃ k p g', i = (k : Nat) ∧ g.fly[k]? = some p ∧ v = .tuple #[.agg (pkC p).toArray, .bool true] ∧ PStep z g w' g' ∧ g'.abs = { g.abs with fly := g.abs.fly.eraseIdx k } ∧ g'.way = g.way ∧ g'.box = g.box ∧ g'.fly = g.fly.eraseIdx k ∧ Bts w' p.2 p.1.b ∧ (∀ b, blkV p.2 = some b → PI g b) := by
  obtain ⟨cu, cx, fv, a1, a2, a3, a4, a5, a6⟩ := h.net
  by_cases hr : 0 ≤ i ∧ i < g.fly.length
  · obtain ⟨k, rfl⟩ : ∃ k : Nat, i = k := ⟨i.toNat, by omega⟩
    have hk : k < g.fly.length := by omega
    obtain ⟨fb, foff, fcap, fcs, hfb, rfl, f1, f2, f3, f4, f5⟩ := a6.pos (by omega)
    have hBp := h.flyb _ (List.getElem_mem hk)
    have hsp := pk_split hk
    have hcell : Cs fcs (foff + k * 6) 6 (pkC g.fly[k]) := by
      refine (f5.sub (k * 6) 6 (by omega)).cast rfl rfl ?_
      rw [hsp, List.append_assoc, List.drop_append_of_le_length (by rw [pk_len]; simp; omega), List.drop_of_length_le (by rw [pk_len]; simp; omega)]
      simp [pkC]
    have hfn : fb ≠ g.nb := (ne_of_ty f3 a1 (by decide))
    obtain ⟨p, hp⟩ : ∃ p, g.fly[k] = p := ⟨_, rfl⟩
    have hpk : g.fly[k]? = some p := by rw [List.getElem?_eq_getElem hk, hp]
    have hpm : p ∈ g.fly := by rw [← hp]; exact List.getElem_mem _
    rw [hp] at hBp hcell hsp
    obtain ⟨pk, pv⟩ := p
    obtain ⟨pa, pc, hpv⟩ := hBp.slice
    dsimp only at hpv
    subst hpv
    unfold pkC at hcell
    dsimp only at hcell
    have H := ((Holds.start z []).add false f3 (by simp) (by simp)).add false a1 (by simpa using hfn.symm) (by simp)
    have HF := Try.func48; refine Fn.enter Try.func48 Try.ntmps48 rfl rfl rfl ?_
    refine Run.seq ?_
    (refine Run.region ?_; intro K hK)
    (refine Ops.eff rfl (Y.alloc rfl rfl rfl H ?_); intro b4 w H0 hb4; clear H; have H := H0; clear H0)
    refine Ops.pure H (X.assign rfl) rfl rfl rfl ?_
    (refine Ops.nil (hK _ _ ?_); clear hK K)
    refine Run.seq ?_
    refine Run.seq ?_
    (refine Run.region ?_; intro K hK)
    refine Ops.pure H (X.move rfl) rfl rfl rfl ?_
    refine Ops.pure H (X.cmp rfl rfl rfl) rfl rfl rfl ?_
    refine Ops.pure H (X.move rfl) rfl rfl rfl ?_
    refine Ops.pure H (X.move rfl) rfl rfl rfl ?_
    refine Ops.pure H (X.move rfl) rfl rfl rfl ?_
    refine Ops.pure H (X.nilCheck rfl) rfl rfl rfl ?_
    refine Ops.pure H (X.fieldAddr rfl rfl rfl rfl rfl rfl) rfl rfl rfl ?_
    refine Ops.pure H (X.load1 rfl rfl rfl rfl (.tail .head) rfl) rfl rfl rfl ?_
    refine Ops.pure H (X.len_slice rfl rfl rfl) rfl rfl rfl ?_
    refine Ops.pure H (X.cmp rfl rfl rfl) rfl rfl rfl ?_
    refine Ops.pure H (X.pick_f rfl rfl) rfl rfl rfl ?_
    (refine Ops.nil (hK _ _ ?_); clear hK K)
    refine Run.cond_dec rfl (fun h17 => ?x1) (fun h17 => ?y1)
    case' y1 =>
      refine Run.skip ?_
      refine Run.seq ?_
      (refine Run.region ?_; intro K hK)
      refine Ops.pure H (X.move rfl) rfl rfl rfl ?_
      refine Ops.pure H (X.nilCheck rfl) rfl rfl rfl ?_
      refine Ops.pure H (X.fieldAddr rfl rfl rfl rfl rfl rfl) rfl rfl rfl ?_
      refine Ops.pure H (X.load1 rfl rfl rfl rfl (.tail .head) rfl) rfl rfl rfl ?_
      refine Ops.pure H (X.move rfl) rfl rfl rfl ?_
      refine Ops.pure H (X.indexAddr rfl rfl (by omega) rfl rfl rfl rfl) rfl rfl rfl ?_
      refine Ops.pure H (X.loadN rfl rfl rfl (.tail (.tail .head)) (by assumption)) rfl rfl rfl ?_
      (refine Ops.eff rfl (Y.alloc rfl rfl rfl H ?_); intro b6 w H0 hb6; clear H; have H := H0; clear H0)
      (refine Ops.eff rfl (Y.storeO rfl rfl rfl rfl rfl rfl H Upd.head rfl ?_); intro w H0; clear H; have H := H0; clear H0)
      (refine Ops.nil (hK _ _ ?_); clear hK K)
      refine Run.seq ?_
      (refine Run.region ?_; intro K hK)
      refine Ops.pure H (X.move rfl) rfl rfl rfl ?_
      refine Ops.pure H (X.move rfl) rfl rfl rfl ?_
      refine Ops.pure H (X.nilCheck rfl) rfl rfl rfl ?_
      refine Ops.pure H (X.fieldAddr rfl rfl rfl rfl rfl rfl) rfl rfl rfl ?_
      refine Ops.pure H (X.load1 rfl rfl rfl rfl (.tail (.tail .head)) rfl) rfl rfl rfl ?_
    case' x1 => exfalso; omega
    have hltG := H.ltG
    have hsz := H.fr.size
    refine Ops.eff rfl (Y.call rfl rfl (by first | assumption | decide +kernel) rfl (pclone_any _ _ g.fb g.fly.length (g.fly.flatMap pkC) (a6.ext H.fr) (by omega)) rfl ?_)
    rintro v2 w2 ⟨hf2, ob2, hL2, hob2⟩
    replace H := H.ext hf2
    obtain ⟨c, coff, ccap, ccs, rfl, rfl, l1, l2, l3, l4, l5⟩ := hL2.pos (by omega)
    have hcz := hob2 c rfl
    obtain ⟨m, hm⟩ : ∃ m, g.fly.length = k + 1 + m := ⟨g.fly.length - (k + 1), by omega⟩
    rw [hm] at l1 l5 ⊢
    refine Ops.pure H (X.move rfl) rfl rfl rfl ?_
    refine Ops.pure H (X.move rfl) rfl rfl rfl ?_
    refine Ops.pure H (X.succ rfl rfl (by omega)) rfl rfl rfl ?_
    refine Ops.eff rfl (Y.call rfl rfl (by first | assumption | decide +kernel) rfl (delete_any _ c coff k m ccap ccs ((g.fly.take k).flatMap pkC) (pkC (pk, .slice pa pk.b.length pc)) ((g.fly.drop (k + 1)).flatMap pkC) l3 l1 l2 l4 (by rw [pk_len]; simp; omega) rfl (by rw [pk_len]; simp; omega) (by rw [← hsp]; exact l5) (pk_one fun p hp => h.flyb p (List.mem_of_mem_drop hp))) rfl ?_)
    rintro v3 w3 ⟨rfl, hf3, dcs, d1, d2, d3⟩
    replace H := H.extF hf3 (fun x hx => by simp at hx; exact .inr (by omega)) (fun e he hx => by have := hltG e he; simp at hx; omega)
    have hF3 := H.fr
    have hltG3 := H.ltG
    replace H := H.anew (S' := [b6, b4, g.nb]) (G' := [⟨_, _, true⟩, ⟨_, _, true⟩, ⟨_, _, true⟩, ⟨_, _, false⟩]) (by repeat constructor) (by simp)
    refine Ops.pure H (X.nilCheck rfl) rfl rfl rfl ?_
    refine Ops.pure H (X.fieldAddr rfl rfl rfl rfl rfl rfl) rfl rfl rfl ?_
    (refine Ops.eff rfl (Y.store1 rfl rfl rfl rfl rfl rfl H (.tail (.tail .head)) (by repeat (first | exact SetC.zero | apply SetC.succ)) ?_); intro w H0; clear H; have H := H0; clear H0)
    (refine Ops.nil (hK _ _ ?_); clear hK K)
    refine Run.seq ?_
    (refine Run.region ?_; intro K hK)
    refine Ops.pure H (X.loadN rfl rfl rfl Pick.head (Cs.take rfl)) rfl rfl rfl ?_
    (refine Ops.eff rfl (Y.storeO rfl rfl rfl rfl rfl rfl H (.tail .head) rfl ?_); intro w H0; clear H; have H := H0; clear H0)
    refine Ops.pure H (X.assign rfl) rfl rfl rfl ?_
    (refine Ops.nil (hK _ _ ?_); clear hK K)
    (first | refine Fn.ret1 HF rfl rfl ?_ | refine Fn.ret2 HF rfl rfl rfl ?_ | refine Fn.ret3 HF rfl rfl rfl rfl ?_ | refine Fn.ret0 HF rfl ?_ | refine Fn.fin0 HF rfl ?_ | refine Fn.retG (E := env) HF rfl H (by first | exact RVs.cellN rfl rfl rfl (by first | exact .head | exact .tail .head | exact .tail (.tail .head) | exact .tail (.tail (.tail .head)) | exact .tail (.tail (.tail (.tail .head))) | exact .tail (.tail (.tail (.tail (.tail .head)))) | exact .tail (.tail (.tail (.tail (.tail (.tail .head)))))) (by first | assumption | exact Cs.take rfl) RVs.nil | exact RVs.cellN rfl rfl rfl (by first | exact .head | exact .tail .head | exact .tail (.tail .head) | exact .tail (.tail (.tail .head)) | exact .tail (.tail (.tail (.tail .head))) | exact .tail (.tail (.tail (.tail (.tail .head)))) | exact .tail (.tail (.tail (.tail (.tail (.tail .head)))))) (by first | assumption | exact Cs.take rfl) (RVs.tmp rfl RVs.nil) | exact RVs.cellN rfl rfl rfl (by first | exact .head | exact .tail .head | exact .tail (.tail .head) | exact .tail (.tail (.tail .head)) | exact .tail (.tail (.tail (.tail .head))) | exact .tail (.tail (.tail (.tail (.tail .head)))) | exact .tail (.tail (.tail (.tail (.tail (.tail .head)))))) (by first | assumption | exact Cs.take rfl) (RVs.tmp rfl (RVs.tmp rfl RVs.nil))) rfl ?_)
    have hcn : c ≠ g.nb := by have := lt_of_at a1; omega
    have hc6 : c ∉ [b6, b4, g.nb] := by
      have h1 := hltG ⟨b6, _, true⟩ (List.mem_cons_self ..)
      have h2 := hltG ⟨b4, _, true⟩ (List.mem_cons_of_mem _ (List.mem_cons_self ..))
      dsimp only at h1 h2
      simp
      omega
    have hT : Fr z w [g.nb] := hF3.trans H.fr (by simp) (fun x hx hl => by simp at hx ⊢; rcases hx with rfl | rfl | h <;> first | omega | exact h)
    refine .inr ⟨k, (pk, .slice pa pk.b.length pc), { g with fb := some c, fly := g.fly.eraseIdx k }, rfl, hpk, rfl, ?_, ?_, rfl, rfl, rfl, ?_, fun b hb => .inl ⟨_, hpm, hb⟩⟩
    · have hle : (g.fly.eraseIdx k).length = k + m := by rw [List.length_eraseIdx, if_pos hk]; omega
      refine h.setFly hT (fun b hb => .inl (by simpa using hb)) ⟨_, _, H.pick (by first | exact .head | exact .tail .head | exact .tail (.tail .head) | exact .tail (.tail (.tail .head)) | exact .tail (.tail (.tail (.tail .head))) | exact .tail (.tail (.tail (.tail (.tail .head)))) | exact .tail (.tail (.tail (.tail (.tail (.tail .head)))))), a2, a3, a4, a5⟩ ?_ (fun p hp => .inl (List.mem_of_mem_eraseIdx hp)) (fun b hb => by cases hb; exact .inr (by omega))
      refine ⟨coff, ccap, dcs, by rw [hle], by omega, l2, H.fr.get d1 hc6, d2, d3.cast rfl (by rw [hle]) ?_⟩
      rw [List.eraseIdx_eq_take_drop_succ, List.flatMap_append]
    · unfold PG.abs
      simp [List.eraseIdx_eq_take_drop_succ]
    · exact hBp.keepT hT (fun b hb => by simp at hb; subst hb; exact not5 a1 (by decide))
  · obtain ⟨fa, fc, rfl, _⟩ := a6.slice
    have H := (Holds.start z []).add false a1 (by simp) (by simp)
    have HF := Try.func48; refine Fn.enter Try.func48 Try.ntmps48 rfl rfl rfl ?_
    by_cases h0 : i < 0
    · refine Run.seq ?_
      (refine Run.region ?_; intro K hK)
      (refine Ops.eff rfl (Y.alloc rfl rfl rfl H ?_); intro b4 w H0 hb4; clear H; have H := H0; clear H0)
      refine Ops.pure H (X.assign rfl) rfl rfl rfl ?_
      (refine Ops.nil (hK _ _ ?_); clear hK K)
      refine Run.seq ?_
      refine Run.seq ?_
      (refine Run.region ?_; intro K hK)
      refine Ops.pure H (X.move rfl) rfl rfl rfl ?_
      refine Ops.pure H (X.cmp rfl rfl rfl) rfl rfl rfl ?_
      refine Ops.pure H (X.move rfl) rfl rfl rfl ?_
      refine Ops.split_dec rfl rfl (fun h10 => ?x2) (fun h10 => ?y2)
      case' y2 => exfalso; omega
      case' x2 =>
        refine Ops.pass rfl rfl rfl ?_
        refine Ops.pass rfl rfl rfl ?_
        refine Ops.pass rfl rfl rfl ?_
        refine Ops.pass rfl rfl rfl ?_
        refine Ops.pass rfl rfl rfl ?_
        refine Ops.pass rfl rfl rfl ?_
        refine Ops.pass rfl rfl rfl ?_
        refine Ops.pure H (X.pick_t rfl rfl) rfl rfl rfl ?_
        (refine Ops.nil (hK _ _ ?_); clear hK K)
        refine Run.cond_true rfl ?_
        refine Run.seq ?_
        (refine Run.region ?_; intro K hK)
        refine Ops.pure H (X.buildO rfl rfl rfl rfl rfl rfl) rfl rfl rfl ?_
        (refine Ops.eff rfl (Y.storeO rfl rfl rfl rfl rfl rfl H Upd.head rfl ?_); intro w H0; clear H; have H := H0; clear H0)
        refine Ops.pure H (X.assign rfl) rfl rfl rfl ?_
        (refine Ops.nil (hK _ _ ?_); clear hK K)
      (first | refine Fn.ret1 HF rfl rfl ?_ | refine Fn.ret2 HF rfl rfl rfl ?_ | refine Fn.ret3 HF rfl rfl rfl rfl ?_ | refine Fn.ret0 HF rfl ?_ | refine Fn.fin0 HF rfl ?_ | refine Fn.retG (E := env) HF rfl H (by first | exact RVs.cellN rfl rfl rfl (by first | exact .head | exact .tail .head | exact .tail (.tail .head) | exact .tail (.tail (.tail .head)) | exact .tail (.tail (.tail (.tail .head))) | exact .tail (.tail (.tail (.tail (.tail .head)))) | exact .tail (.tail (.tail (.tail (.tail (.tail .head)))))) (by first | assumption | exact Cs.take rfl) RVs.nil | exact RVs.cellN rfl rfl rfl (by first | exact .head | exact .tail .head | exact .tail (.tail .head) | exact .tail (.tail (.tail .head)) | exact .tail (.tail (.tail (.tail .head))) | exact .tail (.tail (.tail (.tail (.tail .head)))) | exact .tail (.tail (.tail (.tail (.tail (.tail .head)))))) (by first | assumption | exact Cs.take rfl) (RVs.tmp rfl RVs.nil) | exact RVs.cellN rfl rfl rfl (by first | exact .head | exact .tail .head | exact .tail (.tail .head) | exact .tail (.tail (.tail .head)) | exact .tail (.tail (.tail (.tail .head))) | exact .tail (.tail (.tail (.tail (.tail .head)))) | exact .tail (.tail (.tail (.tail (.tail (.tail .head)))))) (by first | assumption | exact Cs.take rfl) (RVs.tmp rfl (RVs.tmp rfl RVs.nil))) rfl ?_)
      exact .inl ⟨hr, rfl, H.fr⟩
    · refine Run.seq ?_
      (refine Run.region ?_; intro K hK)
      (refine Ops.eff rfl (Y.alloc rfl rfl rfl H ?_); intro b4 w H0 hb4; clear H; have H := H0; clear H0)
      refine Ops.pure H (X.assign rfl) rfl rfl rfl ?_
      (refine Ops.nil (hK _ _ ?_); clear hK K)
      refine Run.seq ?_
      refine Run.seq ?_
      (refine Run.region ?_; intro K hK)
      refine Ops.pure H (X.move rfl) rfl rfl rfl ?_
      refine Ops.pure H (X.cmp rfl rfl rfl) rfl rfl rfl ?_
      refine Ops.pure H (X.move rfl) rfl rfl rfl ?_
      refine Ops.split_dec rfl rfl (fun h10 => ?x3) (fun h10 => ?y3)
      case' y3 =>
        refine Ops.pure H (X.move rfl) rfl rfl rfl ?_
        refine Ops.pure H (X.move rfl) rfl rfl rfl ?_
        refine Ops.pure H (X.nilCheck rfl) rfl rfl rfl ?_
        refine Ops.pure H (X.fieldAddr rfl rfl rfl rfl rfl rfl) rfl rfl rfl ?_
        refine Ops.pure H (X.load1 rfl rfl rfl rfl (.tail .head) rfl) rfl rfl rfl ?_
        refine Ops.pure H (X.len_slice rfl rfl rfl) rfl rfl rfl ?_
        refine Ops.pure H (X.cmp rfl rfl rfl) rfl rfl rfl ?_
        refine Ops.pure H (X.pick_f rfl rfl) rfl rfl rfl ?_
        (refine Ops.nil (hK _ _ ?_); clear hK K)
        refine Run.cond_dec rfl (fun h17 => ?x4) (fun h17 => ?y4)
        case' y4 => exfalso; omega
        case' x4 =>
          refine Run.seq ?_
          (refine Run.region ?_; intro K hK)
          refine Ops.pure H (X.buildO rfl rfl rfl rfl rfl rfl) rfl rfl rfl ?_
          (refine Ops.eff rfl (Y.storeO rfl rfl rfl rfl rfl rfl H Upd.head rfl ?_); intro w H0; clear H; have H := H0; clear H0)
          refine Ops.pure H (X.assign rfl) rfl rfl rfl ?_
          (refine Ops.nil (hK _ _ ?_); clear hK K)
      case' x3 => exfalso; omega
      (first | refine Fn.ret1 HF rfl rfl ?_ | refine Fn.ret2 HF rfl rfl rfl ?_ | refine Fn.ret3 HF rfl rfl rfl rfl ?_ | refine Fn.ret0 HF rfl ?_ | refine Fn.fin0 HF rfl ?_ | refine Fn.retG (E := env) HF rfl H (by first | exact RVs.cellN rfl rfl rfl (by first | exact .head | exact .tail .head | exact .tail (.tail .head) | exact .tail (.tail (.tail .head)) | exact .tail (.tail (.tail (.tail .head))) | exact .tail (.tail (.tail (.tail (.tail .head)))) | exact .tail (.tail (.tail (.tail (.tail (.tail .head)))))) (by first | assumption | exact Cs.take rfl) RVs.nil | exact RVs.cellN rfl rfl rfl (by first | exact .head | exact .tail .head | exact .tail (.tail .head) | exact .tail (.tail (.tail .head)) | exact .tail (.tail (.tail (.tail .head))) | exact .tail (.tail (.tail (.tail (.tail .head)))) | exact .tail (.tail (.tail (.tail (.tail (.tail .head)))))) (by first | assumption | exact Cs.take rfl) (RVs.tmp rfl RVs.nil) | exact RVs.cellN rfl rfl rfl (by first | exact .head | exact .tail .head | exact .tail (.tail .head) | exact .tail (.tail (.tail .head)) | exact .tail (.tail (.tail (.tail .head))) | exact .tail (.tail (.tail (.tail (.tail .head)))) | exact .tail (.tail (.tail (.tail (.tail (.tail .head)))))) (by first | assumption | exact Cs.take rfl) (RVs.tmp rfl (RVs.tmp rfl RVs.nil))) rfl ?_)
      exact .inl ⟨hr, rfl, H.fr⟩
end Go.Proofs.Ytpmihcefjdeonaa
