/- Walks: slices.Delete; Done, Drop. -/
import Derived.Test.YthidohdnaeboaaaO4
namespace Go.Proofs.Ythidohdnaeboaaa
open Go
set_option maxRecDepth 20000
set_option maxHeartbeats 2000000
attribute [local irreducible] Run Ops Fn Draw Draw2 PureOp StepZ

theorem delete_any (w : World) (c i m cap : Nat) (cs : List Value) (hc : w.heap[c]? = some (row cs 56)) (hcap : i + 1 + m ≤ cap) (hmx : cap ≤ 9223372036854775807) (hl : cs.length = cap * 4) (h1 : ∀ v ∈ (cs.drop ((i + 1) * 4)).take (m * 4), v.oneCell' = true) :
    Fn env.P 33 [.slice (some ⟨c, 0, none⟩) (i + 1 + m) cap, .int .i64 (i : Nat), .int .i64 ((i + 1 : Nat) : Nat)] w fun v w' => v = .slice (some ⟨c, 0, none⟩) (i + m) cap ∧ Fr w w' [c] ∧ ∃ cs', w'.heap[c]? = some (row cs' 56) ∧ cs'.length = cap * 4 ∧
      (∀ j, j < i → ∀ vs, Cs cs (0 + j * 4) 4 vs → Cs cs' (0 + j * 4) 4 vs) ∧ (∀ j, i ≤ j → j < i + m → ∀ vs, Cs cs (0 + (j + 1) * 4) 4 vs → Cs cs' (0 + j * 4) 4 vs) := by
  have H := (Holds.start w [c]).add true hc (by simp) (by simp)
  have HF := Try.func33; refine Fn.enter Try.func33 Try.ntmps33 rfl rfl rfl ?_
  refine Run.seq ?_
  (refine Run.region ?_; intro K hK)
  refine Ops.pure H (X.assign rfl) rfl rfl rfl ?_
  (refine Ops.nil (hK _ _ ?_); clear hK K)
  refine Run.seq ?_
  (refine Run.region ?_; intro K hK)
  refine Ops.pure H (X.move rfl) rfl rfl rfl ?_
  refine Ops.pure H (X.move rfl) rfl rfl rfl ?_
  refine Ops.pure H (X.move rfl) rfl rfl rfl ?_
  refine Ops.pure H (X.move rfl) rfl rfl rfl ?_
  refine Ops.pure H (X.len_slice rfl rfl rfl) rfl rfl rfl ?_
  refine Ops.pure H (X.slice_lhm rfl rfl rfl rfl (by omega) (by omega) (by omega) rfl rfl rfl rfl) rfl rfl rfl ?_
  (refine Ops.nil (hK _ _ ?_); clear hK K)
  refine Run.seq ?_
  refine Run.seq ?_
  (refine Run.region ?_; intro K hK)
  refine Ops.pure H (X.move rfl) rfl rfl rfl ?_
  refine Ops.pure H (X.move rfl) rfl rfl rfl ?_
  refine Ops.pure H (X.cmp rfl rfl rfl) rfl rfl rfl ?_
  (refine Ops.nil (hK _ _ ?_); clear hK K)
  refine Run.cond_dec rfl (fun h16 => ?x0) (fun h16 => ?y0)
  case' y0 =>
    refine Run.skip ?_
    refine Run.seq ?_
    (refine Run.region ?_; intro K hK)
    refine Ops.pure H (X.move rfl) rfl rfl rfl ?_
    refine Ops.pure H (X.len_slice rfl rfl rfl) rfl rfl rfl ?_
    refine Ops.pure H (X.assign rfl) rfl rfl rfl ?_
    (refine Ops.nil (hK _ _ ?_); clear hK K)
    refine Run.seq ?_
    (refine Run.draw H [6] [0, 1, 2, 3, 4, 5, 6, 7] ?_; clear H; intro K hK w H)
    refine Draw.take0 rfl (X.move rfl) rfl rfl rfl (by decide +kernel) ?_
    refine Draw.take0 rfl (X.move rfl) rfl rfl rfl (by decide +kernel) ?_
    refine Draw.take0 rfl (X.slice_h rfl rfl (by omega) rfl rfl rfl) rfl rfl rfl (by decide +kernel) ?_
    refine Draw.take0 rfl (X.move rfl) rfl rfl rfl (by decide +kernel) ?_
    refine Draw.take0 rfl (X.move rfl) rfl rfl rfl (by decide +kernel) ?_
    refine Draw.take0 rfl (X.slice_l rfl rfl (by omega) rfl rfl rfl rfl) rfl rfl rfl (by decide +kernel) ?_
  case' x0 => exfalso; omega
  simp only [show i + 1 + m - (i + 1) = m by omega]
  have hnl : ((cs.drop ((i + 1) * 4)).take (m * 4)).length = m * 4 := by simp; omega
  have hC : Cs cs (0 + (i + 1) * 4) (m * 4) ((cs.drop ((i + 1) * 4)).take (m * 4)) := Cs.ofGet _ _ _ hnl fun j hj => by simp [hj]
  have hsrc : Src w (some ⟨c, if cap = i + 1 then 0 else 0 + (i + 1) * 4, none⟩) ((cs.drop ((i + 1) * 4)).take (m * 4)) := by
    by_cases hm : m = 0
    · subst hm
      simp only [Nat.zero_mul, List.take_zero]
      exact Src.nil
    · rw [if_neg (by omega)]
      exact Src.row H .head hC
  generalize hnews : (cs.drop ((i + 1) * 4)).take (m * 4) = news at hnl hC hsrc h1
  refine Draw.last rfl rfl (by decide +kernel) (Y.append_room (news := news) rfl rfl rfl rfl rfl H .head (by omega) (by dsimp only; omega) hnl hsrc h1 rfl ?_)
  intro w3 H3
  dsimp only at H3
  rw [Nat.zero_add] at H3
  clear H
  have H := H3
  clear H3
  refine Draw2.take rfl (X.assign rfl) rfl rfl rfl (by decide +kernel) ?_
  (refine Draw2.done (by decide +kernel) (hK _ _ ?_); clear hK K)
  refine Run.seq ?_
  (refine Run.region ?_; intro K hK)
  refine Ops.pure H (X.move rfl) rfl rfl rfl ?_
  refine Ops.pure H (X.move rfl) rfl rfl rfl ?_
  refine Ops.pure H (X.len_slice rfl rfl rfl) rfl rfl rfl ?_
  refine Ops.pure H (X.move rfl) rfl rfl rfl ?_
  refine Ops.pure H (X.slice_lh rfl rfl rfl (by omega) (by omega) rfl rfl rfl rfl) rfl rfl rfl ?_
  simp only [if_neg (show ¬ cap = i + m by omega), show i + 1 + m - (i + m) = 1 by omega]
  have hp1 : i * 4 + news.length ≤ cs.length := by omega
  refine Ops.eff rfl (Y.clear rfl rfl rfl rfl rfl rfl H .head (by rw [putC_length]; dsimp only; omega) ?_)
  intro zs w4 hz H4
  dsimp only at hz
  clear H
  have H := H4
  clear H4
  have hp2 : 0 + (i + m) * 4 + zs.length ≤ (putC cs (i * 4) news).length := by rw [putC_length]; omega
  (refine Ops.nil (hK _ _ ?_); clear hK K)
  refine Run.seq ?_
  (refine Run.region ?_; intro K hK)
  refine Ops.pure H (X.move rfl) rfl rfl rfl ?_
  refine Ops.pure H (X.assign rfl) rfl rfl rfl ?_
  (refine Ops.nil (hK _ _ ?_); clear hK K)
  (first | refine Fn.ret1 HF rfl rfl ?_ | refine Fn.ret2 HF rfl rfl rfl ?_ | refine Fn.ret3 HF rfl rfl rfl rfl ?_ | refine Fn.ret0 HF rfl ?_ | refine Fn.fin0 HF rfl ?_ | refine Fn.retG (E := env) HF rfl H (by first | exact RVs.cellN rfl rfl rfl (by first | exact .head | exact .tail .head | exact .tail (.tail .head) | exact .tail (.tail (.tail .head)) | exact .tail (.tail (.tail (.tail .head))) | exact .tail (.tail (.tail (.tail (.tail .head)))) | exact .tail (.tail (.tail (.tail (.tail (.tail .head)))))) (by first | assumption | exact Cs.take rfl) RVs.nil | exact RVs.cellN rfl rfl rfl (by first | exact .head | exact .tail .head | exact .tail (.tail .head) | exact .tail (.tail (.tail .head)) | exact .tail (.tail (.tail (.tail .head))) | exact .tail (.tail (.tail (.tail (.tail .head)))) | exact .tail (.tail (.tail (.tail (.tail (.tail .head)))))) (by first | assumption | exact Cs.take rfl) (RVs.tmp rfl RVs.nil)) rfl ?_)
  refine ⟨rfl, H.fr, _, H.pick .head, by rw [putC_length, putC_length]; exact hl, fun j hj vs hv => ?_, fun j hj hj' vs hv => ?_⟩
  · refine (hv.apart hp1 (.inl ?_)).apart hp2 (.inl ?_)
    · omega
    · omega
  · have e := (Cs.put hp1).sub ((j - i) * 4) 4 (by omega)
    have hvl := hv.length
    refine Cs.apart ?_ hp2 (.inl (by omega))
    refine e.cast (by omega) rfl ?_
    refine List.ext_getElem? fun r => ?_
    by_cases hr : r < 4
    · rw [← hv.toGet hr, ← hnews]
      simp only [List.getElem?_take, List.getElem?_drop]
      rw [if_pos hr, if_pos (by omega)]
      congr 1
      omega
    · rw [List.getElem?_eq_none (by simp; omega), List.getElem?_eq_none (by omega)]
theorem Holds.of1 {w w' : World} {c : Nat} {o : Obj} (h : Fr w w' [c]) (hc : w'.heap[c]? = some o) : Holds w [c] w' [⟨c, o, true⟩] :=
  ⟨h, by simpa using hc, by simp, by simp⟩
theorem tks_del {w w' : World} {c i m cap : Nat} {cs cs' : List Value} {l : List Tk} (hl : l.length = i + 1 + m) (hcap : i + m ≤ cap) (hmx : cap ≤ 9223372036854775807) (hall : ∀ i t, l[i]? = some t → TkAt w cs i t) {S : List Nat} (hfr : Fr w w' S) (hS : ∀ b ∈ S, ∀ ds, w.heap[b]? ≠ some (row ds 3))
    (hc' : w'.heap[c]? = some (row cs' 56)) (hl' : cs'.length = cap * 4) (hA : ∀ j, j < i → ∀ vs, Cs cs (0 + j * 4) 4 vs → Cs cs' (0 + j * 4) 4 vs) (hB : ∀ j, i ≤ j → j < i + m → ∀ vs, Cs cs (0 + (j + 1) * 4) 4 vs → Cs cs' (0 + j * 4) 4 vs) :
    Tks w' (.slice (some ⟨c, 0, none⟩) (i + m) cap) c (l.eraseIdx i) := by
  have hle : (l.eraseIdx i).length = i + m := by rw [List.length_eraseIdx, if_pos (by omega)]; omega
  refine ⟨_, cap, cs', by rw [hle], by omega, hmx, .inr ⟨rfl, hc', hl'⟩, fun j t ht => ?_⟩
  have hj : j < i + m := by rw [← hle]; exact (List.getElem?_eq_some_iff.1 ht).1
  rw [List.getElem?_eraseIdx] at ht
  by_cases h : j < i
  · rw [if_pos h] at ht
    obtain ⟨v, b, h1, h2, h3⟩ := (hall j t ht).keep hfr hS
    exact ⟨v, b, hA j h _ h1, h2, h3⟩
  · rw [if_neg h] at ht
    obtain ⟨v, b, h1, h2, h3⟩ := (hall (j + 1) t ht).keep hfr hS
    exact ⟨v, b, hB j (by omega) hj _ h1, h2, h3⟩
theorem tks_one {w : World} {cs : List Value} {l : List Tk} {i m : Nat} (hl : l.length = i + 1 + m) (hall : ∀ i t, l[i]? = some t → TkAt w cs i t) : ∀ v ∈ (cs.drop ((i + 1) * 4)).take (m * 4), v.oneCell' = true := by
  intro v hv
  obtain ⟨r, hr, e⟩ := List.getElem_of_mem hv
  have hr' : r < m * 4 := by simp at hr; omega
  have h1 : cs[(i + 1) * 4 + r]? = some v := by
    rw [List.getElem_take, List.getElem_drop] at e
    rw [← e]
    exact List.getElem?_eq_getElem _
  obtain ⟨u, b, hc, ⟨_, _, rfl, _⟩, _⟩ := hall (i + 1 + r / 4) _ (some_at (by omega))
  have h2 := hc.toGet (j := r % 4) (by omega)
  rw [show 0 + (i + 1 + r / 4) * 4 + r % 4 = (i + 1) * 4 + r by omega, h1] at h2
  have h3 : r % 4 < 4 := by omega
  generalize r % 4 = q at h2 h3
  have : q = 0 ∨ q = 1 ∨ q = 2 ∨ q = 3 := by omega
  rcases this with rfl | rfl | rfl | rfl <;> (simp [tkC] at h2; subst h2; rfl)
/-- What is said, and what is left, when one ends. -/
def endsE (l : List Tk) (id : Int) (done : Bool) : Int := if findL l id < 0 then 240 else if done && !mayL l (findL l id).toNat then 8 else 0
def endsL (l : List Tk) (id : Int) (done : Bool) : List Tk := if findL l id < 0 then l else if done && !mayL l (findL l id).toNat then l else l.eraseIdx (findL l id).toNat
theorem ends_none {l : List Tk} {id : Int} {done : Bool} (h : findL l id = -1) : endsE l id done = 240 ∧ endsL l id done = l := by
  unfold endsE endsL
  rw [if_pos (by omega), if_pos (by omega)]
  exact ⟨rfl, rfl⟩
theorem ends_state {l : List Tk} {id : Int} {i : Nat} (h : findL l id = i) (hm : mayL l i = false) : endsE l id true = 8 ∧ endsL l id true = l := by
  unfold endsE endsL
  have h0 : ¬ findL l id < 0 := by omega
  rw [if_neg h0, if_neg h0, h]
  simp [hm]
theorem ends_goes {l : List Tk} {id : Int} {i : Nat} {done : Bool} (h : findL l id = i) (hm : done = true → mayL l i = true) : endsE l id done = 0 ∧ endsL l id done = l.eraseIdx i := by
  unfold endsE endsL
  have h0 : ¬ findL l id < 0 := by omega
  rw [if_neg h0, if_neg h0, h]
  cases done <;> simp_all
theorem oc_not3 {w : World} {o c : Nat} {os cs : List Value} (ho : w.heap[o]? = some (row os 78)) (hc : w.heap[c]? = some (row cs 56)) : ∀ b ∈ [o, c], ∀ ds, w.heap[b]? ≠ some (row ds 3) := by
  intro b hb ds hd
  simp at hb
  rcases hb with rfl | rfl
  · exact ne_of_ty ho hd (by decide) rfl
  · exact ne_of_ty hc hd (by decide) rfl
theorem done_any (w : World) (o c : Nat) (n last id : Int) (l : List Tk) (h : Ord w o c n last l) :
    Fn env.P 21 [.pointer (some ⟨o, 0, none⟩), .int .u64 id] w fun v w' => v = .int .i64 (endsE l id true) ∧ Fr w w' [o, c] ∧ Ord w' o c n last (endsL l id true) := by
  have h' := h
  obtain ⟨v, ho, a, cap, cs, rfl, hc1, hc2, hac, hall⟩ := h
  have H := (Holds.start w [o, c]).add true ho (by simp) (by simp)
  have HF := Try.func21; refine Fn.enter Try.func21 Try.ntmps21 rfl rfl rfl ?_
  refine Run.seq ?_
  (refine Run.region ?_; intro K hK)
  refine Ops.pure H (X.assign rfl) rfl rfl rfl ?_
  (refine Ops.nil (hK _ _ ?_); clear hK K)
  refine Run.seq ?_
  (refine Run.region ?_; intro K hK)
  refine Ops.pure H (X.move rfl) rfl rfl rfl ?_
  refine Ops.pure H (X.move rfl) rfl rfl rfl ?_
  refine Ops.eff rfl (Y.call rfl rfl (by first | assumption | decide +kernel) rfl (find_any _ o c n last l id h') rfl ?_)
  rintro v w2 ⟨rfl, hf⟩
  replace H := H.ext hf
  rcases fidx_cases (fun i => decide ((l.getD i tk0).id = id)) l.length with ⟨i, hi, _, _, he⟩ | ⟨_, he⟩
  · have he' : findL l id = i := he
    rw [he']
    obtain ⟨rfl, hcc⟩ := tks_pos hac hc1 (Fr.refl _ _) (by omega)
    refine Ops.pure H (X.assign rfl) rfl rfl rfl ?_
    (refine Ops.nil (hK _ _ ?_); clear hK K)
    refine Run.seq ?_
    refine Run.seq ?_
    (refine Run.region ?_; intro K hK)
    refine Ops.pure H (X.move rfl) rfl rfl rfl ?_
    refine Ops.pure H (X.cmp rfl rfl rfl) rfl rfl rfl ?_
    (refine Ops.nil (hK _ _ ?_); clear hK K)
    refine Run.cond_false rfl ?_
    refine Run.skip ?_
    refine Run.seq ?_
    refine Run.seq ?_
    (refine Run.region ?_; intro K hK)
    refine Ops.pure H (X.move rfl) rfl rfl rfl ?_
    refine Ops.pure H (X.move rfl) rfl rfl rfl ?_
    refine Ops.eff rfl (Y.call rfl rfl (by first | assumption | decide +kernel) rfl (may_any _ o c n last l i (h'.ext hf) hi) rfl ?_)
    rintro v w3 ⟨rfl, hf3⟩
    replace H := H.ext hf3
    cases hm : mayL l i
    · refine Ops.pure H (X.not rfl) rfl rfl rfl ?_
      (refine Ops.nil (hK _ _ ?_); clear hK K)
      refine Run.cond_true rfl ?_
      refine Run.seq ?_
      (refine Run.region ?_; intro K hK)
      refine Ops.pure H (X.assign rfl) rfl rfl rfl ?_
      (refine Ops.nil (hK _ _ ?_); clear hK K)
      (first | refine Fn.ret1 HF rfl rfl ?_ | refine Fn.ret2 HF rfl rfl rfl ?_ | refine Fn.ret3 HF rfl rfl rfl rfl ?_ | refine Fn.ret0 HF rfl ?_ | refine Fn.fin0 HF rfl ?_ | refine Fn.retG (E := env) HF rfl H (by first | exact RVs.cellN rfl rfl rfl (by first | exact .head | exact .tail .head | exact .tail (.tail .head) | exact .tail (.tail (.tail .head)) | exact .tail (.tail (.tail (.tail .head))) | exact .tail (.tail (.tail (.tail (.tail .head)))) | exact .tail (.tail (.tail (.tail (.tail (.tail .head)))))) (by first | assumption | exact Cs.take rfl) RVs.nil | exact RVs.cellN rfl rfl rfl (by first | exact .head | exact .tail .head | exact .tail (.tail .head) | exact .tail (.tail (.tail .head)) | exact .tail (.tail (.tail (.tail .head))) | exact .tail (.tail (.tail (.tail (.tail .head)))) | exact .tail (.tail (.tail (.tail (.tail (.tail .head)))))) (by first | assumption | exact Cs.take rfl) (RVs.tmp rfl RVs.nil)) rfl ?_)
      obtain ⟨e1, e2⟩ := ends_state he' hm
      rw [e1, e2]
      exact ⟨rfl, H.fr, h'.ext (hf.then hf3)⟩
    · obtain ⟨m, hlm⟩ : ∃ m, l.length = i + 1 + m := ⟨l.length - (i + 1), by omega⟩
      have hf23 := hf.then hf3
      replace H := H.add true (hf23.get hcc (by simp)) (by simpa using ne_of_ty hcc ho (by decide)) (by simp)
      obtain ⟨e1, e2⟩ := ends_goes (l := l) (done := true) he' (fun _ => hm)
      rcases hac with ⟨hac, _⟩ | ⟨_, _, hcl⟩
      · cases hac
      rw [hlm] at H hc1
      refine Ops.pure H (X.not rfl) rfl rfl rfl ?_
      (refine Ops.nil (hK _ _ ?_); clear hK K)
      refine Run.cond_false rfl ?_
      refine Run.skip ?_
      refine Run.seq ?_
      (refine Run.region ?_; intro K hK)
      refine Ops.pure H (X.move rfl) rfl rfl rfl ?_
      refine Ops.pure H (X.move rfl) rfl rfl rfl ?_
      refine Ops.pure H (X.nilCheck rfl) rfl rfl rfl ?_
      refine Ops.pure H (X.fieldAddr rfl rfl rfl rfl rfl rfl) rfl rfl rfl ?_
      refine Ops.pure H (X.load1 rfl rfl rfl rfl (.tail .head) rfl) rfl rfl rfl ?_
      refine Ops.pure H (X.move rfl) rfl rfl rfl ?_
      refine Ops.pure H (X.move rfl) rfl rfl rfl ?_
      refine Ops.pure H (X.succ rfl rfl (by omega)) rfl rfl rfl ?_
      refine Ops.eff rfl (Y.call rfl rfl (by first | assumption | decide +kernel) rfl (delete_any _ c i m cap cs (H.pick .head) hc1 hc2 hcl (tks_one hlm hall)) rfl ?_)
      rintro v w4 ⟨rfl, hf4, cs', hc', hl', hA, hB⟩
      have H4 := Holds.of1 hf4 hc'
      replace H := H.call1 (by first | exact .head | exact .tail .head | exact .tail (.tail .head) | exact .tail (.tail (.tail .head)) | exact .tail (.tail (.tail (.tail .head))) | exact .tail (.tail (.tail (.tail (.tail .head)))) | exact .tail (.tail (.tail (.tail (.tail (.tail .head)))))) H4 (by simp); simp only [List.cons_append, List.nil_append] at H; clear H4
      refine Ops.pure H (X.nilCheck rfl) rfl rfl rfl ?_
      refine Ops.pure H (X.fieldAddr rfl rfl rfl rfl rfl rfl) rfl rfl rfl ?_
      (refine Ops.eff rfl (Y.store1 rfl rfl rfl rfl rfl rfl H (.tail .head) (by repeat (first | exact SetC.zero | apply SetC.succ)) ?_); intro w H0; clear H; have H := H0; clear H0)
      (refine Ops.nil (hK _ _ ?_); clear hK K)
      refine Run.seq ?_
      (refine Run.region ?_; intro K hK)
      refine Ops.pure H (X.assign rfl) rfl rfl rfl ?_
      (refine Ops.nil (hK _ _ ?_); clear hK K)
      (first | refine Fn.ret1 HF rfl rfl ?_ | refine Fn.ret2 HF rfl rfl rfl ?_ | refine Fn.ret3 HF rfl rfl rfl rfl ?_ | refine Fn.ret0 HF rfl ?_ | refine Fn.fin0 HF rfl ?_ | refine Fn.retG (E := env) HF rfl H (by first | exact RVs.cellN rfl rfl rfl (by first | exact .head | exact .tail .head | exact .tail (.tail .head) | exact .tail (.tail (.tail .head)) | exact .tail (.tail (.tail (.tail .head))) | exact .tail (.tail (.tail (.tail (.tail .head)))) | exact .tail (.tail (.tail (.tail (.tail (.tail .head)))))) (by first | assumption | exact Cs.take rfl) RVs.nil | exact RVs.cellN rfl rfl rfl (by first | exact .head | exact .tail .head | exact .tail (.tail .head) | exact .tail (.tail (.tail .head)) | exact .tail (.tail (.tail (.tail .head))) | exact .tail (.tail (.tail (.tail (.tail .head)))) | exact .tail (.tail (.tail (.tail (.tail (.tail .head)))))) (by first | assumption | exact Cs.take rfl) (RVs.tmp rfl RVs.nil)) rfl ?_)
      rw [e1, e2]
      exact ⟨rfl, H.fr, _, H.pick (by first | exact .head | exact .tail .head | exact .tail (.tail .head) | exact .tail (.tail (.tail .head)) | exact .tail (.tail (.tail (.tail .head))) | exact .tail (.tail (.tail (.tail (.tail .head)))) | exact .tail (.tail (.tail (.tail (.tail (.tail .head)))))), tks_del hlm (by omega) hc2 hall H.fr (oc_not3 ho hcc) (H.pick (by first | exact .head | exact .tail .head | exact .tail (.tail .head) | exact .tail (.tail (.tail .head)) | exact .tail (.tail (.tail (.tail .head))) | exact .tail (.tail (.tail (.tail (.tail .head)))) | exact .tail (.tail (.tail (.tail (.tail (.tail .head))))))) hl' hA hB⟩
  · have he' : findL l id = -1 := he
    rw [he']
    refine Ops.pure H (X.assign rfl) rfl rfl rfl ?_
    (refine Ops.nil (hK _ _ ?_); clear hK K)
    refine Run.seq ?_
    refine Run.seq ?_
    (refine Run.region ?_; intro K hK)
    refine Ops.pure H (X.move rfl) rfl rfl rfl ?_
    refine Ops.pure H (X.cmp rfl rfl rfl) rfl rfl rfl ?_
    (refine Ops.nil (hK _ _ ?_); clear hK K)
    refine Run.cond_true rfl ?_
    refine Run.seq ?_
    (refine Run.region ?_; intro K hK)
    refine Ops.pure H (X.assign rfl) rfl rfl rfl ?_
    (refine Ops.nil (hK _ _ ?_); clear hK K)
    (first | refine Fn.ret1 HF rfl rfl ?_ | refine Fn.ret2 HF rfl rfl rfl ?_ | refine Fn.ret3 HF rfl rfl rfl rfl ?_ | refine Fn.ret0 HF rfl ?_ | refine Fn.fin0 HF rfl ?_ | refine Fn.retG (E := env) HF rfl H (by first | exact RVs.cellN rfl rfl rfl (by first | exact .head | exact .tail .head | exact .tail (.tail .head) | exact .tail (.tail (.tail .head)) | exact .tail (.tail (.tail (.tail .head))) | exact .tail (.tail (.tail (.tail (.tail .head)))) | exact .tail (.tail (.tail (.tail (.tail (.tail .head)))))) (by first | assumption | exact Cs.take rfl) RVs.nil | exact RVs.cellN rfl rfl rfl (by first | exact .head | exact .tail .head | exact .tail (.tail .head) | exact .tail (.tail (.tail .head)) | exact .tail (.tail (.tail (.tail .head))) | exact .tail (.tail (.tail (.tail (.tail .head)))) | exact .tail (.tail (.tail (.tail (.tail (.tail .head)))))) (by first | assumption | exact Cs.take rfl) (RVs.tmp rfl RVs.nil)) rfl ?_)
    obtain ⟨e1, e2⟩ := ends_none (done := true) he'
    rw [e1, e2]
    exact ⟨rfl, H.fr, h'.ext hf⟩
theorem drop_any (w : World) (o c : Nat) (n last id : Int) (l : List Tk) (h : Ord w o c n last l) :
    Fn env.P 38 [.pointer (some ⟨o, 0, none⟩), .int .u64 id] w fun v w' => v = .int .i64 (endsE l id false) ∧ Fr w w' [o, c] ∧ Ord w' o c n last (endsL l id false) := by
  have h' := h
  obtain ⟨v, ho, a, cap, cs, rfl, hc1, hc2, hac, hall⟩ := h
  have H := (Holds.start w [o, c]).add true ho (by simp) (by simp)
  have HF := Try.func38; refine Fn.enter Try.func38 Try.ntmps38 rfl rfl rfl ?_
  refine Run.seq ?_
  (refine Run.region ?_; intro K hK)
  refine Ops.pure H (X.assign rfl) rfl rfl rfl ?_
  (refine Ops.nil (hK _ _ ?_); clear hK K)
  refine Run.seq ?_
  (refine Run.region ?_; intro K hK)
  refine Ops.pure H (X.move rfl) rfl rfl rfl ?_
  refine Ops.pure H (X.move rfl) rfl rfl rfl ?_
  refine Ops.eff rfl (Y.call rfl rfl (by first | assumption | decide +kernel) rfl (find_any _ o c n last l id h') rfl ?_)
  rintro v w2 ⟨rfl, hf⟩
  replace H := H.ext hf
  rcases fidx_cases (fun i => decide ((l.getD i tk0).id = id)) l.length with ⟨i, hi, _, _, he⟩ | ⟨_, he⟩
  · have he' : findL l id = i := he
    rw [he']
    obtain ⟨rfl, hcc⟩ := tks_pos hac hc1 (Fr.refl _ _) (by omega)
    obtain ⟨m, hlm⟩ : ∃ m, l.length = i + 1 + m := ⟨l.length - (i + 1), by omega⟩
    have hf23 := hf
    replace H := H.add true (hf23.get hcc (by simp)) (by simpa using ne_of_ty hcc ho (by decide)) (by simp)
    obtain ⟨e1, e2⟩ := ends_goes (l := l) (done := false) he' (fun h => by cases h)
    rcases hac with ⟨hac, _⟩ | ⟨_, _, hcl⟩
    · cases hac
    rw [hlm] at H hc1
    refine Ops.pure H (X.assign rfl) rfl rfl rfl ?_
    (refine Ops.nil (hK _ _ ?_); clear hK K)
    refine Run.seq ?_
    refine Run.seq ?_
    (refine Run.region ?_; intro K hK)
    refine Ops.pure H (X.move rfl) rfl rfl rfl ?_
    refine Ops.pure H (X.cmp rfl rfl rfl) rfl rfl rfl ?_
    (refine Ops.nil (hK _ _ ?_); clear hK K)
    refine Run.cond_false rfl ?_
    refine Run.skip ?_
    refine Run.seq ?_
    (refine Run.region ?_; intro K hK)
    refine Ops.pure H (X.move rfl) rfl rfl rfl ?_
    refine Ops.pure H (X.move rfl) rfl rfl rfl ?_
    refine Ops.pure H (X.nilCheck rfl) rfl rfl rfl ?_
    refine Ops.pure H (X.fieldAddr rfl rfl rfl rfl rfl rfl) rfl rfl rfl ?_
    refine Ops.pure H (X.load1 rfl rfl rfl rfl (.tail .head) rfl) rfl rfl rfl ?_
    refine Ops.pure H (X.move rfl) rfl rfl rfl ?_
    refine Ops.pure H (X.move rfl) rfl rfl rfl ?_
    refine Ops.pure H (X.succ rfl rfl (by omega)) rfl rfl rfl ?_
    refine Ops.eff rfl (Y.call rfl rfl (by first | assumption | decide +kernel) rfl (delete_any _ c i m cap cs (H.pick .head) hc1 hc2 hcl (tks_one hlm hall)) rfl ?_)
    rintro v w4 ⟨rfl, hf4, cs', hc', hl', hA, hB⟩
    have H4 := Holds.of1 hf4 hc'
    replace H := H.call1 (by first | exact .head | exact .tail .head | exact .tail (.tail .head) | exact .tail (.tail (.tail .head)) | exact .tail (.tail (.tail (.tail .head))) | exact .tail (.tail (.tail (.tail (.tail .head)))) | exact .tail (.tail (.tail (.tail (.tail (.tail .head)))))) H4 (by simp); simp only [List.cons_append, List.nil_append] at H; clear H4
    refine Ops.pure H (X.nilCheck rfl) rfl rfl rfl ?_
    refine Ops.pure H (X.fieldAddr rfl rfl rfl rfl rfl rfl) rfl rfl rfl ?_
    (refine Ops.eff rfl (Y.store1 rfl rfl rfl rfl rfl rfl H (.tail .head) (by repeat (first | exact SetC.zero | apply SetC.succ)) ?_); intro w H0; clear H; have H := H0; clear H0)
    (refine Ops.nil (hK _ _ ?_); clear hK K)
    refine Run.seq ?_
    (refine Run.region ?_; intro K hK)
    refine Ops.pure H (X.assign rfl) rfl rfl rfl ?_
    (refine Ops.nil (hK _ _ ?_); clear hK K)
    (first | refine Fn.ret1 HF rfl rfl ?_ | refine Fn.ret2 HF rfl rfl rfl ?_ | refine Fn.ret3 HF rfl rfl rfl rfl ?_ | refine Fn.ret0 HF rfl ?_ | refine Fn.fin0 HF rfl ?_ | refine Fn.retG (E := env) HF rfl H (by first | exact RVs.cellN rfl rfl rfl (by first | exact .head | exact .tail .head | exact .tail (.tail .head) | exact .tail (.tail (.tail .head)) | exact .tail (.tail (.tail (.tail .head))) | exact .tail (.tail (.tail (.tail (.tail .head)))) | exact .tail (.tail (.tail (.tail (.tail (.tail .head)))))) (by first | assumption | exact Cs.take rfl) RVs.nil | exact RVs.cellN rfl rfl rfl (by first | exact .head | exact .tail .head | exact .tail (.tail .head) | exact .tail (.tail (.tail .head)) | exact .tail (.tail (.tail (.tail .head))) | exact .tail (.tail (.tail (.tail (.tail .head)))) | exact .tail (.tail (.tail (.tail (.tail (.tail .head)))))) (by first | assumption | exact Cs.take rfl) (RVs.tmp rfl RVs.nil)) rfl ?_)
    rw [e1, e2]
    exact ⟨rfl, H.fr, _, H.pick (by first | exact .head | exact .tail .head | exact .tail (.tail .head) | exact .tail (.tail (.tail .head)) | exact .tail (.tail (.tail (.tail .head))) | exact .tail (.tail (.tail (.tail (.tail .head)))) | exact .tail (.tail (.tail (.tail (.tail (.tail .head)))))), tks_del hlm (by omega) hc2 hall H.fr (oc_not3 ho hcc) (H.pick (by first | exact .head | exact .tail .head | exact .tail (.tail .head) | exact .tail (.tail (.tail .head)) | exact .tail (.tail (.tail (.tail .head))) | exact .tail (.tail (.tail (.tail (.tail .head)))) | exact .tail (.tail (.tail (.tail (.tail (.tail .head))))))) hl' hA hB⟩
  · have he' : findL l id = -1 := he
    rw [he']
    refine Ops.pure H (X.assign rfl) rfl rfl rfl ?_
    (refine Ops.nil (hK _ _ ?_); clear hK K)
    refine Run.seq ?_
    refine Run.seq ?_
    (refine Run.region ?_; intro K hK)
    refine Ops.pure H (X.move rfl) rfl rfl rfl ?_
    refine Ops.pure H (X.cmp rfl rfl rfl) rfl rfl rfl ?_
    (refine Ops.nil (hK _ _ ?_); clear hK K)
    refine Run.cond_true rfl ?_
    refine Run.seq ?_
    (refine Run.region ?_; intro K hK)
    refine Ops.pure H (X.assign rfl) rfl rfl rfl ?_
    (refine Ops.nil (hK _ _ ?_); clear hK K)
    (first | refine Fn.ret1 HF rfl rfl ?_ | refine Fn.ret2 HF rfl rfl rfl ?_ | refine Fn.ret3 HF rfl rfl rfl rfl ?_ | refine Fn.ret0 HF rfl ?_ | refine Fn.fin0 HF rfl ?_ | refine Fn.retG (E := env) HF rfl H (by first | exact RVs.cellN rfl rfl rfl (by first | exact .head | exact .tail .head | exact .tail (.tail .head) | exact .tail (.tail (.tail .head)) | exact .tail (.tail (.tail (.tail .head))) | exact .tail (.tail (.tail (.tail (.tail .head)))) | exact .tail (.tail (.tail (.tail (.tail (.tail .head)))))) (by first | assumption | exact Cs.take rfl) RVs.nil | exact RVs.cellN rfl rfl rfl (by first | exact .head | exact .tail .head | exact .tail (.tail .head) | exact .tail (.tail (.tail .head)) | exact .tail (.tail (.tail (.tail .head))) | exact .tail (.tail (.tail (.tail (.tail .head)))) | exact .tail (.tail (.tail (.tail (.tail (.tail .head)))))) (by first | assumption | exact Cs.take rfl) (RVs.tmp rfl RVs.nil)) rfl ?_)
    obtain ⟨e1, e2⟩ := ends_none (done := false) he'
    rw [e1, e2]
    exact ⟨rfl, H.fr, h'.ext hf⟩
end Go.Proofs.Ythidohdnaeboaaa
