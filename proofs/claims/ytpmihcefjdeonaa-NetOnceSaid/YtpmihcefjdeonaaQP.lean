/- Walks of layer 6: count. -/
import Derived.Test.YtpmihcefjdeonaaQN
import Derived.Test.YtpmihcefjdeonaaQM
namespace Go.Proofs.Ytpmihcefjdeonaa
open Go
set_option maxRecDepth 20000
set_option maxHeartbeats 2000000
attribute [local irreducible] Run Ops Fn Draw Draw2 PureOp StepZ

theorem recv_fr (z : World) (g : PG) (k : Nat) {nb : Nat} (hnb : g.nb = nb) (h : PN z g) (hi : g.abs.there (k : Nat) = true) (hk : k < g.n) {fr : Nat} {bs : List Int} {mv : Value} {ms : List ((Nat × List Int) × Value)} (hbx : g.box k = ((fr, bs), mv) :: ms) : Fn env.P 17 [.pointer (some ⟨nb, 0, none⟩), .int .i64 (k : Nat)] z fun v w' =>
    v = .tuple #[.agg #[.int .i64 (fr : Nat), mv], .bool true, .int .i64 0] ∧ Fr z w' [g.xb] ∧ ∃ g', PN w' g' ∧ g'.abs = g.abs.recv (k : Nat) ∧ g'.nb = g.nb ∧ g'.xb = g.xb ∧ g'.n = g.n ∧ g'.box = updb g.box k ms ∧ g'.up = g.up := by
  subst hnb
  obtain ⟨cu, cx, fv, a1, a2, a3, _⟩ := h.net
  obtain ⟨xs, x1, x2, x3⟩ := h.boxr
  have H := ((Holds.start z [g.xb]).add false a1 (by simp) (by simp)).add true x1 (by simpa using ne_of_ty x1 a1 (by decide)) (by simp)
  have HF := Try.func17; refine Fn.enter Try.func17 Try.ntmps17 rfl rfl rfl ?_
  refine Run.seq ?_
  (refine Run.region ?_; intro K hK)
  (refine Ops.eff rfl (Y.alloc rfl rfl rfl H ?_); intro b4 w H0 hb4; clear H; have H := H0; clear H0)
  refine Ops.pure H (X.assign rfl) rfl rfl rfl ?_
  refine Ops.pure H (X.assign rfl) rfl rfl rfl ?_
  (refine Ops.nil (hK _ _ ?_); clear hK K)
  refine Run.seq ?_
  refine Run.seq ?_
  (refine Run.region ?_; intro K hK)
  refine Ops.pure H (X.move rfl) rfl rfl rfl ?_
  refine Ops.pure H (X.move rfl) rfl rfl rfl ?_
  have hd := H.fr.drop1 (by rw [x1]; exact H.pick (.tail .head))
  refine Ops.eff rfl (Y.call rfl rfl (by first | assumption | decide +kernel) rfl (there_any _ g (k : Nat) (h.ext hd)) rfl ?_)
  rintro v w1 ⟨rfl, rfl⟩
  rw [hi]
  obtain ⟨v, v1, v2⟩ := x3 k hk
  rw [hbx] at v2
  have hbb := h.boxb k hk
  rw [hbx] at hbb
  have hBm := hbb _ (List.mem_cons_self ..)
  dsimp only at hBm
  obtain ⟨ma, mc, rfl⟩ := hBm.slice
  obtain ⟨b, off, cap, cs, hob, rfl, l1, l2, l3, l4, l5⟩ := v2.pos (by simp)
  simp only [List.length_cons] at v1 l1 l5
  have hc : xs[0 + k * 1]? = some (.slice (some ⟨b, off, none⟩) (ms.length + 1) cap) := by rw [Nat.zero_add, Nat.mul_one]; exact v1
  have hcell : Cs cs (off + 0 * 2) 2 [.int .i64 (fr : Nat), .slice ma bs.length mc] := (l5.sub 0 2 (by omega)).cast rfl rfl (by simp [msC])
  have hbz := lt_of_at l3
  replace H := H.add false (hd.get l3 (by simp)) (by simpa using ⟨by omega, ne_of_ty l3 x1 (by decide), ne_of_ty l3 a1 (by decide)⟩) (by simp)
  refine Ops.pure H (X.not rfl) rfl rfl rfl ?_
  (refine Ops.nil (hK _ _ ?_); clear hK K)
  refine Run.cond_false rfl ?_
  refine Run.skip ?_
  refine Run.seq ?_
  refine Run.seq ?_
  (refine Run.region ?_; intro K hK)
  refine Ops.pure H (X.move rfl) rfl rfl rfl ?_
  refine Ops.pure H (X.nilCheck rfl) rfl rfl rfl ?_
  refine Ops.pure H (X.fieldAddr rfl rfl rfl rfl rfl rfl) rfl rfl rfl ?_
  refine Ops.pure H (X.load1 rfl rfl rfl rfl (.tail (.tail (.tail .head))) rfl) rfl rfl rfl ?_
  refine Ops.pure H (X.move rfl) rfl rfl rfl ?_
  refine Ops.pure H (X.indexAddr rfl rfl (by omega) rfl rfl rfl rfl) rfl rfl rfl ?_
  refine Ops.pure H (X.load1 rfl rfl rfl rfl (.tail (.tail .head)) (by assumption)) rfl rfl rfl ?_
  refine Ops.pure H (X.len_slice rfl rfl rfl) rfl rfl rfl ?_
  refine Ops.pure H (X.cmp rfl rfl rfl) rfl rfl rfl ?_
  (refine Ops.nil (hK _ _ ?_); clear hK K)
  refine Run.cond_false rfl ?_
  refine Run.skip ?_
  refine Run.seq ?_
  (refine Run.region ?_; intro K hK)
  refine Ops.pure H (X.move rfl) rfl rfl rfl ?_
  refine Ops.pure H (X.nilCheck rfl) rfl rfl rfl ?_
  refine Ops.pure H (X.fieldAddr rfl rfl rfl rfl rfl rfl) rfl rfl rfl ?_
  refine Ops.pure H (X.load1 rfl rfl rfl rfl (.tail (.tail (.tail .head))) rfl) rfl rfl rfl ?_
  refine Ops.pure H (X.move rfl) rfl rfl rfl ?_
  refine Ops.pure H (X.indexAddr rfl rfl (by omega) rfl rfl rfl rfl) rfl rfl rfl ?_
  refine Ops.pure H (X.load1 rfl rfl rfl rfl (.tail (.tail .head)) (by assumption)) rfl rfl rfl ?_
  refine Ops.pure H (X.indexAddrK (j := 0) rfl rfl rfl (by omega) rfl rfl rfl rfl) rfl rfl rfl ?_
  refine Ops.pure H (X.loadN rfl rfl rfl Pick.head (by assumption)) rfl rfl rfl ?_
  (refine Ops.eff rfl (Y.alloc rfl rfl rfl H ?_); intro b7 w H0 hb7; clear H; have H := H0; clear H0)
  (refine Ops.eff rfl (Y.storeO rfl rfl rfl rfl rfl rfl H Upd.head rfl ?_); intro w H0; clear H; have H := H0; clear H0)
  (refine Ops.nil (hK _ _ ?_); clear hK K)
  refine Run.seq ?_
  (refine Run.draw H [14] [0, 1, 2, 3, 4, 5, 6, 7, 8, 9, 10, 11, 12, 13, 14] ?_; clear H; intro K hK w H)
  refine Draw.take0 rfl (X.move rfl) rfl rfl rfl (by decide +kernel) ?_
  refine Draw.take0 rfl (X.nilCheck rfl) rfl rfl rfl (by decide +kernel) ?_
  refine Draw.take0 rfl (X.fieldAddr rfl rfl rfl rfl rfl rfl) rfl rfl rfl (by decide +kernel) ?_
  refine Draw.take rfl (X.load1 rfl rfl rfl rfl (.tail (.tail (.tail (.tail .head)))) rfl) rfl rfl rfl (by decide +kernel) ?_
  refine Draw.take0 rfl (X.move rfl) rfl rfl rfl (by decide +kernel) ?_
  refine Draw.take0 rfl (X.move rfl) rfl rfl rfl (by decide +kernel) ?_
  refine Draw.take0 rfl (X.nilCheck rfl) rfl rfl rfl (by decide +kernel) ?_
  refine Draw.take0 rfl (X.fieldAddr rfl rfl rfl rfl rfl rfl) rfl rfl rfl (by decide +kernel) ?_
  refine Draw.take rfl (X.load1 rfl rfl rfl rfl (.tail (.tail (.tail (.tail .head)))) rfl) rfl rfl rfl (by decide +kernel) ?_
  refine Draw.take0 rfl (X.move rfl) rfl rfl rfl (by decide +kernel) ?_
  refine Draw.take0 rfl (X.indexAddr rfl rfl (by omega) rfl rfl rfl rfl) rfl rfl rfl (by decide +kernel) ?_
  refine Draw.take rfl (X.load1 rfl rfl rfl rfl (.tail (.tail (.tail .head))) (by assumption)) rfl rfl rfl (by decide +kernel) ?_
  refine Draw.take0 rfl (X.slice_l (j := 1) rfl rfl (by omega) rfl rfl rfl rfl) rfl rfl rfl (by decide +kernel) ?_
  refine Draw.take0 rfl (X.indexAddr rfl rfl (by omega) rfl rfl rfl rfl) rfl rfl rfl (by decide +kernel) ?_
  (refine Draw.last rfl rfl (by decide +kernel) (Y.storeI rfl rfl rfl rfl rfl rfl H (.tail (.tail (.tail .head))) (by omega) ?_); intro w H0; clear H; have H := H0; clear H0)
  (refine Draw2.done (by decide +kernel) (hK _ _ ?_); clear hK K)
  refine Run.seq ?_
  (refine Run.region ?_; intro K hK)
  refine Ops.pure H (X.loadN rfl rfl rfl Pick.head (Cs.take rfl)) rfl rfl rfl ?_
  (refine Ops.eff rfl (Y.storeO rfl rfl rfl rfl rfl rfl H (.tail (.tail .head)) rfl ?_); intro w H0; clear H; have H := H0; clear H0)
  refine Ops.pure H (X.assign rfl) rfl rfl rfl ?_
  refine Ops.pure H (X.assign rfl) rfl rfl rfl ?_
  (refine Ops.nil (hK _ _ ?_); clear hK K)
  (first | refine Fn.ret1 HF rfl rfl ?_ | refine Fn.ret2 HF rfl rfl rfl ?_ | refine Fn.ret3 HF rfl rfl rfl rfl ?_ | refine Fn.ret0 HF rfl ?_ | refine Fn.fin0 HF rfl ?_ | refine Fn.retG (E := env) HF rfl H (by first | exact RVs.cellN rfl rfl rfl (by first | exact .head | exact .tail .head | exact .tail (.tail .head) | exact .tail (.tail (.tail .head)) | exact .tail (.tail (.tail (.tail .head))) | exact .tail (.tail (.tail (.tail (.tail .head)))) | exact .tail (.tail (.tail (.tail (.tail (.tail .head)))))) (by first | assumption | exact Cs.take rfl) RVs.nil | exact RVs.cellN rfl rfl rfl (by first | exact .head | exact .tail .head | exact .tail (.tail .head) | exact .tail (.tail (.tail .head)) | exact .tail (.tail (.tail (.tail .head))) | exact .tail (.tail (.tail (.tail (.tail .head)))) | exact .tail (.tail (.tail (.tail (.tail (.tail .head)))))) (by first | assumption | exact Cs.take rfl) (RVs.tmp rfl RVs.nil) | exact RVs.cellN rfl rfl rfl (by first | exact .head | exact .tail .head | exact .tail (.tail .head) | exact .tail (.tail (.tail .head)) | exact .tail (.tail (.tail (.tail .head))) | exact .tail (.tail (.tail (.tail (.tail .head)))) | exact .tail (.tail (.tail (.tail (.tail (.tail .head)))))) (by first | assumption | exact Cs.take rfl) (RVs.tmp rfl (RVs.tmp rfl RVs.nil))) rfl ?_)
  have hF := H.fr
  have hB2 := hBm.keepT hF (fun b hb => by simp at hb; subst hb; exact not5 x1 (by decide))
  have st := h.setBox (i := k) (cs := xs) (v' := .slice (some ⟨b, if cap = 1 then off else off + 1 * 2, none⟩) ms.length (cap - 1)) (ob' := some b) (ms' := ms) hk hF (fun b hb => .inl (by simpa using hb)) x1 (by have := H.pick (b := g.xb) (by first | exact .head | exact .tail .head | exact .tail (.tail .head) | exact .tail (.tail (.tail .head)) | exact .tail (.tail (.tail (.tail .head))) | exact .tail (.tail (.tail (.tail (.tail .head)))) | exact .tail (.tail (.tail (.tail (.tail (.tail .head)))))); simpa using this)
    ⟨_, cap - 1, cs, rfl, by omega, by omega, hF.get l3 (by simpa using ne_of_ty l3 x1 (by decide)), by split <;> omega, ?_⟩ (fun b' hb' => .inl (by rw [hob]; exact hb')) (fun p hp => .inl (by rw [hbx]; exact List.mem_cons_of_mem _ hp))
    (fun i j p q b hp hq e e' => by
      have := (h.dm k k (i + 1) (j + 1) p q b hk hk (by rw [hbx]; simpa using hp) (by rw [hbx]; simpa using hq) e e').2
      omega)
  refine ⟨rfl, hF, _, st.ok, ?_, rfl, rfl, rfl, rfl, rfl⟩
  · rw [abs_updb]
    simp only [Ns.recv, hi, if_true, Int.toNat_natCast, abs_box, hbx, List.map_cons, List.tail_cons]
  · by_cases h1 : cap = 1
    · have : ms = [] := List.eq_nil_of_length_eq_zero (by omega)
      subst this
      simpa using Cs.nil
    · rw [if_neg h1]
      exact (l5.sub 2 (ms.length * 2) (by omega)).cast (by omega) rfl (by
        rw [List.flatMap_cons]
        show List.take (ms.length * 2) (ms.flatMap msC) = ms.flatMap msC
        rw [← ms_len ms, List.take_length])
theorem PN.apart {w : World} {g : PG} (h : PN w g) {b T : Nat} {cs : List Value} (hb : w.heap[b]? = some (row cs T)) (hT : T ∉ [84, 4, 72, 81, 52, 78, 28, 5]) : ¬ PF g b ∧ ¬ PI g b := by
  refine ⟨fun hp => ?_, fun hp => ?_⟩
  · rcases hp with hp | hp
    · rcases h.ty hp with ⟨es, k, he⟩ | ⟨cs', T', hT', he⟩
      · rw [hb] at he; cases he
      · have := rows_ne ⟨_, hb⟩ ⟨_, he⟩
        subst this
        exact hT (List.mem_append_left [5] hT')
    · exact hT (by rw [rows_ne ⟨_, hb⟩ (h.ms hp)]; simp)
  · exact hT (by rw [rows_ne ⟨_, hb⟩ (h.im hp)]; simp)
/-! ### Tables of two sides -/
def rowOf (n : Nat) (f : Nat → Value) : List Value := (List.range n).map f
theorem rowOf_len (n : Nat) (f : Nat → Value) : (rowOf n f).length = n := by simp [rowOf]
theorem rowOf_get {n : Nat} {f : Nat → Value} {i : Nat} (hi : i < n) : (rowOf n f)[i]? = some (f i) := by simp [rowOf, hi]
theorem rowOf_at {n : Nat} {f : Nat → Value} {i : Nat} (hi : i < n) : (rowOf n f)[0 + i * 1]? = some (f i) := by rw [Nat.zero_add, Nat.mul_one]; exact rowOf_get hi
theorem rowOf_set {n : Nat} {f : Nat → Value} {i : Nat} (v : Value) : (rowOf n f).set i v = rowOf n (updb f i v) := by
  apply List.ext_getElem?
  intro j
  rw [List.getElem?_set]
  unfold rowOf
  by_cases h : i = j
  · subst h
    simp only [List.length_map, List.length_range, if_true, List.getElem?_map]
    by_cases hj : i < n
    · simp [hj, updb_self]
    · simp [hj]
  · rw [if_neg h]
    simp only [List.getElem?_map]
    by_cases hj : j < n
    · simp [hj, updb_ne (fun e => h e.symm)]
    · simp [hj]
structure Tab (w : World) (ob T1 T2 n : Nat) (rows : Nat → Nat) (C : Nat → Nat → Value) : Prop where
  o : w.heap[ob]? = some (row (rowOf n fun i => .slice (some ⟨rows i, 0, none⟩) n n) T1)
  r : ∀ i, i < n → w.heap[rows i]? = some (row (rowOf n (C i)) T2)
  d : ∀ i j, i < n → j < n → i ≠ j → rows i ≠ rows j
theorem Tab.keep {w w' : World} {S : List Nat} {ob T1 T2 n : Nat} {rows : Nat → Nat} {C : Nat → Nat → Value} (h : Tab w ob T1 T2 n rows C) (hf : Fr w w' S) (ho : ob ∉ S) (hr : ∀ i, i < n → rows i ∉ S) : Tab w' ob T1 T2 n rows C :=
  ⟨hf.get h.o ho, fun i hi => hf.get (h.r i hi) (hr i hi), h.d⟩
theorem Tab.ext {w w' : World} {ob T1 T2 n : Nat} {rows : Nat → Nat} {C : Nat → Nat → Value} (h : Tab w ob T1 T2 n rows C) (hf : Fr w w' []) : Tab w' ob T1 T2 n rows C := h.keep hf (by simp) (by simp)
theorem Tab.set {w w' : World} {ob T1 T2 n i j : Nat} {rows : Nat → Nat} {C : Nat → Nat → Value} {v : Value} (h : Tab w ob T1 T2 n rows C) (hi : i < n) (hf : Fr w w' [rows i]) (ho : ob ≠ rows i) (hw : w'.heap[rows i]? = some (row ((rowOf n (C i)).set j v) T2)) : Tab w' ob T1 T2 n rows (upd2 C i j v) := by
  refine ⟨hf.get h.o (by simpa using ho), fun a ha => ?_, h.d⟩
  by_cases e : a = i
  · subst e
    rw [hw, rowOf_set]
    congr 2
    unfold rowOf upd2 updb
    simp
  · rw [hf.get (h.r a ha) (by simpa using h.d a i ha hi e)]
    congr 2
    unfold rowOf upd2
    simp [e]
end Go.Proofs.Ytpmihcefjdeonaa

namespace Go.Proofs.Ytpmihcefjdeonaa
open Go
set_option maxRecDepth 20000
set_option maxHeartbeats 2000000
attribute [local irreducible] Run Ops Fn Draw Draw2 PureOp StepZ

theorem rowOf_const (n : Nat) (v : Value) : rowOf n (fun _ => v) = List.replicate n v := by
  apply List.ext_getElem?
  intro i
  unfold rowOf
  by_cases h : i < n <;> simp [List.getElem?_replicate, h]
theorem rowOf_of {n : Nat} {cs : List Value} {f : Nat → Value} (hl : cs.length = n) (h : ∀ i, i < n → cs[i]? = some (f i)) : cs = rowOf n f := by
  apply List.ext_getElem?
  intro i
  by_cases hi : i < n
  · rw [h i hi, rowOf_get hi]
  · rw [List.getElem?_eq_none (by omega), List.getElem?_eq_none (by rw [rowOf_len]; omega)]
theorem waits_at (z : World) (g : PG) (i : Int) {nb : Nat} (hnb : g.nb = nb) (h : PN z g) : Fn env.P 39 [.pointer (some ⟨nb, 0, none⟩), .int .i64 i] z fun v w' => v = .tuple #[.int .i64 (if g.abs.there i then (g.abs.box i.toNat).length else 0 : Nat), .int .i64 (if g.abs.there i then 0 else 60)] ∧ w' = z := by subst hnb; exact Waits_any z g i h
def cnt (s : Ns) (f t : Nat) : Nat := if s.up t then (filt f (s.box t)).length else 0
/-- So far. -/
def cntTo (s : Ns) (i k f t : Nat) : Nat := if t < i then cnt s f t else if t = i then (filt f ((s.box t).take k)).length else 0
theorem filt_len (f : Nat) (l : List (Nat × List Int)) : (filt f l).length ≤ l.length := by unfold filt; rw [List.length_map]; exact List.length_filter_le _ _
theorem cntTo_here (s : Ns) (i q f : Nat) : cntTo s i q f i = (filt f ((s.box i).take q)).length := by unfold cntTo; rw [if_neg (Nat.lt_irrefl i), if_pos rfl]
theorem cntTo_else (s : Ns) {i f t : Nat} (q q' : Nat) (h : t ≠ i) : cntTo s i q f t = cntTo s i q' f t := by unfold cntTo; rw [if_neg h, if_neg h]
theorem cntTo_step (s : Ns) {i q fr : Nat} {bs : List Int} (h : (s.box i)[q]? = some (fr, bs)) (f : Nat) : cntTo s i (q + 1) f i = if f = fr then cntTo s i q f i + 1 else cntTo s i q f i := by
  rw [cntTo_here, cntTo_here, List.take_add_one, h, filt_append]
  show (filt f _ ++ filt f [(fr, bs)]).length = _
  rw [filt_cons]
  by_cases e : f = fr
  · rw [if_pos e, if_pos e.symm]; simp [filt]
  · rw [if_neg e, if_neg (fun q => e q.symm)]; simp [filt]
/-- The clone that is emptied. -/
structure Cnt (z w : World) (s : Ns) (c0 c : PG) (ob : Nat) (rows : Nat → Nat) (i k : Nat) : Prop where
  p : PN w c
  fr : Fr z w []
  nb : c.nb = c0.nb
  xb : c.xb = c0.xb
  n : c.n = c0.n
  up : c.up = c0.up
  cur : ∀ t, i < t → c.box t = c0.box t
  here : c.box i = (c0.box i).drop k
  tab : Tab w ob 46 3 c0.n rows fun f t => .int .i64 (cntTo s i k f t : Nat)
theorem count_any (z : World) (g : PG) (k : Nat) {nb : Nat} (hnb : g.nb = nb) (h : PN z g) (hok : g.abs.Ok k) (hk : k ≤ 4398046511000) : Fn env.P 18 [.pointer (some ⟨nb, 0, none⟩), .int .i64 (g.n : Nat)] z fun v w' => Fr z w' [] ∧ ∃ ob rows, v = .slice (some ⟨ob, 0, none⟩) g.n g.n ∧ z.heap.size ≤ ob ∧ (∀ i, i < g.n → z.heap.size ≤ rows i) ∧ Tab w' ob 46 3 g.n rows fun f t => .int .i64 (cnt g.abs f t : Nat) := by
  have h64 := h.n64
  have H := Holds.start z []
  have HF := Try.func18; refine Fn.enter Try.func18 Try.ntmps18 rfl rfl rfl ?_
  refine Run.seq ?_
  (refine Run.region ?_; intro K hK)
  refine Ops.pure H (X.assign rfl) rfl rfl rfl ?_
  (refine Ops.nil (hK _ _ ?_); clear hK K)
  refine Run.seq ?_
  (refine Run.region ?_; intro K hK)
  refine Ops.pure H (X.move rfl) rfl rfl rfl ?_
  refine Ops.eff rfl (Y.call rfl rfl (by first | assumption | decide +kernel) rfl (clone_any _ g k hnb h hok hk) rfl ?_)
  rintro v w1 ⟨c0, rfl, hc, hf1, hps, hbox, hpi, hab⟩
  have hn0 : c0.n = g.n := congrArg Ns.n hab
  have hup0 : c0.up = g.up := congrArg Ns.up hab
  have hsz1 := hf1.size
  clear H
  have H := Holds.start w1 []
  refine Ops.pure H (X.assign rfl) rfl rfl rfl ?_
  (refine Ops.nil (hK _ _ ?_); clear hK K)
  refine Run.seq ?_
  refine Run.seq ?_
  (refine Run.region ?_; intro K hK)
  refine Ops.pure H (X.move rfl) rfl rfl rfl ?_
  refine Ops.pure H (X.ptrNil rfl rfl rfl rfl rfl) rfl rfl rfl ?_
  (refine Ops.nil (hK _ _ ?_); clear hK K)
  refine Run.cond_false rfl ?_
  refine Run.skip ?_
  refine Run.seq ?_
  (refine Run.region ?_; intro K hK)
  refine Ops.pure H (X.move rfl) rfl rfl rfl ?_
  refine Ops.eff rfl (Y.make (len := g.n) (cap := g.n) rfl rfl (Nat.le_refl _) rfl rfl rfl rfl (by dsimp only; omega) (by omega) rfl H ?_)
  intro ob ocs w2 H hob hol horep
  dsimp only at hol
  refine Ops.pure H (X.assign rfl) rfl rfl rfl ?_
  (refine Ops.nil (hK _ _ ?_); clear hK K)
  refine Run.seq ?_
  refine Run.seq ?_
  (refine Run.region ?_; intro K hK)
  refine Ops.pure H (X.assign rfl) rfl rfl rfl ?_
  (refine Ops.nil (hK _ _ ?_); clear hK K)
  refine Run.block ?_
  refine Run.rounds (fun (x : Nat) => [(1, .int .i64 (g.n : Nat)), (5, .pointer (some ⟨c0.nb, 0, none⟩)), (6, .slice (some ⟨ob, 0, none⟩) g.n g.n), (7, .int .i64 (x : Nat))])
    (fun x w' => x ≤ g.n ∧ Fr w1 w' [] ∧ ∃ (cs : List Value) (rows : Nat → Nat), w'.heap[ob]? = some (row cs 46) ∧ cs.length = g.n ∧ (∀ i, i < x → cs[i]? = some (.slice (some ⟨rows i, 0, none⟩) g.n g.n) ∧ w'.heap[rows i]? = some (row (rowOf g.n fun _ => .int .i64 0) 3) ∧ w1.heap.size ≤ rows i) ∧ ∀ i j, i < x → j < x → i ≠ j → rows i ≠ rows j)
    (fun x => g.n - x) 0 (by repeat (first | exact trivial | refine ⟨rfl, ?_⟩)) ⟨by omega, H.fr, ocs, fun _ => 0, H.pick (b := ob) (by first | exact .head | exact .tail .head | exact .tail (.tail .head) | exact .tail (.tail (.tail .head)) | exact .tail (.tail (.tail (.tail .head))) | exact .tail (.tail (.tail (.tail (.tail .head)))) | exact .tail (.tail (.tail (.tail (.tail (.tail .head)))))), by rw [hol, Nat.mul_one], fun i hi => by omega, fun i j hi => by omega⟩ ?_
  clear H
  rintro x w3 ⟨hx, hF3, cs, rows, ho3, hl3, hr3, hd3⟩ IH
  by_cases hlt : x < g.n
  · have H := (Holds.start w3 [ob]).add true ho3 (by simp) (by simp)
    refine Run.seq ?_
    refine Run.seq ?_
    (refine Run.region ?_; intro K hK)
    refine Ops.pure H (X.move rfl) rfl rfl rfl ?_
    refine Ops.pure H (X.move rfl) rfl rfl rfl ?_
    refine Ops.pure H (X.cmp rfl rfl rfl) rfl rfl rfl ?_
    (refine Ops.nil (hK _ _ ?_); clear hK K)
    refine Run.cond_dec rfl (fun h23 => ?x0) (fun h23 => ?y0)
    case' y0 => exfalso; omega
    case' x0 =>
      refine Run.skip ?_
      refine Run.seq ?_
      refine Run.block ?_
      (refine Run.region ?_; intro K hK)
      refine Ops.pure H (X.move rfl) rfl rfl rfl ?_
      refine Ops.pure H (X.move rfl) rfl rfl rfl ?_
      refine Ops.pure H (X.move rfl) rfl rfl rfl ?_
    refine Ops.eff rfl (Y.make (len := g.n) (cap := g.n) rfl rfl (Nat.le_refl _) rfl rfl rfl rfl (by dsimp only; omega) (by omega) rfl H ?_)
    intro rb rcs w4 H hrb hrl hrrep
    have hrc : rcs = List.replicate g.n (.int .i64 0) := hrrep rfl
    refine Ops.pure H (X.indexAddr rfl rfl (by omega) rfl rfl rfl rfl) rfl rfl rfl ?_
    (refine Ops.eff rfl (Y.storeI rfl rfl rfl rfl rfl rfl H (.tail .head) (by omega) ?_); intro w H0; clear H; have H := H0; clear H0)
    (refine Ops.nil (hK _ _ ?_); clear hK K)
    refine Run.inBlock ?_
    (refine Run.region ?_; intro K hK)
    refine Ops.pure H (X.move rfl) rfl rfl rfl ?_
    refine Ops.pure H (X.succ rfl rfl (by omega)) rfl rfl rfl ?_
    refine Ops.pure H (X.assign rfl) rfl rfl rfl ?_
    (refine Ops.nil (hK _ _ ?_); clear hK K)
    have hw3 := hF3.size
    have hro : ∀ i, i < x → rows i ≠ ob := fun i hi => ne_of_ty (hr3 i hi).2.1 ho3 (by decide)
    have hrl : ∀ i, i < x → rows i < w3.heap.size := fun i hi => lt_of_at (hr3 i hi).2.1
    refine (IH (x + 1) _ (by omega) ⟨by omega, hF3.trans H.fr (by simp) (fun y hy hl => by simp at hy; omega), _, updb rows x rb, H.pick (b := ob) (by first | exact .head | exact .tail .head | exact .tail (.tail .head) | exact .tail (.tail (.tail .head)) | exact .tail (.tail (.tail (.tail .head))) | exact .tail (.tail (.tail (.tail (.tail .head)))) | exact .tail (.tail (.tail (.tail (.tail (.tail .head)))))), by simp [hl3], fun i hi => ?_, fun i j hi hj hij => ?_⟩).weak (by repeat (first | exact trivial | refine ⟨rfl, ?_⟩))
    · by_cases e : i = x
      · subst e
        rw [updb_self]
        refine ⟨by simp only [Nat.zero_add, Nat.mul_one]; rw [List.getElem?_set_self (by omega)], ?_, by omega⟩
        rw [rowOf_const, ← hrc]
        exact H.pick (b := rb) (by first | exact .head | exact .tail .head | exact .tail (.tail .head) | exact .tail (.tail (.tail .head)) | exact .tail (.tail (.tail (.tail .head))) | exact .tail (.tail (.tail (.tail (.tail .head)))) | exact .tail (.tail (.tail (.tail (.tail (.tail .head))))))
      · obtain ⟨q1, q2, q3⟩ := hr3 i (by omega)
        rw [updb_ne e]
        refine ⟨?_, H.fr.get q2 (by simpa using hro i (by omega)), q3⟩
        simp only [Nat.zero_add, Nat.mul_one]
        rw [List.getElem?_set_ne (fun e' => e e'.symm)]
        exact q1
    · by_cases e : i = x
      · subst e
        rw [updb_self, updb_ne (fun e => hij e.symm)]
        have := hrl j (by omega)
        omega
      · rw [updb_ne e]
        by_cases e' : j = x
        · subst e'
          rw [updb_self]
          have := hrl i (by omega)
          omega
        · rw [updb_ne e']
          exact hd3 i j (by omega) (by omega) hij
  · obtain rfl : x = g.n := by omega
    have hT : Tab w3 ob 46 3 g.n rows fun f t => .int .i64 (cntTo g.abs 0 0 f t : Nat) := by
      refine ⟨?_, fun i hi => ?_, hd3⟩
      · rw [ho3, rowOf_of hl3 (fun i hi => (hr3 i hi).1)]
      · rw [(hr3 i hi).2.1]
        congr 2
        unfold rowOf cntTo
        simp [filt]
    have hzr : ∀ i, i < g.n → z.heap.size ≤ rows i := fun i hi => by have := (hr3 i hi).2.2; omega
    have hC0 : Cnt z w3 g.abs c0 c0 ob rows 0 0 := ⟨hc.ext hF3, hf1.then hF3, rfl, rfl, rfl, rfl, fun t _ => rfl, rfl, by rw [hn0]; exact hT⟩
    have H := Holds.start w3 []
    refine Run.seq ?_
    refine Run.seq ?_
    (refine Run.region ?_; intro K hK)
    refine Ops.pure H (X.move rfl) rfl rfl rfl ?_
    refine Ops.pure H (X.move rfl) rfl rfl rfl ?_
    refine Ops.pure H (X.cmp rfl rfl rfl) rfl rfl rfl ?_
    (refine Ops.nil (hK _ _ ?_); clear hK K)
    refine Run.cond_dec rfl (fun h23 => ?x1) (fun h23 => ?y1)
    case' y1 =>
      refine Run.exit rfl ?_
      refine Run.seq ?_
      refine Run.seq ?_
      (refine Run.region ?_; intro K hK)
      refine Ops.pure H (X.assign rfl) rfl rfl rfl ?_
      (refine Ops.nil (hK _ _ ?_); clear hK K)
      refine Run.block ?_
    case' x1 => exfalso; omega
    refine Run.rounds (fun (i : Nat) => [(1, .int .i64 (g.n : Nat)), (5, .pointer (some ⟨c0.nb, 0, none⟩)), (6, .slice (some ⟨ob, 0, none⟩) g.n g.n), (8, .int .i64 (i : Nat))])
      (fun i w' => i ≤ g.n ∧ ∃ c, Cnt z w' g.abs c0 c ob rows i 0) (fun i => g.n - i) 0 (by repeat (first | exact trivial | refine ⟨rfl, ?_⟩)) ⟨by omega, c0, hC0⟩ ?_
    clear H hC0 IH hT ho3 hl3 hr3 hd3 hF3
    rintro i w4 ⟨hi, c, hC⟩ IH
    by_cases hin : i < g.n
    · have H := Holds.start w4 []
      refine Run.seq ?_
      refine Run.seq ?_
      (refine Run.region ?_; intro K hK)
      refine Ops.pure H (X.move rfl) rfl rfl rfl ?_
      refine Ops.pure H (X.move rfl) rfl rfl rfl ?_
      refine Ops.pure H (X.cmp rfl rfl rfl) rfl rfl rfl ?_
      (refine Ops.nil (hK _ _ ?_); clear hK K)
      refine Run.cond_dec rfl (fun h33 => ?x2) (fun h33 => ?y2)
      case' y2 => exfalso; omega
      case' x2 =>
        refine Run.skip ?_
        refine Run.seq ?_
        refine Run.block ?_
        refine Run.seq ?_
        (refine Run.region ?_; intro K hK)
        refine Ops.pure H (X.move rfl) rfl rfl rfl ?_
        refine Ops.pure H (X.move rfl) rfl rfl rfl ?_
      refine Ops.eff rfl (Y.call rfl rfl (by first | assumption | decide +kernel) rfl (waits_at _ c (i : Nat) hC.nb hC.p) rfl ?_)
      rintro v w5 ⟨hv, rfl⟩
      have hcn : c.n = g.n := hC.n.trans hn0
      have hbi : c.abs.box i = g.abs.box i := by rw [abs_box, hC.here, List.drop_zero, hbox, ← abs_box]
      have hisN : c.abs.isN (i : Nat) = true := isN_nat _ _ (by rw [abs_n]; omega)
      have hupi : c.up i = g.up i := by rw [hC.up, hup0]
      have hthere : c.abs.there (i : Nat) = g.up i := by unfold Ns.there; rw [hisN, Int.toNat_natCast, abs_up, hupi]; rfl
      rw [hthere, Int.toNat_natCast, hbi] at hv
      obtain ⟨W, hW⟩ : ∃ W : Nat, W = (if g.up i = true then (g.abs.box i).length else 0) := ⟨_, rfl⟩
      obtain ⟨E, hE⟩ : ∃ E : Int, E = (if g.up i = true then 0 else 60) := ⟨_, rfl⟩
      rw [← hW, ← hE] at hv
      subst hv
      have hbk := (hok.box i).1
      have hWk : W ≤ k := by rw [hW]; split <;> omega
      refine Ops.pure H (X.move rfl) rfl rfl rfl ?_
      refine Ops.pure H (X.extract rfl rfl) rfl rfl rfl ?_
      refine Ops.pure H (X.extract rfl rfl) rfl rfl rfl ?_
      refine Ops.pure H (X.assign rfl) rfl rfl rfl ?_
      refine Ops.pure H (X.assign rfl) rfl rfl rfl ?_
      (refine Ops.nil (hK _ _ ?_); clear hK K)
      refine Run.seq ?_
      (refine Run.region ?_; intro K hK)
      refine Ops.pure H (X.assign rfl) rfl rfl rfl ?_
      (refine Ops.nil (hK _ _ ?_); clear hK K)
      refine Run.block ?_
      refine Run.rounds (fun (q : Nat) => [(1, .int .i64 (g.n : Nat)), (5, .pointer (some ⟨c0.nb, 0, none⟩)), (6, .slice (some ⟨ob, 0, none⟩) g.n g.n), (8, .int .i64 (i : Nat)), (9, .int .i64 (W : Nat)), (10, .int .i64 E), (11, .int .i64 (q : Nat))])
        (fun q w' => q ≤ W ∧ ∃ c, Cnt z w' g.abs c0 c ob rows i q) (fun q => W - q) 0 (by repeat (first | exact trivial | refine ⟨rfl, ?_⟩)) ⟨by omega, c, hC.p.ext H.fr, hC.fr.then H.fr, hC.nb, hC.xb, hC.n, hC.up, hC.cur, hC.here, hC.tab.ext H.fr⟩ ?_
      clear H hC hcn hbi hisN hupi hthere
      rintro q w6 ⟨hq, c, hC⟩ IH2
      by_cases hqW : q < W
      · have hu : g.up i = true := by
          cases hu : g.up i with
          | true => rfl
          | false => rw [hu, if_neg (by simp)] at hW; omega
        rw [if_pos hu] at hW hE
        subst hE
        have hcn : c.n = g.n := hC.n.trans hn0
        have hisN : c.abs.isN (i : Nat) = true := isN_nat _ _ (by rw [abs_n]; omega)
        have hthere : c.abs.there (i : Nat) = true := by unfold Ns.there; rw [hisN, Int.toNat_natCast, abs_up, hC.up, hup0, hu]; rfl
        have hlen : q < (c0.box i).length := by rw [hbox]; rw [abs_box, List.length_map] at hW; omega
        obtain ⟨m, ms, hbx⟩ : ∃ m ms, c.box i = m :: ms := ⟨_, _, by rw [hC.here, List.drop_eq_getElem_cons hlen]⟩
        obtain ⟨⟨fr, bs⟩, mv⟩ := m
        have hBm := hC.p.boxb i (by omega) _ (by rw [hbx]; exact List.mem_cons_self ..)
        obtain ⟨ma, mc, hmv⟩ := hBm.slice
        dsimp only at hmv
        subst hmv
        have hmem : (fr, bs) ∈ g.abs.box i := by
          have h1 : ((fr, bs), Value.slice ma bs.length mc) ∈ c0.box i := by
            have : ((fr, bs), Value.slice ma bs.length mc) ∈ c.box i := by rw [hbx]; exact List.mem_cons_self ..
            rw [hC.here] at this
            exact List.mem_of_mem_drop this
          rw [hbox] at h1
          rw [abs_box]
          exact List.mem_map.2 ⟨_, h1, rfl⟩
        have hfr : fr < g.n := ((hok.box i).2 _ hmem).1
        have H := Holds.start w6 []
        refine Run.seq ?_
        refine Run.seq ?_
        (refine Run.region ?_; intro K hK)
        refine Ops.pure H (X.move rfl) rfl rfl rfl ?_
        refine Ops.pure H (X.move rfl) rfl rfl rfl ?_
        refine Ops.pure H (X.cmp rfl rfl rfl) rfl rfl rfl ?_
        refine Ops.pure H (X.move rfl) rfl rfl rfl ?_
        refine Ops.split_dec rfl rfl (fun h46 => ?x3) (fun h46 => ?y3)
        case' y3 => exfalso; omega
        case' x3 =>
          refine Ops.pure H (X.move rfl) rfl rfl rfl ?_
          refine Ops.pure H (X.cmp rfl rfl rfl) rfl rfl rfl ?_
          refine Ops.pure H (X.pick_t rfl rfl) rfl rfl rfl ?_
          (refine Ops.nil (hK _ _ ?_); clear hK K)
          refine Run.cond_true rfl ?_
          refine Run.skip ?_
          refine Run.seq ?_
          refine Run.block ?_
          refine Run.seq ?_
          (refine Run.region ?_; intro K hK)
          refine Ops.pure H (X.move rfl) rfl rfl rfl ?_
          refine Ops.pure H (X.move rfl) rfl rfl rfl ?_
        refine Ops.eff rfl (Y.call rfl rfl (by first | assumption | decide +kernel) rfl (recv_fr _ c i hC.nb hC.p hthere (by omega) hbx) rfl ?_)
        rintro v w7 ⟨rfl, hf7, c', hp7, _, hnb7, hxb7, hn7, hbx7, hup7⟩
        obtain ⟨xcs, hxc⟩ := hC.p.tyXb
        have hT7 : Tab w7 ob 46 3 c0.n rows _ := hC.tab.keep hf7 (by simpa using ne_of_ty hC.tab.o hxc (by decide)) (fun a ha => by simpa using ne_of_ty (hC.tab.r a ha) hxc (by decide))
        have hzx := hps c.xb (by rw [hC.xb]; exact .inr (.inr (.inr (.inl rfl))))
        have hZ7 := hC.fr.trans (U := []) hf7 (by simp) (fun y hy hl => by simp at hy; omega)
        have hor : ob ≠ rows fr := ne_of_ty hT7.o (hT7.r fr (by omega)) (by decide)
        have ho1 : (rowOf c0.n fun i => Value.slice (some ⟨rows i, 0, none⟩) c0.n c0.n)[0 + fr * 1]? = some (.slice (some ⟨rows fr, 0, none⟩) g.n g.n) := by rw [rowOf_at (by omega), hn0]
        have hr1 : (rowOf c0.n fun t => Value.int .i64 (cntTo g.abs i q fr t : Nat))[0 + i * 1]? = some (.int .i64 (cntTo g.abs i q fr i : Nat)) := rowOf_at (by omega)
        have hbq : cntTo g.abs i q fr i ≤ k := by
          rw [cntTo_here]
          have := filt_len fr ((g.abs.box i).take q)
          rw [List.length_take] at this
          omega
        have hq1 : (g.abs.box i)[q]? = some (fr, bs) := by
          have h1 : ((c0.box i).drop q)[0]? = some ((fr, bs), Value.slice ma bs.length mc) := by rw [← hC.here, hbx]; rfl
          rw [List.getElem?_drop, Nat.add_zero, hbox] at h1
          rw [abs_box, List.getElem?_map, h1]
          rfl
        clear H
        have H := ((Holds.start w7 [rows fr]).add false hT7.o (by simp) (by simp)).add true (hT7.r fr (by omega)) (by simpa using hor.symm) (by simp)
        refine Ops.pure H (X.move rfl) rfl rfl rfl ?_
        refine Ops.pure H (X.extract rfl rfl) rfl rfl rfl ?_
        refine Ops.pure H (X.extract rfl rfl) rfl rfl rfl ?_
        refine Ops.pure H (X.extract rfl rfl) rfl rfl rfl ?_
        (refine Ops.eff rfl (Y.alloc rfl rfl rfl H ?_); intro b12 w H0 hb12; clear H; have H := H0; clear H0)
        (refine Ops.eff rfl (Y.storeO rfl rfl rfl rfl rfl rfl H Upd.head rfl ?_); intro w H0; clear H; have H := H0; clear H0)
        refine Ops.pure H (X.assign rfl) rfl rfl rfl ?_
        refine Ops.pure H (X.assign rfl) rfl rfl rfl ?_
        (refine Ops.nil (hK _ _ ?_); clear hK K)
        refine Run.seq ?_
        refine Run.seq ?_
        (refine Run.region ?_; intro K hK)
        refine Ops.pure H (X.move rfl) rfl rfl rfl ?_
        refine Ops.pure H (X.not rfl) rfl rfl rfl ?_
        refine Ops.pure H (X.move rfl) rfl rfl rfl ?_
        refine Ops.pure H (X.move rfl) rfl rfl rfl ?_
        refine Ops.pure H (X.cmp rfl rfl rfl) rfl rfl rfl ?_
        refine Ops.pure H (X.pick_f rfl rfl) rfl rfl rfl ?_
        refine Ops.pure H (X.move rfl) rfl rfl rfl ?_
        refine Ops.pure H (X.fieldAddr rfl rfl rfl rfl rfl rfl) rfl rfl rfl ?_
        refine Ops.pure H (X.load1 rfl rfl rfl rfl Pick.head rfl) rfl rfl rfl ?_
        refine Ops.pure H (X.cmp rfl rfl rfl) rfl rfl rfl ?_
        refine Ops.pure H (X.pick_f rfl rfl) rfl rfl rfl ?_
        refine Ops.pure H (X.move rfl) rfl rfl rfl ?_
        refine Ops.pure H (X.fieldAddr rfl rfl rfl rfl rfl rfl) rfl rfl rfl ?_
        refine Ops.pure H (X.load1 rfl rfl rfl rfl Pick.head rfl) rfl rfl rfl ?_
        refine Ops.pure H (X.move rfl) rfl rfl rfl ?_
        refine Ops.pure H (X.cmp rfl rfl rfl) rfl rfl rfl ?_
        refine Ops.pure H (X.pick_f rfl rfl) rfl rfl rfl ?_
        (refine Ops.nil (hK _ _ ?_); clear hK K)
        refine Run.cond_dec rfl (fun h74 => ?x4) (fun h74 => ?y4)
        case' y4 =>
          refine Run.skip ?_
          (refine Run.region ?_; intro K hK)
          refine Ops.pure H (X.move rfl) rfl rfl rfl ?_
          refine Ops.pure H (X.fieldAddr rfl rfl rfl rfl rfl rfl) rfl rfl rfl ?_
          refine Ops.pure H (X.load1 rfl rfl rfl rfl Pick.head rfl) rfl rfl rfl ?_
          refine Ops.pure H (X.indexAddr rfl rfl (by omega) rfl rfl rfl rfl) rfl rfl rfl ?_
          refine Ops.pure H (X.load1 rfl rfl rfl rfl (.tail (.tail .head)) (by assumption)) rfl rfl rfl ?_
          refine Ops.pure H (X.move rfl) rfl rfl rfl ?_
          refine Ops.pure H (X.indexAddr rfl rfl (by omega) rfl rfl rfl rfl) rfl rfl rfl ?_
          refine Ops.pure H (X.load1 rfl rfl rfl rfl (.tail .head) (by assumption)) rfl rfl rfl ?_
          refine Ops.pure H (X.succ rfl rfl (by omega)) rfl rfl rfl ?_
          refine Ops.pure H (X.indexAddr rfl rfl (by omega) rfl rfl rfl rfl) rfl rfl rfl ?_
        case' x4 => exfalso; omega
        refine Ops.eff rfl (Y.storeI rfl rfl rfl rfl rfl rfl H (by first | exact .head | exact .tail .head | exact .tail (.tail .head) | exact .tail (.tail (.tail .head)) | exact .tail (.tail (.tail (.tail .head))) | exact .tail (.tail (.tail (.tail (.tail .head)))) | exact .tail (.tail (.tail (.tail (.tail (.tail .head)))))) (by rw [rowOf_len]; omega) ?_)
        intro w H
        (refine Ops.nil (hK _ _ ?_); clear hK K)
        refine Run.inBlock ?_
        (refine Run.region ?_; intro K hK)
        refine Ops.pure H (X.move rfl) rfl rfl rfl ?_
        refine Ops.pure H (X.succ rfl rfl (by omega)) rfl rfl rfl ?_
        refine Ops.pure H (X.assign rfl) rfl rfl rfl ?_
        (refine Ops.nil (hK _ _ ?_); clear hK K)
        have hset := hT7.set (i := fr) (j := i) (v := .int .i64 (cntTo g.abs i q fr i + 1 : Nat)) (by omega) H.fr hor (by have := H.pick (b := rows fr) (by first | exact .head | exact .tail .head | exact .tail (.tail .head) | exact .tail (.tail (.tail .head)) | exact .tail (.tail (.tail (.tail .head))) | exact .tail (.tail (.tail (.tail (.tail .head)))) | exact .tail (.tail (.tail (.tail (.tail (.tail .head)))))); simpa using this)
        have hCn : (upd2 (fun f t => Value.int .i64 (cntTo g.abs i q f t : Nat)) fr i (.int .i64 (cntTo g.abs i q fr i + 1 : Nat))) = fun f t => Value.int .i64 (cntTo g.abs i (q + 1) f t : Nat) := by
          funext f t
          unfold upd2
          by_cases e : f = fr ∧ t = i
          · obtain ⟨rfl, rfl⟩ := e
            rw [if_pos ⟨rfl, rfl⟩, cntTo_step _ hq1, if_pos rfl]
          · rw [if_neg e]
            dsimp only
            by_cases ht : t = i
            · subst ht
              rw [cntTo_step _ hq1, if_neg (fun q => e ⟨q, rfl⟩)]
            · rw [cntTo_else _ q (q + 1) ht]
        rw [hCn] at hset
        have hk7 := hp7.apart (hT7.r fr (by omega)) (by decide)
        have hzf := hzr fr hfr
        refine (IH2 (q + 1) _ (by omega) ⟨by omega, c', hp7.keep H.fr (fun b hb => by simp at hb; subst hb; exact hk7), hZ7.trans H.fr (by simp) (fun y hy hl => by simp at hy; omega), hnb7.trans hC.nb, hxb7.trans hC.xb, hn7.trans hC.n, hup7.trans hC.up, fun t ht => ?_, ?_, hset⟩).weak (by repeat (first | exact trivial | refine ⟨rfl, ?_⟩))
        · rw [hbx7, updb_ne (by omega)]
          exact hC.cur t ht
        · rw [hbx7, updb_self]
          have h1 := hC.here
          rw [hbx] at h1
          have h2 : (c0.box i).drop (q + 1) = ((c0.box i).drop q).drop 1 := by rw [List.drop_drop]
          rw [h2, ← h1]
          rfl
      · obtain rfl : q = W := by omega
        have H := Holds.start w6 []
        refine Run.seq ?_
        refine Run.seq ?_
        (refine Run.region ?_; intro K hK)
        refine Ops.pure H (X.move rfl) rfl rfl rfl ?_
        refine Ops.pure H (X.move rfl) rfl rfl rfl ?_
        refine Ops.pure H (X.cmp rfl rfl rfl) rfl rfl rfl ?_
        refine Ops.pure H (X.move rfl) rfl rfl rfl ?_
        refine Ops.split_dec rfl rfl (fun h46 => ?x5) (fun h46 => ?y5)
        case' y5 =>
          refine Ops.pass rfl rfl rfl ?_
          refine Ops.pass rfl rfl rfl ?_
          refine Ops.pure H (X.pick_f rfl rfl) rfl rfl rfl ?_
          (refine Ops.nil (hK _ _ ?_); clear hK K)
          refine Run.cond_false rfl ?_
          refine Run.exit rfl ?_
          refine Run.inBlock ?_
          (refine Run.region ?_; intro K hK)
          refine Ops.pure H (X.move rfl) rfl rfl rfl ?_
          refine Ops.pure H (X.succ rfl rfl (by omega)) rfl rfl rfl ?_
          refine Ops.pure H (X.assign rfl) rfl rfl rfl ?_
          (refine Ops.nil (hK _ _ ?_); clear hK K)
        case' x5 => exfalso; omega
        refine (IH (i + 1) _ (by omega) ⟨by omega, c, hC.p.ext H.fr, hC.fr.then H.fr, hC.nb, hC.xb, hC.n, hC.up, fun t ht => hC.cur t (by omega), by rw [hC.cur (i + 1) (by omega)]; rfl, ?_⟩).weak (by repeat (first | exact trivial | refine ⟨rfl, ?_⟩))
        have hCn : (fun f t => Value.int .i64 (cntTo g.abs i q f t : Nat)) = fun f t => Value.int .i64 (cntTo g.abs (i + 1) 0 f t : Nat) := by
          funext f t
          congr 2
          by_cases ht : t = i
          · subst ht
            rw [cntTo_here]
            unfold cntTo cnt
            rw [if_pos (Nat.lt_succ_self t)]
            show _ = if g.up t = true then _ else 0
            cases hu : g.up t with
            | true => rw [hu, if_pos rfl] at hW; rw [if_pos rfl, List.take_of_length_le (by omega)]
            | false => rw [hu, if_neg (by simp)] at hW; rw [hW]; simp [filt]
          · unfold cntTo
            by_cases h1 : t < i
            · rw [if_pos h1, if_pos (by omega)]
            · rw [if_neg h1, if_neg ht, if_neg (by omega)]
              by_cases h2 : t = i + 1
              · rw [if_pos h2]; simp [filt]
              · rw [if_neg h2]
        have hT := hC.tab.ext H.fr
        rw [hCn] at hT
        exact hT
    · obtain rfl : i = g.n := by omega
      have H := Holds.start w4 []
      refine Run.seq ?_
      refine Run.seq ?_
      (refine Run.region ?_; intro K hK)
      refine Ops.pure H (X.move rfl) rfl rfl rfl ?_
      refine Ops.pure H (X.move rfl) rfl rfl rfl ?_
      refine Ops.pure H (X.cmp rfl rfl rfl) rfl rfl rfl ?_
      (refine Ops.nil (hK _ _ ?_); clear hK K)
      refine Run.cond_dec rfl (fun h33 => ?x6) (fun h33 => ?y6)
      case' y6 =>
        refine Run.exit rfl ?_
        refine Run.seq ?_
        (refine Run.region ?_; intro K hK)
        refine Ops.pure H (X.move rfl) rfl rfl rfl ?_
        refine Ops.pure H (X.assign rfl) rfl rfl rfl ?_
        (refine Ops.nil (hK _ _ ?_); clear hK K)
      case' x6 => exfalso; omega
      (first | refine Fn.ret1 HF rfl rfl ?_ | refine Fn.ret2 HF rfl rfl rfl ?_ | refine Fn.ret3 HF rfl rfl rfl rfl ?_ | refine Fn.ret0 HF rfl ?_ | refine Fn.fin0 HF rfl ?_ | refine Fn.retG (E := env) HF rfl H (by first | exact RVs.cellN rfl rfl rfl (by first | exact .head | exact .tail .head | exact .tail (.tail .head) | exact .tail (.tail (.tail .head)) | exact .tail (.tail (.tail (.tail .head))) | exact .tail (.tail (.tail (.tail (.tail .head)))) | exact .tail (.tail (.tail (.tail (.tail (.tail .head)))))) (by first | assumption | exact Cs.take rfl) RVs.nil | exact RVs.cellN rfl rfl rfl (by first | exact .head | exact .tail .head | exact .tail (.tail .head) | exact .tail (.tail (.tail .head)) | exact .tail (.tail (.tail (.tail .head))) | exact .tail (.tail (.tail (.tail (.tail .head)))) | exact .tail (.tail (.tail (.tail (.tail (.tail .head)))))) (by first | assumption | exact Cs.take rfl) (RVs.tmp rfl RVs.nil) | exact RVs.cellN rfl rfl rfl (by first | exact .head | exact .tail .head | exact .tail (.tail .head) | exact .tail (.tail (.tail .head)) | exact .tail (.tail (.tail (.tail .head))) | exact .tail (.tail (.tail (.tail (.tail .head)))) | exact .tail (.tail (.tail (.tail (.tail (.tail .head)))))) (by first | assumption | exact Cs.take rfl) (RVs.tmp rfl (RVs.tmp rfl RVs.nil))) rfl ?_)
      refine ⟨hC.fr.then H.fr, ob, rows, rfl, by omega, hzr, ?_⟩
      have hT := hC.tab.ext H.fr
      rw [hn0] at hT
      refine ⟨hT.o, fun a ha => ?_, hT.d⟩
      rw [hT.r a ha]
      congr 2
      unfold rowOf
      refine List.map_congr_left fun t ht => ?_
      have ht : t < g.n := by simpa using ht
      unfold cntTo
      rw [if_pos ht]
end Go.Proofs.Ytpmihcefjdeonaa
