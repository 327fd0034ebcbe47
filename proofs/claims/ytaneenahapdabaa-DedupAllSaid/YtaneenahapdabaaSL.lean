/- The library's Collect and Sorted, walked; a window's clients, in ascending order. -/
import Derived.Test.YtaneenahapdabaaSJ
namespace Go.Proofs.Ytaneenahapdabaa
open Go
set_option maxRecDepth 20000
set_option maxHeartbeats 2000000
attribute [local irreducible] Run Ops Fn Draw Draw2 PureOp StepZ

theorem append_any (z : World) (xb mb k : Nat) (es : Array MapEntry) (hst : MapKept.Stamped es k) (hk : ∀ e ∈ es.toList, ∃ x, e.key = .int .u64 x) (hx : z.heap[xb]? = some (row [.map (some mb)] 55)) (hm : z.heap[mb]? = some (.map es k)) (hsz : es.size ≤ 1048576) :
    Fn env.P 63 [.slice none 0 0, .func (.func 62) #[] #[.pointer (some ⟨xb, 0, none⟩)]] z fun v w' => ∃ xs, xs.Perm (es.toList.map fun e => kI e.key) ∧ Own w' z.heap.size 28 1 v xs.length (u64s xs) ∧ Fr z w' [] := by
  have H := Holds.start z []
  have HF := Try.func63; refine Fn.enter Try.func63 Try.ntmps63 rfl rfl rfl ?_
  (refine Run.seq (Run.region ?_); intro K hK)
  (refine Ops.eff rfl (Y.box rfl rfl rfl H ?_); intro b2 w H0 hb2; clear H; have H := H0; clear H0)
  refine Ops.pure H (X.assign rfl) rfl rfl rfl ?_
  (refine Ops.nil (hK _ _ ?_); clear hK K)
  refine Run.seq ?_
  (refine Run.seq (Run.region ?_); intro K hK)
  refine Ops.pure H (X.move rfl) rfl rfl rfl ?_
  (refine Ops.nil (hK _ _ ?_); clear hK K)
  refine Run.block ?_
  have hb2 := H.pick (b := b2) .head
  have hzw := H.fr
  have hx1 := H.fr.get hx (by simp)
  have hm1 := H.fr.get hm (by simp)
  have hb2z : z.heap.size ≤ b2 := by omega
  obtain ⟨sb, hsb⟩ : ∃ sb, sb = b2 := ⟨_, rfl⟩
  rw [← hsb] at hb2 hb2z ⊢
  clear H
  rename World => wa
  refine Run.rangeFn rfl (by decide +kernel) (fun fn' a W rc ha hrc f1 f2 f3 f4 => ?_)
  have hsbl := lt_of_at hb2
  have hxbl := lt_of_at hx1
  have hmbl := lt_of_at hm1
  have hxz := lt_of_at hx
  have hmz := lt_of_at hm
  have hzl := hzw.size
  refine (each_any W (wa.heap.size + 1) xb mb k es rc (fun xs w' => w'.heap[wa.heap.size + 1]? = some (.loop rc) ∧ w'.heap[wa.heap.size]? = some (.deferred (some [])) ∧ ∃ v, w'.heap[sb]? = some (row [v] 59) ∧ Own w' W.heap.size 28 1 v xs.length (u64s xs)) [wa.heap.size + 1, sb] hst hk (by rw [hrc]) (fun xs w h => h.1) (f1.get hx1 (by simp)) (f1.get hm1 (by simp)) (by simp; omega) (by simp; omega) ⟨f3, f2, _, f1.get hb2 (by simp), Own.nil⟩ ?_ ?_).mono ?_
  · rintro xs w1 w2 ⟨i1, i2, v, i3, i4⟩ hk2
    exact ⟨hk2 _ _ i1 (by intros; simp), hk2 _ _ i2 (by intros; simp), v, hk2 _ _ i3 (by intros; simp), i4.rows fun b cs hb => hk2 _ _ hb (by intros; simp)⟩
  · rintro x xs w1 ⟨i1, i2, v, i3, i4⟩ hF1 hlen
    obtain ⟨sa, scap, rfl⟩ := i4.slice
    rw [hrc] at i1 ⊢
    refine Round.of (E := env) (f := 63) (n := 13) (L := [(7, .int .u64 x), (2, .pointer (some ⟨sb, 0, none⟩))]) ?_ rfl rfl ?_
    · have hp := (St.put (ds := a.defers) ⟨ha, rfl⟩ (d := 7) (.int .u64 x) rfl).toSt0
      have hq : St0 13 _ { tmps := a.tmps.setIfInBounds 7 (.int .u64 x), defers := [] } := ⟨hp.s, hp.l⟩
      exact (St.sub (ds := []) ⟨hq, rfl⟩ (by simp [look])).toSt0
    · intro K hK
      have H := Holds.start w1 []
      refine Ops.pure H (X.assign rfl) rfl rfl rfl ?_
      (refine Ops.nil (hK _ _ ?_); clear hK K)
      refine ⟨_, i1, rfl, ?_⟩
      clear H
      intro w2 hP K hK
      have hb3 := hP.keep _ _ i3 (by simp)
      have hO := i4.rows fun b cs hb => hP.keep _ _ hb (by simp)
      have hF2 : Fr W w2 [wa.heap.size + 1, sb] := hF1.trans hP.fr (by simp) (by simp)
      have H := (Holds.start w2 [sb]).add true hb3 (by simp) (by simp)
      refine Ops.pure H (X.load1 rfl rfl rfl rfl Pick.head rfl) rfl rfl rfl ?_
      refine Ops.pure H (X.move rfl) rfl rfl rfl ?_
      (refine Ops.eff rfl (Y.buildSliceO rfl rfl rfl rfl rfl rfl rfl rfl H ?_); intro b10 w H0 hb10; clear H; have H := H0; clear H0)
      refine Ops.eff rfl (Y.appendOwnK (w0 := W) (S := [wa.heap.size + 1, sb]) (news := [.int .u64 x]) (hO.rows fun b cs hb => H.fr.get hb (by
        simp
        rintro rfl
        rw [hb3] at hb
        cases hb)) rfl rfl rfl rfl rfl rfl (hF2.trans H.fr (by simp) (by simp)) (by omega) rfl (Src.row (m := 1) H .head (Cs.take rfl)) rfl rfl (by dsimp only; omega) (by omega) rfl ?_)
      intro v' w3 hF3 hk3 hO3
      obtain ⟨sa', scap', rfl⟩ := hO3.slice
      have hb4 := hk3 _ _ (H.pick (b := sb) (by repeat (first | exact .head | apply Pick.tail))) (by simp)
      have kp : ∀ (b : Nat) (o : Obj), w2.heap[b]? = some o → (∀ cs T, o ≠ row cs T) → b ≠ sb ∧ w3.heap[b]? = some o := fun b o hb hno => by
        have hne : b ≠ sb := by
          rintro rfl
          rw [hb3] at hb
          cases hb
          exact hno _ _ rfl
        exact ⟨hne, hk3 _ _ (H.fr.get hb (by simpa using hne)) (fun cs => hno cs _)⟩
      clear H
      have H := (Holds.start w3 [sb]).add true hb4 (by simp) (by simp)
      (refine Ops.eff rfl (Y.store1 rfl rfl rfl rfl rfl rfl H Upd.head (by repeat (first | exact SetC.zero | apply SetC.succ)) ?_); intro w H0; clear H; have H := H0; clear H0)
      (refine Ops.nil (hK _ _ ?_); clear hK K)
      have kq : ∀ (b : Nat) (o : Obj), w2.heap[b]? = some o → (∀ cs T, o ≠ row cs T) → w.heap[b]? = some o := fun b o hb hno => H.fr.get (kp b o hb hno).2 (by simpa using (kp b o hb hno).1)
      refine ⟨_, kq _ _ hP.at_ (by intros; simp), fun w5 hP5 => ⟨rfl, ⟨hP5.at_, hP5.keep _ _ (kq _ _ (hP.keep _ _ i2 (by simp)) (by intros; simp)) (by simp), _, hP5.keep _ _ (H.pick .head) (by simp), ?_⟩, ?_, ?_⟩⟩
      · have hO5 := hO3.rows (w' := w5) fun b cs hb => hP5.keep _ _ (H.fr.get hb (by
          simp
          rintro rfl
          rw [hb4] at hb
          cases hb)) (by simp)
        simpa [u64s] using hO5
      · exact (hF3.trans H.fr (U := [wa.heap.size + 1, sb]) (by simp) (by simp)).trans hP5.fr (by simp) (by simp)
      · intro b a1 c1 d1 e1 hb
        exact hP5.keep _ _ (kq _ _ (hP.keep _ _ hb (by simp)) (by intros; simp)) (by simp)
  · rintro _ w3 ⟨xs, hp, ⟨i1, i2, v, i3, i4⟩, hF⟩
    refine ⟨rc, i1, by rw [hrc]; simp, by rw [hrc], fun w4 hP => ?_⟩
    have hzW : Fr z w4 [] := ((hzw.trans f1 (U := []) (by simp) (by simp)).trans hF (U := []) (by simp) (fun b hb hl => by simp at hb; omega)).trans hP.fr (by simp) (fun b hb hl => by simp at hb; omega)
    have hb4 := hP.keep _ _ i3 (by simp)
    have hO := i4.rows fun b cs hb => hP.keep _ _ hb (by simp)
    have hd4 := hP.keep _ _ i2 (by rw [hrc]; simp)
    have H := (Holds.start w4 []).add false hb4 (by simp) (by simp)
    refine Run.inBlock ?_
    (refine Run.seq (Run.region ?_); intro K hK)
    refine Ops.pure H (X.load1 rfl rfl rfl rfl Pick.head rfl) rfl rfl rfl ?_
    refine Ops.pure H (X.assign rfl) rfl rfl rfl ?_
    (refine Ops.nil (hK _ _ ?_); clear hK K)
    refine Fn.ret1M HF rfl rfl hd4 ?_
    refine ⟨xs, hp, ?_, ?_⟩
    · have hO5 := hO.rows (w' := w4.putObj wa.heap.size (.deferred none)) fun b cs hb => (Put.of _ hd4).keep _ _ hb (by simp)
      rcases hO5 with h | ⟨b, cap, cs, h1, h2, h3, h4, h5⟩
      · exact .inl h
      · exact .inr ⟨b, cap, cs, h1, h2, h3, by omega, h5⟩
    · exact hzW.trans (Put.of _ hd4).fr (by simp) (fun b hb hl => by simp at hb; omega)
end Go.Proofs.Ytaneenahapdabaa

namespace Go.Proofs.Ytaneenahapdabaa
open Go
set_option maxRecDepth 20000
set_option maxHeartbeats 2000000
attribute [local irreducible] Run Ops Fn Draw Draw2 PureOp StepZ

/-- A list that is only read. -/
def Ks (z : Nat) (w : World) (v : Value) (ys : List Int) : Prop := ∃ a cap, v = .slice a ys.length cap ∧ (0 < ys.length → ∃ b cs, a = some ⟨b, 0, none⟩ ∧ z ≤ b ∧ w.heap[b]? = some (row cs 28) ∧ Cs cs 0 ys.length (u64s ys))
theorem Ks.ext {z : Nat} {w w' : World} {v : Value} {ys : List Int} (h : Ks z w v ys) (hf : Fr w w' []) : Ks z w' v ys := by
  obtain ⟨a, cap, h1, h2⟩ := h
  exact ⟨a, cap, h1, fun h0 => by obtain ⟨b, cs, h3, hz, h4, h5⟩ := h2 h0; exact ⟨b, cs, h3, hz, hf.get h4 (by simp), h5⟩⟩
theorem Ks.low {z z' : Nat} {w : World} {v : Value} {ys : List Int} (h : Ks z w v ys) (hz : z' ≤ z) : Ks z' w v ys := by
  obtain ⟨a, cap, h1, h2⟩ := h
  exact ⟨a, cap, h1, fun h0 => by obtain ⟨b, cs, h3, h6, h4, h5⟩ := h2 h0; exact ⟨b, cs, h3, Nat.le_trans hz h6, h4, h5⟩⟩
theorem collect_any (z : World) (xb mb k : Nat) (es : Array MapEntry) (hst : MapKept.Stamped es k) (hk : ∀ e ∈ es.toList, ∃ x, e.key = .int .u64 x) (hx : z.heap[xb]? = some (row [.map (some mb)] 55)) (hm : z.heap[mb]? = some (.map es k)) (hsz : es.size ≤ 1048576) :
    Fn env.P 60 [.func (.func 62) #[] #[.pointer (some ⟨xb, 0, none⟩)]] z fun v w' => ∃ xs, xs.Perm (es.toList.map fun e => kI e.key) ∧ Own w' z.heap.size 28 1 v xs.length (u64s xs) ∧ Fr z w' [] := by
  have H := Holds.start z []
  have HF := Try.func60; refine Fn.enter Try.func60 Try.ntmps60 rfl rfl rfl ?_
  (refine Run.seq (Run.region ?_); intro K hK)
  refine Ops.pure H (X.assign rfl) rfl rfl rfl ?_
  (refine Ops.nil (hK _ _ (Run.seq (Run.region ?_))); clear hK K; intro K hK)
  refine Ops.pure H (X.move rfl) rfl rfl rfl ?_
  refine Ops.eff rfl (Y.call rfl rfl (by first | assumption | decide +kernel) rfl (append_any _ xb mb k es hst hk (H.fr.get hx (by simp)) (H.fr.get hm (by simp)) hsz) rfl ?_)
  rintro v w2 ⟨xs, hp, hO, hf2⟩
  have F2 := H.fr.then hf2
  have hz := H.fr.size
  clear H
  have H := Holds.start w2 []
  refine Ops.pure H (X.assign rfl) rfl rfl rfl ?_
  (refine Ops.nil (hK _ _ ?_); clear hK K)
  refine Fn.ret1 HF rfl rfl ?_
  refine ⟨xs, hp, ?_, F2.then H.fr⟩
  rcases hO.ext H.fr with h | ⟨b, cap, cs, h1, h2, h3, h4, h5⟩
  · exact .inl h
  · exact .inr ⟨b, cap, cs, h1, h2, h3, by omega, h5⟩
theorem sorted_any (z : World) (xb mb k : Nat) (es : Array MapEntry) (hst : MapKept.Stamped es k) (hk : ∀ e ∈ es.toList, ∃ x, e.key = .int .u64 x) (hx : z.heap[xb]? = some (row [.map (some mb)] 55)) (hm : z.heap[mb]? = some (.map es k)) (hsz : es.size ≤ 1048576) :
    Fn env.P 54 [.func (.func 62) #[] #[.pointer (some ⟨xb, 0, none⟩)]] z fun v w' => ∃ ys : List Int, ys.Perm (es.toList.map fun e => kI e.key) ∧ ys.Pairwise (· ≤ ·) ∧ Ks z.heap.size w' v ys ∧ Fr z w' [] := by
  have H := Holds.start z []
  have HF := Try.func54; refine Fn.enter Try.func54 Try.ntmps54 rfl rfl rfl ?_
  (refine Run.seq (Run.region ?_); intro K hK)
  refine Ops.pure H (X.assign rfl) rfl rfl rfl ?_
  (refine Ops.nil (hK _ _ (Run.seq (Run.region ?_))); clear hK K; intro K hK)
  refine Ops.pure H (X.move rfl) rfl rfl rfl ?_
  refine Ops.eff rfl (Y.call rfl rfl (by first | assumption | decide +kernel) rfl (collect_any _ xb mb k es hst hk (H.fr.get hx (by simp)) (H.fr.get hm (by simp)) hsz) rfl ?_)
  rintro v w2 ⟨xs, hp, hO, hf2⟩
  have F2 := H.fr.then hf2
  have hz := H.fr.size
  have hlen : xs.length = es.size := by rw [hp.length_eq]; simp
  rcases hO with ⟨h0, h1, rfl⟩ | ⟨b, cap, cs, rfl, h2, h3, h4, h5, h6, h7⟩
  · have hx0 : xs = [] := List.eq_nil_of_length_eq_zero h0
    subst hx0
    clear H
    have H := Holds.start w2 []
    refine Ops.pure H (X.assign rfl) rfl rfl rfl ?_
    (refine Ops.nil (hK _ _ (Run.seq (Run.region ?_))); clear hK K; intro K hK)
    refine Ops.pure H (X.move rfl) rfl rfl rfl ?_
    refine Ops.eff rfl (Y.call rfl rfl (by first | assumption | decide +kernel) rfl (sort_nil _) rfl ?_)
    rintro v w3 hf3
    have F3 := F2.then (H.fr.then hf3)
    clear H
    have H := Holds.start w3 []
    (refine Ops.nil (hK _ _ (Run.seq (Run.region ?_))); clear hK K; intro K hK)
    refine Ops.pure H (X.move rfl) rfl rfl rfl ?_
    refine Ops.pure H (X.assign rfl) rfl rfl rfl ?_
    (refine Ops.nil (hK _ _ ?_); clear hK K)
    refine Fn.ret1 HF rfl rfl ?_
    exact ⟨[], hp, .nil, ⟨none, 0, rfl, fun h => absurd h (by simp)⟩, F3.then H.fr⟩
  · have hA : Ar w2 b 0 xs.toArray cs := ⟨h5, by simp; omega, fun i hi => by
      have hi' : i < xs.length := by simpa using hi
      have := h7.get i (.int .u64 xs[i]) (by simp [u64s, hi'])
      rw [Nat.mul_one, this]
      simp [hi']⟩
    have hbz : z.heap.size ≤ b := by omega
    clear H
    have H := Holds.start w2 []
    refine Ops.pure H (X.assign rfl) rfl rfl rfl ?_
    (refine Ops.nil (hK _ _ (Run.seq (Run.region ?_))); clear hK K; intro K hK)
    refine Ops.pure H (X.move rfl) rfl rfl rfl ?_
    refine Ops.eff rfl (Y.call rfl rfl (by first | assumption | decide +kernel) rfl (sort_any _ b 0 cap xs.toArray cs (by simp) (hA.ext H.fr) (by omega)) rfl ?_)
    rintro v w3 ⟨d3, cs3, hA3, q1, q2, hf3⟩
    have F3 := F2.trans (U := []) (H.fr.trans (U := [b]) hf3 (by simp) (by simp)) (by simp) (fun x hx hl => by simp at hx; omega)
    have hd3 : d3.size = xs.length := by rw [q1.1]; simp
    clear H
    have H := Holds.start w3 []
    (refine Ops.nil (hK _ _ (Run.seq (Run.region ?_))); clear hK K; intro K hK)
    refine Ops.pure H (X.move rfl) rfl rfl rfl ?_
    refine Ops.pure H (X.assign rfl) rfl rfl rfl ?_
    (refine Ops.nil (hK _ _ ?_); clear hK K)
    refine Fn.ret1 HF rfl rfl ?_
    refine ⟨d3.toList, ?_, ?_, ⟨_, cap, by simp [hd3], fun _ => ⟨b, cs3, rfl, hbz, H.fr.get hA3.hb (by simp), ?_⟩⟩, F3.then H.fr⟩
    · refine List.Perm.trans ?_ hp
      have h8 := q1.2.2
      have h9 : d3.toList.take xs.length = d3.toList := List.take_of_length_le (by simp [hd3])
      simpa [h9] using h8
    · refine List.pairwise_iff_getElem.2 fun i j hi hj hij => ?_
      have hj' : j < xs.length := by simpa [hd3] using hj
      have := q2 i j (by omega) hij hj'
      simp only [decide_eq_false_iff_not] at this
      simp at hi hj
      rw [getElem!_pos d3 i hi, getElem!_pos d3 j hj] at this
      simp
      omega
    · refine Cs.ofGet _ _ _ (by simp [u64s]) fun j hj => ?_
      have hj' : j < d3.size := by simpa using hj
      have := hA3.hc j hj'
      rw [Nat.mul_one] at this
      rw [this, getElem!_pos d3 j hj']
      simp [u64s, hj']
end Go.Proofs.Ytaneenahapdabaa
