/- The library's AppendSeq and Collect, walked, over a map's keys. -/
import Derived.Test.YtaneenahapdabaaSJ
namespace Go.Proofs.Ytaneenahapdabaa
open Go
set_option maxRecDepth 20000
set_option maxHeartbeats 2000000
attribute [local irreducible] Run Ops Fn Draw Draw2 PureOp StepZ

theorem append_any (z : World) (xb mb k : Nat) (es : Array MapEntry) (hst : MapKept.Stamped es k) (hk : ∀ e ∈ es.toList, ∃ x, e.key = .int .u64 x) (hx : z.heap[xb]? = some (row [.map (some mb)] 55)) (hm : z.heap[mb]? = some (.map es k)) (hsz : es.size ≤ 1048576) :
    Fn env.P 63 [.slice none 0 0, .func (.func 62) #[] #[.pointer (some ⟨xb, 0, none⟩)]] z fun v w' => ∃ xs, xs.Perm (es.toList.map fun e => kI e.key) ∧ Own w' z.heap.size 28 1 v xs.length (u64s xs) ∧ Fr z w' [] := by
  have H := Holds.start z []
  have HF := Try.func63; refine Fn.enter Try.func63 Try.ntmps63 rfl rfl rfl ?_
  refine Run.seq ?_
  (refine Run.region ?_; intro K hK)
  (refine Ops.eff rfl (Y.box rfl rfl rfl H ?_); intro b2 w H0 hb2; clear H; have H := H0; clear H0)
  refine Ops.pure H (X.assign rfl) rfl rfl rfl ?_
  (refine Ops.nil (hK _ _ ?_); clear hK K)
  refine Run.seq ?_
  refine Run.seq ?_
  (refine Run.region ?_; intro K hK)
  refine Ops.pure H (X.move rfl) rfl rfl rfl ?_
  (refine Ops.nil (hK _ _ ?_); clear hK K)
  refine Run.block ?_
  have hb2 := H.pick (b := b2) .head
  have hzw := H.fr
  have hx1 := H.fr.get hx (by simp)
  have hm1 := H.fr.get hm (by simp)
  have hb2z : z.heap.size ≤ b2 := by omega
  obtain ⟨sb, hsb⟩ : ∃ sb, sb = b2 := ⟨_, rfl⟩
  rw [← hsb] at hb2 hb2z ⊢
  clear H
  rename World => wa
  refine Run.rangeFn rfl (by decide +kernel) (fun fn' a W rc ha hrc f1 f2 f3 f4 => ?_)
  have hsbl := lt_of_at hb2
  have hxbl := lt_of_at hx1
  have hmbl := lt_of_at hm1
  have hxz := lt_of_at hx
  have hmz := lt_of_at hm
  have hzl := hzw.size
  refine (each_any W (wa.heap.size + 1) xb mb k es rc (fun xs w' => w'.heap[wa.heap.size + 1]? = some (.loop rc) ∧ w'.heap[wa.heap.size]? = some (.deferred (some [])) ∧ ∃ v, w'.heap[sb]? = some (row [v] 59) ∧ Own w' W.heap.size 28 1 v xs.length (u64s xs)) [wa.heap.size + 1, sb] hst hk (by rw [hrc]) (fun xs w h => h.1) (f1.get hx1 (by simp)) (f1.get hm1 (by simp)) (by simp; omega) (by simp; omega) ⟨f3, f2, _, f1.get hb2 (by simp), Own.nil⟩ ?_ ?_).mono ?_
  · rintro xs w1 w2 ⟨i1, i2, v, i3, i4⟩ hk2
    exact ⟨hk2 _ _ i1 (by intros; simp), hk2 _ _ i2 (by intros; simp), v, hk2 _ _ i3 (by intros; simp), i4.rows fun b cs hb => hk2 _ _ hb (by intros; simp)⟩
  · rintro x xs w1 ⟨i1, i2, v, i3, i4⟩ hF1 hlen
    obtain ⟨sa, scap, rfl⟩ := i4.slice
    rw [hrc] at i1 ⊢
    refine Round.of (E := env) (f := 63) (n := 13) (L := [(7, .int .u64 x), (2, .pointer (some ⟨sb, 0, none⟩))]) ?_ rfl rfl ?_
    · have hp := (St.put (ds := a.defers) ⟨ha, rfl⟩ (d := 7) (.int .u64 x) rfl).toSt0
      have hq : St0 13 _ { tmps := a.tmps.setIfInBounds 7 (.int .u64 x), defers := [] } := ⟨hp.s, hp.l⟩
      exact (St.sub (ds := []) ⟨hq, rfl⟩ (by simp [look])).toSt0
    · intro K hK
      have H := Holds.start w1 []
      refine Ops.pure H (X.assign rfl) rfl rfl rfl ?_
      (refine Ops.nil (hK _ _ ?_); clear hK K)
      refine ⟨_, i1, rfl, ?_⟩
      clear H
      intro w2 hP K hK
      have hb3 := hP.keep _ _ i3 (by simp)
      have hO := i4.rows fun b cs hb => hP.keep _ _ hb (by simp)
      have hF2 : Fr W w2 [wa.heap.size + 1, sb] := hF1.trans hP.fr (by simp) (by simp)
      have H := (Holds.start w2 [sb]).add true hb3 (by simp) (by simp)
      refine Ops.pure H (X.load1 rfl rfl rfl rfl Pick.head rfl) rfl rfl rfl ?_
      refine Ops.pure H (X.move rfl) rfl rfl rfl ?_
      (refine Ops.eff rfl (Y.buildSliceO rfl rfl rfl rfl rfl rfl rfl rfl H ?_); intro b10 w H0 hb10; clear H; have H := H0; clear H0)
      refine Ops.eff rfl (Y.appendOwnK (w0 := W) (S := [wa.heap.size + 1, sb]) (news := [.int .u64 x]) (hO.rows fun b cs hb => H.fr.get hb (by
        simp
        rintro rfl
        rw [hb3] at hb
        cases hb)) rfl rfl rfl rfl rfl rfl (hF2.trans H.fr (by simp) (by simp)) (by omega) rfl (Src.row (m := 1) H .head (Cs.take rfl)) rfl rfl (by dsimp only; omega) (by omega) rfl ?_)
      intro v' w3 hF3 hk3 hO3
      obtain ⟨sa', scap', rfl⟩ := hO3.slice
      have hb4 := hk3 _ _ (H.pick (b := sb) (by first | exact .head | exact .tail .head | exact .tail (.tail .head) | exact .tail (.tail (.tail .head)) | exact .tail (.tail (.tail (.tail .head))) | exact .tail (.tail (.tail (.tail (.tail .head)))) | exact .tail (.tail (.tail (.tail (.tail (.tail .head))))))) (by simp)
      have kp : ∀ (b : Nat) (o : Obj), w2.heap[b]? = some o → (∀ cs T, o ≠ row cs T) → b ≠ sb ∧ w3.heap[b]? = some o := fun b o hb hno => by
        have hne : b ≠ sb := by
          rintro rfl
          rw [hb3] at hb
          cases hb
          exact hno _ _ rfl
        exact ⟨hne, hk3 _ _ (H.fr.get hb (by simpa using hne)) (fun cs => hno cs _)⟩
      clear H
      have H := (Holds.start w3 [sb]).add true hb4 (by simp) (by simp)
      (refine Ops.eff rfl (Y.store1 rfl rfl rfl rfl rfl rfl H Upd.head (by repeat (first | exact SetC.zero | apply SetC.succ)) ?_); intro w H0; clear H; have H := H0; clear H0)
      (refine Ops.nil (hK _ _ ?_); clear hK K)
      have kq : ∀ (b : Nat) (o : Obj), w2.heap[b]? = some o → (∀ cs T, o ≠ row cs T) → w.heap[b]? = some o := fun b o hb hno => H.fr.get (kp b o hb hno).2 (by simpa using (kp b o hb hno).1)
      refine ⟨_, kq _ _ hP.at_ (by intros; simp), fun w5 hP5 => ⟨rfl, ⟨hP5.at_, hP5.keep _ _ (kq _ _ (hP.keep _ _ i2 (by simp)) (by intros; simp)) (by simp), _, hP5.keep _ _ (H.pick .head) (by simp), ?_⟩, ?_, ?_⟩⟩
      · have hO5 := hO3.rows (w' := w5) fun b cs hb => hP5.keep _ _ (H.fr.get hb (by
          simp
          rintro rfl
          rw [hb4] at hb
          cases hb)) (by simp)
        simpa [u64s] using hO5
      · exact (hF3.trans H.fr (U := [wa.heap.size + 1, sb]) (by simp) (by simp)).trans hP5.fr (by simp) (by simp)
      · intro b a1 c1 d1 e1 hb
        exact hP5.keep _ _ (kq _ _ (hP.keep _ _ hb (by simp)) (by intros; simp)) (by simp)
  · rintro _ w3 ⟨xs, hp, ⟨i1, i2, v, i3, i4⟩, hF⟩
    refine ⟨rc, i1, by rw [hrc]; simp, by rw [hrc], fun w4 hP => ?_⟩
    have hzW : Fr z w4 [] := ((hzw.trans f1 (U := []) (by simp) (by simp)).trans hF (U := []) (by simp) (fun b hb hl => by simp at hb; omega)).trans hP.fr (by simp) (fun b hb hl => by simp at hb; omega)
    have hb4 := hP.keep _ _ i3 (by simp)
    have hO := i4.rows fun b cs hb => hP.keep _ _ hb (by simp)
    have hd4 := hP.keep _ _ i2 (by rw [hrc]; simp)
    have H := (Holds.start w4 []).add false hb4 (by simp) (by simp)
    refine Run.inBlock ?_
    refine Run.seq ?_
    (refine Run.region ?_; intro K hK)
    refine Ops.pure H (X.load1 rfl rfl rfl rfl Pick.head rfl) rfl rfl rfl ?_
    refine Ops.pure H (X.assign rfl) rfl rfl rfl ?_
    (refine Ops.nil (hK _ _ ?_); clear hK K)
    refine Fn.ret1M HF rfl rfl hd4 ?_
    refine ⟨xs, hp, ?_, ?_⟩
    · have hO5 := hO.rows (w' := w4.putObj wa.heap.size (.deferred none)) fun b cs hb => (Put.of _ hd4).keep _ _ hb (by simp)
      rcases hO5 with h | ⟨b, cap, cs, h1, h2, h3, h4, h5⟩
      · exact .inl h
      · exact .inr ⟨b, cap, cs, h1, h2, h3, by omega, h5⟩
    · exact hzW.trans (Put.of _ hd4).fr (by simp) (fun b hb hl => by simp at hb; omega)
end Go.Proofs.Ytaneenahapdabaa
