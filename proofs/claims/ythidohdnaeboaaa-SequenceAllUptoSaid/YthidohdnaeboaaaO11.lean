/- Walks: Clone. -/
import Derived.Test.YthidohdnaeboaaaO4
import Derived.Test.YthidohdnaeboaaaEngH
namespace Go.Proofs.Ythidohdnaeboaaa
open Go
set_option maxRecDepth 20000
set_option maxHeartbeats 2000000
attribute [local irreducible] Run Ops Fn Draw Draw2 PureOp StepZ

theorem oclone_any (z : World) (o c : Nat) (n last : Int) (l : List Tk) (h : Ord z o c n last l) (hl : l.length ≤ 4096) :
    Fn env.P 23 [.pointer (some ⟨o, 0, none⟩)] z fun v w' => ∃ o2 c2, v = .pointer (some ⟨o2, 0, none⟩) ∧ Ord w' o2 c2 n last l ∧ Fr z w' [] ∧ z.heap.size ≤ o2 ∧ z.heap.size ≤ c2 := by
  obtain ⟨v, ho, a, cap, cs, rfl, hc1, hc2, hac, hall⟩ := h
  have H := (Holds.start z []).add false ho (by simp) (by simp)
  have HF := Try.func23; refine Fn.enter Try.func23 Try.ntmps23 rfl rfl rfl ?_
  refine Run.seq ?_
  (refine Run.region ?_; intro K hK)
  refine Ops.pure H (X.assign rfl) rfl rfl rfl ?_
  (refine Ops.nil (hK _ _ ?_); clear hK K)
  refine Run.seq ?_
  (refine Run.draw H [] [0, 1, 2, 3, 4, 5, 6, 7, 8, 9, 10] ?_; clear H; intro K hK w H)
  refine Draw.take0 rfl (X.move rfl) rfl rfl rfl (by decide +kernel) ?_
  refine Draw.take0 rfl (X.nilCheck rfl) rfl rfl rfl (by decide +kernel) ?_
  refine Draw.take0 rfl (X.fieldAddr rfl rfl rfl rfl rfl rfl) rfl rfl rfl (by decide +kernel) ?_
  refine Draw.take rfl (X.load1 rfl rfl rfl rfl Pick.head rfl) rfl rfl rfl (by decide +kernel) ?_
  refine Draw.take0 rfl (X.move rfl) rfl rfl rfl (by decide +kernel) ?_
  refine Draw.take0 rfl (X.nilCheck rfl) rfl rfl rfl (by decide +kernel) ?_
  refine Draw.take0 rfl (X.fieldAddr rfl rfl rfl rfl rfl rfl) rfl rfl rfl (by decide +kernel) ?_
  refine Draw.take rfl (X.load1 rfl rfl rfl rfl Pick.head rfl) rfl rfl rfl (by decide +kernel) ?_
  refine Draw.take0 rfl (X.buildO rfl rfl rfl rfl rfl rfl) rfl rfl rfl (by decide +kernel) ?_
  (refine Draw.eff rfl rfl (by decide +kernel) (Y.box rfl rfl rfl H ?_); intro b15 w H0 hb15; clear H; have H := H0; clear H0; refine ⟨fun e he => H.at_ e (by simp only [List.mem_cons, List.not_mem_nil, or_false] at he ⊢; grind), ?_⟩)
  refine Draw.take0 rfl (X.assign rfl) rfl rfl rfl (by decide +kernel) ?_
  (refine Draw.done (by decide +kernel) (hK _ _ ?_); clear hK K)
  refine Run.seq ?_
  refine Run.seq ?_
  (refine Run.region ?_; intro K hK)
  refine Ops.pure H (X.move rfl) rfl rfl rfl ?_
  refine Ops.pure H (X.nilCheck rfl) rfl rfl rfl ?_
  refine Ops.pure H (X.fieldAddr rfl rfl rfl rfl rfl rfl) rfl rfl rfl ?_
  refine Ops.pure H (X.load1 rfl rfl rfl rfl (.tail .head) rfl) rfl rfl rfl ?_
  refine Ops.pure H (X.len_slice rfl rfl rfl) rfl rfl rfl ?_
  refine Ops.pure H (X.move rfl) rfl rfl rfl ?_
  (refine Ops.nil (hK _ _ ?_); clear hK K)
  refine Run.block ?_
  have hz := H.fr
  have hoo := H.pick (.tail .head)
  have hcl0 := H.pick .head
  have hne : b15 ≠ o := by have := lt_of_at ho; omega
  refine Run.rounds (fun (x : Nat × Value) => [(0, .pointer (some ⟨o, 0, none⟩)), (3, .pointer (some ⟨b15, 0, none⟩)), (19, .slice a l.length cap), (20, .int .i64 (l.length : Nat)), (21, .int .i64 (x.1 : Nat))]) (fun x w' => x.1 ≤ l.length ∧ Fr w w' [b15] ∧ w'.heap[b15]? = some (row [.int .i64 n, .int .u64 last, x.2] 78) ∧ Fresh w' w.heap.size x.2 l x.1) (fun x => l.length - x.1) (0, .slice none 0 0) (by repeat (first | exact trivial | refine ⟨rfl, ?_⟩)) ⟨by omega, Fr.refl _ _, hcl0, Fresh.nil⟩ ?_
  clear H
  rintro ⟨k, out⟩ w1 ⟨hk, hfr, hb1, hO⟩ IH
  dsimp only at hk hfr hb1 hO IH ⊢
  have hzz := hz.grow hfr (by simpa using hb15)
  by_cases hlt : k < l.length
  · obtain ⟨rfl, hcc⟩ := tks_pos hac hc1 hzz (by omega)
    obtain ⟨vk, bk, hcs, hid, hpa, hvi, h64⟩ := (hall k _ (some_at hlt)).get
    have hvi' := hvi
    obtain ⟨capk, dsk, rfl, _, _, _, _, h0⟩ := hvi
    have H := (((Holds.start w1 [b15]).add false (hzz.get ho (by simp)) (by simp) (by simp)).add false hcc (by simpa using ne_of_ty hcc (hzz.get ho (by simp)) (by decide)) (by simp)).add true hb1 (by simpa using ⟨ne_of_ty hb1 hcc (by decide), hne⟩) (by simp)
    refine Run.seq ?_
    (refine Run.region ?_; intro K hK)
    refine Ops.pure H (X.cmp rfl rfl rfl) rfl rfl rfl ?_
    (refine Ops.nil (hK _ _ ?_); clear hK K)
    refine Run.seq ?_
    refine Run.cond_dec rfl (fun h22 => ?x0) (fun h22 => ?y0)
    case' y0 => exfalso; omega
    case' x0 =>
      refine Run.skip ?_
      refine Run.seq ?_
      refine Run.block ?_
      refine Run.seq ?_
      (refine Run.region ?_; intro K hK)
      refine Ops.pure H (X.indexAddr rfl rfl (by omega) rfl rfl rfl rfl) rfl rfl rfl ?_
      refine Ops.pure H (X.loadN rfl rfl rfl (.tail .head) (by assumption)) rfl rfl rfl ?_
      (refine Ops.eff rfl (Y.alloc rfl rfl rfl H ?_); intro b5 w H0 hb5; clear H; have H := H0; clear H0)
      (refine Ops.eff rfl (Y.storeO rfl rfl rfl rfl rfl rfl H Upd.head rfl ?_); intro w H0; clear H; have H := H0; clear H0)
      (refine Ops.nil (hK _ _ ?_); clear hK K)
      (refine Run.draw H [11] [0, 1, 2, 3, 4, 5, 6, 7, 8, 9, 10, 11] ?_; clear H; intro K hK w H)
      refine Draw.take0 rfl (X.move rfl) rfl rfl rfl (by decide +kernel) ?_
      refine Draw.take0 rfl (X.move rfl) rfl rfl rfl (by decide +kernel) ?_
      refine Draw.take0 rfl (X.nilCheck rfl) rfl rfl rfl (by decide +kernel) ?_
      refine Draw.take0 rfl (X.fieldAddr rfl rfl rfl rfl rfl rfl) rfl rfl rfl (by decide +kernel) ?_
      refine Draw.take rfl (X.load1 rfl rfl rfl rfl (.tail .head) rfl) rfl rfl rfl (by decide +kernel) ?_
      refine Draw.take rfl (X.loadN rfl rfl rfl Pick.head (Cs.take rfl)) rfl rfl rfl (by decide +kernel) ?_
    have hb5l := lt_of_at hcl0
    have hok := H.fr.size
    refine Draw.eff rfl rfl (by decide +kernel) (Y.call rfl rfl (by first | assumption | decide +kernel) rfl (own_any _ (l.getD k tk0) _ ((hvi'.keep hzz (by simp)).keep H.fr (by
      simp
      obtain ⟨_, _, _, _, _, q, _⟩ := hvi'
      exact ne_of_ty (hzz.get q (by simp)) hb1 (by decide))).ints h0 h64) rfl ?_)
    rintro v w2 ⟨v', b, rfl, ⟨cap', ds', rfl, q2, q3, q4, q5, q6⟩, hbz, hf⟩
    replace H := H.extAdd false hf q4 hbz
    refine ⟨fun e he => H.at_ e (List.mem_cons_of_mem _ he), ?_⟩
    (refine Draw.eff rfl rfl (by decide +kernel) (Y.buildSliceO rfl rfl rfl rfl rfl rfl rfl rfl H ?_); intro b32 w H0 hb32; clear H; have H := H0; clear H0; refine ⟨fun e he => H.at_ e (by simp only [List.mem_cons, List.not_mem_nil, or_false] at he ⊢; grind), ?_⟩)
    obtain ⟨V, hO1, hO2, hO3⟩ := hO
    have hle := Nat.le_trans hok hbz
    have hHf := H.fr
    have hin : ∀ x y : Nat, x = b15 → IntsB w1 (V y).1 (l.getD y tk0).parts (V y).2 → (V y).2 ≠ x := by
      rintro x y rfl ⟨_, _, _, _, _, q, _⟩
      exact ne_of_ty q hb1 (by decide)
    have hOw := hO1.keepS hHf (by simpa using hb5l)
    rcases hOw with ⟨rfl, hvs, rfl⟩ | ⟨ob, ocap, ocs, rfl, o1, o2, o3, o4, o5, o6⟩
    · refine Draw.eff rfl rfl (by decide +kernel) (Y.append_grow (olds := []) (news := tkC (l.getD 0 tk0) (.slice (some ⟨b, 0, none⟩) (l.getD 0 tk0).parts.length cap')) rfl rfl rfl rfl rfl H (by simp) Src.nil rfl rfl (Src.row (m := 4) H .head (Cs.take rfl)) rfl (by simp) (by simp) rfl ?_)
      intro b33 cap33 sp w3 H3 hb33 hc33 hm33 hsp
      clear H
      have H := H3
      clear H3
      refine ⟨fun e he => H.at_ e (by simp only [List.mem_cons, List.not_mem_nil, or_false] at he ⊢; grind), ?_⟩
      refine Draw.take0 rfl (X.nilCheck rfl) rfl rfl rfl (by decide +kernel) ?_
      refine Draw.take0 rfl (X.fieldAddr rfl rfl rfl rfl rfl rfl) rfl rfl rfl (by decide +kernel) ?_
      (refine Draw.last rfl rfl (by decide +kernel) (Y.store1 rfl rfl rfl rfl rfl rfl H (.tail (.tail (.tail (.tail .head)))) (by repeat (first | exact SetC.zero | apply SetC.succ)) ?_); intro w H0; clear H; have H := H0; clear H0)
      (refine Draw2.done (by decide +kernel) (hK _ _ ?_); clear hK K)
      refine Run.inBlock ?_
      (refine Run.region ?_; intro K hK)
      refine Ops.pure H (X.succ rfl rfl (by omega)) rfl rfl rfl ?_
      refine Ops.pure H (X.move rfl) rfl rfl rfl ?_
      (refine Ops.nil (hK _ _ ?_); clear hK K)
      refine (IH (0 + 1, .slice (some ⟨b33, 0, none⟩) (0 + 1) cap33) _ (by dsimp only; omega) ⟨by dsimp only; omega, hfr.trans H.fr (by simp) (by simp), H.pick (by first | exact .head | exact .tail .head | exact .tail (.tail .head) | exact .tail (.tail (.tail .head)) | exact .tail (.tail (.tail (.tail .head))) | exact .tail (.tail (.tail (.tail (.tail .head)))) | exact .tail (.tail (.tail (.tail (.tail (.tail .head)))))), ?_⟩).weak (by repeat (first | exact trivial | refine ⟨rfl, ?_⟩))
      refine Fresh.succ (w := w1) (V := V) (b := b) (u := .slice (some ⟨b, 0, none⟩) (l.getD 0 tk0).parts.length cap') (fun i hi => by omega) (fun i j _ hj => by omega) (fun i hi => by omega) ⟨_, _, rfl, q2, q3, H.pick (by first | exact .head | exact .tail .head | exact .tail (.tail .head) | exact .tail (.tail (.tail .head)) | exact .tail (.tail (.tail (.tail .head))) | exact .tail (.tail (.tail (.tail (.tail .head)))) | exact .tail (.tail (.tail (.tail (.tail (.tail .head)))))), q5, q6⟩ (Nat.le_trans hfr.size hle) (.inr ⟨b33, cap33, _, rfl, hc33, hm33, Nat.le_trans hfr.size hb33, H.pick (by first | exact .head | exact .tail .head | exact .tail (.tail .head) | exact .tail (.tail (.tail .head)) | exact .tail (.tail (.tail (.tail .head))) | exact .tail (.tail (.tail (.tail (.tail .head)))) | exact .tail (.tail (.tail (.tail (.tail (.tail .head)))))), ?_, ?_⟩) (fun i hi => by omega)
      · simp [tkC] at hsp hc33 ⊢; omega
      · exact (Cs.mid [] _ sp).cast (by simp) rfl rfl
    · have hob5 : ob < w1.heap.size := by
        obtain ⟨_, hx5⟩ : ∃ cs', w1.heap[ob]? = some (row cs' 56) := by
          rcases hO1 with ⟨_, _, h⟩ | ⟨ob', _, cs', h, _, _, _, h5, _⟩
          · cases h
          · cases h; exact ⟨cs', h5⟩
        exact lt_of_at hx5
      have hcz := lt_of_at (tks_pos hac hc1 (Fr.refl z []) (by omega)).2
      have hsz0 := hz.size
      have hbw := H.fr
      have hd : (l.getD k tk0).parts.length ≤ 64 := h64
      refine Draw.eff rfl rfl (by decide +kernel) (Y.appendB (olds := (List.range k).flatMap fun i => tkC (l.getD i tk0) (V i).1) (news := tkC (l.getD k tk0) (.slice (some ⟨b, 0, none⟩) (l.getD k tk0).parts.length cap')) (m := 1) 4 o1 o2 o4 o5 o6 rfl rfl rfl rfl rfl rfl rfl (Src.row (m := 4) H .head (Cs.take rfl)) rfl (by intro u hu; simp [tkC] at hu; rcases hu with rfl | rfl | rfl | rfl <;> rfl) (by dsimp only; omega) (by omega) rfl ?_)
      intro b33 cap33 cs33 w3 hf3 hb33 hc33 hm33 hA3 hl33 hCs
      have hb15w := H.pick (by first | exact .head | exact .tail .head | exact .tail (.tail .head) | exact .tail (.tail (.tail .head)) | exact .tail (.tail (.tail (.tail .head))) | exact .tail (.tail (.tail (.tail (.tail .head)))) | exact .tail (.tail (.tail (.tail (.tail (.tail .head)))))) (b := b15)
      have hbx := H.pick (by first | exact .head | exact .tail .head | exact .tail (.tail .head) | exact .tail (.tail (.tail .head)) | exact .tail (.tail (.tail (.tail .head))) | exact .tail (.tail (.tail (.tail (.tail .head)))) | exact .tail (.tail (.tail (.tail (.tail (.tail .head)))))) (b := b)
      refine ⟨fun e he => hf3.get (H.at_ e (by simp only [List.mem_cons, List.not_mem_nil, or_false] at he ⊢; grind)) ?_, ?_⟩
      · simp only [List.mem_cons, List.not_mem_nil, or_false] at he
        have hoz := lt_of_at ho
        rcases he with rfl | rfl | rfl | rfl <;> simp <;> first | omega | exact ne_of_ty hb15w o4 (by decide)
      have hob15 := ne_of_ty hb15w o4 (by decide)
      have hobb := ne_of_ty hbx o4 (by decide)
      have hb15x := hf3.get hb15w (by simpa using hob15)
      have hbxx := hf3.get hbx (by simpa using hobb)
      clear H
      have H := (Holds.start w3 [b15]).add true hb15x (by simp) (by simp)
      refine Draw.take0 rfl (X.nilCheck rfl) rfl rfl rfl (by decide +kernel) ?_
      refine Draw.take0 rfl (X.fieldAddr rfl rfl rfl rfl rfl rfl) rfl rfl rfl (by decide +kernel) ?_
      (refine Draw.last rfl rfl (by decide +kernel) (Y.store1 rfl rfl rfl rfl rfl rfl H Upd.head (by repeat (first | exact SetC.zero | apply SetC.succ)) ?_); intro w H0; clear H; have H := H0; clear H0)
      (refine Draw2.done (by decide +kernel) (hK _ _ ?_); clear hK K)
      refine Run.inBlock ?_
      (refine Run.region ?_; intro K hK)
      refine Ops.pure H (X.succ rfl rfl (by omega)) rfl rfl rfl ?_
      refine Ops.pure H (X.move rfl) rfl rfl rfl ?_
      (refine Ops.nil (hK _ _ ?_); clear hK K)
      have hfz := hfr.trans (hbw.trans hf3 (U := [b15, ob]) (by simp) (by simp)) (U := [b15]) (by simp) (by intro x hx hlt; simp at hx; rcases hx with rfl | rfl; exact List.mem_cons_self ..; omega)
      refine (IH (k + 1, .slice (some ⟨b33, 0, none⟩) (k + 1) cap33) _ (by dsimp only; omega) ⟨by dsimp only; omega, hfz.trans H.fr (by simp) (by simp), H.pick (by first | exact .head | exact .tail .head | exact .tail (.tail .head) | exact .tail (.tail (.tail .head)) | exact .tail (.tail (.tail (.tail .head))) | exact .tail (.tail (.tail (.tail (.tail .head)))) | exact .tail (.tail (.tail (.tail (.tail (.tail .head)))))), ?_⟩).weak (by repeat (first | exact trivial | refine ⟨rfl, ?_⟩))
      have hI : ∀ i, i < k → IntsB w3 (V i).1 (l.getD i tk0).parts (V i).2 := fun i hi => ((hO2 i hi).1.keep hbw (by simpa using hin _ i rfl (hO2 i hi).1)).keep hf3 (by
        obtain ⟨_, _, _, _, _, q, _⟩ := (hO2 i hi).1.keep hbw (by simpa using hin _ i rfl (hO2 i hi).1)
        simpa using ne_of_ty q o4 (by decide))
      refine Fresh.succ (w := w1) (V := V) (b := b) (u := .slice (some ⟨b, 0, none⟩) (l.getD k tk0).parts.length cap') hO2 hO3 (fun i hi => Nat.lt_of_lt_of_le (hO2 i hi).1.lt hle) ⟨_, _, rfl, q2, q3, H.fr.get hbxx ?_, q5, q6⟩ (Nat.le_trans hfr.size hle) (.inr ⟨b33, cap33, _, rfl, hc33, hm33, ?_, H.fr.get hA3 ?_, hl33, hCs⟩) (fun i hi => (hI i hi).keep H.fr (by simpa using hin _ i rfl (hO2 i hi).1))
      · simpa using ne_of_ty hbxx hb15x (by decide)
      · rcases hb33 with rfl | hb33
        · exact o3
        · exact Nat.le_trans hfr.size (Nat.le_trans hbw.size hb33)
      · simpa using ne_of_ty hA3 hb15x (by decide)
  · have H := Holds.start w1 []
    refine Run.seq ?_
    (refine Run.region ?_; intro K hK)
    refine Ops.pure H (X.cmp rfl rfl rfl) rfl rfl rfl ?_
    (refine Ops.nil (hK _ _ ?_); clear hK K)
    refine Run.seq ?_
    refine Run.cond_dec rfl (fun h22 => ?x1) (fun h22 => ?y1)
    case' y1 =>
      refine Run.exit rfl ?_
      refine Run.seq ?_
      (refine Run.region ?_; intro K hK)
      refine Ops.pure H (X.move rfl) rfl rfl rfl ?_
      refine Ops.pure H (X.assign rfl) rfl rfl rfl ?_
      (refine Ops.nil (hK _ _ ?_); clear hK K)
    case' x1 => exfalso; omega
    (first | refine Fn.ret1 HF rfl rfl ?_ | refine Fn.ret2 HF rfl rfl rfl ?_ | refine Fn.ret3 HF rfl rfl rfl rfl ?_ | refine Fn.ret0 HF rfl ?_ | refine Fn.fin0 HF rfl ?_ | refine Fn.retG (E := env) HF rfl H (by first | exact RVs.cellN rfl rfl rfl (by first | exact .head | exact .tail .head | exact .tail (.tail .head) | exact .tail (.tail (.tail .head)) | exact .tail (.tail (.tail (.tail .head))) | exact .tail (.tail (.tail (.tail (.tail .head)))) | exact .tail (.tail (.tail (.tail (.tail (.tail .head)))))) (by first | assumption | exact Cs.take rfl) RVs.nil | exact RVs.cellN rfl rfl rfl (by first | exact .head | exact .tail .head | exact .tail (.tail .head) | exact .tail (.tail (.tail .head)) | exact .tail (.tail (.tail (.tail .head))) | exact .tail (.tail (.tail (.tail (.tail .head)))) | exact .tail (.tail (.tail (.tail (.tail (.tail .head)))))) (by first | assumption | exact Cs.take rfl) (RVs.tmp rfl RVs.nil)) rfl ?_)
    have : k = l.length := by omega
    subst this
    have h64 : ∀ i, i < l.length → (l.getD i tk0).parts.length ≤ 64 := fun i hi => by
      obtain ⟨_, _, _, _, _, _, h⟩ := (hall i _ (some_at hi)).get
      exact h
    obtain ⟨c2, hT, hcz⟩ := hO.tks h64
    have hO' : ∃ c3, Ord w1 b15 c3 n last l ∧ z.heap.size ≤ c3 := by
      by_cases hn : l = []
      · subst hn
        rcases hO with ⟨V, hV, _⟩
        rcases hV with ⟨_, _, rfl⟩ | ⟨b, cap', ds, rfl, g1, g2, g3, g4, g5, g6⟩
        · exact ⟨b15, ⟨_, hb1, none, 0, [], rfl, by simp, by omega, .inl ⟨rfl, rfl⟩, by simp⟩, hb15⟩
        · exact ⟨b, ⟨_, hb1, _, cap', ds, rfl, g1, g2, .inr ⟨rfl, g4, g5⟩, by simp⟩, Nat.le_trans hz.size g3⟩
      · exact ⟨c2, ⟨_, hb1, hT⟩, Nat.le_trans hz.size (hcz hn)⟩
    obtain ⟨c3, h3, h4⟩ := hO'
    exact ⟨b15, c3, rfl, h3.ext H.fr, hzz.then H.fr, hb15, h4⟩
end Go.Proofs.Ythidohdnaeboaaa
