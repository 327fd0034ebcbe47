/- Walks of the law of all orders: stands. -/
import Derived.Test.YthidohdnaeboaaaL3
namespace Go.Proofs.Ythidohdnaeboaaa
open Go
set_option maxRecDepth 20000
set_option maxHeartbeats 2000000
attribute [local irreducible] Run Ops Fn Draw Draw2 PureOp StepZ

theorem Cs.setA {cs : List Value} {off m i : Nat} {vs : List Value} {u : Value} (h : Cs cs off m vs) (hi : i < off ∨ off + m ≤ i) : Cs (cs.set i u) off m vs :=
  Cs.ofGet _ _ _ h.length fun j hj => by
    rw [List.getElem?_set_ne (by omega)]
    exact h.toGet hj
theorem stands_any (z : World) (x : Nat) (n : Int) (q : PQ) (h : Pr z x n q) :
    Fn env.P 26 [.pointer (some ⟨x, 0, none⟩)] z fun v w' => v = .bool true ∧ Fr z w' [] := by
  obtain ⟨o, c, d, r, last, l⟩ := q
  obtain ⟨hx, hp, hd, _, _, _, hL⟩ := h
  dsimp only at hx hp hd hL
  have hl := hL.len
  have hd' := hd
  obtain ⟨v, ho, ad, cap, cs, rfl, hc1, hc2, hac, hall⟩ := hd
  have H := ((Holds.start z []).add false ho (by simp) (by simp)).add false hx (by simpa using ne_of_ty hx ho (by decide)) (by simp)
  have HF := Try.func26; refine Fn.enter Try.func26 Try.ntmps26 rfl rfl rfl ?_
  refine Run.seq ?_
  (refine Run.region ?_; intro K hK)
  refine Ops.pure H (X.assign rfl) rfl rfl rfl ?_
  (refine Ops.nil (hK _ _ ?_); clear hK K)
  refine Run.seq ?_
  (refine Run.region ?_; intro K hK)
  refine Ops.pure H (X.move rfl) rfl rfl rfl ?_
  refine Ops.pure H (X.nilCheck rfl) rfl rfl rfl ?_
  refine Ops.pure H (X.fieldAddr rfl rfl rfl rfl rfl rfl) rfl rfl rfl ?_
  refine Ops.pure H (X.load1 rfl rfl rfl rfl Pick.head rfl) rfl rfl rfl ?_
  refine Ops.eff rfl (Y.call rfl rfl (by first | assumption | decide +kernel) rfl (pending_any _ o c n last l (hp.ext H.fr) hl) rfl ?_)
  rintro v w1 ⟨⟨V, hO, hV, hVV⟩, hf1⟩
  have hzs := H.fr.size
  obtain ⟨pa, pcap, rfl⟩ := hO.slice
  replace H := H.ext hf1
  have hZ1 := H.fr
  have hVz : ∀ j, j < l.length → z.heap.size ≤ (V j).2 := fun j hj => Nat.le_trans hzs (hV j hj).2
  replace H := H.anew (S' := []) (G' := [⟨_, _, false⟩, ⟨_, _, false⟩]) (by repeat constructor) (by simp)
  refine Ops.pure H (X.assign rfl) rfl rfl rfl ?_
  (refine Ops.nil (hK _ _ ?_); clear hK K)
  refine Run.seq ?_
  refine Run.seq ?_
  (refine Run.draw H [] [0, 1, 2, 3, 4, 5, 6, 7, 8, 9, 10, 11, 12, 13, 14, 15, 17, 18, 19, 20, 21, 22, 23, 16, 24, 25] ?_; clear H; intro K hK w H)
  refine Draw.take0 rfl (X.move rfl) rfl rfl rfl (by decide +kernel) ?_
  refine Draw.take0 rfl (X.len_slice rfl rfl rfl) rfl rfl rfl (by decide +kernel) ?_
  refine Draw.take0 rfl (X.move rfl) rfl rfl rfl (by decide +kernel) ?_
  refine Draw.take0 rfl (X.nilCheck rfl) rfl rfl rfl (by decide +kernel) ?_
  refine Draw.take0 rfl (X.fieldAddr rfl rfl rfl rfl rfl rfl) rfl rfl rfl (by decide +kernel) ?_
  refine Draw.take rfl (X.load1 rfl rfl rfl rfl Pick.head rfl) rfl rfl rfl (by decide +kernel) ?_
  refine Draw.take0 rfl (X.nilCheck rfl) rfl rfl rfl (by decide +kernel) ?_
  refine Draw.take0 rfl (X.fieldAddr rfl rfl rfl rfl rfl rfl) rfl rfl rfl (by decide +kernel) ?_
  refine Draw.take rfl (X.load1 rfl rfl rfl rfl (.tail .head) rfl) rfl rfl rfl (by decide +kernel) ?_
  refine Draw.take0 rfl (X.len_slice rfl rfl rfl) rfl rfl rfl (by decide +kernel) ?_
  refine Draw.take0 rfl (X.cmp rfl rfl rfl) rfl rfl rfl (by decide +kernel) ?_
  refine Draw.take0 rfl (X.move rfl) rfl rfl rfl (by decide +kernel) ?_
  refine Draw.split_ndec rfl rfl rfl (fun h23 => ?x0) (fun h23 => ?y0)
  case' y0 =>
    refine Draw.take0 rfl (X.move rfl) rfl rfl rfl (by decide +kernel) ?_
    refine Draw.take0 rfl (X.nilCheck rfl) rfl rfl rfl (by decide +kernel) ?_
    refine Draw.take0 rfl (X.fieldAddr rfl rfl rfl rfl rfl rfl) rfl rfl rfl (by decide +kernel) ?_
    refine Draw.take rfl (X.load1 rfl rfl rfl rfl Pick.head rfl) rfl rfl rfl (by decide +kernel) ?_
    refine Draw.take0 rfl (X.move rfl) rfl rfl rfl (by decide +kernel) ?_
    refine Draw.take0 rfl (X.nilCheck rfl) rfl rfl rfl (by decide +kernel) ?_
    refine Draw.take0 rfl (X.fieldAddr rfl rfl rfl rfl rfl rfl) rfl rfl rfl (by decide +kernel) ?_
    refine Draw.take rfl (X.load1 rfl rfl rfl rfl Pick.head rfl) rfl rfl rfl (by decide +kernel) ?_
    refine Draw.take0 rfl (X.nilCheck rfl) rfl rfl rfl (by decide +kernel) ?_
    refine Draw.take0 rfl (X.fieldAddr rfl rfl rfl rfl rfl rfl) rfl rfl rfl (by decide +kernel) ?_
    refine Draw.take rfl (X.load1 rfl rfl rfl rfl (.tail .head) rfl) rfl rfl rfl (by decide +kernel) ?_
  case' x0 => exfalso; omega
  refine Draw.eff rfl rfl (by decide +kernel) (Y.call rfl rfl (by first | assumption | decide +kernel) rfl (last_any _ o c n last l (hp.ext (hZ1.then H.fr))) rfl ?_)
  rintro v w2 ⟨rfl, rfl⟩
  refine ⟨H.at_, ?_⟩
  refine Draw.take0 rfl (X.cmp rfl rfl rfl) rfl rfl rfl (by decide +kernel) ?_
  refine Draw.take0 rfl (X.pick_f rfl rfl) rfl rfl rfl (by decide +kernel) ?_
  (refine Draw.done (by decide +kernel) (hK _ _ ?_); clear hK K)
  refine Run.cond_ndec rfl (fun h36 => ?x1) (fun h36 => ?y1)
  case' y1 =>
    refine Run.skip ?_
    refine Run.seq ?_
    refine Run.seq ?_
    (refine Run.region ?_; intro K hK)
    refine Ops.pure H (X.assign rfl) rfl rfl rfl ?_
    (refine Ops.nil (hK _ _ ?_); clear hK K)
    refine Run.block ?_
  case' x1 => exfalso; omega
  have hZ2 := hZ1.then H.fr
  refine Run.rounds (fun (i : Nat) => [(0, .pointer (some ⟨x, 0, none⟩)), (3, .slice pa l.length pcap), (4, .int .i64 (i : Nat))])
    (fun i w' => i ≤ l.length ∧ Fr z w' [] ∧ (i < l.length → ∃ b cs, pa = some ⟨b, 0, none⟩ ∧ w'.heap[b]? = some (row cs 56) ∧ z.heap.size ≤ b ∧ cs.length = pcap * 4 ∧ l.length ≤ pcap ∧ ∀ j, i ≤ j → j < l.length → Cs cs (0 + j * 4) 4 (tkC (l.getD j tk0) (V j).1) ∧ IntsB w' (V j).1 (l.getD j tk0).parts (V j).2))
    (fun i => l.length - i) 0 (by repeat (first | exact trivial | refine ⟨rfl, ?_⟩)) ⟨by omega, hZ2, fun h0 => ?_⟩ ?_
  · obtain ⟨b, cap', cs', e, g1, g2, g3, g4, g5, g6⟩ := (hO.ext H.fr).get h0
    cases e
    exact ⟨b, cs', rfl, g4, Nat.le_trans hzs g3, g5, g1, fun j _ hj => ⟨g6.flat (f := fun i => tkC (l.getD i tk0) (V i).1) (fun _ => rfl) hj, (hV j hj).1.ext H.fr⟩⟩
  clear H hO hV hZ1 hZ2 hf1
  rintro i w3 ⟨hi, hZ3, hI⟩ IH
  by_cases hlt : i < l.length
  · obtain ⟨b, bcs, rfl, hb3, hzb, hbl, hcap, hII⟩ := hI hlt
    obtain ⟨hCi, hPi⟩ := hII i (Nat.le_refl _) hlt
    obtain ⟨rfl, hcc⟩ := tks_pos hac hc1 hZ3 (by omega)
    obtain ⟨vk, bk, hcs, hid, hpa, hvi, h64⟩ := (hall i _ (some_at hlt)).get
    obtain ⟨T, hT⟩ : ∃ T, T = l.getD i tk0 := ⟨_, rfl⟩
    rw [← hT] at hCi hPi hcs hid hvi h64
    have hPi' := hPi
    obtain ⟨pcapi, pds, hvv, p2, p3, p4, p5, p6⟩ := hPi
    rw [hvv] at hCi hPi'
    have hpb : (V i).2 ≠ b := ne_of_ty p4 hb3 (by decide)
    have hx3 := hZ3.get hx (by simp)
    have ho3 := hZ3.get ho (by simp)
    have hrb : r ≠ b := by have := lt_of_at hcc; have := hZ3.get hx (by simp); have hr := lt_of_at (tks_pos hac hc1 (Fr.refl z []) (by omega)).2; omega
    have hxz := lt_of_at hx
    have hoz := lt_of_at ho
    have H := ((((Holds.start w3 []).add false hcc (by simp) (by simp)).add false hb3 (by simpa using hrb.symm) (by simp)).add false ho3 (by simpa using ⟨ne_of_ty ho3 hb3 (by decide), ne_of_ty ho3 hcc (by decide)⟩) (by simp)).add false hx3 (by simpa using ⟨ne_of_ty hx3 ho3 (by decide), ne_of_ty hx3 hb3 (by decide), ne_of_ty hx3 hcc (by decide)⟩) (by simp)
    have hvi3 := hvi.ext hZ3
    obtain ⟨ca, cm, rfl⟩ := hvi.ints.slice
    simp only [tkC] at hCi hcs
    refine Run.seq ?_
    refine Run.seq ?_
    (refine Run.region ?_; intro K hK)
    refine Ops.pure H (X.move rfl) rfl rfl rfl ?_
    refine Ops.pure H (X.move rfl) rfl rfl rfl ?_
    refine Ops.pure H (X.len_slice rfl rfl rfl) rfl rfl rfl ?_
    refine Ops.pure H (X.cmp rfl rfl rfl) rfl rfl rfl ?_
    (refine Ops.nil (hK _ _ ?_); clear hK K)
    refine Run.cond_dec rfl (fun h40 => ?x2) (fun h40 => ?y2)
    case' y2 => exfalso; omega
    case' x2 =>
      refine Run.skip ?_
      refine Run.seq ?_
      refine Run.block ?_
      refine Run.seq ?_
      refine Run.seq ?_
      (refine Run.draw H [] [0, 1, 2, 3, 4, 5, 6, 7, 8, 9, 10, 11, 12, 13, 14, 15] ?_; clear H; intro K hK w H)
      refine Draw.take0 rfl (X.move rfl) rfl rfl rfl (by decide +kernel) ?_
      refine Draw.take0 rfl (X.move rfl) rfl rfl rfl (by decide +kernel) ?_
      refine Draw.take0 rfl (X.indexAddr rfl rfl (by omega) rfl rfl rfl rfl) rfl rfl rfl (by decide +kernel) ?_
      refine Draw.take rfl (X.loadN rfl rfl rfl (.tail (.tail .head)) (by assumption)) rfl rfl rfl (by decide +kernel) ?_
      refine Draw.take0 rfl (X.move rfl) rfl rfl rfl (by decide +kernel) ?_
      refine Draw.take0 rfl (X.nilCheck rfl) rfl rfl rfl (by decide +kernel) ?_
      refine Draw.take0 rfl (X.fieldAddr rfl rfl rfl rfl rfl rfl) rfl rfl rfl (by decide +kernel) ?_
      refine Draw.take rfl (X.load1 rfl rfl rfl rfl Pick.head rfl) rfl rfl rfl (by decide +kernel) ?_
      refine Draw.take0 rfl (X.nilCheck rfl) rfl rfl rfl (by decide +kernel) ?_
      refine Draw.take0 rfl (X.fieldAddr rfl rfl rfl rfl rfl rfl) rfl rfl rfl (by decide +kernel) ?_
      refine Draw.take rfl (X.load1 rfl rfl rfl rfl (.tail .head) rfl) rfl rfl rfl (by decide +kernel) ?_
      refine Draw.take0 rfl (X.move rfl) rfl rfl rfl (by decide +kernel) ?_
      refine Draw.take0 rfl (X.indexAddr rfl rfl (by omega) rfl rfl rfl rfl) rfl rfl rfl (by decide +kernel) ?_
      refine Draw.take rfl (X.loadN rfl rfl rfl (.tail (.tail (.tail .head))) (by assumption)) rfl rfl rfl (by decide +kernel) ?_
    refine Draw.eff rfl rfl (by decide +kernel) (Y.call rfl rfl (by first | assumption | decide +kernel) rfl (same_any _ T T _ _ 0 0 (hPi'.ints.ext H.fr) (hvi3.ints.ext H.fr) ⟨rfl, rfl, rfl, rfl⟩) rfl ?_)
    rintro v w4 ⟨rfl, hf4⟩
    replace H := H.ext hf4
    refine ⟨H.at_, ?_⟩
    refine Draw.take0 rfl (X.not rfl) rfl rfl rfl (by decide +kernel) ?_
    (refine Draw.done (by decide +kernel) (hK _ _ ?_); clear hK K)
    refine Run.cond_false rfl ?_
    refine Run.skip ?_
    refine Run.seq ?_
    refine Run.seq ?_
    (refine Run.region ?_; intro K hK)
    refine Ops.pure H (X.assign rfl) rfl rfl rfl ?_
    (refine Ops.nil (hK _ _ ?_); clear hK K)
    refine Run.block ?_
    have hfA := H.fr
    have hb4 := hfA.get hb3 (by simp)
    have hp4 := hfA.get p4 (by simp)
    have hc3 : bcs[0 + i * 4 + 3]? = some (.slice (some ⟨(V i).2, 0, none⟩) T.parts.length pcapi) := hCi.get 3 _ rfl
    have hpl : T.parts.length ≤ pds.length := by
      have h0 : T.parts.length - 1 < T.parts.length := by omega
      have h1 := p5.get (T.parts.length - 1) (.int .i64 (T.parts[T.parts.length - 1])) (by simp [h0])
      have := (List.getElem?_eq_some_iff.1 h1).1
      omega
    clear H
    have H := ((Holds.start w4 [(V i).2]).add false hb4 (by simp) (by simp)).add true hp4 (by simpa using hpb) (by simp)
    refine Run.rounds (fun (k : Nat) => [(0, .pointer (some ⟨x, 0, none⟩)), (3, .slice (some ⟨b, 0, none⟩) l.length pcap), (4, .int .i64 (i : Nat)), (5, .int .i64 (k : Nat))])
      (fun k w' => k ≤ T.parts.length ∧ ∃ ds, Holds w4 [(V i).2] w' [⟨(V i).2, row ds 3, true⟩, ⟨b, row bcs 56, false⟩] ∧ ds.length = pds.length)
      (fun k => T.parts.length - k) 0 (by repeat (first | exact trivial | refine ⟨rfl, ?_⟩)) ⟨by omega, pds, H, rfl⟩ ?_
    clear H
    rintro k w5 ⟨hk, ds, H, hdl⟩ IH2
    have hi4 : 0 + i * 4 < bcs.length := by omega
    by_cases hlk : k < T.parts.length
    · have hkl : k < ds.length := by omega
      refine Run.seq ?_
      refine Run.seq ?_
      (refine Run.region ?_; intro K hK)
      refine Ops.pure H (X.move rfl) rfl rfl rfl ?_
      refine Ops.pure H (X.move rfl) rfl rfl rfl ?_
      refine Ops.pure H (X.move rfl) rfl rfl rfl ?_
      refine Ops.pure H (X.indexAddr rfl rfl (by omega) rfl rfl rfl rfl) rfl rfl rfl ?_
      refine Ops.pure H (X.fieldAddr rfl rfl rfl rfl rfl rfl) rfl rfl rfl ?_
      refine Ops.pure H (X.load1 rfl rfl rfl rfl (.tail .head) (by assumption)) rfl rfl rfl ?_
      refine Ops.pure H (X.len_slice rfl rfl rfl) rfl rfl rfl ?_
      refine Ops.pure H (X.cmp rfl rfl rfl) rfl rfl rfl ?_
      (refine Ops.nil (hK _ _ ?_); clear hK K)
      refine Run.cond_dec rfl (fun h66 => ?x3) (fun h66 => ?y3)
      case' y3 => exfalso; omega
      case' x3 =>
        refine Run.skip ?_
        refine Run.seq ?_
        refine Run.block ?_
        (refine Run.region ?_; intro K hK)
        refine Ops.pure H (X.move rfl) rfl rfl rfl ?_
        refine Ops.pure H (X.move rfl) rfl rfl rfl ?_
        refine Ops.pure H (X.indexAddr rfl rfl (by omega) rfl rfl rfl rfl) rfl rfl rfl ?_
        refine Ops.pure H (X.fieldAddr rfl rfl rfl rfl rfl rfl) rfl rfl rfl ?_
        refine Ops.pure H (X.load1 rfl rfl rfl rfl (.tail .head) (by assumption)) rfl rfl rfl ?_
        refine Ops.pure H (X.move rfl) rfl rfl rfl ?_
        refine Ops.pure H (X.indexAddr rfl rfl (by omega) rfl rfl rfl rfl) rfl rfl rfl ?_
        (refine Ops.eff rfl (Y.storeI rfl rfl rfl rfl rfl rfl H Upd.head (by omega) ?_); intro w H0; clear H; have H := H0; clear H0)
        (refine Ops.nil (hK _ _ ?_); clear hK K)
        refine Run.inBlock ?_
        (refine Run.region ?_; intro K hK)
        refine Ops.pure H (X.move rfl) rfl rfl rfl ?_
        refine Ops.pure H (X.succ rfl rfl (by omega)) rfl rfl rfl ?_
        refine Ops.pure H (X.assign rfl) rfl rfl rfl ?_
        (refine Ops.nil (hK _ _ ?_); clear hK K)
      refine (IH2 (k + 1) _ (by omega) ⟨by omega, _, H, by simpa using hdl⟩).weak (by repeat (first | exact trivial | refine ⟨rfl, ?_⟩))
    · have hfB := H.fr
      have hb5 := H.pick (.tail .head)
      clear H
      have H := (Holds.start w5 [b]).add true hb5 (by simp) (by simp)
      refine Run.seq ?_
      refine Run.seq ?_
      (refine Run.region ?_; intro K hK)
      refine Ops.pure H (X.move rfl) rfl rfl rfl ?_
      refine Ops.pure H (X.move rfl) rfl rfl rfl ?_
      refine Ops.pure H (X.move rfl) rfl rfl rfl ?_
      refine Ops.pure H (X.indexAddr rfl rfl (by omega) rfl rfl rfl rfl) rfl rfl rfl ?_
      refine Ops.pure H (X.fieldAddr rfl rfl rfl rfl rfl rfl) rfl rfl rfl ?_
      refine Ops.pure H (X.load1 rfl rfl rfl rfl Pick.head (by assumption)) rfl rfl rfl ?_
      refine Ops.pure H (X.len_slice rfl rfl rfl) rfl rfl rfl ?_
      refine Ops.pure H (X.cmp rfl rfl rfl) rfl rfl rfl ?_
      (refine Ops.nil (hK _ _ ?_); clear hK K)
      refine Run.cond_dec rfl (fun h66 => ?x4) (fun h66 => ?y4)
      case' y4 =>
        refine Run.exit rfl ?_
        (refine Run.region ?_; intro K hK)
        refine Ops.pure H (X.move rfl) rfl rfl rfl ?_
        refine Ops.pure H (X.move rfl) rfl rfl rfl ?_
        refine Ops.pure H (X.indexAddr rfl rfl (by omega) rfl rfl rfl rfl) rfl rfl rfl ?_
        refine Ops.pure H (X.fieldAddr rfl rfl rfl rfl rfl rfl) rfl rfl rfl ?_
        (refine Ops.eff rfl (Y.storeI rfl rfl rfl rfl rfl rfl H Upd.head (by omega) ?_); intro w H0; clear H; have H := H0; clear H0)
        (refine Ops.nil (hK _ _ ?_); clear hK K)
        refine Run.inBlock ?_
        (refine Run.region ?_; intro K hK)
        refine Ops.pure H (X.move rfl) rfl rfl rfl ?_
        refine Ops.pure H (X.succ rfl rfl (by omega)) rfl rfl rfl ?_
        refine Ops.pure H (X.assign rfl) rfl rfl rfl ?_
        (refine Ops.nil (hK _ _ ?_); clear hK K)
      case' x4 => exfalso; omega
      have hZ6 := ((hZ3.then hfA).grow hfB (by simpa using hVz i hlt)).grow H.fr (by simpa using hzb)
      refine (IH (i + 1) _ (by omega) ⟨by omega, hZ6, fun hlt' => ⟨b, _, rfl, H.pick .head, hzb, by simpa using hbl, hcap, fun j hj hjl => ?_⟩⟩).weak (by repeat (first | exact trivial | refine ⟨rfl, ?_⟩))
      obtain ⟨e1, e2⟩ := hII j (by omega) hjl
      have e3 := hVV i j (by omega) hjl
      have e4 : IntsB w5 (V j).1 (l.getD j tk0).parts (V j).2 := (e2.ext hfA).keep hfB (by simp; omega)
      refine ⟨e1.setA (.inl (by omega)), e4.keep H.fr ?_⟩
      obtain ⟨_, _, _, _, _, e5, _⟩ := e4
      simpa using ne_of_ty e5 hb5 (by decide)
  · have H := (Holds.start w3 []).add false (hZ3.get hx (by simp)) (by simp) (by simp)
    clear IH
    refine Run.seq ?_
    refine Run.seq ?_
    (refine Run.region ?_; intro K hK)
    refine Ops.pure H (X.move rfl) rfl rfl rfl ?_
    refine Ops.pure H (X.move rfl) rfl rfl rfl ?_
    refine Ops.pure H (X.len_slice rfl rfl rfl) rfl rfl rfl ?_
    refine Ops.pure H (X.cmp rfl rfl rfl) rfl rfl rfl ?_
    (refine Ops.nil (hK _ _ ?_); clear hK K)
    refine Run.cond_dec rfl (fun h40 => ?x5) (fun h40 => ?y5)
    case' y5 =>
      refine Run.exit rfl ?_
      refine Run.seq ?_
      (refine Run.draw H [] [0, 1, 2, 3, 5, 6, 7, 8, 4, 9, 10, 11] ?_; clear H; intro K hK w H)
      refine Draw.take0 rfl (X.move rfl) rfl rfl rfl (by decide +kernel) ?_
      refine Draw.take0 rfl (X.nilCheck rfl) rfl rfl rfl (by decide +kernel) ?_
      refine Draw.take0 rfl (X.fieldAddr rfl rfl rfl rfl rfl rfl) rfl rfl rfl (by decide +kernel) ?_
      refine Draw.take rfl (X.load1 rfl rfl rfl rfl Pick.head rfl) rfl rfl rfl (by decide +kernel) ?_
      refine Draw.take0 rfl (X.move rfl) rfl rfl rfl (by decide +kernel) ?_
      refine Draw.take0 rfl (X.nilCheck rfl) rfl rfl rfl (by decide +kernel) ?_
      refine Draw.take0 rfl (X.fieldAddr rfl rfl rfl rfl rfl rfl) rfl rfl rfl (by decide +kernel) ?_
      refine Draw.take rfl (X.load1 rfl rfl rfl rfl Pick.head rfl) rfl rfl rfl (by decide +kernel) ?_
    case' x5 => exfalso; omega
    refine Draw.eff rfl rfl (by decide +kernel) (Y.call rfl rfl (by first | assumption | decide +kernel) rfl (ready_any _ o c n last l (hp.ext (hZ3.then H.fr)) hl) rfl ?_)
    rintro v w4 ⟨hU, hf4⟩
    have hzq := (hZ3.then H.fr).size
    replace H := H.ext hf4
    refine ⟨H.at_, ?_⟩
    have hZ4 := hZ3.then H.fr
    replace H := H.anew (S' := []) (G' := [⟨_, _, false⟩]) (by repeat constructor) (by simp)
    skip
    refine Draw.eff rfl rfl (by decide +kernel) (Y.call rfl rfl (by first | assumption | decide +kernel) rfl (rready_any _ d r n last l (hd'.ext (hZ4.then H.fr)) hl) rfl ?_)
    rintro v w5 ⟨hU2, hf5⟩
    have hub := (hU.ext H.fr).lt
    replace H := H.ext hf5
    refine ⟨H.at_, ?_⟩
    replace hU := hU.ext H.fr
    have hZ5 := hZ4.then H.fr
    replace H := H.anew (S' := []) (G' := [⟨_, _, false⟩]) (by repeat constructor) (by simp)
    skip
    refine Draw.eff rfl rfl (by decide +kernel) (Y.call rfl rfl (by first | assumption | decide +kernel) rfl (numbers_any _ _ _ _ _ _ (hU.ext H.fr) (hU2.ext H.fr) (hU.blocks hU2 hub)) rfl ?_)
    rintro v w6 ⟨rfl, S, hf6, hS⟩
    have hx6 := hf6.get (H.pick .head) (fun hm => by have := hS _ hm; have := lt_of_at hx; omega)
    have hZ6 := (hZ5.then H.fr).grow hf6 (fun x hx => Nat.le_trans hzq (hS x hx))
    clear H
    have H := (Holds.start w6 []).add false hx6 (by simp) (by simp)
    refine ⟨H.at_, ?_⟩
    refine Draw.take0 rfl (X.assign rfl) rfl rfl rfl (by decide +kernel) ?_
    (refine Draw.done (by decide +kernel) (hK _ _ ?_); clear hK K)
    (first | refine Fn.ret1 HF rfl rfl ?_ | refine Fn.ret2 HF rfl rfl rfl ?_ | refine Fn.ret3 HF rfl rfl rfl rfl ?_ | refine Fn.ret0 HF rfl ?_ | refine Fn.fin0 HF rfl ?_ | refine Fn.retG (E := env) HF rfl H (by first | exact RVs.cellN rfl rfl rfl (by first | exact .head | exact .tail .head | exact .tail (.tail .head) | exact .tail (.tail (.tail .head)) | exact .tail (.tail (.tail (.tail .head))) | exact .tail (.tail (.tail (.tail (.tail .head)))) | exact .tail (.tail (.tail (.tail (.tail (.tail .head)))))) (by first | assumption | exact Cs.take rfl) RVs.nil | exact RVs.cellN rfl rfl rfl (by first | exact .head | exact .tail .head | exact .tail (.tail .head) | exact .tail (.tail (.tail .head)) | exact .tail (.tail (.tail (.tail .head))) | exact .tail (.tail (.tail (.tail (.tail .head)))) | exact .tail (.tail (.tail (.tail (.tail (.tail .head)))))) (by first | assumption | exact Cs.take rfl) (RVs.tmp rfl RVs.nil)) rfl ?_)
    exact ⟨rfl, hZ6.then H.fr⟩
end Go.Proofs.Ythidohdnaeboaaa
