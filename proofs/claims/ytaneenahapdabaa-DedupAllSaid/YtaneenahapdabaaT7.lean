/- Walks of layer 20: the document's Put. -/
import Derived.Test.YtaneenahapdabaaT6
namespace Go.Proofs.Ytaneenahapdabaa
open Go
set_option maxRecDepth 20000
set_option maxHeartbeats 2000000
attribute [local irreducible] Run Ops Fn Draw Draw2 PureOp StepZ

def DPut (z : World) (db size : Nat) (ids : List Int) (m : Int → Option CS) (id seq : Int) (bs : List Int) (v : Value) (w' : World) : Prop :=
  v = .int .i64 (putE ids.length (m id) seq bs) ∧ Fr z w' [db] ∧ ∃ ids' m', RD w' db size ids' m' ∧ ids'.Pairwise (· < ·) ∧ (∀ x, x ∈ ids' ↔ (m' x).isSome = true) ∧ m' id = putS size ids.length (m id) seq bs ∧ (∀ y, y ≠ id → m' y = m y) ∧ ids'.length = putN ids.length (m id) seq bs
theorem RL.keep2 {w w' : World} {S : List Nat} {v : Value} {s : CS} (h : RL w v s) (hf : Fr w w' S) (h96 : ∀ b ∈ S, ∀ cs, w.heap[b]? ≠ some (row cs 96)) (h5 : ∀ b ∈ S, No5 w b) : RL w' v s := by
  obtain ⟨bv, h1, h2⟩ := h
  exact ⟨bv, h1.keep hf h96, fun j hj => (h2 j hj).keep hf h5⟩
theorem dput_fail {z w' : World} {db size : Nat} {ids : List Int} {m : Int → Option CS} {id seq e : Int} {bs : List Int} (h : RD z db size ids m) (hs : ids.Pairwise (· < ·)) (hm : ∀ x, x ∈ ids ↔ (m x).isSome = true) (hf : Fr z w' []) (he : putE ids.length (m id) seq bs = e) (h0 : e ≠ 0) : DPut z db size ids m id seq bs (.int .i64 e) w' := by
  subst he
  refine ⟨rfl, hf.mono (by simp), ids, m, h.ext hf, hs, hm, ?_, fun _ _ => rfl, ?_⟩
  · unfold putS; rw [if_neg h0]
  · unfold putN; rw [if_neg (fun hh => h0 hh.1)]
theorem dput_any (z : World) (db size : Nat) (ids : List Int) (m : Int → Option CS) (id seq : Int) (V : Value) (bs : List Int) (h : RD z db size ids m) (hs : ids.Pairwise (· < ·)) (hm : ∀ x, x ∈ ids ↔ (m x).isSome = true) (hF : ∀ x s, m x = some s → Full size s) (h1 : 1 ≤ size) (h2 : size ≤ 64) (hN : ids.length ≤ 1024) (hV : Bys z V bs) (h0 : 0 ≤ seq) :
    Fn env.P 29 [.pointer (some ⟨db, 0, none⟩), .int .u64 id, .int .u64 seq, V] z (DPut z db size ids m id seq bs) := by
  have h' := h
  obtain ⟨xa, xcap, xb, xoff, xcs, xT, xfz, rfl, hx1, hx2, hx3, hx4⟩ := hV
  have hkn : ∀ x s, m x = some s → ∀ y, (s.ans y).isSome = true ↔ y ∈ s.seqs := fun x s hx => (hF x s hx).ris.kn
  have H := Holds.start z []
  have HF := Try.func29; refine Fn.enter Try.func29 Try.ntmps29 rfl rfl rfl ?_
  (refine Run.seq (Run.region ?_); intro K hK)
  refine Ops.pure H (X.assign rfl) rfl rfl rfl ?_
  (refine Ops.nil (hK _ _ (Run.seq (Run.region ?_))); clear hK K; intro K hK)
  refine Ops.pure H (X.move rfl) rfl rfl rfl ?_
  refine Ops.pure H (X.move rfl) rfl rfl rfl ?_
  refine Ops.pure H (X.move rfl) rfl rfl rfl ?_
  refine Ops.eff rfl (Y.call rfl rfl (by first | assumption | decide +kernel) rfl (dAsk_any _ db size ids m id seq (h.ext H.fr) hs hm hkn) rfl ?_)
  rintro v w1 ⟨hf1, b, rfl, _⟩
  replace H := H.ext hf1
  refine Ops.pure H (X.move rfl) rfl rfl rfl ?_
  refine Ops.pure H (X.extract rfl rfl) rfl rfl rfl ?_
  refine Ops.pure H (X.extract rfl rfl) rfl rfl rfl ?_
  refine Ops.pure H (X.extract rfl rfl) rfl rfl rfl ?_
  refine Ops.pure H (X.assign rfl) rfl rfl rfl ?_
  refine Ops.pure H (X.assign rfl) rfl rfl rfl ?_
  refine Ops.pure H (X.assign rfl) rfl rfl rfl ?_
  (refine Ops.nil (hK _ _ (Run.seq (Run.region ?_))); clear hK K; intro K hK)
  refine Ops.pure H (X.move rfl) rfl rfl rfl ?_
  refine Ops.pure H (X.move rfl) rfl rfl rfl ?_
  refine Ops.eff rfl (Y.call rfl rfl (by first | assumption | decide +kernel) rfl (find_any _ db size ids m id (h.ext H.fr) hs) rfl ?_)
  rintro v w2 ⟨rfl, hf2⟩
  replace H := H.ext hf2
  obtain ⟨v, hd, lv, hVc, hL⟩ := h
  obtain ⟨a, cap, rfl⟩ := hVc.slice
  obtain ⟨_, hc1, hc2⟩ := hVc.len
  have hao := hVc.aok
  have hi := idxL_le id ids
  obtain ⟨i, hix⟩ : ∃ i, i = idxL ids id := ⟨_, rfl⟩
  rw [← hix] at hi ⊢
  obtain ⟨fl, hfl⟩ : ∃ q, q = decide (id ∈ ids) := ⟨_, rfl⟩
  rw [← hfl]
  have hd2 := H.fr.get hd (by simp)
  have F2 := H.fr
  clear H
  rename World => w2
  have H := (Holds.start w2 []).add false hd2 (by simp) (by simp)
  by_cases hseq : seq = 0
  · rw [if_pos hseq, if_pos hseq]
    refine Ops.pure H (X.move rfl) rfl rfl rfl ?_
    refine Ops.pure H (X.extract rfl rfl) rfl rfl rfl ?_
    refine Ops.pure H (X.extract rfl rfl) rfl rfl rfl ?_
    refine Ops.pure H (X.assign rfl) rfl rfl rfl ?_
    refine Ops.pure H (X.assign rfl) rfl rfl rfl ?_
    (refine Ops.nil (hK _ _ ?_); clear hK K)
    refine Run.seq ?_
    refine Run.block ?_
    (refine Run.seq (Run.region ?_); intro K hK)
    refine Ops.pure H (X.move rfl) rfl rfl rfl ?_
    refine Ops.pure H (X.cmp rfl rfl rfl) rfl rfl rfl ?_
    refine Ops.pure H (X.assign rfl) rfl rfl rfl ?_
    (refine Ops.nil (hK _ _ ?_); clear hK K)
    refine Run.cond_true rfl ?_
    (refine Run.seq (Run.region ?_); intro K hK)
    refine Ops.pure H (X.move rfl) rfl rfl rfl ?_
    refine Ops.pure H (X.assign rfl) rfl rfl rfl ?_
    (refine Ops.nil (hK _ _ ?_); clear hK K)
    refine Fn.ret1 HF rfl rfl ?_
    exact dput_fail h' hs hm (F2.then H.fr) (by simp [putE, hseq]) (by decide)
  rw [if_neg hseq, if_neg hseq]
  by_cases hlen : 65536 < bs.length
  · refine Ops.pure H (X.move rfl) rfl rfl rfl ?_
    refine Ops.pure H (X.extract rfl rfl) rfl rfl rfl ?_
    refine Ops.pure H (X.extract rfl rfl) rfl rfl rfl ?_
    refine Ops.pure H (X.assign rfl) rfl rfl rfl ?_
    refine Ops.pure H (X.assign rfl) rfl rfl rfl ?_
    (refine Ops.nil (hK _ _ ?_); clear hK K)
    refine Run.seq ?_
    refine Run.block ?_
    (refine Run.seq (Run.region ?_); intro K hK)
    refine Ops.pure H (X.move rfl) rfl rfl rfl ?_
    refine Ops.pure H (X.cmp rfl rfl rfl) rfl rfl rfl ?_
    refine Ops.pure H (X.assign rfl) rfl rfl rfl ?_
    (refine Ops.nil (hK _ _ ?_); clear hK K)
    refine Run.cond_false rfl ?_
    (refine Run.seq (Run.region ?_); intro K hK)
    refine Ops.pure H (X.move rfl) rfl rfl rfl ?_
    refine Ops.pure H (X.len_slice rfl rfl rfl) rfl rfl rfl ?_
    refine Ops.pure H (X.cmp rfl rfl rfl) rfl rfl rfl ?_
    refine Ops.pure H (X.assign rfl) rfl rfl rfl ?_
    (refine Ops.nil (hK _ _ ?_); clear hK K)
    refine Run.cond_dec rfl (fun h37 => ?x0) (fun h37 => ?y0)
    case' y0 => exfalso; omega
    case' x0 =>
      (refine Run.seq (Run.region ?_); intro K hK)
      refine Ops.pure H (X.assign rfl) rfl rfl rfl ?_
      (refine Ops.nil (hK _ _ ?_); clear hK K)
    refine Fn.ret1 HF rfl rfl ?_
    exact dput_fail h' hs hm (F2.then H.fr) (by unfold putE; rw [if_neg hseq, if_pos hlen]) (by decide)
  by_cases hk : ¬ askK (m id) seq = 1
  · refine Ops.pure H (X.move rfl) rfl rfl rfl ?_
    refine Ops.pure H (X.extract rfl rfl) rfl rfl rfl ?_
    refine Ops.pure H (X.extract rfl rfl) rfl rfl rfl ?_
    refine Ops.pure H (X.assign rfl) rfl rfl rfl ?_
    refine Ops.pure H (X.assign rfl) rfl rfl rfl ?_
    (refine Ops.nil (hK _ _ ?_); clear hK K)
    refine Run.seq ?_
    refine Run.block ?_
    (refine Run.seq (Run.region ?_); intro K hK)
    refine Ops.pure H (X.move rfl) rfl rfl rfl ?_
    refine Ops.pure H (X.cmp rfl rfl rfl) rfl rfl rfl ?_
    refine Ops.pure H (X.assign rfl) rfl rfl rfl ?_
    (refine Ops.nil (hK _ _ ?_); clear hK K)
    refine Run.cond_false rfl ?_
    (refine Run.seq (Run.region ?_); intro K hK)
    refine Ops.pure H (X.move rfl) rfl rfl rfl ?_
    refine Ops.pure H (X.len_slice rfl rfl rfl) rfl rfl rfl ?_
    refine Ops.pure H (X.cmp rfl rfl rfl) rfl rfl rfl ?_
    refine Ops.pure H (X.assign rfl) rfl rfl rfl ?_
    (refine Ops.nil (hK _ _ ?_); clear hK K)
    refine Run.cond_dec rfl (fun h37 => ?x1) (fun h37 => ?y1)
    case' y1 =>
      (refine Run.seq (Run.region ?_); intro K hK)
      refine Ops.pure H (X.move rfl) rfl rfl rfl ?_
      refine Ops.pure H (X.cmp rfl rfl rfl) rfl rfl rfl ?_
      refine Ops.pure H (X.assign rfl) rfl rfl rfl ?_
      (refine Ops.nil (hK _ _ ?_); clear hK K)
      refine Run.cond_ndec rfl (fun h41 => ?x2) (fun h41 => ?y2)
      case' y2 => exfalso; omega
      case' x2 =>
        (refine Run.seq (Run.region ?_); intro K hK)
        refine Ops.pure H (X.assign rfl) rfl rfl rfl ?_
        (refine Ops.nil (hK _ _ ?_); clear hK K)
    case' x1 => exfalso; omega
    refine Fn.ret1 HF rfl rfl ?_
    exact dput_fail h' hs hm (F2.then H.fr) (by unfold putE; rw [if_neg hseq, if_neg hlen, if_pos hk]) (by decide)
  replace hk : askK (m id) seq = 1 := Classical.not_not.1 hk
  have hsome : (m id).isNone = !fl := by
    rw [hfl]
    by_cases hin : id ∈ ids
    · have := (hm id).1 hin
      cases hx : m id with
      | none => rw [hx] at this; cases this
      | some s => simp [hin]
    · cases hx : m id with
      | none => simp [hin]
      | some s => exact absurd ((hm id).2 (by rw [hx]; rfl)) hin
  by_cases hfull : fl = false ∧ 1024 ≤ ids.length
  · rw [hfull.1]
    have hge := hfull.2
    refine Ops.pure H (X.move rfl) rfl rfl rfl ?_
    refine Ops.pure H (X.extract rfl rfl) rfl rfl rfl ?_
    refine Ops.pure H (X.extract rfl rfl) rfl rfl rfl ?_
    refine Ops.pure H (X.assign rfl) rfl rfl rfl ?_
    refine Ops.pure H (X.assign rfl) rfl rfl rfl ?_
    (refine Ops.nil (hK _ _ ?_); clear hK K)
    refine Run.seq ?_
    refine Run.block ?_
    (refine Run.seq (Run.region ?_); intro K hK)
    refine Ops.pure H (X.move rfl) rfl rfl rfl ?_
    refine Ops.pure H (X.cmp rfl rfl rfl) rfl rfl rfl ?_
    refine Ops.pure H (X.assign rfl) rfl rfl rfl ?_
    (refine Ops.nil (hK _ _ ?_); clear hK K)
    refine Run.cond_false rfl ?_
    (refine Run.seq (Run.region ?_); intro K hK)
    refine Ops.pure H (X.move rfl) rfl rfl rfl ?_
    refine Ops.pure H (X.len_slice rfl rfl rfl) rfl rfl rfl ?_
    refine Ops.pure H (X.cmp rfl rfl rfl) rfl rfl rfl ?_
    refine Ops.pure H (X.assign rfl) rfl rfl rfl ?_
    (refine Ops.nil (hK _ _ ?_); clear hK K)
    refine Run.cond_dec rfl (fun h37 => ?x3) (fun h37 => ?y3)
    case' y3 =>
      (refine Run.seq (Run.region ?_); intro K hK)
      refine Ops.pure H (X.move rfl) rfl rfl rfl ?_
      refine Ops.pure H (X.cmp rfl rfl rfl) rfl rfl rfl ?_
      refine Ops.pure H (X.assign rfl) rfl rfl rfl ?_
      (refine Ops.nil (hK _ _ ?_); clear hK K)
      refine Run.cond_ndec rfl (fun h41 => ?x4) (fun h41 => ?y4)
      case' y4 =>
        (refine Run.seq (Run.region ?_); intro K hK)
        refine Ops.pure H (X.move rfl) rfl rfl rfl ?_
        refine Ops.pure H (X.not rfl) rfl rfl rfl ?_
        refine Ops.pure H (X.move rfl) rfl rfl rfl ?_
        refine Ops.pure H (X.move rfl) rfl rfl rfl ?_
        refine Ops.pure H (X.nilCheck rfl) rfl rfl rfl ?_
        refine Ops.pure H (X.fieldAddr rfl rfl rfl rfl rfl rfl) rfl rfl rfl ?_
        refine Ops.pure H (X.load1 rfl rfl rfl rfl Pick.head rfl) rfl rfl rfl ?_
        refine Ops.pure H (X.len_slice rfl rfl rfl) rfl rfl rfl ?_
        refine Ops.pure H (X.cmp rfl rfl rfl) rfl rfl rfl ?_
        refine Ops.pure H (X.pick_t rfl rfl) rfl rfl rfl ?_
        refine Ops.pure H (X.assign rfl) rfl rfl rfl ?_
        (refine Ops.nil (hK _ _ ?_); clear hK K)
        refine Run.cond_dec rfl (fun h44 => ?x5) (fun h44 => ?y5)
        case' y5 => exfalso; omega
        case' x5 =>
          (refine Run.seq (Run.region ?_); intro K hK)
          refine Ops.pure H (X.assign rfl) rfl rfl rfl ?_
          (refine Ops.nil (hK _ _ ?_); clear hK K)
      case' x4 => exfalso; omega
    case' x3 => exfalso; omega
    refine Fn.ret1 HF rfl rfl ?_
    exact dput_fail h' hs hm (F2.then H.fr) (by unfold putE; rw [if_neg hseq, if_neg hlen, if_neg (fun h => h hk), if_pos ⟨by rw [hsome, hfull.1]; rfl, hge⟩]) (by decide)
  have hE : putE ids.length (m id) seq bs = 0 := by
    unfold putE
    rw [if_neg hseq, if_neg hlen, if_neg (fun h => h hk), if_neg]
    rw [hsome]
    rintro ⟨e1, e2⟩
    exact hfull ⟨by simpa using e1, e2⟩
  refine Ops.pure H (X.move rfl) rfl rfl rfl ?_
  refine Ops.pure H (X.extract rfl rfl) rfl rfl rfl ?_
  refine Ops.pure H (X.extract rfl rfl) rfl rfl rfl ?_
  refine Ops.pure H (X.assign rfl) rfl rfl rfl ?_
  refine Ops.pure H (X.assign rfl) rfl rfl rfl ?_
  (refine Ops.nil (hK _ _ ?_); clear hK K)
  refine Run.seq ?_
  refine Run.meet (fun (_ : Unit) => [(0, .pointer (some ⟨db, 0, none⟩)), (1, .int .u64 id), (2, .int .u64 seq), (3, .slice xa bs.length xcap), (12, .int .i64 (i : Nat)), (13, .bool fl)]) (fun _ w' => Fr z w' []) ?_ ?_
  rotate_left
  · intro kk go
    cases fl with
    | true =>
      refine Run.block ?_
      (refine Run.seq (Run.region ?_); intro K hK)
      refine Ops.pure H (X.move rfl) rfl rfl rfl ?_
      refine Ops.pure H (X.cmp rfl rfl rfl) rfl rfl rfl ?_
      refine Ops.pure H (X.assign rfl) rfl rfl rfl ?_
      (refine Ops.nil (hK _ _ ?_); clear hK K)
      refine Run.cond_false rfl ?_
      (refine Run.seq (Run.region ?_); intro K hK)
      refine Ops.pure H (X.move rfl) rfl rfl rfl ?_
      refine Ops.pure H (X.len_slice rfl rfl rfl) rfl rfl rfl ?_
      refine Ops.pure H (X.cmp rfl rfl rfl) rfl rfl rfl ?_
      refine Ops.pure H (X.assign rfl) rfl rfl rfl ?_
      (refine Ops.nil (hK _ _ ?_); clear hK K)
      refine Run.cond_dec rfl (fun h37 => ?x6) (fun h37 => ?y6)
      case' y6 =>
        (refine Run.seq (Run.region ?_); intro K hK)
        refine Ops.pure H (X.move rfl) rfl rfl rfl ?_
        refine Ops.pure H (X.cmp rfl rfl rfl) rfl rfl rfl ?_
        refine Ops.pure H (X.assign rfl) rfl rfl rfl ?_
        (refine Ops.nil (hK _ _ ?_); clear hK K)
        refine Run.cond_ndec rfl (fun h41 => ?x7) (fun h41 => ?y7)
        case' y7 =>
          (refine Run.seq (Run.region ?_); intro K hK)
          refine Ops.pure H (X.move rfl) rfl rfl rfl ?_
          refine Ops.pure H (X.not rfl) rfl rfl rfl ?_
          refine Ops.pure H (X.move rfl) rfl rfl rfl ?_
          refine Ops.pass rfl rfl rfl ?_
          refine Ops.pass rfl rfl rfl ?_
          refine Ops.pass rfl rfl rfl ?_
          refine Ops.pass rfl rfl rfl ?_
          refine Ops.pass rfl rfl rfl ?_
          refine Ops.pass rfl rfl rfl ?_
          refine Ops.pure H (X.pick_f rfl rfl) rfl rfl rfl ?_
          refine Ops.pure H (X.assign rfl) rfl rfl rfl ?_
          (refine Ops.nil (hK _ _ ?_); clear hK K)
          refine Run.cond_false rfl ?_
          refine Run.skip ?_
          refine Run.inBlock ?_
        case' x7 => exfalso; omega
      case' x6 => exfalso; omega
      exact go () _ _ (F2.then H.fr) (by repeat (first | exact trivial | refine ⟨rfl, ?_⟩))
    | false =>
      have hlt : ¬ 1024 ≤ ids.length := fun h => hfull ⟨rfl, h⟩
      refine Run.block ?_
      (refine Run.seq (Run.region ?_); intro K hK)
      refine Ops.pure H (X.move rfl) rfl rfl rfl ?_
      refine Ops.pure H (X.cmp rfl rfl rfl) rfl rfl rfl ?_
      refine Ops.pure H (X.assign rfl) rfl rfl rfl ?_
      (refine Ops.nil (hK _ _ ?_); clear hK K)
      refine Run.cond_false rfl ?_
      (refine Run.seq (Run.region ?_); intro K hK)
      refine Ops.pure H (X.move rfl) rfl rfl rfl ?_
      refine Ops.pure H (X.len_slice rfl rfl rfl) rfl rfl rfl ?_
      refine Ops.pure H (X.cmp rfl rfl rfl) rfl rfl rfl ?_
      refine Ops.pure H (X.assign rfl) rfl rfl rfl ?_
      (refine Ops.nil (hK _ _ ?_); clear hK K)
      refine Run.cond_dec rfl (fun h37 => ?x8) (fun h37 => ?y8)
      case' y8 =>
        (refine Run.seq (Run.region ?_); intro K hK)
        refine Ops.pure H (X.move rfl) rfl rfl rfl ?_
        refine Ops.pure H (X.cmp rfl rfl rfl) rfl rfl rfl ?_
        refine Ops.pure H (X.assign rfl) rfl rfl rfl ?_
        (refine Ops.nil (hK _ _ ?_); clear hK K)
        refine Run.cond_ndec rfl (fun h41 => ?x9) (fun h41 => ?y9)
        case' y9 =>
          (refine Run.seq (Run.region ?_); intro K hK)
          refine Ops.pure H (X.move rfl) rfl rfl rfl ?_
          refine Ops.pure H (X.not rfl) rfl rfl rfl ?_
          refine Ops.pure H (X.move rfl) rfl rfl rfl ?_
          refine Ops.pure H (X.move rfl) rfl rfl rfl ?_
          refine Ops.pure H (X.nilCheck rfl) rfl rfl rfl ?_
          refine Ops.pure H (X.fieldAddr rfl rfl rfl rfl rfl rfl) rfl rfl rfl ?_
          refine Ops.pure H (X.load1 rfl rfl rfl rfl Pick.head rfl) rfl rfl rfl ?_
          refine Ops.pure H (X.len_slice rfl rfl rfl) rfl rfl rfl ?_
          refine Ops.pure H (X.cmp rfl rfl rfl) rfl rfl rfl ?_
          refine Ops.pure H (X.pick_t rfl rfl) rfl rfl rfl ?_
          refine Ops.pure H (X.assign rfl) rfl rfl rfl ?_
          (refine Ops.nil (hK _ _ ?_); clear hK K)
          refine Run.cond_dec rfl (fun h44 => ?x10) (fun h44 => ?y10)
          case' y10 =>
            refine Run.skip ?_
            refine Run.inBlock ?_
          case' x10 => exfalso; omega
        case' x9 => exfalso; omega
      case' x8 => exfalso; omega
      exact go () _ _ (F2.then H.fr) (by repeat (first | exact trivial | refine ⟨rfl, ?_⟩))
  clear H hd2 F2 hfull
  rintro _ w3 F3
  have hd3 := F3.get hd (by simp)
  have H := (Holds.start w3 []).add false hd3 (by simp) (by simp)
  (refine Run.seq (Run.region ?_); intro K hK)
  refine Ops.pure H (X.move rfl) rfl rfl rfl ?_
  refine Ops.pure H (X.buildO rfl rfl rfl rfl rfl rfl) rfl rfl rfl ?_
  (refine Ops.eff rfl (Y.alloc rfl rfl rfl H ?_); intro b14 w H0 hb14; clear H; have H := H0; clear H0)
  (refine Ops.eff rfl (Y.storeO rfl rfl rfl rfl rfl rfl H Upd.head rfl ?_); intro w H0; clear H; have H := H0; clear H0)
  (refine Ops.nil (hK _ _ (Run.seq (Run.region ?_))); clear hK K; intro K hK)
  refine Ops.pure H (X.move rfl) rfl rfl rfl ?_
  refine Ops.pure H (X.nilCheck rfl) rfl rfl rfl ?_
  refine Ops.pure H (X.fieldAddr rfl rfl rfl rfl rfl rfl) rfl rfl rfl ?_
  refine Ops.pure H (X.load1 rfl rfl rfl rfl (.tail .head) rfl) rfl rfl rfl ?_
  refine Ops.pure H (X.move rfl) rfl rfl rfl ?_
  refine Ops.pure H (X.slice_lA (j := i) hao hc1 rfl rfl hi rfl rfl rfl rfl) rfl rfl rfl ?_
  refine Ops.pure H (X.assign rfl) rfl rfl rfl ?_
  (refine Ops.nil (hK _ _ ?_); clear hK K)
  have F4 := F3.then H.fr
  have hc14 := H.pick (b := b14) (by repeat (first | exact .head | apply Pick.tail))
  have hz3 := F3.size
  have hb14z : z.heap.size ≤ b14 := by omega
  clear H hd3
  rename World => w4
  have hd4 := F4.get hd (by simp)
  have n14 : b14 ≠ db := by have := lt_of_at hd; omega
  obtain ⟨s0, hs0⟩ : ∃ s0, s0 = (m id).getD cs0 := ⟨_, rfl⟩
  obtain ⟨j0, hj0⟩ : ∃ j0, j0 = if id ∈ ids then i + 1 else i := ⟨_, rfl⟩
  obtain ⟨FC, hFC⟩ : ∃ FC : Nat → List Value, FC = fun t => [.int .u64 (ids.getD t 0), .int .u64 (gm m ids t).floor, lv t] := ⟨_, rfl⟩
  rw [← hFC] at hVc
  have hj0l : j0 ≤ ids.length := by
    rw [hj0]
    split
    · rename_i hin
      have := ((idxL_mem hs id).1 hin).1
      omega
    · exact hi
  refine Run.seq ?_
  refine Run.meet (fun (x : Option Addr × Nat) => [(0, .pointer (some ⟨db, 0, none⟩)), (2, .int .u64 seq), (3, .slice xa bs.length xcap), (12, .int .i64 (i : Nat)), (14, .pointer (some ⟨b14, 0, none⟩)), (15, .slice x.1 (ids.length - j0) x.2)])
    (fun x w' => Fr z w' [] ∧ (∃ lv0, w'.heap[b14]? = some (row [.int .u64 id, .int .u64 s0.floor, lv0] 84) ∧ RL z lv0 s0) ∧ Vw z (.slice x.1 (ids.length - j0) x.2) 84 3 (ids.length - j0) (fun t => FC (j0 + t))) ?_ ?_
  rotate_left
  · intro kk go
    cases fl with
    | true =>
      have hin : id ∈ ids := of_decide_eq_true hfl.symm
      obtain ⟨hlt, hid⟩ := (idxL_mem hs id).1 hin
      rw [← hix] at hlt hid
      rw [if_pos hin] at hj0
      obtain ⟨b, off, cs, rfl, hb, hcs⟩ := hVc.pos (by omega)
      have hci := hcs i hlt
      rw [hFC] at hci
      have hgs : gm m ids i = s0 := by rw [gm, hid, hs0]
      have hLi := hL i hlt
      dsimp only at hci
      rw [hid, hgs] at hci
      rw [hgs] at hLi
      obtain ⟨bv, hV2, hA⟩ := hLi
      obtain ⟨la, lcap, hlv⟩ := hV2.slice
      rw [hlv] at hci
      have hb4 := F4.get hb (by simp)
      have nbd : b ≠ db := ne_of_ty hb hd (by decide)
      have nb14 : b ≠ b14 := by have := lt_of_at hb; omega
      have H := (((Holds.start w4 [b14]).add false hb4 (by simp) (by simp)).add false hd4 (by simpa using nbd.symm) (by simp)).add true hc14 (by simpa using ⟨n14, nb14.symm⟩) (by simp)
      (refine Run.seq (Run.region ?_); intro K hK)
      refine Ops.pure H (X.move rfl) rfl rfl rfl ?_
      (refine Ops.nil (hK _ _ ?_); clear hK K)
      refine Run.cond_true rfl ?_
      (refine Run.seq (Run.region ?_); intro K hK)
      refine Ops.pure H (X.move rfl) rfl rfl rfl ?_
      refine Ops.pure H (X.nilCheck rfl) rfl rfl rfl ?_
      refine Ops.pure H (X.fieldAddr rfl rfl rfl rfl rfl rfl) rfl rfl rfl ?_
      refine Ops.pure H (X.load1 rfl rfl rfl rfl (.tail .head) rfl) rfl rfl rfl ?_
      refine Ops.pure H (X.move rfl) rfl rfl rfl ?_
      refine Ops.pure H (X.indexAddr rfl rfl (by omega) rfl rfl rfl rfl) rfl rfl rfl ?_
      refine Ops.pure H (X.loadN rfl rfl rfl (.tail (.tail .head)) (by assumption)) rfl rfl rfl ?_
      (refine Ops.eff rfl (Y.storeO rfl rfl rfl rfl rfl rfl H Upd.head rfl ?_); intro w H0; clear H; have H := H0; clear H0)
      (refine Ops.nil (hK _ _ ?_); clear hK K)
      (refine Run.region ?_; intro K hK)
      refine Ops.pure H (X.move rfl) rfl rfl rfl ?_
      refine Ops.pure H (X.nilCheck rfl) rfl rfl rfl ?_
      refine Ops.pure H (X.fieldAddr rfl rfl rfl rfl rfl rfl) rfl rfl rfl ?_
      refine Ops.pure H (X.load1 rfl rfl rfl rfl (.tail .head) rfl) rfl rfl rfl ?_
      refine Ops.pure H (X.move rfl) rfl rfl rfl ?_
      refine Ops.pure H (X.succ rfl rfl (by omega)) rfl rfl rfl ?_
      refine Ops.pure H (X.slice_l rfl rfl (by omega) rfl rfl rfl rfl) rfl rfl rfl ?_
      refine Ops.pure H (X.assign rfl) rfl rfl rfl ?_
      (refine Ops.nil (hK _ _ ?_); clear hK K)
      have FF : Fr z _ [] := F4.trans H.fr (U := []) (by simp) (fun x hx hl => by simp at hx; omega)
      have hdr := hVc.dropA (j := i + 1) (by omega)
      subst hj0
      refine go (dropA (some ⟨b, off, none⟩) cap (i + 1) 3, cap - (i + 1)) _ _ ⟨FF, ⟨lv i, ?_, ⟨bv, hV2, hA⟩⟩, hdr⟩ (by repeat (first | exact trivial | refine ⟨rfl, ?_⟩))
      rw [hlv]
      exact H.pick (b := b14) (by repeat (first | exact .head | apply Pick.tail))
    | false =>
      have hin : ¬ id ∈ ids := of_decide_eq_false hfl.symm
      rw [if_neg hin] at hj0
      have hmn : m id = none := by
        cases hx : m id with
        | none => rfl
        | some s => exact absurd ((hm id).2 (by rw [hx]; rfl)) hin
      have hs00 : s0 = cs0 := by rw [hs0, hmn]; rfl
      have H := (Holds.start w4 []).add false hc14 (by simp) (by simp)
      (refine Run.seq (Run.region ?_); intro K hK)
      refine Ops.pure H (X.move rfl) rfl rfl rfl ?_
      (refine Ops.nil (hK _ _ ?_); clear hK K)
      refine Run.cond_false rfl ?_
      refine Run.skip ?_
      have FF := F4.then H.fr
      have hdr := hVc.dropA (j := i) (by omega)
      subst hj0
      refine go (_, _) _ _ ⟨FF, ⟨.slice none 0 0, ?_, ?_⟩, hdr⟩ (by repeat (first | exact trivial | refine ⟨rfl, ?_⟩))
      · rw [hs00]
        exact H.pick (b := b14) (by repeat (first | exact .head | apply Pick.tail))
      · rw [hs00]
        exact ⟨fun _ => undef, Vw.none0, fun j hj => by simp [cs0] at hj⟩
  clear hc14 hd4 F4
  rintro ⟨ra, rcap⟩ w5 ⟨F5, ⟨lv0, hc14, bv, hV2, hA⟩, hVr⟩
  dsimp only at hVr ⊢
  obtain ⟨la, lcap, rfl⟩ := hV2.slice
  obtain ⟨_, hl1, hl2⟩ := hV2.len
  have hlo := hV2.aok
  have hFs0 : s0 = cs0 ∨ Full size s0 := by
    rw [hs0]
    cases hx : m id with
    | none => exact .inl rfl
    | some s => exact .inr (hF id s hx)
  have hup : s0.seqs.Pairwise (· < ·) := hFs0.elim (fun e => by rw [e]; simp [cs0]) (fun h => h.ris.up)
  have hn64 : s0.seqs.length ≤ size := hFs0.elim (fun e => by rw [e]; simp [cs0]) (fun h => h.le)
  have hfr := ask_fresh (by omega : 0 < seq) hk
  rw [← hs0] at hfr
  have hno : seq ∉ s0.seqs := fun hmm => by
    rcases hFs0 with e | h
    · rw [e] at hmm; simp [cs0] at hmm
    · have := (h.ris.kn seq).2 hmm
      rw [hfr.2] at this
      cases this
  obtain ⟨n0, hn0⟩ : ∃ n0, n0 = s0.seqs.length := ⟨_, rfl⟩
  rw [← hn0] at hV2 hA hl1 hn64 hc14
  obtain ⟨kx, hkx⟩ : ∃ kx, kx = idxL s0.seqs seq := ⟨_, rfl⟩
  have hkxl : kx ≤ n0 := by rw [hkx, hn0]; exact idxL_le _ _
  have hd5 := F5.get hd (by simp)
  have hb14l := lt_of_at hc14
  have H := Holds.start w5 []
  (refine Run.seq (Run.region ?_); intro K hK)
  refine Ops.pure H (X.assign rfl) rfl rfl rfl ?_
  (refine Ops.nil (hK _ _ ?_); clear hK K)
  clear H
  refine Run.seq ?_
  refine Run.meet (fun (_ : Unit) => [(0, .pointer (some ⟨db, 0, none⟩)), (2, .int .u64 seq), (3, .slice xa bs.length xcap), (12, .int .i64 (i : Nat)), (14, .pointer (some ⟨b14, 0, none⟩)), (15, .slice ra (ids.length - j0) rcap), (16, .int .i64 (kx : Nat))]) (fun _ w' => Fr w5 w' []) ?_ ?_
  rotate_left
  · intro kk go
    have H := (Holds.start w5 []).add false hc14 (by simp) (by simp)
    refine Run.block ?_
    refine Run.rounds (fun (k : Nat) => [(0, .pointer (some ⟨db, 0, none⟩)), (2, .int .u64 seq), (3, .slice xa bs.length xcap), (12, .int .i64 (i : Nat)), (14, .pointer (some ⟨b14, 0, none⟩)), (15, .slice ra (ids.length - j0) rcap), (16, .int .i64 (k : Nat))]) (fun k w' => Fr w5 w' [] ∧ k ≤ n0 ∧ ∀ j, j < k → s0.seqs.getD j 0 < seq) (fun k => n0 - k) 0 (by repeat (first | exact trivial | refine ⟨rfl, ?_⟩)) ⟨H.fr, by omega, by intro j hj; omega⟩ ?_
    clear H
    rintro k w6 ⟨hf6, hk6, hlt6⟩ IH
    have hc6 := hf6.get hc14 (by simp)
    by_cases hkn : k < n0
    · obtain ⟨b2, off2, cs2, rfl, hb2, hcs2⟩ := hV2.pos (by omega)
      have hb26 := hf6.get (F5.get hb2 (by simp)) (by simp)
      have c20 : cs2[off2 + k * 2 + 0]? = some (.int .u64 (s0.seqs.getD k 0)) := (hcs2 k hkn).get 0 _ rfl
      have n2 : b2 ≠ b14 := by have := lt_of_at hb2; omega
      have H := ((Holds.start w6 []).add false hb26 (by simp) (by simp)).add false hc6 (by simpa using n2.symm) (by simp)
      by_cases hl : s0.seqs.getD k 0 < seq
      · refine Run.seq ?_
        (refine Run.seq (Run.region ?_); intro K hK)
        refine Ops.pure H (X.move rfl) rfl rfl rfl ?_
        refine Ops.pure H (X.fieldAddr rfl rfl rfl rfl rfl rfl) rfl rfl rfl ?_
        refine Ops.pure H (X.load1 rfl rfl rfl rfl Pick.head rfl) rfl rfl rfl ?_
        refine Ops.pure H (X.len_slice rfl rfl rfl) rfl rfl rfl ?_
        refine Ops.pure H (X.cmp rfl rfl rfl) rfl rfl rfl ?_
        refine Ops.pure H (X.move rfl) rfl rfl rfl ?_
        refine Ops.split_dec rfl rfl (fun h84 => ?x11) (fun h84 => ?y11)
        case' y11 => exfalso; omega
        case' x11 =>
          refine Ops.pure H (X.fieldAddr rfl rfl rfl rfl rfl rfl) rfl rfl rfl ?_
          refine Ops.pure H (X.load1 rfl rfl rfl rfl Pick.head rfl) rfl rfl rfl ?_
          refine Ops.pure H (X.move rfl) rfl rfl rfl ?_
          refine Ops.pure H (X.indexAddr rfl rfl (by omega) rfl rfl rfl rfl) rfl rfl rfl ?_
          refine Ops.pure H (X.fieldAddr rfl rfl rfl rfl rfl rfl) rfl rfl rfl ?_
          refine Ops.pure H (X.load1 rfl rfl rfl rfl (.tail .head) (by assumption)) rfl rfl rfl ?_
          refine Ops.pure H (X.move rfl) rfl rfl rfl ?_
          refine Ops.pure H (X.cmp rfl rfl rfl) rfl rfl rfl ?_
          refine Ops.pure H (X.pick_t rfl rfl) rfl rfl rfl ?_
          (refine Ops.nil (hK _ _ ?_); clear hK K)
          refine Run.cond_dec rfl (fun h92 => ?x12) (fun h92 => ?y12)
          case' y12 => exfalso; omega
          case' x12 =>
            refine Run.skip ?_
            refine Run.block ?_
            (refine Run.region ?_; intro K hK)
            refine Ops.pure H (X.move rfl) rfl rfl rfl ?_
            refine Ops.pure H (X.succ rfl rfl (by omega)) rfl rfl rfl ?_
            refine Ops.pure H (X.assign rfl) rfl rfl rfl ?_
            (refine Ops.nil (hK _ _ ?_); clear hK K)
            refine Run.inBlock ?_
        refine (IH (k + 1) _ (by omega) ⟨hf6.then H.fr, by omega, fun j hj => ?_⟩).weak (by repeat (first | exact trivial | refine ⟨rfl, ?_⟩))
        rcases Nat.lt_succ_iff_lt_or_eq.1 hj with h | rfl
        · exact hlt6 j h
        · exact hl
      · refine Run.seq ?_
        (refine Run.seq (Run.region ?_); intro K hK)
        refine Ops.pure H (X.move rfl) rfl rfl rfl ?_
        refine Ops.pure H (X.fieldAddr rfl rfl rfl rfl rfl rfl) rfl rfl rfl ?_
        refine Ops.pure H (X.load1 rfl rfl rfl rfl Pick.head rfl) rfl rfl rfl ?_
        refine Ops.pure H (X.len_slice rfl rfl rfl) rfl rfl rfl ?_
        refine Ops.pure H (X.cmp rfl rfl rfl) rfl rfl rfl ?_
        refine Ops.pure H (X.move rfl) rfl rfl rfl ?_
        refine Ops.split_dec rfl rfl (fun h84 => ?x13) (fun h84 => ?y13)
        case' y13 => exfalso; omega
        case' x13 =>
          refine Ops.pure H (X.fieldAddr rfl rfl rfl rfl rfl rfl) rfl rfl rfl ?_
          refine Ops.pure H (X.load1 rfl rfl rfl rfl Pick.head rfl) rfl rfl rfl ?_
          refine Ops.pure H (X.move rfl) rfl rfl rfl ?_
          refine Ops.pure H (X.indexAddr rfl rfl (by omega) rfl rfl rfl rfl) rfl rfl rfl ?_
          refine Ops.pure H (X.fieldAddr rfl rfl rfl rfl rfl rfl) rfl rfl rfl ?_
          refine Ops.pure H (X.load1 rfl rfl rfl rfl (.tail .head) (by assumption)) rfl rfl rfl ?_
          refine Ops.pure H (X.move rfl) rfl rfl rfl ?_
          refine Ops.pure H (X.cmp rfl rfl rfl) rfl rfl rfl ?_
          refine Ops.pure H (X.pick_t rfl rfl) rfl rfl rfl ?_
          (refine Ops.nil (hK _ _ ?_); clear hK K)
          refine Run.cond_dec rfl (fun h92 => ?x14) (fun h92 => ?y14)
          case' y14 =>
            refine Run.exit rfl ?_
          case' x14 => exfalso; omega
        have hkK : kx = k := by rw [hkx]; exact idxL_eq (by omega) hlt6 (fun _ => hl)
        subst hkK
        exact go () _ _ (hf6.then H.fr) (by repeat (first | exact trivial | refine ⟨rfl, ?_⟩))
    · obtain rfl : k = n0 := by omega
      have H := (Holds.start w6 []).add false hc6 (by simp) (by simp)
      refine Run.seq ?_
      (refine Run.seq (Run.region ?_); intro K hK)
      refine Ops.pure H (X.move rfl) rfl rfl rfl ?_
      refine Ops.pure H (X.fieldAddr rfl rfl rfl rfl rfl rfl) rfl rfl rfl ?_
      refine Ops.pure H (X.load1 rfl rfl rfl rfl Pick.head rfl) rfl rfl rfl ?_
      refine Ops.pure H (X.len_slice rfl rfl rfl) rfl rfl rfl ?_
      refine Ops.pure H (X.cmp rfl rfl rfl) rfl rfl rfl ?_
      refine Ops.pure H (X.move rfl) rfl rfl rfl ?_
      refine Ops.split_dec rfl rfl (fun h84 => ?x15) (fun h84 => ?y15)
      case' y15 =>
        refine Ops.pass rfl rfl rfl ?_
        refine Ops.pass rfl rfl rfl ?_
        refine Ops.pass rfl rfl rfl ?_
        refine Ops.pass rfl rfl rfl ?_
        refine Ops.pass rfl rfl rfl ?_
        refine Ops.pass rfl rfl rfl ?_
        refine Ops.pass rfl rfl rfl ?_
        refine Ops.pass rfl rfl rfl ?_
        refine Ops.pure H (X.pick_f rfl rfl) rfl rfl rfl ?_
        (refine Ops.nil (hK _ _ ?_); clear hK K)
        refine Run.cond_false rfl ?_
        refine Run.exit rfl ?_
      case' x15 => exfalso; omega
      have hkK : kx = k := by rw [hkx]; exact idxL_eq (by omega) hlt6 (fun h => absurd h (by omega))
      subst hkK
      exact go () _ _ (hf6.then H.fr) (by repeat (first | exact trivial | refine ⟨rfl, ?_⟩))
  rintro _ w6 hf6
  have F6 := F5.then hf6
  have hc6 := hf6.get hc14 (by simp)
  clear hc14 hd5 hf6
  have hbv1 : ∀ j, j < n0 → (bv j).oneCell' = true := fun j hj => by
    obtain ⟨_, _, e⟩ := (hA j hj).slice
    rw [e]
    rfl
  obtain ⟨FA, hFA⟩ : ∃ FA : Nat → List Value, FA = fun j => [.int .u64 (s0.seqs.getD j 0), bv j] := ⟨_, rfl⟩
  rw [← hFA] at hV2
  have hFAl : ∀ j, (FA j).length = 2 := fun j => by rw [hFA]; rfl
  have hFA1 : ∀ j, j < n0 → ∀ v ∈ FA j, v.oneCell' = true := fun j hj v hv => by
    rw [hFA] at hv
    simp at hv
    rcases hv with rfl | rfl
    · rfl
    · exact hbv1 j hj
  have H := (Holds.start w6 []).add false hc6 (by simp) (by simp)
  (refine Run.seq (Run.region ?_); intro K hK)
  (refine Ops.eff rfl (Y.buildSliceO rfl rfl rfl rfl rfl rfl rfl rfl H ?_); intro b95 w H0 hb95; clear H; have H := H0; clear H0)
  refine Ops.pure H (X.fieldAddr rfl rfl rfl rfl rfl rfl) rfl rfl rfl ?_
  refine Ops.pure H (X.load1 rfl rfl rfl rfl (.tail .head) rfl) rfl rfl rfl ?_
  refine Ops.pure H (X.move rfl) rfl rfl rfl ?_
  refine Ops.pure H (X.slice_h rfl rfl (by omega) rfl rfl rfl) rfl rfl rfl ?_
  have hz6 := F6.size
  have hBy : Bys z (.slice xa bs.length xcap) bs := ⟨xa, xcap, xb, xoff, xcs, xT, xfz, rfl, hx1, hx2, hx3, hx4⟩
  refine Ops.eff rfl (Y.appendOwnC (w0 := z) (S := []) (sz := 2) (b := b95) (cap := 0) (cs := []) (olds := []) (news := (List.range kx).flatMap FA) (Nat.le_refl _) (by omega) (by omega) (H.pick (b := b95) (by repeat (first | exact .head | apply Pick.tail))) rfl .nil rfl rfl rfl rfl rfl rfl (F6.then H.fr) (flat_len hFAl kx) (((hV2.pre hkxl).keep (F6.then H.fr) (by simp)).src hFAl (by omega)) rfl (flat_one fun j hj => hFA1 j (by omega)) (by dsimp only; omega) (by omega) rfl ?_)
  intro b1 cap1 cs1 w7 F7 u7 _ _ hcap1 hcm1 hb1z hb1 hcl1 hC1
  have q14 := u7.row (H.pick (b := b14) (by repeat (first | exact .head | apply Pick.tail))) (by decide)
  rw [Nat.zero_add] at hcap1
  rw [Nat.zero_add kx] at hC1 ⊢
  rw [List.nil_append] at hC1
  have n1 : b1 ≠ b14 := ne_of_ty hb1 q14 (by decide)
  clear H hc6
  have H := ((Holds.start w7 []).add false q14 (by simp) (by simp)).add false hb1 (by simpa using n1) (by simp)
  refine Ops.pure H (X.assign rfl) rfl rfl rfl ?_
  (refine Ops.nil (hK _ _ (Run.seq (Run.region ?_))); clear hK K; intro K hK)
  refine Ops.pure H (X.move rfl) rfl rfl rfl ?_
  refine Ops.pure H (X.move rfl) rfl rfl rfl ?_
  (refine Ops.eff rfl (Y.buildSliceO rfl rfl rfl rfl rfl rfl rfl rfl H ?_); intro b103 w H0 hb103; clear H; have H := H0; clear H0)
  refine Ops.pure H (X.move rfl) rfl rfl rfl ?_
  refine Ops.eff rfl (Y.appendOwnC (w0 := z) (S := []) (sz := 1) (b := b103) (cap := 0) (cs := []) (olds := []) (news := u8s bs) (Nat.le_refl _) (by omega) (by have := F7.size; omega) (H.pick (b := b103) (by repeat (first | exact .head | apply Pick.tail))) rfl .nil rfl rfl rfl rfl rfl rfl (F7.then H.fr) (by simp) ((hBy.ext (F7.then H.fr)).src) rfl (u8s_one bs) (by dsimp only; omega) (by omega) rfl ?_)
  intro bN capN csN w8 F8 u8 _ _ hcapN hcmN hbNz hbN hclN hCN
  have q14' := u8.row (H.pick (b := b14) (by repeat (first | exact .head | apply Pick.tail))) (by decide)
  have hb1' := u8.row (H.pick (b := b1) (by repeat (first | exact .head | apply Pick.tail))) (by decide)
  rw [Nat.zero_add] at hcapN
  rw [Nat.zero_add bs.length] at hCN ⊢
  rw [List.nil_append] at hCN
  have nN : bN ≠ b1 := ne_of_ty hbN hb1' (by decide)
  have nN14 : bN ≠ b14 := ne_of_ty hbN q14' (by decide)
  clear H q14 hb1
  have H := (((Holds.start w8 []).add false q14' (by simp) (by simp)).add false hb1' (by simpa using n1) (by simp)).add false hbN (by simpa using ⟨nN, nN14⟩) (by simp)
  refine Ops.pure H (X.buildO rfl rfl rfl rfl rfl rfl) rfl rfl rfl ?_
  (refine Ops.eff rfl (Y.buildSliceO rfl rfl rfl rfl rfl rfl rfl rfl H ?_); intro b107 w H0 hb107; clear H; have H := H0; clear H0)
  refine Ops.eff rfl (Y.appendOwnC (w0 := z) (S := []) (sz := 2) (m := 1) (b := b1) (olds := (List.range kx).flatMap FA) (news := [.int .u64 seq, .slice (some ⟨bN, 0, none⟩) bs.length capN]) hcap1 hcm1 hb1z (H.pick (b := b1) (by repeat (first | exact .head | apply Pick.tail))) hcl1 hC1 rfl rfl rfl rfl rfl rfl (F8.then H.fr) rfl (Src.row (m := 2) H .head (Cs.take rfl)) rfl (by simp [Value.oneCell']) (by dsimp only; omega) (by omega) rfl ?_)
  intro b2 cap2 cs2 w9 F9 u9 _ _ hcap2 hcm2 hb2z hb2 hcl2 hC2
  have p14 := u9.row (H.pick (b := b14) (by repeat (first | exact .head | apply Pick.tail))) (by decide)
  have pN := u9.row (H.pick (b := bN) (by repeat (first | exact .head | apply Pick.tail))) (by decide)
  have n2 : b2 ≠ b14 := ne_of_ty hb2 p14 (by decide)
  have n2N : b2 ≠ bN := ne_of_ty hb2 pN (by decide)
  clear H q14' hb1' hbN
  have H := (((Holds.start w9 []).add false p14 (by simp) (by simp)).add false hb2 (by simpa using n2) (by simp)).add false pN (by simpa using ⟨n2N.symm, nN14⟩) (by simp)
  refine Ops.pure H (X.assign rfl) rfl rfl rfl ?_
  (refine Ops.nil (hK _ _ (Run.seq (Run.region ?_))); clear hK K; intro K hK)
  refine Ops.pure H (X.move rfl) rfl rfl rfl ?_
  refine Ops.pure H (X.fieldAddr rfl rfl rfl rfl rfl rfl) rfl rfl rfl ?_
  refine Ops.pure H (X.load1 rfl rfl rfl rfl (.tail (.tail .head)) rfl) rfl rfl rfl ?_
  refine Ops.pure H (X.move rfl) rfl rfl rfl ?_
  refine Ops.pure H (X.slice_lA (j := kx) hlo hl1 rfl rfl hkxl rfl rfl rfl rfl) rfl rfl rfl ?_
  refine Ops.eff rfl (Y.appendOwnC (w0 := z) (S := []) (sz := 2) (b := b2) (olds := (List.range kx).flatMap FA ++ [.int .u64 seq, .slice (some ⟨bN, 0, none⟩) bs.length capN]) (news := (List.range (n0 - kx)).flatMap fun t => FA (kx + t)) hcap2 hcm2 hb2z (H.pick (b := b2) (by repeat (first | exact .head | apply Pick.tail))) hcl2 hC2 rfl rfl rfl rfl rfl rfl (F9.then H.fr) (flat_len (fun t => hFAl (kx + t)) _) (((hV2.dropA hkxl).keep (F9.then H.fr) (by simp)).src (fun t => hFAl (kx + t)) (by omega)) rfl (flat_one fun j hj => hFA1 (kx + j) (by omega)) (by dsimp only; omega) (by omega) rfl ?_)
  intro b3 cap3 cs3 wA FA' uA _ _ hcap3 hcm3 hb3z hb3 hcl3 hC3
  have r14 := uA.row (H.pick (b := b14) (by repeat (first | exact .head | apply Pick.tail))) (by decide)
  have rN := uA.row (H.pick (b := bN) (by repeat (first | exact .head | apply Pick.tail))) (by decide)
  have hxN : Ans wA (.slice (some ⟨bN, 0, none⟩) bs.length capN) bs := ⟨_, capN, bN, csN, (0, 0), rfl, hcapN, hcmN, fun _ => ⟨rfl, rN⟩, by simpa using hCN⟩
  obtain ⟨xN, hxNe⟩ : ∃ x, x = Value.slice (some ⟨bN, 0, none⟩) bs.length capN := ⟨_, rfl⟩
  rw [← hxNe] at hxN hC3
  have hfl3 := mid3_flat (k := kx) (r := n0 - kx) (F := FA) (G := fun t => FA (kx + t)) (x := [.int .u64 seq, xN])
  rw [← hfl3] at hC3
  rw [show kx + 1 + (n0 - kx) = n0 + 1 by omega] at hcap3 hC3 ⊢
  rw [hFA, mid3_ans (by rw [← hn0]; exact hkxl)] at hC3
  obtain ⟨Q, hQ⟩ : ∃ Q, Q = insL kx seq s0.seqs := ⟨_, rfl⟩
  have hQl : Q.length = n0 + 1 := by rw [hQ, insL_len (by omega), hn0]
  rw [← hQ] at hC3
  have hVl := Vw.mk (F := fun j => [Value.int .u64 (Q.getD j 0), bvM kx bv xN j]) hb3 hC3 (fun _ => rfl) hcap3 hcm3
  have hkb : bsL s0.seqs seq = kx := by rw [hkx, idxL_bs hup]
  have hQu : Q.Pairwise (· < ·) := by rw [hQ, ← hkb]; exact insL_up hup hno
  have hAQ : ∀ j, j < n0 + 1 → Ans wA (bvM kx bv xN j) ((updA s0.ans seq (some bs) (Q.getD j 0)).getD []) := fun j hj => by
    rw [hQ, hkx]
    exact bvM_ans hup hno (fun q hq => (hA q (by omega)).keep FA' (by simp)) hxN j (by omega)
  have hins : insC size s0 seq bs = if size < n0 + 1 then ⟨Q.getD 0 0, Q.tail, updA (updA s0.ans seq (some bs)) (Q.getD 0 0) none⟩ else ⟨s0.floor, Q, updA s0.ans seq (some bs)⟩ := by
    unfold insC
    rw [hkb, ← hQ, hQl]
    by_cases hov : size < n0 + 1
    · rw [if_pos hov, if_pos (by omega)]
    · rw [if_neg hov, if_neg (by omega)]
  obtain ⟨s', hs'⟩ : ∃ s', s' = insC size s0 seq bs := ⟨_, rfl⟩
  rw [← hs'] at hins
  have hdA := FA'.get hd (by simp)
  clear H
  have H := Holds.start wA []
  refine Ops.pure H (X.assign rfl) rfl rfl rfl ?_
  (refine Ops.nil (hK _ _ ?_); clear hK K)
  clear H
  refine Run.seq ?_
  refine Run.meet (fun (lv' : Value) => [(0, .pointer (some ⟨db, 0, none⟩)), (12, .int .i64 (i : Nat)), (14, .pointer (some ⟨b14, 0, none⟩)), (15, .slice ra (ids.length - j0) rcap), (17, lv')])
    (fun lv' w' => Fr z w' [] ∧ w'.heap[b14]? = some (row [.int .u64 id, .int .u64 s'.floor, .slice la n0 lcap] 84) ∧ RL w' lv' s') ?_ ?_
  rotate_left
  · intro kk go
    by_cases hov : size < n0 + 1
    · rw [if_pos hov] at hins
      have c0 : cs3[0 + 0 * 2 + 0]? = some (.int .u64 (Q.getD 0 0)) := by
        have := (hVl.pos (by omega))
        obtain ⟨_, _, _, e, hb, hc⟩ := this
        cases e
        rw [hb3] at hb
        simp at hb
        subst hb
        exact (hc 0 (by omega)).get 0 _ rfl
      have n3 : b3 ≠ b14 := ne_of_ty hb3 r14 (by decide)
      have n3d : b3 ≠ db := ne_of_ty hb3 hdA (by decide)
      have H := (((Holds.start wA [b14]).add false hdA (by simp) (by simp)).add false hb3 (by simpa using n3d) (by simp)).add true r14 (by simpa using ⟨n3.symm, n14⟩) (by simp)
      (refine Run.seq (Run.region ?_); intro K hK)
      refine Ops.pure H (X.move rfl) rfl rfl rfl ?_
      refine Ops.pure H (X.len_slice rfl rfl rfl) rfl rfl rfl ?_
      refine Ops.pure H (X.move rfl) rfl rfl rfl ?_
      refine Ops.pure H (X.nilCheck rfl) rfl rfl rfl ?_
      refine Ops.pure H (X.fieldAddr rfl rfl rfl rfl rfl rfl) rfl rfl rfl ?_
      refine Ops.pure H (X.load1 rfl rfl rfl rfl (.tail (.tail .head)) rfl) rfl rfl rfl ?_
      refine Ops.pure H (X.cmp rfl rfl rfl) rfl rfl rfl ?_
      (refine Ops.nil (hK _ _ ?_); clear hK K)
      refine Run.cond_dec rfl (fun h121 => ?x16) (fun h121 => ?y16)
      case' y16 => exfalso; omega
      case' x16 =>
        (refine Run.seq (Run.region ?_); intro K hK)
        refine Ops.pure H (X.move rfl) rfl rfl rfl ?_
        refine Ops.pure H (X.indexAddrK (j := 0) rfl rfl rfl (by omega) rfl rfl rfl rfl) rfl rfl rfl ?_
        refine Ops.pure H (X.fieldAddr rfl rfl rfl rfl rfl rfl) rfl rfl rfl ?_
        refine Ops.pure H (X.load1 rfl rfl rfl rfl (.tail .head) (by assumption)) rfl rfl rfl ?_
        refine Ops.pure H (X.fieldAddr rfl rfl rfl rfl rfl rfl) rfl rfl rfl ?_
        (refine Ops.eff rfl (Y.store1 rfl rfl rfl rfl rfl rfl H Upd.head (by repeat (first | exact SetC.zero | apply SetC.succ)) ?_); intro w H0; clear H; have H := H0; clear H0)
        (refine Ops.nil (hK _ _ ?_); clear hK K)
        (refine Run.region ?_; intro K hK)
        refine Ops.pure H (X.move rfl) rfl rfl rfl ?_
      refine Ops.pure H (X.slice_lA (j := 1) (sz := 2) (.inr ⟨_, _, rfl⟩) hcap3 rfl rfl (by omega) rfl rfl rfl rfl) rfl rfl rfl ?_
      refine Ops.pure H (X.assign rfl) rfl rfl rfl ?_
      (refine Ops.nil (hK _ _ ?_); clear hK K)
      have FF : Fr wA _ [b14] := H.fr
      have FZ : Fr z _ [] := FA'.trans FF (by simp) (fun x hx hl => by simp at hx; omega)
      refine go _ _ _ ⟨FZ, ?_, ?_⟩ (by repeat (first | exact trivial | refine ⟨rfl, ?_⟩))
      · rw [hins]
        exact H.pick (b := b14) (by repeat (first | exact .head | apply Pick.tail))
      · rw [hins]
        have h96 : ∀ b ∈ [b14], ∀ cs, wA.heap[b]? ≠ some (row cs 96) := fun b hb cs hc => by
          simp at hb
          subst hb
          exact ne_of_ty r14 hc (by decide) rfl
        have h5 : ∀ b ∈ [b14], No5 wA b := fun b hb => by
          simp at hb
          subst hb
          exact No5.row r14 (by decide)
        have hdr := (hVl.dropA (j := 1) (by omega)).keep FF h96
        have htl : Q.tail.length = n0 := by simp [hQl]
        have htg : ∀ j, Q.tail.getD j 0 = Q.getD (1 + j) 0 := fun j => by
          simp only [List.getD_eq_getElem?_getD, List.getElem?_tail, Nat.add_comm]
        refine ⟨fun j => bvM kx bv xN (1 + j), ?_, fun j hj => ?_⟩
        · dsimp only
          rw [htl]
          exact hdr.cast fun j hj => by rw [htg]
        · dsimp only at hj ⊢
          rw [htl] at hj
          rw [htg, updA, if_neg]
          · exact (hAQ (1 + j) (by omega)).keep FF h5
          · have := getD_mono hQu (show 0 < 1 + j by omega) (by omega)
            omega
    · rw [if_neg hov] at hins
      have H := ((Holds.start wA []).add false hdA (by simp) (by simp)).add false r14 (by simpa using n14) (by simp)
      (refine Run.seq (Run.region ?_); intro K hK)
      refine Ops.pure H (X.move rfl) rfl rfl rfl ?_
      refine Ops.pure H (X.len_slice rfl rfl rfl) rfl rfl rfl ?_
      refine Ops.pure H (X.move rfl) rfl rfl rfl ?_
      refine Ops.pure H (X.nilCheck rfl) rfl rfl rfl ?_
      refine Ops.pure H (X.fieldAddr rfl rfl rfl rfl rfl rfl) rfl rfl rfl ?_
      refine Ops.pure H (X.load1 rfl rfl rfl rfl (.tail .head) rfl) rfl rfl rfl ?_
      refine Ops.pure H (X.cmp rfl rfl rfl) rfl rfl rfl ?_
      (refine Ops.nil (hK _ _ ?_); clear hK K)
      refine Run.cond_dec rfl (fun h121 => ?x17) (fun h121 => ?y17)
      case' y17 =>
        refine Run.skip ?_
      case' x17 => exfalso; omega
      refine go _ _ _ ⟨FA'.then H.fr, ?_, ?_⟩ (by repeat (first | exact trivial | refine ⟨rfl, ?_⟩))
      · rw [hins]
        exact H.pick (b := b14) (by repeat (first | exact .head | apply Pick.tail))
      · rw [hins]
        refine ⟨bvM kx bv xN, ?_, fun j hj => ?_⟩
        · dsimp only
          rw [hQl]
          exact hVl.keep H.fr (by simp)
        · dsimp only at hj ⊢
          rw [hQl] at hj
          exact (hAQ j hj).keep H.fr (by simp)
  clear hVl hAQ hC3 hb3 hC2 hC1
  rintro lv' wB ⟨FB, c14, hRL⟩
  have hRL' := hRL
  obtain ⟨bv', hV', _⟩ := hRL'
  obtain ⟨l', l'cap, rfl⟩ := hV'.slice
  have hdB := FB.get hd (by simp)
  have H := ((Holds.start wB [b14]).add false hdB (by simp) (by simp)).add true c14 (by simpa using n14) (by simp)
  have hFCl : ∀ t, (FC t).length = 3 := fun t => by rw [hFC]; rfl
  have hFC1 : ∀ t, t < ids.length → ∀ v ∈ FC t, v.oneCell' = true := fun t ht v hv => by
    rw [hFC] at hv
    simp at hv
    rcases hv with rfl | rfl | rfl
    · rfl
    · rfl
    · obtain ⟨_, h, _⟩ := hL t ht
      obtain ⟨_, _, e⟩ := h.slice
      rw [e]
      rfl
  (refine Run.seq (Run.region ?_); intro K hK)
  refine Ops.pure H (X.move rfl) rfl rfl rfl ?_
  refine Ops.pure H (X.fieldAddr rfl rfl rfl rfl rfl rfl) rfl rfl rfl ?_
  (refine Ops.eff rfl (Y.store1 rfl rfl rfl rfl rfl rfl H Upd.head (by repeat (first | exact SetC.zero | apply SetC.succ)) ?_); intro w H0; clear H; have H := H0; clear H0)
  (refine Ops.nil (hK _ _ (Run.seq (Run.region ?_))); clear hK K; intro K hK)
  (refine Ops.eff rfl (Y.buildSliceO rfl rfl rfl rfl rfl rfl rfl rfl H ?_); intro b131 w H0 hb131; clear H; have H := H0; clear H0)
  refine Ops.pure H (X.move rfl) rfl rfl rfl ?_
  refine Ops.pure H (X.nilCheck rfl) rfl rfl rfl ?_
  refine Ops.pure H (X.fieldAddr rfl rfl rfl rfl rfl rfl) rfl rfl rfl ?_
  refine Ops.pure H (X.load1 rfl rfl rfl rfl (.tail (.tail .head)) rfl) rfl rfl rfl ?_
  refine Ops.pure H (X.move rfl) rfl rfl rfl ?_
  refine Ops.pure H (X.slice_h rfl rfl (by omega) rfl rfl rfl) rfl rfl rfl ?_
  have hzB := FB.size
  have FB1 : Fr z w [] := FB.trans H.fr (U := []) (by simp) (fun x hx hl => by simp at hx; omega)
  have FB2 := H.fr
  refine Ops.eff rfl (Y.appendOwnC (w0 := z) (S := []) (sz := 3) (b := b131) (cap := 0) (cs := []) (olds := []) (news := (List.range i).flatMap FC) (Nat.le_refl _) (by omega) (by omega) (H.pick (b := b131) (by repeat (first | exact .head | apply Pick.tail))) rfl .nil rfl rfl rfl rfl rfl rfl FB1 (flat_len hFCl i) (((hVc.pre hi).keep FB1 (by simp)).src hFCl (by omega)) rfl (flat_one fun j hj => hFC1 j (by omega)) (by dsimp only; omega) (by omega) rfl ?_)
  intro b4 cap4 cs4 wC FCC uC fC hb4o hcap4 hcm4 hb4z hb4 hcl4 hC4
  have n131 : b14 ≠ b131 := by have := lt_of_at c14; omega
  have s14 := fC.get (H.pick (b := b14) (by repeat (first | exact .head | apply Pick.tail))) (by simpa using n131)
  rw [Nat.zero_add] at hcap4
  rw [Nat.zero_add i] at hC4 ⊢
  rw [List.nil_append] at hC4
  have hRC : RL wC (.slice l' s'.seqs.length l'cap) s' := (hRL.keep2 FB2 (by simpa using fun cs hc => ne_of_ty c14 hc (by decide) rfl) (by simpa using No5.row c14 (by decide))).up uC (by decide) (by decide)
  have hwz := lt_of_at (H.pick (b := b14) (by repeat (first | exact .head | apply Pick.tail)))
  have n4 : b4 ≠ b14 := by omega
  clear H
  have H := ((Holds.start wC []).add false hb4 (by simp) (by simp)).add false s14 (by simpa using n4.symm) (by simp)
  refine Ops.pure H (X.assign rfl) rfl rfl rfl ?_
  (refine Ops.nil (hK _ _ (Run.seq (Run.region ?_))); clear hK K; intro K hK)
  refine Ops.pure H (X.move rfl) rfl rfl rfl ?_
  refine Ops.pure H (X.loadN rfl rfl rfl Pick.head (Cs.take rfl)) rfl rfl rfl ?_
  (refine Ops.eff rfl (Y.buildSliceO rfl rfl rfl rfl rfl rfl rfl rfl H ?_); intro b141 w H0 hb141; clear H; have H := H0; clear H0)
  refine Ops.eff rfl (Y.appendOwnC (w0 := z) (S := []) (sz := 3) (m := 1) (b := b4) (olds := (List.range i).flatMap FC) (news := [.int .u64 id, .int .u64 s'.floor, .slice l' s'.seqs.length l'cap]) hcap4 hcm4 hb4z (H.pick (b := b4) (by repeat (first | exact .head | apply Pick.tail))) hcl4 hC4 rfl rfl rfl rfl rfl rfl (FCC.then H.fr) rfl (Src.row (m := 3) H .head (Cs.take rfl)) rfl (by simp [Value.oneCell']) (by dsimp only; omega) (by omega) rfl ?_)
  intro b5 cap5 cs5 wD FD uD fD hb5o hcap5 hcm5 hb5z hb5 hcl5 hC5
  have hRD := (hRC.ext H.fr).up uD (by decide) (by decide)
  have hdD := FD.get hd (by simp)
  have n5 : b5 ≠ db := ne_of_ty hb5 hdD (by decide)
  clear H
  have H := Holds.start wD []
  refine Ops.pure H (X.assign rfl) rfl rfl rfl ?_
  (refine Ops.nil (hK _ _ (Run.seq (Run.region ?_))); clear hK K; intro K hK)
  refine Ops.pure H (X.move rfl) rfl rfl rfl ?_
  refine Ops.pure H (X.move rfl) rfl rfl rfl ?_
  refine Ops.pure H (X.move rfl) rfl rfl rfl ?_
  refine Ops.eff rfl (Y.appendOwnC (w0 := z) (S := []) (sz := 3) (b := b5) (olds := (List.range i).flatMap FC ++ [.int .u64 id, .int .u64 s'.floor, .slice l' s'.seqs.length l'cap]) (news := (List.range (ids.length - j0)).flatMap fun t => FC (j0 + t)) hcap5 hcm5 hb5z hb5 hcl5 hC5 rfl rfl rfl rfl rfl rfl (FD.then H.fr) (flat_len (fun t => hFCl (j0 + t)) _) ((hVr.keep (FD.then H.fr) (by simp)).src (fun t => hFCl (j0 + t)) (by omega)) rfl (flat_one fun t ht => hFC1 (j0 + t) (by omega)) (by dsimp only; omega) (by omega) rfl ?_)
  intro b6 cap6 cs6 wE FE uE fE hb6o hcap6 hcm6 hb6z hb6 hcl6 hC6
  have hRE := (hRD.ext H.fr).up uE (by decide) (by decide)
  have hdE := FE.get hd (by simp)
  have n6 : b6 ≠ db := ne_of_ty hb6 hdE (by decide)
  clear H
  have H := ((Holds.start wE [db]).add false hb6 (by simp) (by simp)).add true hdE (by simpa using n6.symm) (by simp)
  refine Ops.pure H (X.nilCheck rfl) rfl rfl rfl ?_
  refine Ops.pure H (X.fieldAddr rfl rfl rfl rfl rfl rfl) rfl rfl rfl ?_
  (refine Ops.eff rfl (Y.store1 rfl rfl rfl rfl rfl rfl H Upd.head (by repeat (first | exact SetC.zero | apply SetC.succ)) ?_); intro w H0; clear H; have H := H0; clear H0)
  (refine Ops.nil (hK _ _ (Run.seq (Run.region ?_))); clear hK K; intro K hK)
  refine Ops.pure H (X.assign rfl) rfl rfl rfl ?_
  (refine Ops.nil (hK _ _ ?_); clear hK K)
  refine Fn.ret1 HF rfl rfl ?_
  have hdl := lt_of_at hd
  have FZ : Fr z _ [db] := FE.trans H.fr (U := [db]) (by simp) (fun x hx _ => hx)
  have hND : ∀ b ∈ [db], NoR z b := fun b hb => by
    simp at hb
    subst hb
    exact NoR.row hd (by decide) (by decide) (by decide)
  obtain ⟨ids', hids'⟩ : ∃ q, q = putIds ids id := ⟨_, rfl⟩
  have hup' := putIds_up hs id
  have hmem' := putIds_mem ids id
  have hlen' := putIds_len ids id
  have hget' := putIds_get hs id
  rw [← hids'] at hup' hmem' hlen' hget'
  rw [← hix] at hget'
  have hN' : i + 1 + (ids.length - j0) = ids'.length := by
    rw [hlen']
    by_cases hin : id ∈ ids
    · rw [if_pos hin] at hj0 ⊢
      omega
    · rw [if_neg hin] at hj0 ⊢
      omega
  obtain ⟨m', hm'⟩ : ∃ m' : Int → Option CS, m' = fun y => if y = id then some s' else m y := ⟨_, rfl⟩
  have hm1 : m' id = some s' := by rw [hm']; simp
  have hm2 : ∀ y, y ≠ id → m' y = m y := fun y hy => by rw [hm']; simp [hy]
  have hgj : ∀ t, ids'.getD t 0 = if t < i then ids.getD t 0 else if t = i then id else ids.getD (j0 + (t - (i + 1))) 0 := fun t => by rw [hget', hj0]
  obtain ⟨lvc, hlvc⟩ : ∃ lvc : Nat → Value, lvc = fun t => if t < i then lv t else if t = i then .slice l' s'.seqs.length l'cap else lv (j0 + (t - (i + 1))) := ⟨_, rfl⟩
  have hlow : ∀ t, t < i → ids.getD t 0 ≠ id := fun t ht => by
    have := idxL_lt id ids t (by rw [← hix]; exact ht)
    omega
  have hhigh : ∀ t, t < ids.length - j0 → ids.getD (j0 + t) 0 ≠ id := fun t ht => by
    by_cases hin : id ∈ ids
    · obtain ⟨g1, g2⟩ := (idxL_mem hs id).1 hin
      rw [← hix] at g1 g2
      rw [if_pos hin] at hj0
      have := getD_mono hs (show i < j0 + t by omega) (by omega)
      omega
    · intro e
      exact hin (by rw [← e]; simp [show j0 + t < ids.length by omega])
  have hrow : ∀ t, t < ids'.length → mid3 i FC [.int .u64 id, .int .u64 s'.floor, .slice l' s'.seqs.length l'cap] (fun t => FC (j0 + t)) t = [Value.int .u64 (ids'.getD t 0), .int .u64 (gm m' ids' t).floor, lvc t] := fun t ht => by
    unfold mid3 gm
    rw [hgj t, hlvc, hFC]
    dsimp only
    by_cases e1 : t < i
    · rw [if_pos e1, if_pos e1, if_pos e1, hm2 _ (hlow t e1)]
    · rw [if_neg e1, if_neg e1, if_neg e1]
      by_cases e2 : t = i
      · rw [if_pos e2, if_pos e2, if_pos e2, hm1]
        rfl
      · rw [if_neg e2, if_neg e2, if_neg e2, hm2 _ (hhigh _ (by omega))]
  rw [← mid3_flat (k := i) (r := ids.length - j0) (F := FC) (G := fun t => FC (j0 + t)), hN', flat_congr hrow] at hC6
  rw [hN'] at hcap6
  refine ⟨by rw [hE], FZ, ids', m', ⟨.slice (some ⟨b6, 0, none⟩) ids'.length cap6, ?_, lvc, Vw.mk (H.pick (b := b6) (by repeat (first | exact .head | apply Pick.tail))) hC6 (fun _ => rfl) hcap6 hcm6, fun t ht => ?_⟩, hup', fun x => ?_, ?_, hm2, ?_⟩
  · rw [← hN']
    exact H.pick (b := db) (by repeat (first | exact .head | apply Pick.tail))
  · rw [hlvc]
    unfold gm
    rw [hgj t]
    dsimp only
    by_cases e1 : t < i
    · rw [if_pos e1, if_pos e1, hm2 _ (hlow t e1)]
      exact (hL t (by omega)).keep FZ hND
    · rw [if_neg e1, if_neg e1]
      by_cases e2 : t = i
      · rw [if_pos e2, if_pos e2, hm1]
        exact hRE.keep2 H.fr (by simpa using fun cs hc => ne_of_ty hdE hc (by decide) rfl) (by simpa using No5.row hdE (by decide))
      · rw [if_neg e2, if_neg e2, hm2 _ (hhigh _ (by omega))]
        exact (hL (j0 + (t - (i + 1))) (by omega)).keep FZ hND
  · rw [hmem' x]
    by_cases e : x = id
    · subst e
      simp [hm1]
    · rw [hm2 x e, ← hm]
      simp [e]
  · rw [hm1]
    unfold putS
    rw [if_pos hE, hs', hs0]
  · rw [hlen']
    unfold putN
    rw [hsome, hfl]
    by_cases hin : id ∈ ids
    · simp [hin]
    · simp [hin, hE]
end Go.Proofs.Ytaneenahapdabaa
