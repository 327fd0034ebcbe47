/- Layer 20: what a call on both does; Clone, and there and back. -/
import Derived.Test.YtaneenahapdabaaTE
namespace Go.Proofs.Ytaneenahapdabaa
open Go
set_option maxRecDepth 20000
set_option maxHeartbeats 2000000
attribute [local irreducible] Run Ops Fn Draw Draw2 PureOp StepZ

theorem dAsk_from (w0 z : World) (db : Nat) (n : Int) (ids : List Int) (m : Int → Option CS) (id seq : Int) (h : RD w0 db n ids m) (hF : Fr w0 z []) (hs : ids.Pairwise (· < ·)) (hm : ∀ x, x ∈ ids ↔ (m x).isSome = true) (hk : ∀ x s, m x = some s → ∀ y, (s.ans y).isSome = true ↔ y ∈ s.seqs) :
    Fn env.P 26 [.pointer (some ⟨db, 0, none⟩), .int .u64 id, .int .u64 seq] z fun v w' => Fr z w' [] ∧ ∃ b, v = .tuple #[.int .i64 (if seq = 0 then 0 else askK (m id) seq), b, .int .i64 (if seq = 0 then 1 else 0)] ∧ Ans w0 b (if seq = 0 then [] else askB (m id) seq) := by
  have h' := h
  obtain ⟨v, hd, lv, hV, hL⟩ := h
  obtain ⟨a, cap, rfl⟩ := hV.slice
  obtain ⟨_, hc1, hc2⟩ := hV.len
  have H := Holds.start z []
  have HF := Try.func26; refine Fn.enter Try.func26 Try.ntmps26 rfl rfl rfl ?_
  (refine Run.seq (Run.region ?_); intro K hK)
  refine Ops.pure H (X.assign rfl) rfl rfl rfl ?_
  refine Ops.pure H (X.assign rfl) rfl rfl rfl ?_
  refine Ops.pure H (X.assign rfl) rfl rfl rfl ?_
  (refine Ops.nil (hK _ _ ?_); clear hK K)
  refine Run.seq ?_
  (refine Run.seq (Run.region ?_); intro K hK)
  refine Ops.pure H (X.move rfl) rfl rfl rfl ?_
  refine Ops.pure H (X.cmp rfl rfl rfl) rfl rfl rfl ?_
  (refine Ops.nil (hK _ _ ?_); clear hK K)
  refine Run.cond_dec rfl (fun h14 => ?x0) (fun h14 => ?y0)
  case' y0 =>
    refine Run.skip ?_
    (refine Run.seq (Run.region ?_); intro K hK)
    refine Ops.pure H (X.move rfl) rfl rfl rfl ?_
    refine Ops.pure H (X.move rfl) rfl rfl rfl ?_
  case' x0 =>
    (refine Run.seq (Run.region ?_); intro K hK)
    refine Ops.pure H (X.assign rfl) rfl rfl rfl ?_
    refine Ops.pure H (X.assign rfl) rfl rfl rfl ?_
    refine Ops.pure H (X.assign rfl) rfl rfl rfl ?_
    (refine Ops.nil (hK _ _ ?_); clear hK K)
  · refine Fn.ret3 HF rfl rfl rfl rfl ?_
    exact ⟨H.fr, .slice none 0 0, by simp [h14], by simpa [h14] using Ans.nil⟩
  refine Ops.eff rfl (Y.call rfl rfl (by first | assumption | decide +kernel) rfl (find_any _ db n ids m id (h'.ext (hF.then H.fr)) hs) rfl ?_)
  rintro v w1 ⟨rfl, hf⟩
  replace H := H.ext hf
  have hd1 := (hF.then H.fr).get hd (by simp)
  by_cases hin : id ∈ ids
  · obtain ⟨hlt, hid⟩ := (idxL_mem hs id).1 hin
    obtain ⟨b, off, cs, rfl, hb, hcs⟩ := hV.pos (by omega)
    have hb1 := (hF.then H.fr).get hb (by simp)
    obtain ⟨i, hi⟩ : ∃ i, i = idxL ids id := ⟨_, rfl⟩
    rw [← hi] at hlt hid ⊢
    obtain ⟨s, hsm⟩ := Option.isSome_iff_exists.1 ((hm id).1 hin)
    have hg : gm m ids i = s := by rw [gm, hid, hsm]; rfl
    have hci := hcs i hlt
    have hLi := hL i hlt
    rw [hg] at hci hLi
    obtain ⟨bv, hV2, hA⟩ := hLi
    obtain ⟨la, lcap, hlv⟩ := hV2.slice
    obtain ⟨_, hl1, hl2⟩ := (hlv ▸ hV2).len
    rw [hlv] at hci hV2
    have nbd : b ≠ db := ne_of_ty hb hd (by decide)
    have F1 := H.fr
    clear H
    have H := ((Holds.start w1 []).add false hb1 (by simp) (by simp)).add false hd1 (by simpa using nbd.symm) (by simp)
    rw [decide_eq_true hin]
    have c0 : cs[off + i * 3]? = some (.int .u64 (ids.getD i 0)) := hci.get 0 _ rfl
    by_cases hle : seq ≤ s.floor
    · refine Ops.pure H (X.move rfl) rfl rfl rfl ?_
      refine Ops.pure H (X.extract rfl rfl) rfl rfl rfl ?_
      refine Ops.pure H (X.extract rfl rfl) rfl rfl rfl ?_
      refine Ops.pure H (X.assign rfl) rfl rfl rfl ?_
      refine Ops.pure H (X.assign rfl) rfl rfl rfl ?_
      (refine Ops.nil (hK _ _ ?_); clear hK K)
      refine Run.seq ?_
      (refine Run.seq (Run.region ?_); intro K hK)
      refine Ops.pure H (X.move rfl) rfl rfl rfl ?_
      refine Ops.pure H (X.not rfl) rfl rfl rfl ?_
      (refine Ops.nil (hK _ _ ?_); clear hK K)
      refine Run.cond_false rfl ?_
      refine Run.skip ?_
      (refine Run.seq (Run.region ?_); intro K hK)
      refine Ops.pure H (X.move rfl) rfl rfl rfl ?_
      refine Ops.pure H (X.nilCheck rfl) rfl rfl rfl ?_
      refine Ops.pure H (X.fieldAddr rfl rfl rfl rfl rfl rfl) rfl rfl rfl ?_
      refine Ops.pure H (X.load1 rfl rfl rfl rfl Pick.head rfl) rfl rfl rfl ?_
      refine Ops.pure H (X.move rfl) rfl rfl rfl ?_
      refine Ops.pure H (X.indexAddr rfl rfl (by omega) rfl rfl rfl rfl) rfl rfl rfl ?_
      refine Ops.pure H (X.loadN rfl rfl rfl (.tail .head) (by assumption)) rfl rfl rfl ?_
      (refine Ops.eff rfl (Y.alloc rfl rfl rfl H ?_); intro b11 w H0 hb11; clear H; have H := H0; clear H0)
      (refine Ops.eff rfl (Y.storeO rfl rfl rfl rfl rfl rfl H Upd.head rfl ?_); intro w H0; clear H; have H := H0; clear H0)
      (refine Ops.nil (hK _ _ ?_); clear hK K)
      refine Run.seq ?_
      (refine Run.seq (Run.region ?_); intro K hK)
      refine Ops.pure H (X.move rfl) rfl rfl rfl ?_
      refine Ops.pure H (X.fieldAddr rfl rfl rfl rfl rfl rfl) rfl rfl rfl ?_
      refine Ops.pure H (X.load1 rfl rfl rfl rfl Pick.head rfl) rfl rfl rfl ?_
      refine Ops.pure H (X.cmp rfl rfl rfl) rfl rfl rfl ?_
      (refine Ops.nil (hK _ _ ?_); clear hK K)
      refine Run.cond_dec rfl (fun h33 => ?x1) (fun h33 => ?y1)
      case' y1 => exfalso; omega
      case' x1 =>
        (refine Run.seq (Run.region ?_); intro K hK)
        refine Ops.pure H (X.assign rfl) rfl rfl rfl ?_
        refine Ops.pure H (X.assign rfl) rfl rfl rfl ?_
        refine Ops.pure H (X.assign rfl) rfl rfl rfl ?_
        (refine Ops.nil (hK _ _ ?_); clear hK K)
      refine Fn.ret3 HF rfl rfl rfl rfl ?_
      exact ⟨F1.then H.fr, .slice none 0 0, by simp [h14, askK, hsm, hle], by simpa [h14, askB, hsm, hle] using Ans.nil⟩
    · refine Ops.pure H (X.move rfl) rfl rfl rfl ?_
      refine Ops.pure H (X.extract rfl rfl) rfl rfl rfl ?_
      refine Ops.pure H (X.extract rfl rfl) rfl rfl rfl ?_
      refine Ops.pure H (X.assign rfl) rfl rfl rfl ?_
      refine Ops.pure H (X.assign rfl) rfl rfl rfl ?_
      (refine Ops.nil (hK _ _ ?_); clear hK K)
      refine Run.seq ?_
      (refine Run.seq (Run.region ?_); intro K hK)
      refine Ops.pure H (X.move rfl) rfl rfl rfl ?_
      refine Ops.pure H (X.not rfl) rfl rfl rfl ?_
      (refine Ops.nil (hK _ _ ?_); clear hK K)
      refine Run.cond_false rfl ?_
      refine Run.skip ?_
      (refine Run.seq (Run.region ?_); intro K hK)
      refine Ops.pure H (X.move rfl) rfl rfl rfl ?_
      refine Ops.pure H (X.nilCheck rfl) rfl rfl rfl ?_
      refine Ops.pure H (X.fieldAddr rfl rfl rfl rfl rfl rfl) rfl rfl rfl ?_
      refine Ops.pure H (X.load1 rfl rfl rfl rfl Pick.head rfl) rfl rfl rfl ?_
      refine Ops.pure H (X.move rfl) rfl rfl rfl ?_
      refine Ops.pure H (X.indexAddr rfl rfl (by omega) rfl rfl rfl rfl) rfl rfl rfl ?_
      refine Ops.pure H (X.loadN rfl rfl rfl (.tail .head) (by assumption)) rfl rfl rfl ?_
      (refine Ops.eff rfl (Y.alloc rfl rfl rfl H ?_); intro b11 w H0 hb11; clear H; have H := H0; clear H0)
      (refine Ops.eff rfl (Y.storeO rfl rfl rfl rfl rfl rfl H Upd.head rfl ?_); intro w H0; clear H; have H := H0; clear H0)
      (refine Ops.nil (hK _ _ ?_); clear hK K)
      refine Run.seq ?_
      (refine Run.seq (Run.region ?_); intro K hK)
      refine Ops.pure H (X.move rfl) rfl rfl rfl ?_
      refine Ops.pure H (X.fieldAddr rfl rfl rfl rfl rfl rfl) rfl rfl rfl ?_
      refine Ops.pure H (X.load1 rfl rfl rfl rfl Pick.head rfl) rfl rfl rfl ?_
      refine Ops.pure H (X.cmp rfl rfl rfl) rfl rfl rfl ?_
      (refine Ops.nil (hK _ _ ?_); clear hK K)
      refine Run.cond_dec rfl (fun h33 => ?x2) (fun h33 => ?y2)
      case' y2 =>
        refine Run.skip ?_
        refine Run.seq ?_
        (refine Run.seq (Run.region ?_); intro K hK)
        refine Ops.pure H (X.assign rfl) rfl rfl rfl ?_
        (refine Ops.nil (hK _ _ ?_); clear hK K)
        refine Run.block ?_
      case' x2 => exfalso; omega
      have hcp := H.pick (b := b11) (by repeat (first | exact .head | apply Pick.tail))
      refine Run.rounds (fun (k : Nat) => [(2, .int .u64 seq), (11, .pointer (some ⟨b11, 0, none⟩)), (12, .int .i64 (k : Nat))]) (fun k w' => Fr z w' [] ∧ k ≤ s.seqs.length ∧ (∀ j, j < k → s.seqs.getD j 0 ≠ seq) ∧ w'.heap[b11]? = some (row [.int .u64 (ids.getD i 0), .int .u64 s.floor, .slice la s.seqs.length lcap] 84)) (fun k => s.seqs.length - k) 0 (by repeat (first | exact trivial | refine ⟨rfl, ?_⟩)) ⟨F1.then H.fr, by omega, by intro j hj; omega, hcp⟩ ?_
      clear H hcp
      rintro k w2 ⟨hf2, hk2, hno, hcp⟩ IH
      by_cases hkl : k < s.seqs.length
      · obtain ⟨b2, off2, cs2, rfl, hb2, hcs2⟩ := hV2.pos (by omega)
        have hck := hcs2 k hkl
        obtain ⟨ba, bcap, hbv⟩ := (hA k hkl).slice
        have hAk := hA k hkl
        rw [hbv] at hck hAk
        have c20 : cs2[off2 + k * 2 + 0]? = some (.int .u64 (s.seqs.getD k 0)) := hck.get 0 _ rfl
        have c21 : cs2[off2 + k * 2 + 1]? = some (.slice ba ((s.ans (s.seqs.getD k 0)).getD []).length bcap) := hck.get 1 _ rfl
        have hb22 := (hF.then hf2).get hb2 (by simp)
        have n2 : b2 ≠ b11 := ne_of_ty hb22 hcp (by decide)
        have H := ((Holds.start w2 []).add false hb22 (by simp) (by simp)).add false hcp (by simpa using n2.symm) (by simp)
        by_cases heq : s.seqs.getD k 0 = seq
        · refine Run.seq ?_
          (refine Run.seq (Run.region ?_); intro K hK)
          refine Ops.pure H (X.move rfl) rfl rfl rfl ?_
          refine Ops.pure H (X.fieldAddr rfl rfl rfl rfl rfl rfl) rfl rfl rfl ?_
          refine Ops.pure H (X.load1 rfl rfl rfl rfl Pick.head rfl) rfl rfl rfl ?_
          refine Ops.pure H (X.len_slice rfl rfl rfl) rfl rfl rfl ?_
          refine Ops.pure H (X.cmp rfl rfl rfl) rfl rfl rfl ?_
          (refine Ops.nil (hK _ _ ?_); clear hK K)
          refine Run.cond_dec rfl (fun h38 => ?x3) (fun h38 => ?y3)
          case' y3 => exfalso; omega
          case' x3 =>
            refine Run.skip ?_
            refine Run.seq ?_
            refine Run.block ?_
            (refine Run.seq (Run.region ?_); intro K hK)
            refine Ops.pure H (X.fieldAddr rfl rfl rfl rfl rfl rfl) rfl rfl rfl ?_
            refine Ops.pure H (X.load1 rfl rfl rfl rfl Pick.head rfl) rfl rfl rfl ?_
            refine Ops.pure H (X.move rfl) rfl rfl rfl ?_
            refine Ops.pure H (X.indexAddr rfl rfl (by omega) rfl rfl rfl rfl) rfl rfl rfl ?_
            refine Ops.pure H (X.fieldAddr rfl rfl rfl rfl rfl rfl) rfl rfl rfl ?_
            refine Ops.pure H (X.load1 rfl rfl rfl rfl (.tail .head) (by assumption)) rfl rfl rfl ?_
            refine Ops.pure H (X.move rfl) rfl rfl rfl ?_
            refine Ops.pure H (X.cmp rfl rfl rfl) rfl rfl rfl ?_
            (refine Ops.nil (hK _ _ ?_); clear hK K)
            refine Run.cond_dec rfl (fun h48 => ?x4) (fun h48 => ?y4)
            case' y4 => exfalso; omega
            case' x4 =>
              refine Run.seq ?_
              (refine Run.draw H [] [0, 1, 2, 3, 4, 5, 6, 7, 8] ?_; clear H; intro K hK w H)
              refine Draw.take0 rfl (X.fieldAddr rfl rfl rfl rfl rfl rfl) rfl rfl rfl (by decide +kernel) ?_
              refine Draw.take rfl (X.load1 rfl rfl rfl rfl Pick.head rfl) rfl rfl rfl (by decide +kernel) ?_
              refine Draw.take0 rfl (X.move rfl) rfl rfl rfl (by decide +kernel) ?_
              refine Draw.take0 rfl (X.indexAddr rfl rfl (by omega) rfl rfl rfl rfl) rfl rfl rfl (by decide +kernel) ?_
              refine Draw.take0 rfl (X.fieldAddr rfl rfl rfl rfl rfl rfl) rfl rfl rfl (by decide +kernel) ?_
              refine Draw.take rfl (X.load1 rfl rfl rfl rfl (.tail .head) (by assumption)) rfl rfl rfl (by decide +kernel) ?_
              refine Draw.take0 rfl (X.assign rfl) rfl rfl rfl (by decide +kernel) ?_
              refine Draw.take0 rfl (X.assign rfl) rfl rfl rfl (by decide +kernel) ?_
              refine Draw.take0 rfl (X.assign rfl) rfl rfl rfl (by decide +kernel) ?_
              (refine Draw.done (by decide +kernel) (hK _ _ ?_); clear hK K)
          refine Fn.ret3 HF rfl rfl rfl rfl ?_
          have hsome : (s.ans seq).isSome = true := (hk id s hsm seq).2 (by rw [← heq]; simp [hkl])
          refine ⟨hf2.then H.fr, .slice ba ((s.ans (s.seqs.getD k 0)).getD []).length bcap, ?_, ?_⟩
          · rw [if_neg h14, if_neg h14, hsm, askK, if_neg hle, if_pos hsome]
          · rw [if_neg h14, hsm, askB, if_neg hle, ← heq]
            exact hAk
        · refine Run.seq ?_
          (refine Run.seq (Run.region ?_); intro K hK)
          refine Ops.pure H (X.move rfl) rfl rfl rfl ?_
          refine Ops.pure H (X.fieldAddr rfl rfl rfl rfl rfl rfl) rfl rfl rfl ?_
          refine Ops.pure H (X.load1 rfl rfl rfl rfl Pick.head rfl) rfl rfl rfl ?_
          refine Ops.pure H (X.len_slice rfl rfl rfl) rfl rfl rfl ?_
          refine Ops.pure H (X.cmp rfl rfl rfl) rfl rfl rfl ?_
          (refine Ops.nil (hK _ _ ?_); clear hK K)
          refine Run.cond_dec rfl (fun h38 => ?x5) (fun h38 => ?y5)
          case' y5 => exfalso; omega
          case' x5 =>
            refine Run.skip ?_
            refine Run.seq ?_
            refine Run.block ?_
            (refine Run.seq (Run.region ?_); intro K hK)
            refine Ops.pure H (X.fieldAddr rfl rfl rfl rfl rfl rfl) rfl rfl rfl ?_
            refine Ops.pure H (X.load1 rfl rfl rfl rfl Pick.head rfl) rfl rfl rfl ?_
            refine Ops.pure H (X.move rfl) rfl rfl rfl ?_
            refine Ops.pure H (X.indexAddr rfl rfl (by omega) rfl rfl rfl rfl) rfl rfl rfl ?_
            refine Ops.pure H (X.fieldAddr rfl rfl rfl rfl rfl rfl) rfl rfl rfl ?_
            refine Ops.pure H (X.load1 rfl rfl rfl rfl (.tail .head) (by assumption)) rfl rfl rfl ?_
            refine Ops.pure H (X.move rfl) rfl rfl rfl ?_
            refine Ops.pure H (X.cmp rfl rfl rfl) rfl rfl rfl ?_
            (refine Ops.nil (hK _ _ ?_); clear hK K)
            refine Run.cond_dec rfl (fun h48 => ?x6) (fun h48 => ?y6)
            case' y6 =>
              refine Run.skip ?_
              refine Run.inBlock ?_
              (refine Run.region ?_; intro K hK)
              refine Ops.pure H (X.move rfl) rfl rfl rfl ?_
              refine Ops.pure H (X.succ rfl rfl (by omega)) rfl rfl rfl ?_
              refine Ops.pure H (X.assign rfl) rfl rfl rfl ?_
              (refine Ops.nil (hK _ _ ?_); clear hK K)
            case' x6 => exfalso; omega
          refine (IH (k + 1) _ (by omega) ⟨hf2.then H.fr, by omega, fun j hj => ?_, H.pick (b := b11) (by repeat (first | exact .head | apply Pick.tail))⟩).weak (by repeat (first | exact trivial | refine ⟨rfl, ?_⟩))
          rcases Nat.lt_succ_iff_lt_or_eq.1 hj with h | rfl
          · exact hno j h
          · exact heq
      · obtain rfl : k = s.seqs.length := by omega
        have H := (Holds.start w2 []).add false hcp (by simp) (by simp)
        refine Run.seq ?_
        (refine Run.seq (Run.region ?_); intro K hK)
        refine Ops.pure H (X.move rfl) rfl rfl rfl ?_
        refine Ops.pure H (X.fieldAddr rfl rfl rfl rfl rfl rfl) rfl rfl rfl ?_
        refine Ops.pure H (X.load1 rfl rfl rfl rfl Pick.head rfl) rfl rfl rfl ?_
        refine Ops.pure H (X.len_slice rfl rfl rfl) rfl rfl rfl ?_
        refine Ops.pure H (X.cmp rfl rfl rfl) rfl rfl rfl ?_
        (refine Ops.nil (hK _ _ ?_); clear hK K)
        refine Run.cond_dec rfl (fun h38 => ?x7) (fun h38 => ?y7)
        case' y7 =>
          refine Run.exit rfl ?_
          (refine Run.seq (Run.region ?_); intro K hK)
          refine Ops.pure H (X.assign rfl) rfl rfl rfl ?_
          refine Ops.pure H (X.assign rfl) rfl rfl rfl ?_
          refine Ops.pure H (X.assign rfl) rfl rfl rfl ?_
          (refine Ops.nil (hK _ _ ?_); clear hK K)
        case' x7 => exfalso; omega
        refine Fn.ret3 HF rfl rfl rfl rfl ?_
        have hnone : s.ans seq = none := by
          cases hx : s.ans seq with
          | none => rfl
          | some y =>
            obtain ⟨j, hj, e⟩ := List.getElem_of_mem ((hk id s hsm seq).1 (by rw [hx]; rfl))
            exact absurd (by simp [hj, e]) (hno j hj)
        exact ⟨hf2.then H.fr, .slice none 0 0, by simp [h14, askK, hsm, hle, hnone], by simpa [h14, askB, hsm, hle, hnone] using Ans.nil⟩
  · rw [decide_eq_false hin]
    have : m id = none := by
      cases hx : m id with
      | none => rfl
      | some s => exact absurd ((hm id).2 (by rw [hx]; rfl)) hin
    refine Ops.pure H (X.move rfl) rfl rfl rfl ?_
    refine Ops.pure H (X.extract rfl rfl) rfl rfl rfl ?_
    refine Ops.pure H (X.extract rfl rfl) rfl rfl rfl ?_
    refine Ops.pure H (X.assign rfl) rfl rfl rfl ?_
    refine Ops.pure H (X.assign rfl) rfl rfl rfl ?_
    (refine Ops.nil (hK _ _ ?_); clear hK K)
    refine Run.seq ?_
    (refine Run.seq (Run.region ?_); intro K hK)
    refine Ops.pure H (X.move rfl) rfl rfl rfl ?_
    refine Ops.pure H (X.not rfl) rfl rfl rfl ?_
    (refine Ops.nil (hK _ _ ?_); clear hK K)
    refine Run.cond_true rfl ?_
    (refine Run.seq (Run.region ?_); intro K hK)
    refine Ops.pure H (X.assign rfl) rfl rfl rfl ?_
    refine Ops.pure H (X.assign rfl) rfl rfl rfl ?_
    refine Ops.pure H (X.assign rfl) rfl rfl rfl ?_
    (refine Ops.nil (hK _ _ ?_); clear hK K)
    refine Fn.ret3 HF rfl rfl rfl rfl ?_
    exact ⟨H.fr, .slice none 0 0, by simp [h14, askK, this], by simpa [h14, askB, this] using Ans.nil⟩
/-- Put, of any window. -/
theorem pput (w : World) (n : Nat) (W : WS) (id seq : Int) (V : Value) (bs : List Int) (hW : Wn w W) (nw : W.size = n) (nn : W.N ≤ 1024) (hu : ∀ x s, st W x = some s → U64 x ∧ Full n s) (hV : Ans w V bs) (h1 : 1 ≤ n) (h2 : n ≤ 64) (hid : U64 id) (hq : U64 seq) (hb : Byt bs) :
    Fn env.P 7 [.pointer (some ⟨W.wb, 0, none⟩), .int .u64 id, .int .u64 seq, V] w fun v w' => v = .int .i64 (putE W.N (st W id) seq bs) ∧ ∃ W', W'.wb = W.wb ∧ Wn w' W' ∧ W'.size = n ∧ W'.N = putN W.N (st W id) seq bs ∧ W'.N ≤ 1024 ∧ (∀ x s, st W' x = some s → U64 x ∧ Full n s) ∧ st W' id = putS n W.N (st W id) seq bs ∧ (∀ y, y ≠ id → st W' y = st W y) ∧ Fr w w' (footP W id) ∧ ∀ b, Foot W' b → Foot W b ∨ w.heap.size ≤ b := by
  refine (put_any w W id seq V bs hW hV (by rw [nw]; omega) (by rw [nw]; omega) (st_len rfl (fun c hc => by rw [nw]; have := (hu id c hc).2.le; omega))).mono ?_
  rintro v w' ⟨e1, e2, m', e3, e4, e5, e6⟩
  have hst : ∀ y, y ≠ id → st { W with m := m', N := putN W.N (st W id) seq bs } y = st W y := fun y hy => by
    show (m' y).map _ = (W.m y).map _
    rw [e4 y hy]
  have hst' : st { W with m := m', N := putN W.N (st W id) seq bs } id = putS n W.N (st W id) seq bs := by rw [← nw]; exact e5
  refine ⟨e1, { W with m := m', N := putN W.N (st W id) seq bs }, rfl, e3, nw, rfl, putN_le2 nn, fun y s hy => ?_, hst', hst, e2, fun b hb => PutPost.foot e4 e6 hb⟩
  by_cases e : y = id
  · subst e
    rw [hst'] at hy
    exact ⟨hid, putS_full (fun c hc => (hu y c hc).2) h1 hq hb s hy⟩
  · rw [hst y e] at hy
    exact hu y s hy
/-- What a call on both comes to. -/
def Does (z0 : Nat) (w : World) (pb : Nat) (W : WS) (db n : Nat) (v : Value) (w' : World) : Prop :=
  ∃ pb' W' db' n' ids', v = .tuple #[.pointer (some ⟨pb', 0, none⟩), .bool true] ∧ PR z0 w' pb' W' db' n' ids' ∧
    ((pb' = pb ∧ db' = db ∧ (∃ S, Fr w w' S ∧ ∀ b ∈ S, b = db ∨ Foot W b) ∧ ∀ b, Foot W' b → Foot W b ∨ w.heap.size ≤ b) ∨
     (Fr w w' [] ∧ w.heap.size ≤ pb' ∧ w.heap.size ≤ db' ∧ ∀ b, Foot W' b → w.heap.size ≤ b))
theorem Does.same {z0 : Nat} {w w' : World} {pb : Nat} {W : WS} {db n : Nat} {ids : List Int} (h : PR z0 w pb W db n ids) (hf : Fr w w' []) : Does z0 w pb W db n (.tuple #[.pointer (some ⟨pb, 0, none⟩), .bool true]) w' :=
  ⟨pb, W, db, n, ids, rfl, h.ext hf, .inl ⟨rfl, rfl, ⟨[], hf, by simp⟩, fun b hb => .inl hb⟩⟩
theorem does_none (z0 : Nat) (z : World) (pb : Nat) (W : WS) (db n : Nat) (ids : List Int) (kind client seq : Int) (V : Value) (xs : List Int) (h : PR z0 z pb W db n ids) (hz0 : z0 ≤ z.heap.size) (hV : Bys z V xs) (hk : kind ≠ 0 ∧ kind ≠ 1 ∧ kind ≠ 2 ∧ kind ≠ 3 ∧ kind ≠ 4) :
    Fn env.P 12 [.pointer (some ⟨pb, 0, none⟩), .agg #[.int .i64 kind, .int .u64 client, .int .u64 seq, V]] z (Does z0 z pb W db n) := by
  obtain ⟨k0, k1, k2, k3, k4⟩ := hk
  obtain ⟨xa, xcap, _, _, _, _, _, rfl, _⟩ := hV
  have H := Holds.start z []
  have HF := Try.func12; refine Fn.enter Try.func12 Try.ntmps12 rfl rfl rfl ?_
  (refine Run.seq (Run.region ?_); intro K hK)
  (refine Ops.eff rfl (Y.box rfl rfl rfl H ?_); intro b3 w H0 hb3; clear H; have H := H0; clear H0)
  refine Ops.pure H (X.assign rfl) rfl rfl rfl ?_
  refine Ops.pure H (X.assign rfl) rfl rfl rfl ?_
  (refine Ops.nil (hK _ _ ?_); clear hK K)
  refine Run.seq ?_
  (refine Run.seq (Run.region ?_); intro K hK)
  refine Ops.pure H (X.fieldAddr rfl rfl rfl rfl rfl rfl) rfl rfl rfl ?_
  refine Ops.pure H (X.load1 rfl rfl rfl rfl Pick.head rfl) rfl rfl rfl ?_
  (refine Ops.nil (hK _ _ ?_); clear hK K)
  refine Run.block ?_
  (refine Run.seq (Run.region ?_); intro K hK)
  refine Ops.pure H (X.cmp rfl rfl rfl) rfl rfl rfl ?_
  refine Ops.pure H (X.assign rfl) rfl rfl rfl ?_
  (refine Ops.nil (hK _ _ ?_); clear hK K)
  refine Run.cond_dec rfl (fun h25 => ?x8) (fun h25 => ?y8)
  case' y8 =>
    (refine Run.seq (Run.region ?_); intro K hK)
    refine Ops.pure H (X.cmp rfl rfl rfl) rfl rfl rfl ?_
    refine Ops.pure H (X.assign rfl) rfl rfl rfl ?_
    (refine Ops.nil (hK _ _ ?_); clear hK K)
    refine Run.cond_dec rfl (fun h89 => ?x9) (fun h89 => ?y9)
    case' y9 =>
      (refine Run.seq (Run.region ?_); intro K hK)
      refine Ops.pure H (X.cmp rfl rfl rfl) rfl rfl rfl ?_
      refine Ops.pure H (X.assign rfl) rfl rfl rfl ?_
      (refine Ops.nil (hK _ _ ?_); clear hK K)
      refine Run.cond_dec rfl (fun h120 => ?x10) (fun h120 => ?y10)
      case' y10 =>
        (refine Run.seq (Run.region ?_); intro K hK)
        refine Ops.pure H (X.cmp rfl rfl rfl) rfl rfl rfl ?_
        refine Ops.pure H (X.assign rfl) rfl rfl rfl ?_
        (refine Ops.nil (hK _ _ ?_); clear hK K)
        refine Run.cond_dec rfl (fun h137 => ?x11) (fun h137 => ?y11)
        case' y11 =>
          (refine Run.seq (Run.region ?_); intro K hK)
          refine Ops.pure H (X.cmp rfl rfl rfl) rfl rfl rfl ?_
          refine Ops.pure H (X.assign rfl) rfl rfl rfl ?_
          (refine Ops.nil (hK _ _ ?_); clear hK K)
          refine Run.cond_dec rfl (fun h162 => ?x12) (fun h162 => ?y12)
          case' y12 =>
            refine Run.skip ?_
            refine Run.inBlock ?_
            (refine Run.seq (Run.region ?_); intro K hK)
            refine Ops.pure H (X.move rfl) rfl rfl rfl ?_
            refine Ops.pure H (X.assign rfl) rfl rfl rfl ?_
            refine Ops.pure H (X.assign rfl) rfl rfl rfl ?_
            (refine Ops.nil (hK _ _ ?_); clear hK K)
          case' x12 => exfalso; omega
        case' x11 => exfalso; omega
      case' x10 => exfalso; omega
    case' x9 => exfalso; omega
  case' x8 => exfalso; omega
  refine Fn.ret2 HF rfl rfl rfl ?_
  exact Does.same h H.fr
theorem does_clone (z0 : Nat) (z : World) (pb : Nat) (W : WS) (db n : Nat) (ids : List Int) (client seq : Int) (V : Value) (xs : List Int) (h : PR z0 z pb W db n ids) (hz0 : z0 ≤ z.heap.size) (hV : Bys z V xs) :
    Fn env.P 12 [.pointer (some ⟨pb, 0, none⟩), .agg #[.int .i64 2, .int .u64 client, .int .u64 seq, V]] z (Does z0 z pb W db n) := by
  obtain ⟨xa, xcap, _, _, _, _, _, rfl, _⟩ := hV
  have H := (Holds.start z []).add false h.row (by simp) (by simp)
  have HF := Try.func12; refine Fn.enter Try.func12 Try.ntmps12 rfl rfl rfl ?_
  (refine Run.seq (Run.region ?_); intro K hK)
  (refine Ops.eff rfl (Y.box rfl rfl rfl H ?_); intro b3 w H0 hb3; clear H; have H := H0; clear H0)
  refine Ops.pure H (X.assign rfl) rfl rfl rfl ?_
  refine Ops.pure H (X.assign rfl) rfl rfl rfl ?_
  (refine Ops.nil (hK _ _ ?_); clear hK K)
  refine Run.seq ?_
  (refine Run.seq (Run.region ?_); intro K hK)
  refine Ops.pure H (X.fieldAddr rfl rfl rfl rfl rfl rfl) rfl rfl rfl ?_
  refine Ops.pure H (X.load1 rfl rfl rfl rfl Pick.head rfl) rfl rfl rfl ?_
  (refine Ops.nil (hK _ _ ?_); clear hK K)
  refine Run.block ?_
  (refine Run.seq (Run.region ?_); intro K hK)
  refine Ops.pure H (X.cmp rfl rfl rfl) rfl rfl rfl ?_
  refine Ops.pure H (X.assign rfl) rfl rfl rfl ?_
  (refine Ops.nil (hK _ _ ?_); clear hK K)
  refine Run.cond_false rfl ?_
  (refine Run.seq (Run.region ?_); intro K hK)
  refine Ops.pure H (X.cmp rfl rfl rfl) rfl rfl rfl ?_
  refine Ops.pure H (X.assign rfl) rfl rfl rfl ?_
  (refine Ops.nil (hK _ _ ?_); clear hK K)
  refine Run.cond_false rfl ?_
  (refine Run.seq (Run.region ?_); intro K hK)
  refine Ops.pure H (X.cmp rfl rfl rfl) rfl rfl rfl ?_
  refine Ops.pure H (X.assign rfl) rfl rfl rfl ?_
  (refine Ops.nil (hK _ _ ?_); clear hK K)
  refine Run.cond_true rfl ?_
  (refine Run.seq (Run.region ?_); intro K hK)
  refine Ops.pure H (X.move rfl) rfl rfl rfl ?_
  refine Ops.pure H (X.nilCheck rfl) rfl rfl rfl ?_
  refine Ops.pure H (X.fieldAddr rfl rfl rfl rfl rfl rfl) rfl rfl rfl ?_
  refine Ops.pure H (X.load1 rfl rfl rfl rfl (.tail .head) rfl) rfl rfl rfl ?_
  have hids : ids.length ≤ 1024 := by rw [h.len]; exact h.nn
  have hz1 := H.fr.size
  refine Ops.eff rfl (Y.call rfl rfl (by first | assumption | decide +kernel) rfl (wclone_any _ W (h.pw.ext H.fr) h.nn (fun x c hc => (h.u x c.s (by rw [st, hc]; rfl)).2.one)) rfl ?_)
  rintro v w1 ⟨Q, rfl, hQ1, q1, q2, q3, q4, hf1⟩
  have F1 := H.fr.then hf1
  clear H
  have H := (Holds.start w1 []).add false (F1.get h.row (by simp)) (by simp) (by simp)
  refine Ops.pure H (X.assign rfl) rfl rfl rfl ?_
  (refine Ops.nil (hK _ _ (Run.seq (Run.region ?_))); clear hK K; intro K hK)
  refine Ops.pure H (X.move rfl) rfl rfl rfl ?_
  refine Ops.pure H (X.move rfl) rfl rfl rfl ?_
  refine Ops.pure H (X.nilCheck rfl) rfl rfl rfl ?_
  refine Ops.pure H (X.fieldAddr rfl rfl rfl rfl rfl rfl) rfl rfl rfl ?_
  refine Ops.pure H (X.load1 rfl rfl rfl rfl Pick.head rfl) rfl rfl rfl ?_
  have F1w := F1.then H.fr
  have hz2 := F1w.size
  refine Ops.eff rfl (Y.call rfl rfl (by first | assumption | decide +kernel) rfl (dcopy_any _ db n ids (st W) (h.rd.ext F1w) hids) rfl ?_)
  rintro v w2 ⟨d2, rfl, hdz, hRD2, hf2⟩
  have hQ2 := (hQ1.ext H.fr).ext hf2
  have F2 := F1w.then hf2
  clear H
  have H := Holds.start w2 []
  refine Ops.pure H (X.buildO rfl rfl rfl rfl rfl rfl) rfl rfl rfl ?_
  (refine Ops.eff rfl (Y.box rfl rfl rfl H ?_); intro b134 w H0 hb134; clear H; have H := H0; clear H0)
  refine Ops.pure H (X.move rfl) rfl rfl rfl ?_
  refine Ops.pure H (X.ptrNil rfl rfl rfl rfl rfl) rfl rfl rfl ?_
  refine Ops.pure H (X.assign rfl) rfl rfl rfl ?_
  refine Ops.pure H (X.assign rfl) rfl rfl rfl ?_
  (refine Ops.nil (hK _ _ ?_); clear hK K)
  refine Fn.ret2 HF rfl rfl rfl ?_
  have hz3 := F2.size
  have F3 := F2.then H.fr
  refine ⟨b134, Q, d2, n, ids, rfl, ⟨H.pick (b := b134) (by repeat (first | exact .head | apply Pick.tail)), hQ2.ext H.fr, fun b hb => by have := q4 b hb; omega, by rw [q3]; exact h.nw, h.n1, h.n2, by rw [q2]; exact h.nn, by rw [q1]; exact h.u, by rw [q1]; exact hRD2.ext H.fr, h.up, by rw [q1]; exact h.mem, by rw [q2]; exact h.len, by omega, by omega⟩, .inr ⟨F3, by omega, by omega, fun b hb => by have := q4 b hb; omega⟩⟩
theorem does_back (z0 : Nat) (z : World) (pb : Nat) (W : WS) (db n : Nat) (ids : List Int) (client seq : Int) (V : Value) (xs : List Int) (h : PR z0 z pb W db n ids) (hz0 : z0 ≤ z.heap.size) (hV : Bys z V xs) :
    Fn env.P 12 [.pointer (some ⟨pb, 0, none⟩), .agg #[.int .i64 3, .int .u64 client, .int .u64 seq, V]] z (Does z0 z pb W db n) := by
  obtain ⟨xa, xcap, _, _, _, _, _, rfl, _⟩ := hV
  have hids : ids.length ≤ 1024 := by rw [h.len]; exact h.nn
  have H := (Holds.start z []).add false h.row (by simp) (by simp)
  have HF := Try.func12; refine Fn.enter Try.func12 Try.ntmps12 rfl rfl rfl ?_
  (refine Run.seq (Run.region ?_); intro K hK)
  (refine Ops.eff rfl (Y.box rfl rfl rfl H ?_); intro b3 w H0 hb3; clear H; have H := H0; clear H0)
  refine Ops.pure H (X.assign rfl) rfl rfl rfl ?_
  refine Ops.pure H (X.assign rfl) rfl rfl rfl ?_
  (refine Ops.nil (hK _ _ ?_); clear hK K)
  refine Run.seq ?_
  (refine Run.seq (Run.region ?_); intro K hK)
  refine Ops.pure H (X.fieldAddr rfl rfl rfl rfl rfl rfl) rfl rfl rfl ?_
  refine Ops.pure H (X.load1 rfl rfl rfl rfl Pick.head rfl) rfl rfl rfl ?_
  (refine Ops.nil (hK _ _ ?_); clear hK K)
  refine Run.block ?_
  (refine Run.seq (Run.region ?_); intro K hK)
  refine Ops.pure H (X.cmp rfl rfl rfl) rfl rfl rfl ?_
  refine Ops.pure H (X.assign rfl) rfl rfl rfl ?_
  (refine Ops.nil (hK _ _ ?_); clear hK K)
  refine Run.cond_false rfl ?_
  (refine Run.seq (Run.region ?_); intro K hK)
  refine Ops.pure H (X.cmp rfl rfl rfl) rfl rfl rfl ?_
  refine Ops.pure H (X.assign rfl) rfl rfl rfl ?_
  (refine Ops.nil (hK _ _ ?_); clear hK K)
  refine Run.cond_false rfl ?_
  (refine Run.seq (Run.region ?_); intro K hK)
  refine Ops.pure H (X.cmp rfl rfl rfl) rfl rfl rfl ?_
  refine Ops.pure H (X.assign rfl) rfl rfl rfl ?_
  (refine Ops.nil (hK _ _ ?_); clear hK K)
  refine Run.cond_false rfl ?_
  (refine Run.seq (Run.region ?_); intro K hK)
  refine Ops.pure H (X.cmp rfl rfl rfl) rfl rfl rfl ?_
  refine Ops.pure H (X.assign rfl) rfl rfl rfl ?_
  (refine Ops.nil (hK _ _ ?_); clear hK K)
  refine Run.cond_true rfl ?_
  (refine Run.seq (Run.region ?_); intro K hK)
  refine Ops.pure H (X.move rfl) rfl rfl rfl ?_
  refine Ops.pure H (X.nilCheck rfl) rfl rfl rfl ?_
  refine Ops.pure H (X.fieldAddr rfl rfl rfl rfl rfl rfl) rfl rfl rfl ?_
  refine Ops.pure H (X.load1 rfl rfl rfl rfl (.tail .head) rfl) rfl rfl rfl ?_
  have hz1 := H.fr.size
  refine Ops.eff rfl (Y.call rfl rfl (by first | assumption | decide +kernel) rfl (Bytes_any _ W (h.pw.ext H.fr) h.wok) rfl ?_)
  rintro v w1 ⟨kds, k1, k2, k3, hO1, hf1⟩
  have hn : W.size.toNat = n := by rw [h.nw]; exact Int.toNat_natCast n
  have hge := len_encW W.size.toNat W.N (st W) kds
  have hload : loadP (encW W.size.toNat W.N (st W) kds) = some (n, W.N, st W, beL 8 (fnvL (encB n W.N (st W) kds))) := by
    have h3 := loadP_enc n h.n1 h.n2 (st W) kds (by rw [k3]; exact h.nn) (fun x => by rw [k1, st]; cases W.m x <;> simp) (fun x s hx => h.u x s hx) k2
    rw [hn, ← k3]
    exact h3
  have hbyt : Byt (encW W.size.toNat W.N (st W) kds) := Byt.append (Byt.encB h.wok _ _ _ (fun x hx => (k1 x).1 hx)) (Byt.be _ _)
  obtain ⟨B, hB⟩ : ∃ B, B = encW W.size.toNat W.N (st W) kds := ⟨_, rfl⟩
  rw [← hB] at hO1 hge hload hbyt
  obtain ⟨bb, bcap, bcs, rfl, hb1, hb2, hbz, hbb, hbl, hbC⟩ := hO1.get (by omega)
  have F1 := H.fr.then hf1
  clear H
  have H := Holds.start w1 []
  skip
  refine Ops.eff rfl (Y.call rfl rfl (by first | assumption | decide +kernel) rfl (load_any _ bb 0 bcap bcs (0, 0) B (H.fr.get hbb (by simp)) hb1 hb2 (by simpa using hbC) hbyt) rfl ?_)
  rintro v w2 hQ
  obtain ⟨D, rfl, hf2, d1, d2', d3, d4, d5, d6⟩ := hQ.good hload (beL_len _ _) (fun x => by rw [k1, st]; cases W.m x <;> simp) k2 (by rw [hB, hn])
  have F1w := F1.then H.fr
  have F2 := F1w.then hf2
  have hz2 := F1w.size
  have hz3 := F2.size
  clear H
  have H := (Holds.start w2 []).add false (F2.get h.row (by simp)) (by simp) (by simp)
  refine Ops.pure H (X.move rfl) rfl rfl rfl ?_
  refine Ops.pure H (X.extract rfl rfl) rfl rfl rfl ?_
  refine Ops.pure H (X.extract rfl rfl) rfl rfl rfl ?_
  refine Ops.pure H (X.assign rfl) rfl rfl rfl ?_
  refine Ops.pure H (X.assign rfl) rfl rfl rfl ?_
  (refine Ops.nil (hK _ _ (Run.seq (Run.region ?_))); clear hK K; intro K hK)
  refine Ops.pure H (X.move rfl) rfl rfl rfl ?_
  refine Ops.pure H (X.move rfl) rfl rfl rfl ?_
  refine Ops.pure H (X.nilCheck rfl) rfl rfl rfl ?_
  refine Ops.pure H (X.fieldAddr rfl rfl rfl rfl rfl rfl) rfl rfl rfl ?_
  refine Ops.pure H (X.load1 rfl rfl rfl rfl Pick.head rfl) rfl rfl rfl ?_
  have F2w := F2.then H.fr
  have hz4 := F2w.size
  refine Ops.eff rfl (Y.call rfl rfl (by first | assumption | decide +kernel) rfl (dcopy_any _ db n ids (st W) (h.rd.ext F2w) hids) rfl ?_)
  rintro v w3 ⟨db2, rfl, hdz, hRD2, hf3⟩
  have hD3 := (d1.ext H.fr).ext hf3
  have F3 := F2w.then hf3
  clear H
  have H := Holds.start w3 []
  refine Ops.pure H (X.buildO rfl rfl rfl rfl rfl rfl) rfl rfl rfl ?_
  (refine Ops.eff rfl (Y.box rfl rfl rfl H ?_); intro b155 w H0 hb155; clear H; have H := H0; clear H0)
  refine Ops.pure H (X.move rfl) rfl rfl rfl ?_
  refine Ops.pure H (X.ptrNil rfl rfl rfl rfl rfl) rfl rfl rfl ?_
  refine Ops.pure H (X.move rfl) rfl rfl rfl ?_
  refine Ops.pure H (X.move rfl) rfl rfl rfl ?_
  refine Ops.pure H (X.cmp rfl rfl rfl) rfl rfl rfl ?_
  refine Ops.pure H (X.pick_t rfl rfl) rfl rfl rfl ?_
  refine Ops.pure H (X.assign rfl) rfl rfl rfl ?_
  refine Ops.pure H (X.assign rfl) rfl rfl rfl ?_
  (refine Ops.nil (hK _ _ ?_); clear hK K)
  refine Fn.ret2 HF rfl rfl rfl ?_
  have hz5 := F3.size
  have hDn : D.size = n := by
    have := d2'.size.1
    omega
  refine ⟨b155, D, db2, n, ids, rfl, ⟨H.pick (b := b155) (by repeat (first | exact .head | apply Pick.tail)), hD3.ext H.fr, fun b hb => by have := d6 b hb; omega, hDn, h.n1, h.n2, d2'.N, by rw [d5]; exact h.u, by rw [d5]; exact hRD2.ext H.fr, h.up, by rw [d5]; exact h.mem, by rw [d4]; exact h.len, by omega, by omega⟩, .inr ⟨F3.then H.fr, by omega, by omega, fun b hb => by have := d6 b hb; omega⟩⟩
end Go.Proofs.Ytaneenahapdabaa
