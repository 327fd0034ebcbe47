/- Walks: what may go; tickets; queues. -/
import Derived.Test.YthidohdnaeboaaaO2
import Derived.Test.YthidohdnaeboaaaEngG
namespace Go.Proofs.Ythidohdnaeboaaa
open Go
set_option maxRecDepth 20000
set_option maxHeartbeats 2000000
attribute [local irreducible] Run Ops Fn Draw Draw2 PureOp StepZ

abbrev u64s (xs : List Int) : List Value := xs.map (Value.int .u64)
/-- The numbers of the first k tickets that q picks. -/
def selTo (l : List Tk) (q : Nat → Bool) (k : Nat) : List Int := ((List.range k).filter q).map fun i => (l.getD i tk0).id
def readyTo (l : List Tk) (k : Nat) : List Int := selTo l (mayL l) k
theorem selTo_succ (l : List Tk) (q : Nat → Bool) (k : Nat) : selTo l q (k + 1) = selTo l q k ++ (if q k then [(l.getD k tk0).id] else []) := by
  unfold selTo
  rw [List.range_succ, List.filter_append, List.map_append]
  congr 1
  cases h : q k <;> simp [h]
theorem selTo_le (l : List Tk) (q : Nat → Bool) (k : Nat) : (selTo l q k).length ≤ k := by
  unfold selTo
  rw [List.length_map]
  exact Nat.le_trans (List.length_filter_le _ _) (by simp)
theorem readyTo_succ (l : List Tk) (k : Nat) : readyTo l (k + 1) = readyTo l k ++ (if mayL l k then [(l.getD k tk0).id] else []) := selTo_succ l _ k
theorem readyTo_le (l : List Tk) (k : Nat) : (readyTo l k).length ≤ k := selTo_le l _ k
theorem ready_any (w : World) (o c : Nat) (n last : Int) (l : List Tk) (h : Ord w o c n last l) (hl : l.length ≤ 4096) :
    Fn env.P 19 [.pointer (some ⟨o, 0, none⟩)] w fun v w' => Own w' w.heap.size 30 1 v (readyTo l l.length).length (u64s (readyTo l l.length)) ∧ Fr w w' [] := by
  have h' := h
  obtain ⟨v, ho, a, cap, cs, rfl, hc1, hc2, hac, hall⟩ := h
  have H := (Holds.start w []).add false ho (by simp) (by simp)
  have HF := Try.func19; refine Fn.enter Try.func19 Try.ntmps19 rfl rfl rfl ?_
  refine Run.seq ?_
  (refine Run.region ?_; intro K hK)
  refine Ops.pure H (X.assign rfl) rfl rfl rfl ?_
  (refine Ops.nil (hK _ _ ?_); clear hK K)
  refine Run.seq ?_
  (refine Run.region ?_; intro K hK)
  refine Ops.pure H (X.assign rfl) rfl rfl rfl ?_
  (refine Ops.nil (hK _ _ ?_); clear hK K)
  refine Run.seq ?_
  refine Run.seq ?_
  (refine Run.region ?_; intro K hK)
  refine Ops.pure H (X.move rfl) rfl rfl rfl ?_
  refine Ops.pure H (X.nilCheck rfl) rfl rfl rfl ?_
  refine Ops.pure H (X.fieldAddr rfl rfl rfl rfl rfl rfl) rfl rfl rfl ?_
  refine Ops.pure H (X.load1 rfl rfl rfl rfl Pick.head rfl) rfl rfl rfl ?_
  refine Ops.pure H (X.len_slice rfl rfl rfl) rfl rfl rfl ?_
  refine Ops.pure H (X.move rfl) rfl rfl rfl ?_
  (refine Ops.nil (hK _ _ ?_); clear hK K)
  refine Run.block ?_
  refine Run.rounds (fun (x : Nat × Value) => [(0, .pointer (some ⟨o, 0, none⟩)), (3, x.2), (9, .slice a l.length cap), (10, .int .i64 (l.length : Nat)), (11, .int .i64 (x.1 : Nat))]) (fun x w' => x.1 ≤ l.length ∧ Fr w w' [] ∧ Own w' w.heap.size 30 1 x.2 (readyTo l x.1).length (u64s (readyTo l x.1))) (fun x => l.length - x.1) (0, .slice none 0 0) (by repeat (first | exact trivial | refine ⟨rfl, ?_⟩)) ⟨by omega, Fr.refl _ _, Own.nil⟩ ?_
  rintro ⟨k, out⟩ w1 ⟨hk, hfr, hO⟩ IH
  dsimp only at hk hfr hO IH ⊢
  clear H
  by_cases hlt : k < l.length
  · obtain ⟨rfl, hcc⟩ := tks_pos hac hc1 hfr (by omega)
    obtain ⟨vk, bk, hcs, hid, hpa, ⟨capk, dsk, rfl, _⟩, h64⟩ := (hall k _ (some_at hlt)).get
    have H := ((Holds.start w1 []).add false (hfr.get ho (by simp)) (by simp) (by simp)).add false hcc (by simpa using ne_of_ty hcc (hfr.get ho (by simp)) (by decide)) (by simp)
    refine Run.seq ?_
    (refine Run.region ?_; intro K hK)
    refine Ops.pure H (X.cmp rfl rfl rfl) rfl rfl rfl ?_
    (refine Ops.nil (hK _ _ ?_); clear hK K)
    refine Run.seq ?_
    refine Run.cond_dec rfl (fun h12 => ?x0) (fun h12 => ?y0)
    case' y0 => exfalso; omega
    case' x0 =>
      refine Run.skip ?_
      refine Run.seq ?_
      refine Run.block ?_
      refine Run.seq ?_
      (refine Run.region ?_; intro K hK)
      refine Ops.pure H (X.move rfl) rfl rfl rfl ?_
      refine Ops.pure H (X.indexAddr rfl rfl (by omega) rfl rfl rfl rfl) rfl rfl rfl ?_
      refine Ops.pure H (X.loadN rfl rfl rfl Pick.head (by assumption)) rfl rfl rfl ?_
      (refine Ops.eff rfl (Y.alloc rfl rfl rfl H ?_); intro b5 w H0 hb5; clear H; have H := H0; clear H0)
      refine Ops.pure H (X.assign rfl) rfl rfl rfl ?_
      (refine Ops.eff rfl (Y.storeO rfl rfl rfl rfl rfl rfl H Upd.head rfl ?_); intro w H0; clear H; have H := H0; clear H0)
      (refine Ops.nil (hK _ _ ?_); clear hK K)
      refine Run.seq ?_
      (refine Run.region ?_; intro K hK)
      refine Ops.pure H (X.move rfl) rfl rfl rfl ?_
      refine Ops.pure H (X.move rfl) rfl rfl rfl ?_
    refine Ops.eff rfl (Y.call rfl rfl (by first | assumption | decide +kernel) rfl (may_any _ o c n last l k (h'.ext (hfr.then H.fr)) hlt) rfl ?_)
    rintro v w2 ⟨rfl, hf⟩
    replace H := H.ext hf
    cases hm : mayL l k
    · (refine Ops.nil (hK _ _ ?_); clear hK K)
      refine Run.cond_false rfl ?_
      refine Run.skip ?_
      refine Run.inBlock ?_
      (refine Run.region ?_; intro K hK)
      refine Ops.pure H (X.succ rfl rfl (by omega)) rfl rfl rfl ?_
      refine Ops.pure H (X.move rfl) rfl rfl rfl ?_
      (refine Ops.nil (hK _ _ ?_); clear hK K)
      refine (IH (k + 1, out) _ (by dsimp only; omega) ⟨by dsimp only; omega, hfr.then H.fr, ?_⟩).weak (by repeat (first | exact trivial | refine ⟨rfl, ?_⟩))
      dsimp only
      rw [readyTo_succ, hm]
      simpa using hO.ext H.fr
    · (refine Ops.nil (hK _ _ ?_); clear hK K)
      refine Run.cond_true rfl ?_
      (refine Run.region ?_; intro K hK)
      refine Ops.pure H (X.move rfl) rfl rfl rfl ?_
      refine Ops.pure H (X.fieldAddr rfl rfl rfl rfl rfl rfl) rfl rfl rfl ?_
      refine Ops.pure H (X.load1 rfl rfl rfl rfl Pick.head rfl) rfl rfl rfl ?_
      (refine Ops.eff rfl (Y.buildSliceO rfl rfl rfl rfl rfl rfl rfl rfl H ?_); intro b22 w H0 hb22; clear H; have H := H0; clear H0)
      refine Ops.eff rfl (Y.appendOwn (news := [.int .u64 (l.getD k tk0).id]) (hO.ext H.fr) rfl rfl rfl rfl rfl rfl (hfr.then H.fr) (by omega) rfl (Src.row (m := 1) H .head (Cs.take rfl)) rfl rfl (by have := readyTo_le l k; dsimp only; omega) (by have := readyTo_le l k; omega) rfl ?_)
      intro out' w3 hF3 hK3 hO3
      clear H
      have H := Holds.start w3 []
      refine Ops.pure H (X.assign rfl) rfl rfl rfl ?_
      (refine Ops.nil (hK _ _ ?_); clear hK K)
      refine Run.inBlock ?_
      (refine Run.region ?_; intro K hK)
      refine Ops.pure H (X.succ rfl rfl (by omega)) rfl rfl rfl ?_
      refine Ops.pure H (X.move rfl) rfl rfl rfl ?_
      (refine Ops.nil (hK _ _ ?_); clear hK K)
      refine (IH (k + 1, out') _ (by dsimp only; omega) ⟨by dsimp only; omega, hF3, ?_⟩).weak (by repeat (first | exact trivial | refine ⟨rfl, ?_⟩))
      dsimp only
      rw [readyTo_succ, hm]
      simpa using hO3
  · have H := Holds.start w1 []
    refine Run.seq ?_
    (refine Run.region ?_; intro K hK)
    refine Ops.pure H (X.cmp rfl rfl rfl) rfl rfl rfl ?_
    (refine Ops.nil (hK _ _ ?_); clear hK K)
    refine Run.seq ?_
    refine Run.cond_dec rfl (fun h12 => ?x1) (fun h12 => ?y1)
    case' y1 =>
      refine Run.exit rfl ?_
      refine Run.seq ?_
      (refine Run.region ?_; intro K hK)
      refine Ops.pure H (X.move rfl) rfl rfl rfl ?_
      refine Ops.pure H (X.assign rfl) rfl rfl rfl ?_
      (refine Ops.nil (hK _ _ ?_); clear hK K)
    case' x1 => exfalso; omega
    (first | refine Fn.ret1 HF rfl rfl ?_ | refine Fn.ret2 HF rfl rfl rfl ?_ | refine Fn.ret3 HF rfl rfl rfl rfl ?_ | refine Fn.ret0 HF rfl ?_ | refine Fn.fin0 HF rfl ?_ | refine Fn.retG (E := env) HF rfl H (by first | exact RVs.cellN rfl rfl rfl (by first | exact .head | exact .tail .head | exact .tail (.tail .head) | exact .tail (.tail (.tail .head)) | exact .tail (.tail (.tail (.tail .head))) | exact .tail (.tail (.tail (.tail (.tail .head)))) | exact .tail (.tail (.tail (.tail (.tail (.tail .head)))))) (by first | assumption | exact Cs.take rfl) RVs.nil | exact RVs.cellN rfl rfl rfl (by first | exact .head | exact .tail .head | exact .tail (.tail .head) | exact .tail (.tail (.tail .head)) | exact .tail (.tail (.tail (.tail .head))) | exact .tail (.tail (.tail (.tail (.tail .head)))) | exact .tail (.tail (.tail (.tail (.tail (.tail .head)))))) (by first | assumption | exact Cs.take rfl) (RVs.tmp rfl RVs.nil)) rfl ?_)
    have : k = l.length := by omega
    subst this
    exact ⟨hO.ext H.fr, hfr.then H.fr⟩
theorem IntsB.keepT {w w' : World} {v : Value} {xs : List Int} {b : Nat} (h : IntsB w v xs b) (hf : KeepT 56 w w') : IntsB w' v xs b := by
  obtain ⟨cap, cs, h1, h2, h3, h4, h5, h6⟩ := h
  exact ⟨cap, cs, h1, h2, h3, hf _ _ _ (by decide) h4, h5, h6⟩
theorem IntsB.ext {w w' : World} {v : Value} {xs : List Int} {b : Nat} (h : IntsB w v xs b) (hf : Fr w w' []) : IntsB w' v xs b := h.keep hf (by simp)
theorem IntsB.lt {w : World} {v : Value} {xs : List Int} {b : Nat} (h : IntsB w v xs b) : b < w.heap.size := by
  obtain ⟨cap, cs, h1, h2, h3, h4, h5, h6⟩ := h
  exact lt_of_at h4
/-- The first k tickets, each with new Parts, in a new row. -/
def Fresh (w : World) (z : Nat) (v : Value) (l : List Tk) (k : Nat) : Prop :=
  ∃ V : Nat → Value × Nat, Own w z 56 4 v k ((List.range k).flatMap fun i => tkC (l.getD i tk0) (V i).1) ∧ (∀ i, i < k → IntsB w (V i).1 (l.getD i tk0).parts (V i).2 ∧ z ≤ (V i).2) ∧ ∀ i j, i < j → j < k → (V i).2 < (V j).2
theorem Fresh.ext {w w' : World} {z k : Nat} {v : Value} {l : List Tk} (h : Fresh w z v l k) (hf : Fr w w' []) : Fresh w' z v l k := by
  obtain ⟨V, h1, h2, h3⟩ := h
  exact ⟨V, h1.ext hf, fun i hi => ⟨(h2 i hi).1.ext hf, (h2 i hi).2⟩, h3⟩
theorem Fresh.nil {w : World} {z : Nat} {l : List Tk} : Fresh w z (.slice none 0 0) l 0 := ⟨fun _ => (undef, 0), Own.nil, fun i hi => by omega, fun i j _ hj => by omega⟩
theorem tkC_len (t : Tk) (v : Value) : (tkC t v).length = 4 := rfl
theorem Fresh.succ {w w' : World} {z k : Nat} {v' u : Value} {b : Nat} {l : List Tk} {V : Nat → Value × Nat} (h2 : ∀ i, i < k → IntsB w (V i).1 (l.getD i tk0).parts (V i).2 ∧ z ≤ (V i).2) (h3 : ∀ i j, i < j → j < k → (V i).2 < (V j).2)
    (hw : ∀ i, i < k → (V i).2 < b) (hu : IntsB w' u (l.getD k tk0).parts b) (hz : z ≤ b) (hO : Own w' z 56 4 v' (k + 1) (((List.range k).flatMap fun i => tkC (l.getD i tk0) (V i).1) ++ tkC (l.getD k tk0) u))
    (hk : ∀ i, i < k → IntsB w' (V i).1 (l.getD i tk0).parts (V i).2) : Fresh w' z v' l (k + 1) := by
  refine ⟨fun i => if i < k then V i else (u, b), ?_, fun i hi => ?_, fun i j hij hj => ?_⟩
  · rw [flat_succ, flat_congr (g := fun i => tkC (l.getD i tk0) (V i).1) (fun i hi => by simp only [if_pos hi])]
    simpa only [if_neg (Nat.lt_irrefl k)] using hO
  · by_cases h : i < k
    · simp only [if_pos h]
      exact ⟨hk i h, (h2 i h).2⟩
    · simp only [if_neg h]
      obtain rfl : i = k := by omega
      exact ⟨hu, hz⟩
  · by_cases h : j < k
    · simp only [if_pos h, if_pos (show i < k by omega)]
      exact h3 i j hij h
    · simp only [if_neg h, if_pos (show i < k by omega)]
      exact hw i (by omega)
/-- It is a slice of tickets like others. -/
theorem Fresh.tks {w : World} {z : Nat} {v : Value} {l : List Tk} (h : Fresh w z v l l.length) (h64 : ∀ i, i < l.length → (l.getD i tk0).parts.length ≤ 64) : ∃ c, Tks w v c l ∧ (l ≠ [] → z ≤ c) := by
  obtain ⟨V, h1, h2, h3⟩ := h
  rcases h1 with ⟨h0, hv, rfl⟩ | ⟨b, cap, cs, rfl, h4, h5, h6, h7, h8, h9⟩
  · refine ⟨0, ⟨none, 0, [], by rw [h0], by omega, by omega, .inl ⟨rfl, rfl⟩, fun i t ht => ?_⟩, fun hn => absurd (List.eq_nil_of_length_eq_zero h0) hn⟩
    have := (List.getElem?_eq_some_iff.1 ht).1
    omega
  · refine ⟨b, ⟨_, cap, cs, rfl, h4, h5, .inr ⟨rfl, h7, h8⟩, fun i t ht => ?_⟩, fun _ => h6⟩
    have hi := (List.getElem?_eq_some_iff.1 ht).1
    have e := getD_of ht
    refine ⟨(V i).1, (V i).2, ?_, ?_, ?_⟩
    · have := h9.flat (f := fun i => tkC (l.getD i tk0) (V i).1) (fun _ => rfl) hi
      rw [e] at this
      exact this
    · rw [← e]; exact (h2 i hi).1
    · rw [← e]; exact h64 i hi
theorem pending_any (w : World) (o c : Nat) (n last : Int) (l : List Tk) (h : Ord w o c n last l) (hl : l.length ≤ 4096) :
    Fn env.P 18 [.pointer (some ⟨o, 0, none⟩)] w fun v w' => Fresh w' w.heap.size v l l.length ∧ Fr w w' [] := by
  obtain ⟨v, ho, a, cap, cs, rfl, hc1, hc2, hac, hall⟩ := h
  have H := (Holds.start w []).add false ho (by simp) (by simp)
  have HF := Try.func18; refine Fn.enter Try.func18 Try.ntmps18 rfl rfl rfl ?_
  refine Run.seq ?_
  (refine Run.region ?_; intro K hK)
  refine Ops.pure H (X.assign rfl) rfl rfl rfl ?_
  (refine Ops.nil (hK _ _ ?_); clear hK K)
  refine Run.seq ?_
  (refine Run.region ?_; intro K hK)
  refine Ops.pure H (X.assign rfl) rfl rfl rfl ?_
  (refine Ops.nil (hK _ _ ?_); clear hK K)
  refine Run.seq ?_
  refine Run.seq ?_
  (refine Run.region ?_; intro K hK)
  refine Ops.pure H (X.move rfl) rfl rfl rfl ?_
  refine Ops.pure H (X.nilCheck rfl) rfl rfl rfl ?_
  refine Ops.pure H (X.fieldAddr rfl rfl rfl rfl rfl rfl) rfl rfl rfl ?_
  refine Ops.pure H (X.load1 rfl rfl rfl rfl Pick.head rfl) rfl rfl rfl ?_
  refine Ops.pure H (X.len_slice rfl rfl rfl) rfl rfl rfl ?_
  refine Ops.pure H (X.move rfl) rfl rfl rfl ?_
  (refine Ops.nil (hK _ _ ?_); clear hK K)
  refine Run.block ?_
  refine Run.rounds (fun (x : Nat × Value) => [(0, .pointer (some ⟨o, 0, none⟩)), (3, x.2), (9, .slice a l.length cap), (10, .int .i64 (l.length : Nat)), (11, .int .i64 (x.1 : Nat))]) (fun x w' => x.1 ≤ l.length ∧ Fr w w' [] ∧ Fresh w' w.heap.size x.2 l x.1) (fun x => l.length - x.1) (0, .slice none 0 0) (by repeat (first | exact trivial | refine ⟨rfl, ?_⟩)) ⟨by omega, Fr.refl _ _, Fresh.nil⟩ ?_
  rintro ⟨k, out⟩ w1 ⟨hk, hfr, hO⟩ IH
  dsimp only at hk hfr hO IH ⊢
  clear H
  by_cases hlt : k < l.length
  · obtain ⟨rfl, hcc⟩ := tks_pos hac hc1 hfr (by omega)
    obtain ⟨vk, bk, hcs, hid, hpa, hvi, h64⟩ := (hall k _ (some_at hlt)).get
    have hvi' := hvi
    obtain ⟨capk, dsk, rfl, _, _, _, _, h0⟩ := hvi
    have H := ((Holds.start w1 []).add false (hfr.get ho (by simp)) (by simp) (by simp)).add false hcc (by simpa using ne_of_ty hcc (hfr.get ho (by simp)) (by decide)) (by simp)
    refine Run.seq ?_
    (refine Run.region ?_; intro K hK)
    refine Ops.pure H (X.cmp rfl rfl rfl) rfl rfl rfl ?_
    (refine Ops.nil (hK _ _ ?_); clear hK K)
    refine Run.seq ?_
    refine Run.cond_dec rfl (fun h12 => ?x2) (fun h12 => ?y2)
    case' y2 => exfalso; omega
    case' x2 =>
      refine Run.skip ?_
      refine Run.seq ?_
      refine Run.block ?_
      refine Run.seq ?_
      (refine Run.region ?_; intro K hK)
      refine Ops.pure H (X.indexAddr rfl rfl (by omega) rfl rfl rfl rfl) rfl rfl rfl ?_
      refine Ops.pure H (X.loadN rfl rfl rfl Pick.head (by assumption)) rfl rfl rfl ?_
      (refine Ops.eff rfl (Y.alloc rfl rfl rfl H ?_); intro b5 w H0 hb5; clear H; have H := H0; clear H0)
      (refine Ops.eff rfl (Y.storeO rfl rfl rfl rfl rfl rfl H Upd.head rfl ?_); intro w H0; clear H; have H := H0; clear H0)
      (refine Ops.nil (hK _ _ ?_); clear hK K)
      (refine Run.region ?_; intro K hK)
      refine Ops.pure H (X.move rfl) rfl rfl rfl ?_
      refine Ops.pure H (X.loadN rfl rfl rfl Pick.head (Cs.take rfl)) rfl rfl rfl ?_
    refine Ops.eff rfl (Y.call rfl rfl (by first | assumption | decide +kernel) rfl (own_any _ (l.getD k tk0) _ (hvi'.ints.ext (hfr.then H.fr)) h0 h64) rfl ?_)
    rintro v w2 ⟨v', b, rfl, hv', hbz, hf⟩
    have hle := H.fr.size
    obtain ⟨V, hO1, hO2, hO3⟩ := hO
    obtain ⟨cap', ds', rfl, q2, q3, q4, q5, q6⟩ := hv'
    replace H := H.extAdd false hf q4 hbz
    (refine Ops.eff rfl (Y.buildSliceO rfl rfl rfl rfl rfl rfl rfl rfl H ?_); intro b18 w H0 hb18; clear H; have H := H0; clear H0)
    have hv2 : IntsB w _ _ b := ⟨cap', ds', rfl, q2, q3, H.pick (.tail .head), q5, q6⟩
    refine Ops.eff rfl (Y.appendOwn (news := tkC (l.getD k tk0) _) (hO1.ext H.fr) rfl rfl rfl rfl rfl rfl (hfr.then H.fr) (by omega) rfl (Src.row (m := 4) H .head (Cs.take rfl)) rfl rfl (by dsimp only; omega) (by omega) rfl ?_)
    intro out' w3 hF3 hK3 hO3'
    have hf2 := H.fr
    clear H
    have H := Holds.start w3 []
    refine Ops.pure H (X.assign rfl) rfl rfl rfl ?_
    (refine Ops.nil (hK _ _ ?_); clear hK K)
    refine Run.inBlock ?_
    (refine Run.region ?_; intro K hK)
    refine Ops.pure H (X.succ rfl rfl (by omega)) rfl rfl rfl ?_
    refine Ops.pure H (X.move rfl) rfl rfl rfl ?_
    (refine Ops.nil (hK _ _ ?_); clear hK K)
    refine (IH (k + 1, out') _ (by dsimp only; omega) ⟨by dsimp only; omega, hF3, ?_⟩).weak (by repeat (first | exact trivial | refine ⟨rfl, ?_⟩))
    exact Fresh.succ hO2 hO3 (fun i hi => Nat.lt_of_lt_of_le (hO2 i hi).1.lt (Nat.le_trans hle hbz)) (hv2.keepT hK3) (Nat.le_trans hfr.size (Nat.le_trans hle hbz)) hO3' (fun i hi => ((hO2 i hi).1.ext hf2).keepT hK3)
  · have H := Holds.start w1 []
    refine Run.seq ?_
    (refine Run.region ?_; intro K hK)
    refine Ops.pure H (X.cmp rfl rfl rfl) rfl rfl rfl ?_
    (refine Ops.nil (hK _ _ ?_); clear hK K)
    refine Run.seq ?_
    refine Run.cond_dec rfl (fun h12 => ?x3) (fun h12 => ?y3)
    case' y3 =>
      refine Run.exit rfl ?_
      refine Run.seq ?_
      (refine Run.region ?_; intro K hK)
      refine Ops.pure H (X.move rfl) rfl rfl rfl ?_
      refine Ops.pure H (X.assign rfl) rfl rfl rfl ?_
      (refine Ops.nil (hK _ _ ?_); clear hK K)
    case' x3 => exfalso; omega
    (first | refine Fn.ret1 HF rfl rfl ?_ | refine Fn.ret2 HF rfl rfl rfl ?_ | refine Fn.ret3 HF rfl rfl rfl rfl ?_ | refine Fn.ret0 HF rfl ?_ | refine Fn.fin0 HF rfl ?_ | refine Fn.retG (E := env) HF rfl H (by first | exact RVs.cellN rfl rfl rfl (by first | exact .head | exact .tail .head | exact .tail (.tail .head) | exact .tail (.tail (.tail .head)) | exact .tail (.tail (.tail (.tail .head))) | exact .tail (.tail (.tail (.tail (.tail .head)))) | exact .tail (.tail (.tail (.tail (.tail (.tail .head)))))) (by first | assumption | exact Cs.take rfl) RVs.nil | exact RVs.cellN rfl rfl rfl (by first | exact .head | exact .tail .head | exact .tail (.tail .head) | exact .tail (.tail (.tail .head)) | exact .tail (.tail (.tail (.tail .head))) | exact .tail (.tail (.tail (.tail (.tail .head)))) | exact .tail (.tail (.tail (.tail (.tail (.tail .head)))))) (by first | assumption | exact Cs.take rfl) (RVs.tmp rfl RVs.nil)) rfl ?_)
    have : k = l.length := by omega
    subst this
    exact ⟨hO.ext H.fr, hfr.then H.fr⟩
end Go.Proofs.Ythidohdnaeboaaa
