/- Walks of layer 20: the calls that were made; how many numbers are kept. -/
import Derived.Test.YtikkpkckbcpjfaaD8
import Derived.Test.YtikkpkckbcpjfaaEngI
namespace Go.Proofs.Ytikkpkckbcpjfaa
open Go
set_option maxRecDepth 20000
set_option maxHeartbeats 2000000
attribute [local irreducible] Run Ops Fn Draw Draw2 PureOp StepZ

structure MD where
  client : Int
  seq : Int
  b : List Int
  past : Bool
def md0 : MD := ⟨0, 0, [], false⟩
def mdC (m : MD) : List Value := [.int .u64 m.client, .int .u64 m.seq, .string (strOfNums m.b), .bool m.past]
/-- The calls that were made. -/
def Md (w : World) (v : Value) (q : Nat) (M : List MD) : Prop :=
  ∃ a cap cs, v = .slice a M.length cap ∧ M.length ≤ cap ∧ cap ≤ 9223372036854775807 ∧ ((a = none ∧ cap = 0) ∨ (a = some ⟨q, 0, none⟩ ∧ w.heap[q]? = some (row cs 41) ∧ cs.length = cap * 4)) ∧ ∀ i, i < M.length → Cs cs (0 + i * 4) 4 (mdC (M.getD i md0))
theorem Md.keep {w w' : World} {S : List Nat} {v : Value} {q : Nat} {M : List MD} (h : Md w v q M) (hf : Fr w w' S) (hS : q ∈ S → ∀ ds, w.heap[q]? ≠ some (row ds 41)) : Md w' v q M := by
  obtain ⟨a, cap, cs, h1, h2, h3, h4, h5⟩ := h
  refine ⟨a, cap, cs, h1, h2, h3, ?_, h5⟩
  rcases h4 with h4 | ⟨h4, h6, h7⟩
  · exact .inl h4
  · exact .inr ⟨h4, hf.get h6 (fun hm => hS hm _ h6), h7⟩
theorem Md.ext {w w' : World} {v : Value} {q : Nat} {M : List MD} (h : Md w v q M) (hf : Fr w w' []) : Md w' v q M := h.keep hf (by simp)
def isMd (m : MD) (c s : Int) : Prop := m.client = c ∧ m.seq = s
theorem find_any (z : World) (v : Value) (q : Nat) (M : List MD) (c s : Int) (h : Md z v q M) :
    Fn env.P 11 [v, .int .u64 c, .int .u64 s] z fun r w' => Fr z w' [] ∧ ((r = .int .i64 (-1) ∧ ∀ i, i < M.length → ¬ isMd (M.getD i md0) c s) ∨ ∃ i : Nat, r = .int .i64 (i : Nat) ∧ i < M.length ∧ isMd (M.getD i md0) c s) := by
  obtain ⟨a, cap, cs, rfl, h2, h3, h4, h5⟩ := h
  have H := Holds.start z []
  have HF := Try.func11; refine Fn.enter Try.func11 Try.ntmps11 rfl rfl rfl ?_
  refine Run.seq ?_
  (refine Run.region ?_; intro K hK)
  refine Ops.pure H (X.assign rfl) rfl rfl rfl ?_
  (refine Ops.nil (hK _ _ ?_); clear hK K)
  refine Run.seq ?_
  refine Run.seq ?_
  (refine Run.region ?_; intro K hK)
  refine Ops.pure H (X.assign rfl) rfl rfl rfl ?_
  (refine Ops.nil (hK _ _ ?_); clear hK K)
  refine Run.block ?_
  refine Run.rounds (fun (i : Nat) => [(0, .slice a M.length cap), (1, .int .u64 c), (2, .int .u64 s), (7, .int .i64 (i : Nat))]) (fun i w' => Fr z w' [] ∧ i ≤ M.length ∧ ∀ j, j < i → ¬ isMd (M.getD j md0) c s) (fun i => M.length - i) 0 (by repeat (first | exact trivial | refine ⟨rfl, ?_⟩)) ⟨H.fr, by omega, by intro j hj; omega⟩ ?_
  clear H
  rintro i w1 ⟨hf, hi, hno⟩ IH
  by_cases hlt : i < M.length
  · rcases h4 with ⟨_, rfl⟩ | ⟨rfl, h6, h7⟩
    · omega
    have hC := h5 i hlt
    have c0 : cs[0 + i * 4 + 0]? = some (.int .u64 (M.getD i md0).client) := hC.get 0 _ rfl
    have c1 : cs[0 + i * 4 + 1]? = some (.int .u64 (M.getD i md0).seq) := hC.get 1 _ rfl
    have H := (Holds.start w1 []).add false (hf.get h6 (by simp)) (by simp) (by simp)
    have hx : ∀ j, j < i + 1 → ¬ isMd (M.getD i md0) c s → ¬ isMd (M.getD j md0) c s := fun j hj h => by
      rcases Nat.lt_or_eq_of_le (Nat.le_of_lt_succ hj) with h' | rfl
      · exact hno j h'
      · exact h
    refine Run.seq ?_
    refine Run.seq ?_
    (refine Run.region ?_; intro K hK)
    refine Ops.pure H (X.move rfl) rfl rfl rfl ?_
    refine Ops.pure H (X.move rfl) rfl rfl rfl ?_
    refine Ops.pure H (X.len_slice rfl rfl rfl) rfl rfl rfl ?_
    refine Ops.pure H (X.cmp rfl rfl rfl) rfl rfl rfl ?_
    (refine Ops.nil (hK _ _ ?_); clear hK K)
    refine Run.cond_dec rfl (fun h11 => ?x0) (fun h11 => ?y0)
    case' y0 => exfalso; omega
    case' x0 =>
      refine Run.skip ?_
      refine Run.seq ?_
      refine Run.block ?_
      refine Run.seq ?_
      (refine Run.region ?_; intro K hK)
      refine Ops.pure H (X.move rfl) rfl rfl rfl ?_
      refine Ops.pure H (X.move rfl) rfl rfl rfl ?_
      refine Ops.pure H (X.indexAddr rfl rfl (by omega) rfl rfl rfl rfl) rfl rfl rfl ?_
      refine Ops.pure H (X.fieldAddr rfl rfl rfl rfl rfl rfl) rfl rfl rfl ?_
      refine Ops.pure H (X.load1 rfl rfl rfl rfl Pick.head (by assumption)) rfl rfl rfl ?_
      refine Ops.pure H (X.move rfl) rfl rfl rfl ?_
      refine Ops.pure H (X.cmp rfl rfl rfl) rfl rfl rfl ?_
      refine Ops.pure H (X.move rfl) rfl rfl rfl ?_
      refine Ops.split_dec rfl rfl (fun h22 => ?x1) (fun h22 => ?y1)
      case' y1 =>
        refine Ops.pass rfl rfl rfl ?_
        refine Ops.pass rfl rfl rfl ?_
        refine Ops.pass rfl rfl rfl ?_
        refine Ops.pass rfl rfl rfl ?_
        refine Ops.pass rfl rfl rfl ?_
        refine Ops.pass rfl rfl rfl ?_
        refine Ops.pass rfl rfl rfl ?_
        refine Ops.pure H (X.pick_f rfl rfl) rfl rfl rfl ?_
        (refine Ops.nil (hK _ _ ?_); clear hK K)
        refine Run.cond_false rfl ?_
        refine Run.skip ?_
        refine Run.inBlock ?_
        (refine Run.region ?_; intro K hK)
        refine Ops.pure H (X.move rfl) rfl rfl rfl ?_
        refine Ops.pure H (X.succ rfl rfl (by omega)) rfl rfl rfl ?_
        refine Ops.pure H (X.assign rfl) rfl rfl rfl ?_
        (refine Ops.nil (hK _ _ ?_); clear hK K)
      case' x1 =>
        refine Ops.pure H (X.move rfl) rfl rfl rfl ?_
        refine Ops.pure H (X.move rfl) rfl rfl rfl ?_
        refine Ops.pure H (X.indexAddr rfl rfl (by omega) rfl rfl rfl rfl) rfl rfl rfl ?_
        refine Ops.pure H (X.fieldAddr rfl rfl rfl rfl rfl rfl) rfl rfl rfl ?_
        refine Ops.pure H (X.load1 rfl rfl rfl rfl Pick.head (by assumption)) rfl rfl rfl ?_
        refine Ops.pure H (X.move rfl) rfl rfl rfl ?_
        refine Ops.pure H (X.cmp rfl rfl rfl) rfl rfl rfl ?_
        refine Ops.pure H (X.pick_t rfl rfl) rfl rfl rfl ?_
        (refine Ops.nil (hK _ _ ?_); clear hK K)
        refine Run.cond_dec rfl (fun h29 => ?x2) (fun h29 => ?y2)
        case' y2 =>
          refine Run.skip ?_
          refine Run.inBlock ?_
          (refine Run.region ?_; intro K hK)
          refine Ops.pure H (X.move rfl) rfl rfl rfl ?_
          refine Ops.pure H (X.succ rfl rfl (by omega)) rfl rfl rfl ?_
          refine Ops.pure H (X.assign rfl) rfl rfl rfl ?_
          (refine Ops.nil (hK _ _ ?_); clear hK K)
        case' x2 =>
          refine Run.seq ?_
          (refine Run.region ?_; intro K hK)
          refine Ops.pure H (X.move rfl) rfl rfl rfl ?_
          refine Ops.pure H (X.assign rfl) rfl rfl rfl ?_
          (refine Ops.nil (hK _ _ ?_); clear hK K)
    · (first | refine Fn.ret1 HF rfl rfl ?_ | refine Fn.ret2 HF rfl rfl rfl ?_ | refine Fn.ret3 HF rfl rfl rfl rfl ?_ | refine Fn.ret0 HF rfl ?_ | refine Fn.fin0 HF rfl ?_ | refine Fn.retG (E := env) HF rfl H (by first | exact RVs.cellN rfl rfl rfl (by first | exact .head | exact .tail .head | exact .tail (.tail .head) | exact .tail (.tail (.tail .head)) | exact .tail (.tail (.tail (.tail .head))) | exact .tail (.tail (.tail (.tail (.tail .head)))) | exact .tail (.tail (.tail (.tail (.tail (.tail .head)))))) (by first | assumption | exact Cs.take rfl) RVs.nil | exact RVs.cellN rfl rfl rfl (by first | exact .head | exact .tail .head | exact .tail (.tail .head) | exact .tail (.tail (.tail .head)) | exact .tail (.tail (.tail (.tail .head))) | exact .tail (.tail (.tail (.tail (.tail .head)))) | exact .tail (.tail (.tail (.tail (.tail (.tail .head)))))) (by first | assumption | exact Cs.take rfl) (RVs.tmp rfl RVs.nil)) rfl ?_)
      exact ⟨hf.then H.fr, .inr ⟨i, rfl, hlt, h22, h29⟩⟩
    · exact (IH (i + 1) _ (by omega) ⟨hf.then H.fr, by omega, fun j hj => hx j hj (fun h => h29 h.2)⟩).weak (by repeat (first | exact trivial | refine ⟨rfl, ?_⟩))
    · exact (IH (i + 1) _ (by omega) ⟨hf.then H.fr, by omega, fun j hj => hx j hj (fun h => h22 h.1)⟩).weak (by repeat (first | exact trivial | refine ⟨rfl, ?_⟩))
  · have H := Holds.start w1 []
    refine Run.seq ?_
    refine Run.seq ?_
    (refine Run.region ?_; intro K hK)
    refine Ops.pure H (X.move rfl) rfl rfl rfl ?_
    refine Ops.pure H (X.move rfl) rfl rfl rfl ?_
    refine Ops.pure H (X.len_slice rfl rfl rfl) rfl rfl rfl ?_
    refine Ops.pure H (X.cmp rfl rfl rfl) rfl rfl rfl ?_
    (refine Ops.nil (hK _ _ ?_); clear hK K)
    refine Run.cond_dec rfl (fun h11 => ?x3) (fun h11 => ?y3)
    case' y3 =>
      refine Run.exit rfl ?_
      refine Run.seq ?_
      (refine Run.region ?_; intro K hK)
      refine Ops.pure H (X.assign rfl) rfl rfl rfl ?_
      (refine Ops.nil (hK _ _ ?_); clear hK K)
    case' x3 => exfalso; omega
    (first | refine Fn.ret1 HF rfl rfl ?_ | refine Fn.ret2 HF rfl rfl rfl ?_ | refine Fn.ret3 HF rfl rfl rfl rfl ?_ | refine Fn.ret0 HF rfl ?_ | refine Fn.fin0 HF rfl ?_ | refine Fn.retG (E := env) HF rfl H (by first | exact RVs.cellN rfl rfl rfl (by first | exact .head | exact .tail .head | exact .tail (.tail .head) | exact .tail (.tail (.tail .head)) | exact .tail (.tail (.tail (.tail .head))) | exact .tail (.tail (.tail (.tail (.tail .head)))) | exact .tail (.tail (.tail (.tail (.tail (.tail .head)))))) (by first | assumption | exact Cs.take rfl) RVs.nil | exact RVs.cellN rfl rfl rfl (by first | exact .head | exact .tail .head | exact .tail (.tail .head) | exact .tail (.tail (.tail .head)) | exact .tail (.tail (.tail (.tail .head))) | exact .tail (.tail (.tail (.tail (.tail .head)))) | exact .tail (.tail (.tail (.tail (.tail (.tail .head)))))) (by first | assumption | exact Cs.take rfl) (RVs.tmp rfl RVs.nil)) rfl ?_)
    exact ⟨hf.then H.fr, .inl ⟨rfl, fun j hj => hno j (by omega)⟩⟩
/-- How many numbers a client keeps. -/
def lenOf (W : WS) (x : Int) : Nat := ((st W x).map (fun s => s.seqs.length)).getD 0
def keyI : Value → Int
  | .int _ n => n
  | _ => 0
theorem len_any (z : World) (W : WS) (h : Wn z W) (hN : W.N ≤ 1024) :
    Fn env.P 12 [.pointer (some ⟨W.wb, 0, none⟩)] z fun v w' => Fr z w' [] ∧ ∃ ks : List Int, ks.Nodup ∧ (∀ x, x ∈ ks ↔ (W.m x).isSome = true) ∧ v = .int .i64 ((ks.map (lenOf W)).sum : Nat) := by
  obtain ⟨es, k, f, h2, h3, h4, h5⟩ := h.mp
  have h1 := h.at_
  have hstp := h.stp es k h2
  have hne : W.wb ≠ W.mb := fun e => by rw [e, h2] at h1; cases h1
  have hg : ∀ e ∈ es.toList, ∃ x c, e.key = .int .u64 x ∧ W.m x = some c ∧ e.val = .pointer (some ⟨c.cb, 0, none⟩) := by
    intro e he
    obtain ⟨i, hi⟩ := List.getElem?_of_mem he
    obtain ⟨x, hk, hf⟩ := h3.key i e (by simpa using hi)
    rw [h5] at hf
    cases hm : W.m x with
    | none => rw [hm] at hf; cases hf
    | some c => rw [hm] at hf; exact ⟨x, c, hk, hm, by simpa using hf.symm⟩
  obtain ⟨F, hF⟩ : ∃ F : MapEntry → Nat, F = fun e => lenOf W (keyI e.key) := ⟨_, rfl⟩
  have hFle : ∀ e ∈ es.toList, F e ≤ 64 := by
    intro e he
    obtain ⟨x, c, hk, hm, _⟩ := hg e he
    have := h.len x c hm
    rw [hF]
    simp [hk, keyI, lenOf, st, hm]
    exact this
  have hsum : (es.toList.map F).sum ≤ 64 * es.toList.length := by
    clear hF hg
    generalize es.toList = l at hFle
    induction l with
    | nil => simp
    | cons x l ih =>
      have := hFle x (by simp)
      have := ih (fun e he => hFle e (by simp [he]))
      simp only [List.map_cons, List.sum_cons, List.length_cons]
      omega
  have hsz : es.toList.length ≤ 1024 := by simp; omega
  have H := ((Holds.start z []).add false h2 (by simp) (by simp)).add false h1 (by simpa using hne) (by simp)
  have HF := Try.func12; refine Fn.enter Try.func12 Try.ntmps12 rfl rfl rfl ?_
  refine Run.seq ?_
  (refine Run.region ?_; intro K hK)
  refine Ops.pure H (X.assign rfl) rfl rfl rfl ?_
  (refine Ops.nil (hK _ _ ?_); clear hK K)
  refine Run.seq ?_
  (refine Run.region ?_; intro K hK)
  refine Ops.pure H (X.assign rfl) rfl rfl rfl ?_
  (refine Ops.nil (hK _ _ ?_); clear hK K)
  refine Run.seq ?_
  refine Run.seq ?_
  (refine Run.region ?_; intro K hK)
  refine Ops.pure H (X.move rfl) rfl rfl rfl ?_
  refine Ops.pure H (X.nilCheck rfl) rfl rfl rfl ?_
  refine Ops.pure H (X.fieldAddr rfl rfl rfl rfl rfl rfl) rfl rfl rfl ?_
  refine Ops.pure H (X.load1 rfl rfl rfl rfl Pick.head rfl) rfl rfl rfl ?_
  refine Ops.eff rfl (Y.range rfl rfl rfl (H.pick (.tail .head)) H rfl ?_)
  intro it w H hit
  (refine Ops.nil (hK _ _ ?_); clear hK K)
  refine Run.block ?_
  refine Run.rounds (fun (s : Array Nat) => [(3, .int .i64 (seenS F es.toList s : Nat)), (10, .pointer (some ⟨it, 0, none⟩))]) (fun s w' => ∃ c0, k ≤ c0 ∧ Holds z [] w' [⟨it, .mapIter (some W.mb) k s c0, true⟩, ⟨W.wb, row [.int .i64 W.size, .map (some W.mb)] 50, false⟩, ⟨W.mb, .map es k, false⟩]) (fun s => (leftOf es s).size) #[] (by rw [seenS_none]; exact (by repeat (first | exact trivial | refine ⟨rfl, ?_⟩))) ⟨k, Nat.le_refl _, H⟩ ?_
  clear H
  rintro s w1 ⟨c0, hc0, H⟩ IH
  refine Run.seq ?_
  (refine Run.region ?_; intro K hK)
  refine Ops.eff rfl (Y.next H .head (H.pick (.tail (.tail .head))) hstp.1 hc0 rfl rfl (fun h0 => ?_) (fun e he w2 H2 => ?_))
  · refine Ops.pure H (X.extract rfl rfl) rfl rfl rfl ?_
    (refine Ops.nil (hK _ _ ?_); clear hK K)
    refine Run.seq ?_
    refine Run.cond_false rfl ?_
    refine Run.exit rfl ?_
    refine Run.seq ?_
    (refine Run.region ?_; intro K hK)
    refine Ops.pure H (X.move rfl) rfl rfl rfl ?_
    refine Ops.pure H (X.assign rfl) rfl rfl rfl ?_
    (refine Ops.nil (hK _ _ ?_); clear hK K)
    (first | refine Fn.ret1 HF rfl rfl ?_ | refine Fn.ret2 HF rfl rfl rfl ?_ | refine Fn.ret3 HF rfl rfl rfl rfl ?_ | refine Fn.ret0 HF rfl ?_ | refine Fn.fin0 HF rfl ?_ | refine Fn.retG (E := env) HF rfl H (by first | exact RVs.cellN rfl rfl rfl (by first | exact .head | exact .tail .head | exact .tail (.tail .head) | exact .tail (.tail (.tail .head)) | exact .tail (.tail (.tail (.tail .head))) | exact .tail (.tail (.tail (.tail (.tail .head)))) | exact .tail (.tail (.tail (.tail (.tail (.tail .head)))))) (by first | assumption | exact Cs.take rfl) RVs.nil | exact RVs.cellN rfl rfl rfl (by first | exact .head | exact .tail .head | exact .tail (.tail .head) | exact .tail (.tail (.tail .head)) | exact .tail (.tail (.tail (.tail .head))) | exact .tail (.tail (.tail (.tail (.tail .head)))) | exact .tail (.tail (.tail (.tail (.tail (.tail .head)))))) (by first | assumption | exact Cs.take rfl) (RVs.tmp rfl RVs.nil)) rfl ?_)
    refine ⟨H.fr, es.toList.map fun e => keyI e.key, ?_, fun x => ?_, ?_⟩
    · rw [List.nodup_iff_pairwise_ne, List.pairwise_map]
      have h6 := hstp.2.2
      rw [List.nodup_iff_pairwise_ne, List.pairwise_map] at h6
      refine h6.imp_of_mem fun {a b} ha hb hab hh => hab ?_
      obtain ⟨x, _, hk, _⟩ := hg a ha
      obtain ⟨y, _, hk', _⟩ := hg b hb
      rw [hk, hk'] at hh ⊢
      simp only [keyI] at hh
      rw [hh]
    · rw [List.mem_map]
      constructor
      · rintro ⟨e, he, rfl⟩
        obtain ⟨x, c, hk, hm, _⟩ := hg e he
        rw [hk]
        simp only [keyI]
        rw [hm]
        rfl
      · intro hx
        obtain ⟨c, hc⟩ := Option.isSome_iff_exists.1 hx
        obtain ⟨i, e, h6, h7, _⟩ := h3.has x (.pointer (some ⟨c.cb, 0, none⟩)) (by rw [h5, hc]; rfl)
        exact ⟨e, by simpa using List.mem_of_getElem? (by simpa using h6 : es.toList[i]? = some e), by rw [h7]; rfl⟩
    · rw [seenS_all F es s h0, List.map_map, hF]
      rfl
  · clear H
    have H := H2
    obtain ⟨hm1, hm2⟩ := mem_left he
    obtain ⟨x, c, hk, hm, hv⟩ := hg e hm1
    obtain ⟨⟨v, a1, a2⟩, _⟩ := h.cl x c hm
    obtain ⟨sa, scap, _, _, rfl, _⟩ := a2
    have hpush := seenS_push F s e hm2 es.toList hstp.2.1 hm1
    have hle := seenS_le F (s.push e.born) es.toList
    have hFe : F e = c.s.seqs.length := by rw [hF]; simp [hk, keyI, lenOf, st, hm]
    have hcb := H.fr.get a1 (by simp)
    have hnit : c.cb < z.heap.size := lt_of_at a1
    have H := H.add false hcb (by
      simp
      refine ⟨by omega, ne_of_ty a1 h1 (by decide), fun e => ?_⟩
      rw [e, h2] at a1
      cases a1) (by simp)
    refine Ops.pure H (X.extract rfl rfl) rfl rfl rfl ?_
    (refine Ops.nil (hK _ _ ?_); clear hK K)
    refine Run.seq ?_
    refine Run.cond_true rfl ?_
    refine Run.skip ?_
    refine Run.block ?_
    refine Run.seq ?_
    (refine Run.region ?_; intro K hK)
    refine Ops.pure H (X.entry rfl (.tail .head) (.tail (.tail (.tail .head))) hm1 hstp) rfl rfl rfl ?_
    rw [hk, hv]
    refine Ops.pure H (X.extract rfl rfl) rfl rfl rfl ?_
    refine Ops.pure H (X.assign rfl) rfl rfl rfl ?_
    (refine Ops.nil (hK _ _ ?_); clear hK K)
    (refine Run.region ?_; intro K hK)
    refine Ops.pure H (X.move rfl) rfl rfl rfl ?_
    refine Ops.pure H (X.move rfl) rfl rfl rfl ?_
    refine Ops.pure H (X.nilCheck rfl) rfl rfl rfl ?_
    refine Ops.pure H (X.fieldAddr rfl rfl rfl rfl rfl rfl) rfl rfl rfl ?_
    refine Ops.pure H (X.load1 rfl rfl rfl rfl Pick.head rfl) rfl rfl rfl ?_
    refine Ops.pure H (X.len_slice rfl rfl rfl) rfl rfl rfl ?_
    refine Ops.pure H (X.add_in rfl rfl (IntWalk.i64_in _ (by omega))) rfl rfl rfl ?_
    refine Ops.pure H (X.assign rfl) rfl rfl rfl ?_
    (refine Ops.nil (hK _ _ ?_); clear hK K)
    refine Run.inBlock ?_
    refine (IH (s.push e.born) _ (left_shrinks es s e he) ⟨k, Nat.le_refl _, H.tail⟩).weak ?_
    rw [hpush, hFe]
    exact (by repeat (first | exact trivial | refine ⟨rfl, ?_⟩))
end Go.Proofs.Ytikkpkckbcpjfaa
