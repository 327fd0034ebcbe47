/- The plain law of a window: what Put makes of it; which blocks it is. -/
import Derived.Test.YtaneenahapdabaaP2
namespace Go.Proofs.Ytaneenahapdabaa
open Go
set_option maxRecDepth 20000
set_option maxHeartbeats 1000000
attribute [local irreducible] Run Ops Fn Draw Draw2 PureOp StepZ

/-- What is known of a client's calls. -/
structure CS where
  floor : Int
  seqs : List Int
  ans : Int → Option (List Int)
/-- And where it stands. -/
structure CL where
  cb : Nat
  sb : Nat
  ab : Nat
  s : CS
structure WS where
  wb : Nat
  mb : Nat
  size : Int
  N : Nat
  m : Int → Option CL
/-- The answers in memory. -/
def MA (w : World) (f : Int → Option Value) (ans : Int → Option (List Int)) : Prop := ∀ x, (f x = none ∧ ans x = none) ∨ ∃ v xs, f x = some v ∧ ans x = some xs ∧ Ans w v xs
structure Cl (w : World) (c : CL) : Prop where
  at_ : ∃ v, w.heap[c.cb]? = some (row [.int .u64 c.s.floor, v, .map (some c.ab)] 61) ∧ Sq w v c.sb c.s.seqs
  mp : ∃ es k f, w.heap[c.ab]? = some (.map es k) ∧ Mp .u64 es f ∧ MA w f c.s.ans
theorem MA.keep {w w' : World} {S : List Nat} {f : Int → Option Value} {ans : Int → Option (List Int)} (h : MA w f ans) (hf : Fr w w' S) (hS : ∀ b ∈ S, No5 w b) : MA w' f ans := by
  intro x
  rcases h x with h | ⟨v, xs, h1, h2, h3⟩
  · exact .inl h
  · exact .inr ⟨v, xs, h1, h2, h3.keep hf hS⟩
theorem Cl.keep {w w' : World} {S : List Nat} {c : CL} (h : Cl w c) (hf : Fr w w' S) (h1 : c.cb ∉ S) (h2 : c.sb ∉ S) (h3 : c.ab ∉ S) (hS : ∀ b ∈ S, No5 w b) : Cl w' c := by
  obtain ⟨⟨v, a1, a2⟩, es, k, f, a3, a4, a5⟩ := h
  exact ⟨⟨v, hf.get a1 h1, a2.keep hf (fun hm => absurd hm h2)⟩, es, k, f, hf.get a3 h3, a4, a5.keep hf hS⟩
theorem Cl.ext {w w' : World} {c : CL} (h : Cl w c) (hf : Fr w w' []) : Cl w' c := h.keep hf (by simp) (by simp) (by simp) (by simp)
structure Wn (w : World) (W : WS) : Prop where
  at_ : w.heap[W.wb]? = some (row [.int .i64 W.size, .map (some W.mb)] 57)
  mp : ∃ es k f, w.heap[W.mb]? = some (.map es k) ∧ Mp .u64 es f ∧ es.size = W.N ∧ ∀ x, f x = (W.m x).map fun c => .pointer (some ⟨c.cb, 0, none⟩)
  cl : ∀ x c, W.m x = some c → Cl w c
  real : ∀ x c, W.m x = some c → c.sb = c.cb ∨ ∃ ds, w.heap[c.sb]? = some (row ds 28)
  ne : ∀ x y c c', x ≠ y → W.m x = some c → W.m y = some c' → c.cb ≠ c'.cb ∧ c.sb ≠ c'.sb ∧ c.ab ≠ c'.ab
  mb : ∀ x c, W.m x = some c → c.ab ≠ W.mb
  len : ∀ x c, W.m x = some c → c.s.seqs.length ≤ 64
  stp : ∀ es k, w.heap[W.mb]? = some (.map es k) → MapKept.Stamped es k
theorem Wn.ext {w w' : World} {W : WS} (h : Wn w W) (hf : Fr w w' []) : Wn w' W := by
  obtain ⟨h1, ⟨es, k, f, h2, h3, h4, h5⟩, h6, h7, h8, h9, h10, h11⟩ := h
  exact ⟨hf.get h1 (by simp), ⟨es, k, f, hf.get h2 (by simp), h3, h4, h5⟩, fun x c hx => (h6 x c hx).ext hf, fun x c hx => (h7 x c hx).imp (fun e => e) (fun ⟨ds, hd⟩ => ⟨ds, hf.get hd (by simp)⟩), h8, h9, h10, fun es' k' h' => by rw [hf.get h2 (by simp)] at h'; cases h'; exact h11 es k h2⟩
def st (W : WS) (id : Int) : Option CS := (W.m id).map (·.s)
def askK (s : Option CS) (seq : Int) : Int :=
  match s with
  | none => 1
  | some s => if seq ≤ s.floor then 3 else if (s.ans seq).isSome then 2 else 1
def askB (s : Option CS) (seq : Int) : List Int :=
  match s with
  | none => []
  | some s => if seq ≤ s.floor then [] else (s.ans seq).getD []
theorem new_no (z : World) (n : Int) (h : ¬ (1 ≤ n ∧ n ≤ 64)) : Fn env.P 14 [.int .i64 n] z fun v w' => v = .tuple #[.pointer none, .int .i64 1] ∧ Fr z w' [] := by
  have H := Holds.start z []
  have HF := Try.func14; refine Fn.enter Try.func14 Try.ntmps14 rfl rfl rfl ?_
  (refine Run.seq (Run.region ?_); intro K hK)
  refine Ops.pure H (X.assign rfl) rfl rfl rfl ?_
  refine Ops.pure H (X.assign rfl) rfl rfl rfl ?_
  (refine Ops.nil (hK _ _ ?_); clear hK K)
  refine Run.seq ?_
  (refine Run.seq (Run.region ?_); intro K hK)
  refine Ops.pure H (X.move rfl) rfl rfl rfl ?_
  refine Ops.pure H (X.cmp rfl rfl rfl) rfl rfl rfl ?_
  refine Ops.pure H (X.move rfl) rfl rfl rfl ?_
  refine Ops.split_dec rfl rfl (fun h7 => ?x0) (fun h7 => ?y0)
  case' y0 =>
    refine Ops.pure H (X.move rfl) rfl rfl rfl ?_
    refine Ops.pure H (X.cmp rfl rfl rfl) rfl rfl rfl ?_
    refine Ops.pure H (X.pick_f rfl rfl) rfl rfl rfl ?_
    (refine Ops.nil (hK _ _ ?_); clear hK K)
    refine Run.cond_dec rfl (fun h9 => ?x1) (fun h9 => ?y1)
    case' y1 => exfalso; omega
    case' x1 =>
      (refine Run.seq (Run.region ?_); intro K hK)
      refine Ops.pure H (X.assign rfl) rfl rfl rfl ?_
      refine Ops.pure H (X.assign rfl) rfl rfl rfl ?_
      (refine Ops.nil (hK _ _ ?_); clear hK K)
  case' x0 =>
    refine Ops.pass rfl rfl rfl ?_
    refine Ops.pass rfl rfl rfl ?_
    refine Ops.pure H (X.pick_t rfl rfl) rfl rfl rfl ?_
    (refine Ops.nil (hK _ _ ?_); clear hK K)
    refine Run.cond_true rfl ?_
    (refine Run.seq (Run.region ?_); intro K hK)
    refine Ops.pure H (X.assign rfl) rfl rfl rfl ?_
    refine Ops.pure H (X.assign rfl) rfl rfl rfl ?_
    (refine Ops.nil (hK _ _ ?_); clear hK K)
  all_goals refine Fn.ret2 HF rfl rfl rfl ?_
  all_goals exact ⟨rfl, H.fr⟩
theorem begun_any (z : World) (n : Int) : Fn env.P 24 [.int .i64 n] z fun v w' => ∃ wb mb, v = .pointer (some ⟨wb, 0, none⟩) ∧ Wn w' ⟨wb, mb, n, 0, fun _ => none⟩ ∧ Fr z w' [] ∧ z.heap.size ≤ wb ∧ z.heap.size ≤ mb := by
  have H := Holds.start z []
  have HF := Try.func24; refine Fn.enter Try.func24 Try.ntmps24 rfl rfl rfl ?_
  (refine Run.seq (Run.region ?_); intro K hK)
  refine Ops.pure H (X.assign rfl) rfl rfl rfl ?_
  (refine Ops.nil (hK _ _ (Run.seq (Run.region ?_))); clear hK K; intro K hK)
  refine Ops.pure H (X.move rfl) rfl rfl rfl ?_
  (refine Ops.eff rfl (Y.makeMap rfl H ?_); intro b4 w H0 hb4; clear H; have H := H0; clear H0)
  refine Ops.pure H (X.buildO rfl rfl rfl rfl rfl rfl) rfl rfl rfl ?_
  (refine Ops.eff rfl (Y.box rfl rfl rfl H ?_); intro b6 w H0 hb6; clear H; have H := H0; clear H0)
  refine Ops.pure H (X.assign rfl) rfl rfl rfl ?_
  (refine Ops.nil (hK _ _ ?_); clear hK K)
  refine Fn.ret1 HF rfl rfl ?_
  exact ⟨_, _, rfl, ⟨H.pick .head, ⟨_, _, _, H.pick (.tail .head), Mp.empty, rfl, fun _ => rfl⟩, by simp, by simp, by simp, by simp, by simp, fun es k h => by rw [H.pick (.tail .head)] at h; cases h; exact MapKept.stamped_empty _⟩, H.fr, by assumption, by assumption⟩
theorem new_yes (z : World) (n : Int) (h1 : 1 ≤ n) (h2 : n ≤ 64) : Fn env.P 14 [.int .i64 n] z fun v w' => ∃ wb mb, v = .tuple #[.pointer (some ⟨wb, 0, none⟩), .int .i64 0] ∧ Wn w' ⟨wb, mb, n, 0, fun _ => none⟩ ∧ Fr z w' [] ∧ z.heap.size ≤ wb ∧ z.heap.size ≤ mb := by
  have H := Holds.start z []
  have HF := Try.func14; refine Fn.enter Try.func14 Try.ntmps14 rfl rfl rfl ?_
  (refine Run.seq (Run.region ?_); intro K hK)
  refine Ops.pure H (X.assign rfl) rfl rfl rfl ?_
  refine Ops.pure H (X.assign rfl) rfl rfl rfl ?_
  (refine Ops.nil (hK _ _ ?_); clear hK K)
  refine Run.seq ?_
  (refine Run.seq (Run.region ?_); intro K hK)
  refine Ops.pure H (X.move rfl) rfl rfl rfl ?_
  refine Ops.pure H (X.cmp rfl rfl rfl) rfl rfl rfl ?_
  refine Ops.pure H (X.move rfl) rfl rfl rfl ?_
  refine Ops.split_dec rfl rfl (fun h7 => ?x2) (fun h7 => ?y2)
  case' y2 =>
    refine Ops.pure H (X.move rfl) rfl rfl rfl ?_
    refine Ops.pure H (X.cmp rfl rfl rfl) rfl rfl rfl ?_
    refine Ops.pure H (X.pick_f rfl rfl) rfl rfl rfl ?_
    (refine Ops.nil (hK _ _ ?_); clear hK K)
    refine Run.cond_dec rfl (fun h9 => ?x3) (fun h9 => ?y3)
    case' y3 =>
      refine Run.skip ?_
      (refine Run.seq (Run.region ?_); intro K hK)
      refine Ops.pure H (X.move rfl) rfl rfl rfl ?_
    case' x3 => exfalso; omega
  case' x2 => exfalso; omega
  refine Ops.eff rfl (Y.call rfl rfl (by first | assumption | decide +kernel) rfl (begun_any _ n) rfl ?_)
  rintro v w1 ⟨wb, mb, rfl, hW, hf, hwb, hmb⟩
  replace H := H.ext hf
  refine Ops.pure H (X.assign rfl) rfl rfl rfl ?_
  refine Ops.pure H (X.assign rfl) rfl rfl rfl ?_
  (refine Ops.nil (hK _ _ ?_); clear hK K)
  refine Fn.ret2 HF rfl rfl rfl ?_
  exact ⟨wb, mb, rfl, hW, H.fr, hwb, hmb⟩
theorem ask_any (z : World) (W : WS) (id seq : Int) (h : Wn z W) :
    Fn env.P 17 [.pointer (some ⟨W.wb, 0, none⟩), .int .u64 id, .int .u64 seq] z fun v w' => Fr z w' [] ∧ ∃ b, v = .tuple #[.int .i64 (askK (st W id) seq), b] ∧ Ans w' b (askB (st W id) seq) := by
  obtain ⟨wb, mb, size, N, m⟩ := W
  obtain ⟨h1, ⟨es, k, f, h2, h3, h4, h5⟩, h6, _⟩ := h
  dsimp only at h1 h2 h4 h5 h6
  have hne : wb ≠ mb := fun e => by rw [e, h2] at h1; cases h1
  have hfx := h5 id
  cases hm : m id with
  | none =>
    have hs : st ⟨wb, mb, size, N, m⟩ id = none := by simp [st, hm]
    rw [hs]
    have H := ((Holds.start z []).add false h2 (by simp) (by simp)).add false h1 (by simpa using hne) (by simp)
    have HF := Try.func17; refine Fn.enter Try.func17 Try.ntmps17 rfl rfl rfl ?_
    (refine Run.seq (Run.region ?_); intro K hK)
    refine Ops.pure H (X.assign rfl) rfl rfl rfl ?_
    refine Ops.pure H (X.assign rfl) rfl rfl rfl ?_
    (refine Ops.nil (hK _ _ (Run.seq (Run.region ?_))); clear hK K; intro K hK)
    refine Ops.pure H (X.move rfl) rfl rfl rfl ?_
    refine Ops.pure H (X.nilCheck rfl) rfl rfl rfl ?_
    refine Ops.pure H (X.fieldAddr rfl rfl rfl rfl rfl rfl) rfl rfl rfl ?_
    refine Ops.pure H (X.load1 rfl rfl rfl rfl Pick.head rfl) rfl rfl rfl ?_
    refine Ops.pure H (X.move rfl) rfl rfl rfl ?_
    refine Ops.pure H (X.lookup (v := .pointer none) h3 (.tail .head) rfl rfl rfl rfl rfl rfl rfl (by rw [hfx, hm]; rfl)) rfl rfl rfl ?_
    refine Ops.pure H (X.assign rfl) rfl rfl rfl ?_
    (refine Ops.nil (hK _ _ ?_); clear hK K)
    refine Run.seq ?_
    (refine Run.seq (Run.region ?_); intro K hK)
    refine Ops.pure H (X.move rfl) rfl rfl rfl ?_
    refine Ops.pure H (X.ptrNil rfl rfl rfl rfl rfl) rfl rfl rfl ?_
    (refine Ops.nil (hK _ _ ?_); clear hK K)
    refine Run.cond_true rfl ?_
    (refine Run.seq (Run.region ?_); intro K hK)
    refine Ops.pure H (X.assign rfl) rfl rfl rfl ?_
    refine Ops.pure H (X.assign rfl) rfl rfl rfl ?_
    (refine Ops.nil (hK _ _ ?_); clear hK K)
    refine Fn.ret2 HF rfl rfl rfl ?_
    exact ⟨H.fr, _, rfl, Ans.nil⟩
  | some c =>
    have hs : st ⟨wb, mb, size, N, m⟩ id = some c.s := by simp [st, hm]
    rw [hs]
    obtain ⟨⟨v, a1, a2⟩, ces, ck, cf, a3, a4, a5⟩ := h6 id c hm
    obtain ⟨sa, scap, soff, scs, rfl, _⟩ := a2
    have n1 : c.cb ≠ wb := ne_of_ty a1 h1 (by decide)
    have n2 : c.cb ≠ mb := fun e => by rw [e, h2] at a1; cases a1
    have n3 : c.ab ≠ wb := fun e => by rw [e, h1] at a3; cases a3
    have n4 : c.ab ≠ c.cb := fun e => by rw [e, a1] at a3; cases a3
    have H := ((Holds.start z []).add false a1 (by simp) (by simp)).add false h1 (by simpa using n1.symm) (by simp)
    have HF := Try.func17; refine Fn.enter Try.func17 Try.ntmps17 rfl rfl rfl ?_
    (refine Run.seq (Run.region ?_); intro K hK)
    refine Ops.pure H (X.assign rfl) rfl rfl rfl ?_
    refine Ops.pure H (X.assign rfl) rfl rfl rfl ?_
    (refine Ops.nil (hK _ _ (Run.seq (Run.region ?_))); clear hK K; intro K hK)
    refine Ops.pure H (X.move rfl) rfl rfl rfl ?_
    refine Ops.pure H (X.nilCheck rfl) rfl rfl rfl ?_
    refine Ops.pure H (X.fieldAddr rfl rfl rfl rfl rfl rfl) rfl rfl rfl ?_
    refine Ops.pure H (X.load1 rfl rfl rfl rfl Pick.head rfl) rfl rfl rfl ?_
    refine Ops.pure H (X.move rfl) rfl rfl rfl ?_
    refine Ops.pure ((Holds.start z []).add false h2 (by simp) (by simp)) (X.lookup (v := .pointer (some ⟨c.cb, 0, none⟩)) h3 .head rfl rfl rfl rfl rfl rfl rfl (by rw [hfx, hm]; rfl)) rfl rfl rfl ?_
    by_cases hle : seq ≤ c.s.floor
    · refine Ops.pure H (X.assign rfl) rfl rfl rfl ?_
      (refine Ops.nil (hK _ _ ?_); clear hK K)
      refine Run.seq ?_
      (refine Run.seq (Run.region ?_); intro K hK)
      refine Ops.pure H (X.move rfl) rfl rfl rfl ?_
      refine Ops.pure H (X.ptrNil rfl rfl rfl rfl rfl) rfl rfl rfl ?_
      (refine Ops.nil (hK _ _ ?_); clear hK K)
      refine Run.cond_false rfl ?_
      refine Run.skip ?_
      refine Run.seq ?_
      (refine Run.seq (Run.region ?_); intro K hK)
      refine Ops.pure H (X.move rfl) rfl rfl rfl ?_
      refine Ops.pure H (X.move rfl) rfl rfl rfl ?_
      refine Ops.pure H (X.nilCheck rfl) rfl rfl rfl ?_
      refine Ops.pure H (X.fieldAddr rfl rfl rfl rfl rfl rfl) rfl rfl rfl ?_
      refine Ops.pure H (X.load1 rfl rfl rfl rfl (.tail .head) rfl) rfl rfl rfl ?_
      refine Ops.pure H (X.cmp rfl rfl rfl) rfl rfl rfl ?_
      (refine Ops.nil (hK _ _ ?_); clear hK K)
      refine Run.cond_dec rfl (fun h24 => ?x4) (fun h24 => ?y4)
      case' y4 => exfalso; omega
      case' x4 =>
        (refine Run.seq (Run.region ?_); intro K hK)
        refine Ops.pure H (X.assign rfl) rfl rfl rfl ?_
        refine Ops.pure H (X.assign rfl) rfl rfl rfl ?_
        (refine Ops.nil (hK _ _ ?_); clear hK K)
      refine Fn.ret2 HF rfl rfl rfl ?_
      exact ⟨H.fr, .slice none 0 0, by simp [askK, hle], by simpa [askB, hle] using Ans.nil⟩
    · refine Ops.pure H (X.assign rfl) rfl rfl rfl ?_
      (refine Ops.nil (hK _ _ ?_); clear hK K)
      refine Run.seq ?_
      (refine Run.seq (Run.region ?_); intro K hK)
      refine Ops.pure H (X.move rfl) rfl rfl rfl ?_
      refine Ops.pure H (X.ptrNil rfl rfl rfl rfl rfl) rfl rfl rfl ?_
      (refine Ops.nil (hK _ _ ?_); clear hK K)
      refine Run.cond_false rfl ?_
      refine Run.skip ?_
      refine Run.seq ?_
      (refine Run.seq (Run.region ?_); intro K hK)
      refine Ops.pure H (X.move rfl) rfl rfl rfl ?_
      refine Ops.pure H (X.move rfl) rfl rfl rfl ?_
      refine Ops.pure H (X.nilCheck rfl) rfl rfl rfl ?_
      refine Ops.pure H (X.fieldAddr rfl rfl rfl rfl rfl rfl) rfl rfl rfl ?_
      refine Ops.pure H (X.load1 rfl rfl rfl rfl (.tail .head) rfl) rfl rfl rfl ?_
      refine Ops.pure H (X.cmp rfl rfl rfl) rfl rfl rfl ?_
      (refine Ops.nil (hK _ _ ?_); clear hK K)
      refine Run.cond_dec rfl (fun h24 => ?x5) (fun h24 => ?y5)
      case' y5 =>
        refine Run.skip ?_
        refine Run.seq ?_
        (refine Run.seq (Run.region ?_); intro K hK)
        refine Ops.pure H (X.move rfl) rfl rfl rfl ?_
        refine Ops.pure H (X.nilCheck rfl) rfl rfl rfl ?_
        refine Ops.pure H (X.fieldAddr rfl rfl rfl rfl rfl rfl) rfl rfl rfl ?_
        refine Ops.pure H (X.load1 rfl rfl rfl rfl (.tail .head) rfl) rfl rfl rfl ?_
        refine Ops.pure H (X.move rfl) rfl rfl rfl ?_
      case' x5 => exfalso; omega
      rcases a5 seq with ⟨e1, e2⟩ | ⟨v, xs, e1, e2, e3⟩
      · refine Ops.pure ((Holds.start z []).add false a3 (by simp) (by simp)) (X.lookupOk (v := .slice none 0 0) (o := false) a4 .head rfl rfl rfl rfl rfl rfl rfl (by rw [e1]; rfl) (by rw [e1]; rfl)) rfl rfl rfl ?_
        refine Ops.pure H (X.move rfl) rfl rfl rfl ?_
        refine Ops.pure H (X.extract rfl rfl) rfl rfl rfl ?_
        refine Ops.pure H (X.extract rfl rfl) rfl rfl rfl ?_
        refine Ops.pure H (X.assign rfl) rfl rfl rfl ?_
        refine Ops.pure H (X.assign rfl) rfl rfl rfl ?_
        (refine Ops.nil (hK _ _ (Run.seq (Run.region ?_))); clear hK K; intro K hK)
        refine Ops.pure H (X.move rfl) rfl rfl rfl ?_
        (refine Ops.nil (hK _ _ ?_); clear hK K)
        refine Run.cond_false rfl ?_
        refine Run.skip ?_
        (refine Run.seq (Run.region ?_); intro K hK)
        refine Ops.pure H (X.assign rfl) rfl rfl rfl ?_
        refine Ops.pure H (X.assign rfl) rfl rfl rfl ?_
        (refine Ops.nil (hK _ _ ?_); clear hK K)
        refine Fn.ret2 HF rfl rfl rfl ?_
        exact ⟨H.fr, .slice none 0 0, by simp [askK, hle, e2], by simpa [askB, hle, e2] using Ans.nil⟩
      · refine Ops.pure ((Holds.start z []).add false a3 (by simp) (by simp)) (X.lookupOk (v := v) (o := true) a4 .head rfl rfl rfl rfl rfl rfl rfl (by rw [e1]; rfl) (by rw [e1]; rfl)) rfl rfl rfl ?_
        refine Ops.pure H (X.move rfl) rfl rfl rfl ?_
        refine Ops.pure H (X.extract rfl rfl) rfl rfl rfl ?_
        refine Ops.pure H (X.extract rfl rfl) rfl rfl rfl ?_
        refine Ops.pure H (X.assign rfl) rfl rfl rfl ?_
        refine Ops.pure H (X.assign rfl) rfl rfl rfl ?_
        (refine Ops.nil (hK _ _ (Run.seq (Run.region ?_))); clear hK K; intro K hK)
        refine Ops.pure H (X.move rfl) rfl rfl rfl ?_
        (refine Ops.nil (hK _ _ ?_); clear hK K)
        refine Run.cond_true rfl ?_
        (refine Run.seq (Run.region ?_); intro K hK)
        refine Ops.pure H (X.move rfl) rfl rfl rfl ?_
        refine Ops.pure H (X.assign rfl) rfl rfl rfl ?_
        refine Ops.pure H (X.assign rfl) rfl rfl rfl ?_
        (refine Ops.nil (hK _ _ ?_); clear hK K)
        refine Fn.ret2 HF rfl rfl rfl ?_
        exact ⟨H.fr, v, by simp [askK, hle, e2], by simpa [askB, hle, e2] using e3.keep H.fr (by simp)⟩
theorem askB_le (W : WS) (id seq : Int) (b : List Int) (h : ∀ c, W.m id = some c → ∀ x xs, c.s.ans x = some xs → xs.length ≤ 65536) : (askB (st W id) seq).length ≤ 65536 := by
  unfold askB st
  cases hm : W.m id with
  | none => simp
  | some c =>
    dsimp only [Option.map]
    split
    · simp
    · cases ha : c.s.ans seq with
      | none => simp
      | some xs => simpa using h c hm seq xs ha
theorem Ask_any (z : World) (W : WS) (id seq : Int) (h : Wn z W) (hb : (askB (st W id) seq).length ≤ 65536) :
    Fn env.P 11 [.pointer (some ⟨W.wb, 0, none⟩), .int .u64 id, .int .u64 seq] z fun v w' => Fr z w' [] ∧ ∃ b, v = .tuple #[.int .i64 (if seq = 0 then 0 else askK (st W id) seq), b, .int .i64 (if seq = 0 then 1 else 0)] ∧ Ans w' b (if seq = 0 then [] else askB (st W id) seq) := by
  have H := Holds.start z []
  have HF := Try.func11; refine Fn.enter Try.func11 Try.ntmps11 rfl rfl rfl ?_
  (refine Run.seq (Run.region ?_); intro K hK)
  refine Ops.pure H (X.assign rfl) rfl rfl rfl ?_
  refine Ops.pure H (X.assign rfl) rfl rfl rfl ?_
  refine Ops.pure H (X.assign rfl) rfl rfl rfl ?_
  (refine Ops.nil (hK _ _ ?_); clear hK K)
  refine Run.seq ?_
  (refine Run.seq (Run.region ?_); intro K hK)
  refine Ops.pure H (X.move rfl) rfl rfl rfl ?_
  refine Ops.pure H (X.cmp rfl rfl rfl) rfl rfl rfl ?_
  (refine Ops.nil (hK _ _ ?_); clear hK K)
  refine Run.cond_dec rfl (fun h12 => ?x6) (fun h12 => ?y6)
  case' y6 =>
    refine Run.skip ?_
    (refine Run.seq (Run.region ?_); intro K hK)
    refine Ops.pure H (X.move rfl) rfl rfl rfl ?_
    refine Ops.pure H (X.move rfl) rfl rfl rfl ?_
    refine Ops.pure H (X.move rfl) rfl rfl rfl ?_
  case' x6 =>
    (refine Run.seq (Run.region ?_); intro K hK)
    refine Ops.pure H (X.assign rfl) rfl rfl rfl ?_
    refine Ops.pure H (X.assign rfl) rfl rfl rfl ?_
    refine Ops.pure H (X.assign rfl) rfl rfl rfl ?_
    (refine Ops.nil (hK _ _ ?_); clear hK K)
  · refine Fn.ret3 HF rfl rfl rfl rfl ?_
    exact ⟨H.fr, .slice none 0 0, by simp [h12], by simpa [h12] using Ans.nil⟩
  · refine Ops.eff rfl (Y.call rfl rfl (by first | assumption | decide +kernel) rfl (ask_any _ W id seq (h.ext H.fr)) rfl ?_)
    rintro v w1 ⟨hf, b, rfl, hA⟩
    replace H := H.ext hf
    refine Ops.pure H (X.move rfl) rfl rfl rfl ?_
    refine Ops.pure H (X.extract rfl rfl) rfl rfl rfl ?_
    refine Ops.pure H (X.extract rfl rfl) rfl rfl rfl ?_
    refine Ops.pure H (X.assign rfl) rfl rfl rfl ?_
    refine Ops.pure H (X.assign rfl) rfl rfl rfl ?_
    (refine Ops.nil (hK _ _ (Run.seq (Run.region ?_))); clear hK K; intro K hK)
    refine Ops.pure H (X.move rfl) rfl rfl rfl ?_
    refine Ops.pure H (X.move rfl) rfl rfl rfl ?_
    refine Ops.eff rfl (Y.call rfl rfl (by first | assumption | decide +kernel) rfl (bclone_any _ b _ (hA.bys.ext (Fr.refl _ _)) (by omega)) rfl ?_)
    rintro v w2 ⟨hA2, hf2⟩
    replace H := H.ext hf2
    refine Ops.pure H (X.assign rfl) rfl rfl rfl ?_
    refine Ops.pure H (X.assign rfl) rfl rfl rfl ?_
    refine Ops.pure H (X.assign rfl) rfl rfl rfl ?_
    (refine Ops.nil (hK _ _ ?_); clear hK K)
    refine Fn.ret3 HF rfl rfl rfl rfl ?_
    exact ⟨H.fr, v, by simp [h12], by simpa [h12] using hA2⟩
def floorC : Option CS → Int
  | none => 0
  | some s => s.floor
theorem floor_any (z : World) (W : WS) (id : Int) (h : Wn z W) :
    Fn env.P 15 [.pointer (some ⟨W.wb, 0, none⟩), .int .u64 id] z fun v w' => v = .int .u64 (floorC (st W id)) ∧ Fr z w' [] := by
  obtain ⟨wb, mb, size, N, m⟩ := W
  obtain ⟨h1, ⟨es, k, f, h2, h3, h4, h5⟩, h6, _⟩ := h
  dsimp only at h1 h2 h4 h5 h6
  have hne : wb ≠ mb := fun e => by rw [e, h2] at h1; cases h1
  have hfx := h5 id
  cases hm : m id with
  | none =>
    have hs : st ⟨wb, mb, size, N, m⟩ id = none := by simp [st, hm]
    rw [hs]
    have H := (Holds.start z []).add false h1 (by simp) (by simp)
    have HF := Try.func15; refine Fn.enter Try.func15 Try.ntmps15 rfl rfl rfl ?_
    (refine Run.seq (Run.region ?_); intro K hK)
    refine Ops.pure H (X.assign rfl) rfl rfl rfl ?_
    (refine Ops.nil (hK _ _ ?_); clear hK K)
    refine Run.seq ?_
    (refine Run.seq (Run.region ?_); intro K hK)
    refine Ops.pure H (X.move rfl) rfl rfl rfl ?_
    refine Ops.pure H (X.nilCheck rfl) rfl rfl rfl ?_
    refine Ops.pure H (X.fieldAddr rfl rfl rfl rfl rfl rfl) rfl rfl rfl ?_
    refine Ops.pure H (X.load1 rfl rfl rfl rfl Pick.head rfl) rfl rfl rfl ?_
    refine Ops.pure H (X.move rfl) rfl rfl rfl ?_
    refine Ops.pure ((Holds.start z []).add false h2 (by simp) (by simp)) (X.lookup (v := .pointer none) h3 .head rfl rfl rfl rfl rfl rfl rfl (by rw [hfx, hm]; rfl)) rfl rfl rfl ?_
    refine Ops.pure H (X.assign rfl) rfl rfl rfl ?_
    (refine Ops.nil (hK _ _ (Run.seq (Run.region ?_))); clear hK K; intro K hK)
    refine Ops.pure H (X.move rfl) rfl rfl rfl ?_
    refine Ops.pure H (X.ptrNil rfl rfl rfl rfl rfl) rfl rfl rfl ?_
    (refine Ops.nil (hK _ _ ?_); clear hK K)
    refine Run.cond_false rfl ?_
    refine Run.skip ?_
    (refine Run.seq (Run.region ?_); intro K hK)
    refine Ops.pure H (X.assign rfl) rfl rfl rfl ?_
    (refine Ops.nil (hK _ _ ?_); clear hK K)
    refine Fn.ret1 HF rfl rfl ?_
    exact ⟨rfl, H.fr⟩
  | some c =>
    have hs : st ⟨wb, mb, size, N, m⟩ id = some c.s := by simp [st, hm]
    rw [hs]
    obtain ⟨⟨v, a1, a2⟩, _⟩ := h6 id c hm
    have n1 : c.cb ≠ wb := ne_of_ty a1 h1 (by decide)
    have H := ((Holds.start z []).add false a1 (by simp) (by simp)).add false h1 (by simpa using n1.symm) (by simp)
    have HF := Try.func15; refine Fn.enter Try.func15 Try.ntmps15 rfl rfl rfl ?_
    (refine Run.seq (Run.region ?_); intro K hK)
    refine Ops.pure H (X.assign rfl) rfl rfl rfl ?_
    (refine Ops.nil (hK _ _ ?_); clear hK K)
    refine Run.seq ?_
    (refine Run.seq (Run.region ?_); intro K hK)
    refine Ops.pure H (X.move rfl) rfl rfl rfl ?_
    refine Ops.pure H (X.nilCheck rfl) rfl rfl rfl ?_
    refine Ops.pure H (X.fieldAddr rfl rfl rfl rfl rfl rfl) rfl rfl rfl ?_
    refine Ops.pure H (X.load1 rfl rfl rfl rfl Pick.head rfl) rfl rfl rfl ?_
    refine Ops.pure H (X.move rfl) rfl rfl rfl ?_
    refine Ops.pure ((Holds.start z []).add false h2 (by simp) (by simp)) (X.lookup (v := .pointer (some ⟨c.cb, 0, none⟩)) h3 .head rfl rfl rfl rfl rfl rfl rfl (by rw [hfx, hm]; rfl)) rfl rfl rfl ?_
    refine Ops.pure H (X.assign rfl) rfl rfl rfl ?_
    (refine Ops.nil (hK _ _ (Run.seq (Run.region ?_))); clear hK K; intro K hK)
    refine Ops.pure H (X.move rfl) rfl rfl rfl ?_
    refine Ops.pure H (X.ptrNil rfl rfl rfl rfl rfl) rfl rfl rfl ?_
    (refine Ops.nil (hK _ _ ?_); clear hK K)
    refine Run.cond_true rfl ?_
    (refine Run.seq (Run.region ?_); intro K hK)
    refine Ops.pure H (X.move rfl) rfl rfl rfl ?_
    refine Ops.pure H (X.nilCheck rfl) rfl rfl rfl ?_
    refine Ops.pure H (X.fieldAddr rfl rfl rfl rfl rfl rfl) rfl rfl rfl ?_
    refine Ops.pure H (X.load1 rfl rfl rfl rfl (.tail .head) rfl) rfl rfl rfl ?_
    refine Ops.pure H (X.assign rfl) rfl rfl rfl ?_
    (refine Ops.nil (hK _ _ ?_); clear hK K)
    refine Fn.ret1 HF rfl rfl ?_
    exact ⟨rfl, H.fr⟩
end Go.Proofs.Ytaneenahapdabaa

namespace Go.Proofs.Ytaneenahapdabaa
open Go

def cs0 : CS := ⟨0, [], fun _ => none⟩
def updA (f : Int → Option (List Int)) (x : Int) (v : Option (List Int)) : Int → Option (List Int) := fun y => if y = x then v else f y
def insC (size : Int) (s : CS) (seq : Int) (bs : List Int) : CS :=
  if size < ((insL (bsL s.seqs seq) seq s.seqs).length : Nat) then ⟨(insL (bsL s.seqs seq) seq s.seqs).getD 0 0, (insL (bsL s.seqs seq) seq s.seqs).tail, updA (updA s.ans seq (some bs)) ((insL (bsL s.seqs seq) seq s.seqs).getD 0 0) none⟩
  else ⟨s.floor, insL (bsL s.seqs seq) seq s.seqs, updA s.ans seq (some bs)⟩
/-- Put's answer, and what it leaves of a client. -/
def putE (N : Nat) (s : Option CS) (seq : Int) (bs : List Int) : Int :=
  if seq = 0 then 1 else if 65536 < bs.length then 2 else if askK s seq ≠ 1 then 50 else if s.isNone ∧ 1024 ≤ N then 200 else 0
def putS (size : Int) (N : Nat) (s : Option CS) (seq : Int) (bs : List Int) : Option CS := if putE N s seq bs = 0 then some (insC size (s.getD cs0) seq bs) else s
def putN (N : Nat) (s : Option CS) (seq : Int) (bs : List Int) : Nat := if putE N s seq bs = 0 ∧ s.isNone then N + 1 else N
def footC (c : CL) : List Nat := [c.cb, c.sb, c.ab]
/-- What Put may write. -/
def footP (W : WS) (id : Int) : List Nat := W.mb :: (match W.m id with | none => [] | some c => footC c)
/-- All blocks of a window. -/
def Foot (W : WS) (b : Nat) : Prop := b = W.wb ∨ b = W.mb ∨ ∃ x c, W.m x = some c ∧ b ∈ footC c
def Dj (W W2 : WS) : Prop := ∀ b, Foot W b → ¬ Foot W2 b
theorem footP_foot {W : WS} {id : Int} {b : Nat} (h : b ∈ footP W id) : Foot W b := by
  unfold footP at h
  rcases List.mem_cons.1 h with h | h
  · exact .inr (.inl h)
  · cases hm : W.m id with
    | none => rw [hm] at h; cases h
    | some c => rw [hm] at h; exact .inr (.inr ⟨id, c, hm, h⟩)
/-- What stands at a window's blocks. -/
theorem Wn.foot {w : World} {W : WS} (h : Wn w W) {b : Nat} (hb : Foot W b) : (∃ es k, w.heap[b]? = some (.map es k)) ∨ (∃ ds, w.heap[b]? = some (row ds 61)) ∨ (∃ ds, w.heap[b]? = some (row ds 28)) ∨ ∃ ds, w.heap[b]? = some (row ds 57) := by
  rcases hb with rfl | rfl | ⟨x, c, hx, hc⟩
  · exact .inr (.inr (.inr ⟨_, h.at_⟩))
  · obtain ⟨es, k, _, h1, _⟩ := h.mp
    exact .inl ⟨es, k, h1⟩
  · obtain ⟨⟨v, h1, _⟩, es, k, _, h2, _⟩ := h.cl x c hx
    simp only [footC, List.mem_cons, List.not_mem_nil, or_false] at hc
    rcases hc with rfl | rfl | rfl
    · exact .inr (.inl ⟨_, h1⟩)
    · rcases h.real x c hx with e | ⟨ds, e⟩
      · rw [e]; exact .inr (.inl ⟨_, h1⟩)
      · exact .inr (.inr (.inl ⟨ds, e⟩))
    · exact .inl ⟨es, k, h2⟩
theorem Wn.lt {w : World} {W : WS} (h : Wn w W) {b : Nat} (hb : Foot W b) : b < w.heap.size := by
  rcases h.foot hb with ⟨_, _, h⟩ | ⟨_, h⟩ | ⟨_, h⟩ | ⟨_, h⟩ <;> exact lt_of_at h
theorem Wn.no5 {w : World} {W : WS} (h : Wn w W) {b : Nat} (hb : Foot W b) : No5 w b := by
  rcases h.foot hb with ⟨_, _, h⟩ | ⟨_, h⟩ | ⟨_, h⟩ | ⟨_, h⟩
  · exact No5.map h
  · exact No5.row h (by decide)
  · exact No5.row h (by decide)
  · exact No5.row h (by decide)
/-- Another window stays as it is. -/
theorem Wn.other {w w' : World} {W W2 : WS} {S : List Nat} (h : Wn w W) (h2 : Wn w W2) (hd : Dj W W2) (hf : Fr w w' S) (hS : ∀ b ∈ S, Foot W b) : Wn w' W2 := by
  have k : ∀ b, Foot W2 b → b ∉ S := fun b hb hm => hd b (hS b hm) hb
  have k5 : ∀ b ∈ S, No5 w b := fun b hm => h.no5 (hS b hm)
  obtain ⟨es, q, f, a1, a2⟩ := h2.mp
  have kc : ∀ x c, W2.m x = some c → c.cb ∉ S ∧ c.sb ∉ S ∧ c.ab ∉ S := fun x c hx =>
    ⟨k _ (.inr (.inr ⟨x, c, hx, by simp [footC]⟩)), k _ (.inr (.inr ⟨x, c, hx, by simp [footC]⟩)), k _ (.inr (.inr ⟨x, c, hx, by simp [footC]⟩))⟩
  exact ⟨hf.get h2.at_ (k _ (.inl rfl)), ⟨es, q, f, hf.get a1 (k _ (.inr (.inl rfl))), a2⟩, fun x c hx => (h2.cl x c hx).keep hf (kc x c hx).1 (kc x c hx).2.1 (kc x c hx).2.2 k5,
    fun x c hx => (h2.real x c hx).imp (fun e => e) (fun ⟨ds, hd⟩ => ⟨ds, hf.get hd (kc x c hx).2.1⟩), h2.ne, h2.mb, h2.len, fun es' k' h' => by rw [hf.get a1 (k _ (.inr (.inl rfl)))] at h'; cases h'; exact h2.stp es q a1⟩
def updM (m : Int → Option CL) (x : Int) (c : CL) : Int → Option CL := fun y => if y = x then some c else m y
theorem updM_self (m : Int → Option CL) (x : Int) (c : CL) : updM m x c x = some c := by simp [updM]
theorem updM_ne {m : Int → Option CL} {x y : Int} {c : CL} (h : y ≠ x) : updM m x c y = m y := by simp [updM, h]
/-- Two clients of a window. -/
theorem Wn.apart {w : World} {W : WS} (h : Wn w W) {x y : Int} {c c' : CL} (hxy : x ≠ y) (hx : W.m x = some c) (hy : W.m y = some c') : c'.cb ∉ footC c ∧ c'.sb ∉ footC c ∧ c'.ab ∉ footC c := by
  obtain ⟨⟨v, a1, _⟩, es, k, _, a2, _⟩ := h.cl x c hx
  obtain ⟨⟨v', b1, _⟩, es', k', _, b2, _⟩ := h.cl y c' hy
  obtain ⟨n1, n2, n3⟩ := h.ne x y c c' hxy hx hy
  have m1 : ∀ {b : Nat} {ds : List Value} {t : Nat} {e : Array MapEntry} {q : Nat}, w.heap[b]? = some (row ds t) → w.heap[b]? ≠ some (.map e q) := fun h1 h2 => by rw [h1] at h2; cases h2
  have r1 := h.real x c hx
  have r2 := h.real y c' hy
  simp only [footC, List.mem_cons, List.not_mem_nil, or_false, not_or]
  refine ⟨⟨n1.symm, ?_, fun e => m1 b1 (by rw [e]; exact a2)⟩, ⟨?_, n2.symm, ?_⟩, ⟨fun e => m1 a1 (by rw [← e]; exact b2), ?_, n3.symm⟩⟩
  · rcases r1 with e | ⟨ds, e⟩
    · rw [e]; exact n1.symm
    · exact ne_of_ty b1 e (by decide)
  · rcases r2 with e | ⟨ds, e⟩
    · rw [e]; exact n1.symm
    · exact ne_of_ty e a1 (by decide)
  · rcases r2 with e | ⟨ds, e⟩
    · rw [e]; exact fun e => m1 b1 (by rw [e]; exact a2)
    · exact fun e' => m1 e (by rw [e']; exact a2)
  · rcases r1 with e | ⟨ds, e⟩
    · rw [e]; exact fun e => m1 a1 (by rw [← e]; exact b2)
    · exact fun e' => m1 e (by rw [← e']; exact b2)
/-- One client is another one now. -/
theorem Wn.replace {w w' : World} {W : WS} {id : Int} {c c2 : CL} (h : Wn w W) (hc : W.m id = some c) (hf : Fr w w' (footC c)) (h2 : Cl w' c2) (e1 : c2.cb = c.cb) (e2 : c2.ab = c.ab) (e3 : c2.sb = c.sb ∨ w.heap.size ≤ c2.sb) (hr : c2.sb = c2.cb ∨ ∃ ds, w'.heap[c2.sb]? = some (row ds 28)) (hl : c2.s.seqs.length ≤ 64) :
    Wn w' { W with m := updM W.m id c2 } := by
  obtain ⟨⟨v, a1, _⟩, es, k, _, a2, _⟩ := h.cl id c hc
  obtain ⟨mes, q, f, m1, m2, m3, m4⟩ := h.mp
  have hm1 : ∀ {b : Nat} {ds : List Value} {t : Nat} {e : Array MapEntry} {q : Nat}, w.heap[b]? = some (row ds t) → w.heap[b]? ≠ some (.map e q) := fun h1 h2 => by rw [h1] at h2; cases h2
  have r1 := h.real id c hc
  have hwb : W.wb ∉ footC c := by
    simp only [footC, List.mem_cons, List.not_mem_nil, or_false, not_or]
    refine ⟨ne_of_ty h.at_ a1 (by decide), ?_, fun e => hm1 h.at_ (by rw [e]; exact a2)⟩
    rcases r1 with e | ⟨ds, e⟩
    · rw [e]; exact ne_of_ty h.at_ a1 (by decide)
    · exact ne_of_ty h.at_ e (by decide)
  have hmb : W.mb ∉ footC c := by
    simp only [footC, List.mem_cons, List.not_mem_nil, or_false, not_or]
    refine ⟨fun e => hm1 a1 (by rw [← e]; exact m1), ?_, (h.mb id c hc).symm⟩
    rcases r1 with e | ⟨ds, e⟩
    · rw [e]; exact fun e => hm1 a1 (by rw [← e]; exact m1)
    · exact fun e' => hm1 e (by rw [← e']; exact m1)
  have h5 : ∀ b ∈ footC c, No5 w b := fun b hb => h.no5 (.inr (.inr ⟨id, c, hc, hb⟩))
  have hsplit : ∀ x d, updM W.m id c2 x = some d → (x = id ∧ d = c2) ∨ (x ≠ id ∧ W.m x = some d) := by
    intro x d hx
    by_cases e : x = id
    · subst e
      rw [updM_self] at hx
      cases hx
      exact .inl ⟨rfl, rfl⟩
    · rw [updM_ne e] at hx
      exact .inr ⟨e, hx⟩
  have hsb : ∀ x d, W.m x = some d → d.sb < w.heap.size := fun x d hx => h.lt (.inr (.inr ⟨x, d, hx, by simp [footC]⟩))
  refine ⟨hf.get h.at_ hwb, ⟨mes, q, f, hf.get m1 hmb, m2, m3, fun x => ?_⟩, fun x d hx => ?_, fun x d hx => ?_, fun x y d d' hxy hx hy => ?_, fun x d hx => ?_, fun x d hx => ?_, fun es' k' h' => by rw [hf.get m1 hmb] at h'; cases h'; exact h.stp mes q m1⟩
  · rw [m4 x]
    by_cases e : x = id
    · subst e
      show _ = (updM W.m x c2 x).map _
      rw [updM_self, hc]
      simp [e1]
    · show _ = (updM W.m id c2 x).map _
      rw [updM_ne e]
  · rcases hsplit x d hx with ⟨rfl, rfl⟩ | ⟨hne, hx⟩
    · exact h2
    · obtain ⟨k1, k2, k3⟩ := h.apart (fun e => hne e.symm) hc hx
      exact (h.cl x d hx).keep hf k1 k2 k3 h5
  · rcases hsplit x d hx with ⟨rfl, rfl⟩ | ⟨hne, hx⟩
    · exact hr
    · obtain ⟨k1, k2, k3⟩ := h.apart (fun e => hne e.symm) hc hx
      exact (h.real x d hx).imp (fun e => e) (fun ⟨ds, hd⟩ => ⟨ds, hf.get hd k2⟩)
  · rcases hsplit x d hx with ⟨rfl, rfl⟩ | ⟨hne, hx'⟩ <;> rcases hsplit y d' hy with ⟨rfl, rfl⟩ | ⟨hne', hy'⟩
    · exact absurd rfl hxy
    · obtain ⟨n1, n2, n3⟩ := h.ne x y c d' hxy hc hy'
      have := hsb y d' hy'
      refine ⟨by rw [e1]; exact n1, ?_, by rw [e2]; exact n3⟩
      rcases e3 with e | e
      · rw [e]; exact n2
      · omega
    · obtain ⟨n1, n2, n3⟩ := h.ne x y d c hxy hx' hc
      have := hsb x d hx'
      refine ⟨by rw [e1]; exact n1, ?_, by rw [e2]; exact n3⟩
      rcases e3 with e | e
      · rw [e]; exact n2
      · omega
    · exact h.ne x y d d' hxy hx' hy'
  · rcases hsplit x d hx with ⟨rfl, rfl⟩ | ⟨hne, hx⟩
    · rw [e2]; exact h.mb x c hc
    · exact h.mb x d hx
  · rcases hsplit x d hx with ⟨rfl, rfl⟩ | ⟨hne, hx⟩
    · exact hl
    · exact h.len x d hx
/-- A client more. -/
theorem Wn.more {w w' : World} {W : WS} {id : Int} {c2 : CL} {es : Array MapEntry} {k : Nat} {f f' : Int → Option Value} (h : Wn w W) (hc : W.m id = none) (hf : Fr w w' [W.mb]) (h2 : Cl w' c2) (z1 : w.heap.size ≤ c2.cb) (z2 : c2.sb = c2.cb) (z3 : w.heap.size ≤ c2.ab) (hl : c2.s.seqs.length ≤ 64)
    (hm : w'.heap[W.mb]? = some (.map es k)) (hM : Mp .u64 es f') (hs : es.size = W.N + 1) (hst : MapKept.Stamped es k) (h0 : ∀ x, f x = (W.m x).map fun c => .pointer (some ⟨c.cb, 0, none⟩)) (hu : f' = upd f id (some (.pointer (some ⟨c2.cb, 0, none⟩)))) :
    Wn w' { W with m := updM W.m id c2, N := W.N + 1 } := by
  have hmbl : W.mb < w.heap.size := h.lt (.inr (.inl rfl))
  obtain ⟨mes, q, g, m1, m2, m3, m4⟩ := h.mp
  have hm1 : ∀ {b : Nat} {ds : List Value} {t : Nat} {e : Array MapEntry} {q : Nat}, w.heap[b]? = some (row ds t) → w.heap[b]? ≠ some (.map e q) := fun h1 h2 => by rw [h1] at h2; cases h2
  have hlt : ∀ x d, W.m x = some d → d.cb < w.heap.size ∧ d.sb < w.heap.size ∧ d.ab < w.heap.size := fun x d hx =>
    ⟨h.lt (.inr (.inr ⟨x, d, hx, by simp [footC]⟩)), h.lt (.inr (.inr ⟨x, d, hx, by simp [footC]⟩)), h.lt (.inr (.inr ⟨x, d, hx, by simp [footC]⟩))⟩
  have hsplit : ∀ x d, updM W.m id c2 x = some d → (x = id ∧ d = c2) ∨ (x ≠ id ∧ W.m x = some d) := by
    intro x d hx
    by_cases e : x = id
    · subst e
      rw [updM_self] at hx
      cases hx
      exact .inl ⟨rfl, rfl⟩
    · rw [updM_ne e] at hx
      exact .inr ⟨e, hx⟩
  have hk : ∀ x d, W.m x = some d → d.cb ∉ [W.mb] ∧ d.sb ∉ [W.mb] ∧ d.ab ∉ [W.mb] := by
    intro x d hx
    obtain ⟨⟨v, a1, _⟩, _⟩ := h.cl x d hx
    refine ⟨?_, ?_, by simpa using h.mb x d hx⟩
    · simp only [List.mem_singleton]
      exact fun e => hm1 a1 (by rw [e]; exact m1)
    · simp only [List.mem_singleton]
      rcases h.real x d hx with e | ⟨ds, e⟩
      · rw [e]; exact fun e => hm1 a1 (by rw [e]; exact m1)
      · exact fun e' => hm1 e (by rw [e']; exact m1)
  refine ⟨hf.get h.at_ ?_, ⟨es, k, f', hm, hM, hs, fun x => ?_⟩, fun x d hx => ?_, fun x d hx => ?_, fun x y d d' hxy hx hy => ?_, fun x d hx => ?_, fun x d hx => ?_, fun es' k' h' => by rw [hm] at h'; cases h'; exact hst⟩
  · simp only [List.mem_singleton]
    exact fun e => hm1 h.at_ (by rw [e]; exact m1)
  · show f' x = (updM W.m id c2 x).map _
    rw [hu]
    by_cases e : x = id
    · subst e
      rw [updM_self]
      simp [upd]
    · rw [updM_ne e]
      simp only [upd, if_neg e]
      exact h0 x
  · rcases hsplit x d hx with ⟨rfl, rfl⟩ | ⟨hne, hx⟩
    · exact h2
    · exact (h.cl x d hx).keep hf (hk x d hx).1 (hk x d hx).2.1 (hk x d hx).2.2 (fun b hb => h.no5 (by simp at hb; exact .inr (.inl hb)))
  · rcases hsplit x d hx with ⟨rfl, rfl⟩ | ⟨hne, hx⟩
    · exact .inl z2
    · exact (h.real x d hx).imp (fun e => e) (fun ⟨ds, hd⟩ => ⟨ds, hf.get hd (hk x d hx).2.1⟩)
  · rcases hsplit x d hx with ⟨rfl, rfl⟩ | ⟨hne, hx'⟩ <;> rcases hsplit y d' hy with ⟨rfl, rfl⟩ | ⟨hne', hy'⟩
    · exact absurd rfl hxy
    · obtain ⟨l1, l2, l3⟩ := hlt y d' hy'
      omega
    · obtain ⟨l1, l2, l3⟩ := hlt x d hx'
      omega
    · exact h.ne x y d d' hxy hx' hy'
  · rcases hsplit x d hx with ⟨rfl, rfl⟩ | ⟨hne, hx⟩
    · show d.ab ≠ W.mb
      omega
    · exact h.mb x d hx
  · rcases hsplit x d hx with ⟨rfl, rfl⟩ | ⟨hne, hx⟩
    · exact hl
    · exact h.len x d hx
end Go.Proofs.Ytaneenahapdabaa
