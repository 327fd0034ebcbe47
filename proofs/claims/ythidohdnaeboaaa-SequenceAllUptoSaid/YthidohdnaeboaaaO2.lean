/- Walks: the order's small functions. -/
import Derived.Test.YthidohdnaeboaaaO1
namespace Go.Proofs.Ythidohdnaeboaaa
open Go
set_option maxRecDepth 20000
set_option maxHeartbeats 2000000
attribute [local irreducible] Run Ops Fn Draw Draw2 PureOp StepZ

structure Tk where
  id : Int
  client : Int
  seq : Int
  parts : List Int
def tk0 : Tk := ⟨0, 0, 0, []⟩
def tkC (t : Tk) (v : Value) : List Value := [.int .u64 t.id, .int .u64 t.client, .int .u64 t.seq, v]
/-- Ticket i of a row of tickets. -/
def TkAt (w : World) (cs : List Value) (i : Nat) (t : Tk) : Prop := ∃ v b, Cs cs (0 + i * 4) 4 (tkC t v) ∧ IntsB w v t.parts b ∧ t.parts.length ≤ 64
/-- A slice of tickets at the head of block c (or nil). -/
def Tks (w : World) (v : Value) (c : Nat) (l : List Tk) : Prop :=
  ∃ a cap cs, v = .slice a l.length cap ∧ l.length ≤ cap ∧ cap ≤ 9223372036854775807 ∧ ((a = none ∧ cap = 0) ∨ (a = some ⟨c, 0, none⟩ ∧ w.heap[c]? = some (row cs 56) ∧ cs.length = cap * 4)) ∧ ∀ i t, l[i]? = some t → TkAt w cs i t
/-- The program's order. -/
def Ord (w : World) (o c : Nat) (n last : Int) (l : List Tk) : Prop :=
  ∃ v, w.heap[o]? = some (row [.int .i64 n, .int .u64 last, v] 78) ∧ Tks w v c l

theorem ne_of_ty {w : World} {b b' t t' : Nat} {cs cs' : List Value} (h : w.heap[b]? = some (row cs t)) (h' : w.heap[b']? = some (row cs' t')) (ht : t ≠ t') : b ≠ b' := by
  intro e
  subst e
  rw [h] at h'
  simp at h'
  exact ht h'.2

theorem ne_of_ty' {w : World} {b b' t t' : Nat} {cs cs' : List Value} (h : w.heap[b]? = some (row cs t)) (e : b = b') (ht : t ≠ t') : w.heap[b']? ≠ some (row cs' t') := fun h' => ne_of_ty h h' ht e
theorem own_any (w : World) (t : Tk) (v : Value) (hv : Ints w v t.parts) (h0 : 0 < t.parts.length) (hb : t.parts.length ≤ 64) :
    Fn env.P 30 [.agg (tkC t v).toArray] w fun r w' => ∃ v' b, r = .agg (tkC t v').toArray ∧ IntsB w' v' t.parts b ∧ w.heap.size ≤ b ∧ Fr w w' [] := by
  have H := Holds.start w []
  have HF := Try.func30; refine Fn.enter Try.func30 Try.ntmps30 rfl rfl rfl ?_
  simp only [tkC]
  refine Run.seq ?_
  (refine Run.region ?_; intro K hK)
  (refine Ops.eff rfl (Y.box rfl rfl rfl H ?_); intro b1 w H0 hb1; clear H; have H := H0; clear H0)
  (refine Ops.eff rfl (Y.alloc rfl rfl rfl H ?_); intro b2 w H0 hb2; clear H; have H := H0; clear H0)
  (refine Ops.nil (hK _ _ ?_); clear hK K)
  refine Run.seq ?_
  (refine Run.region ?_; intro K hK)
  refine Ops.pure H (X.fieldAddr rfl rfl rfl rfl rfl rfl) rfl rfl rfl ?_
  refine Ops.pure H (X.load1 rfl rfl rfl rfl (.tail .head) rfl) rfl rfl rfl ?_
  refine Ops.eff rfl (Y.call rfl rfl (by first | assumption | decide +kernel) rfl (clone_int _ _ _ (hv.ext (Fr.fresh H.fr (by simp))) h0 (by omega)) rfl ?_)
  rintro v' w2 ⟨b, ⟨cap, cs, rfl, h2, h3, h4, h5, h6⟩, hsz, hf⟩
  have hle := Nat.le_trans H.fr.size hsz
  replace H := H.extAdd false hf h4 hsz
  refine Ops.pure H (X.fieldAddr rfl rfl rfl rfl rfl rfl) rfl rfl rfl ?_
  (refine Ops.eff rfl (Y.store1 rfl rfl rfl rfl rfl rfl H (.tail (.tail .head)) (by repeat (first | exact SetC.zero | apply SetC.succ)) ?_); intro w H0; clear H; have H := H0; clear H0)
  (refine Ops.nil (hK _ _ ?_); clear hK K)
  refine Run.seq ?_
  (refine Run.region ?_; intro K hK)
  refine Ops.pure H (X.loadN rfl rfl rfl (.tail (.tail .head)) (Cs.take rfl)) rfl rfl rfl ?_
  (refine Ops.eff rfl (Y.storeO rfl rfl rfl rfl rfl rfl H (.tail .head) rfl ?_); intro w H0; clear H; have H := H0; clear H0)
  (refine Ops.nil (hK _ _ ?_); clear hK K)
  (first | refine Fn.ret1 HF rfl rfl ?_ | refine Fn.ret2 HF rfl rfl rfl ?_ | refine Fn.ret3 HF rfl rfl rfl rfl ?_ | refine Fn.ret0 HF rfl ?_ | refine Fn.fin0 HF rfl ?_ | refine Fn.retG (E := env) HF rfl H (by first | exact RVs.cellN rfl rfl rfl (by first | exact .head | exact .tail .head | exact .tail (.tail .head) | exact .tail (.tail (.tail .head)) | exact .tail (.tail (.tail (.tail .head))) | exact .tail (.tail (.tail (.tail (.tail .head)))) | exact .tail (.tail (.tail (.tail (.tail (.tail .head)))))) (by first | assumption | exact Cs.take rfl) RVs.nil | exact RVs.cellN rfl rfl rfl (by first | exact .head | exact .tail .head | exact .tail (.tail .head) | exact .tail (.tail (.tail .head)) | exact .tail (.tail (.tail (.tail .head))) | exact .tail (.tail (.tail (.tail (.tail .head)))) | exact .tail (.tail (.tail (.tail (.tail (.tail .head)))))) (by first | assumption | exact Cs.take rfl) (RVs.tmp rfl RVs.nil)) rfl ?_)
  exact ⟨_, b, rfl, ⟨cap, cs, rfl, h2, h3, H.pick (by first | exact .head | exact .tail .head | exact .tail (.tail .head) | exact .tail (.tail (.tail .head)) | exact .tail (.tail (.tail (.tail .head))) | exact .tail (.tail (.tail (.tail (.tail .head)))) | exact .tail (.tail (.tail (.tail (.tail (.tail .head)))))), h5, h6⟩, hle, H.fr⟩
theorem find1_any (w : World) (t : Tk) (v : Value) (ib : Nat) (id : Int) (h : w.heap[ib]? = some (row [.int .u64 id] 30)) :
    Fn env.P 52 [.agg (tkC t v).toArray, .pointer (some ⟨ib, 0, none⟩)] w fun r w' => r = .bool (decide (t.id = id)) ∧ Fr w w' [] := by
  have H := (Holds.start w []).add false h (by simp) (by simp)
  have HF := Try.func52; refine Fn.enter Try.func52 Try.ntmps52 rfl rfl rfl ?_
  simp only [tkC]
  refine Run.seq ?_
  (refine Run.region ?_; intro K hK)
  (refine Ops.eff rfl (Y.box rfl rfl rfl H ?_); intro b2 w H0 hb2; clear H; have H := H0; clear H0)
  refine Ops.pure H (X.assign rfl) rfl rfl rfl ?_
  (refine Ops.nil (hK _ _ ?_); clear hK K)
  refine Run.seq ?_
  (refine Run.region ?_; intro K hK)
  refine Ops.pure H (X.fieldAddr rfl rfl rfl rfl rfl rfl) rfl rfl rfl ?_
  refine Ops.pure H (X.load1 rfl rfl rfl rfl Pick.head rfl) rfl rfl rfl ?_
  refine Ops.pure H (X.load1 rfl rfl rfl rfl (.tail .head) rfl) rfl rfl rfl ?_
  refine Ops.pure H (X.cmp rfl rfl rfl) rfl rfl rfl ?_
  refine Ops.pure H (X.assign rfl) rfl rfl rfl ?_
  (refine Ops.nil (hK _ _ ?_); clear hK K)
  (first | refine Fn.ret1 HF rfl rfl ?_ | refine Fn.ret2 HF rfl rfl rfl ?_ | refine Fn.ret3 HF rfl rfl rfl rfl ?_ | refine Fn.ret0 HF rfl ?_ | refine Fn.fin0 HF rfl ?_ | refine Fn.retG (E := env) HF rfl H (by first | exact RVs.cellN rfl rfl rfl (by first | exact .head | exact .tail .head | exact .tail (.tail .head) | exact .tail (.tail (.tail .head)) | exact .tail (.tail (.tail (.tail .head))) | exact .tail (.tail (.tail (.tail (.tail .head)))) | exact .tail (.tail (.tail (.tail (.tail (.tail .head)))))) (by first | assumption | exact Cs.take rfl) RVs.nil | exact RVs.cellN rfl rfl rfl (by first | exact .head | exact .tail .head | exact .tail (.tail .head) | exact .tail (.tail (.tail .head)) | exact .tail (.tail (.tail (.tail .head))) | exact .tail (.tail (.tail (.tail (.tail .head)))) | exact .tail (.tail (.tail (.tail (.tail (.tail .head)))))) (by first | assumption | exact Cs.take rfl) (RVs.tmp rfl RVs.nil)) rfl ?_)
  exact ⟨rfl, H.fr⟩
theorem submit1_any (w : World) (t : Tk) (v : Value) (b1 b2 : Nat) (client seq : Int) (h1 : w.heap[b1]? = some (row [.int .u64 client] 30)) (h2 : w.heap[b2]? = some (row [.int .u64 seq] 30)) (hne : b1 ≠ b2) :
    Fn env.P 29 [.agg (tkC t v).toArray, .pointer (some ⟨b1, 0, none⟩), .pointer (some ⟨b2, 0, none⟩)] w fun r w' => r = .bool (decide (t.client = client ∧ t.seq = seq)) ∧ Fr w w' [] := by
  have H := ((Holds.start w []).add false h2 (by simp) (by simp)).add false h1 (by simpa using hne) (by simp)
  have HF := Try.func29; refine Fn.enter Try.func29 Try.ntmps29 rfl rfl rfl ?_
  simp only [tkC]
  refine Run.seq ?_
  (refine Run.region ?_; intro K hK)
  (refine Ops.eff rfl (Y.box rfl rfl rfl H ?_); intro b3 w H0 hb3; clear H; have H := H0; clear H0)
  refine Ops.pure H (X.assign rfl) rfl rfl rfl ?_
  (refine Ops.nil (hK _ _ ?_); clear hK K)
  refine Run.seq ?_
  (refine Run.region ?_; intro K hK)
  refine Ops.pure H (X.fieldAddr rfl rfl rfl rfl rfl rfl) rfl rfl rfl ?_
  refine Ops.pure H (X.load1 rfl rfl rfl rfl Pick.head rfl) rfl rfl rfl ?_
  refine Ops.pure H (X.load1 rfl rfl rfl rfl (.tail .head) rfl) rfl rfl rfl ?_
  refine Ops.pure H (X.cmp rfl rfl rfl) rfl rfl rfl ?_
  refine Ops.pure H (X.move rfl) rfl rfl rfl ?_
  refine Ops.split_dec rfl rfl (fun h10 => ?x0) (fun h10 => ?y0)
  case' y0 =>
    refine Ops.pass rfl rfl rfl ?_
    refine Ops.pass rfl rfl rfl ?_
    refine Ops.pass rfl rfl rfl ?_
    refine Ops.pass rfl rfl rfl ?_
    refine Ops.pure H (X.pick_f rfl rfl) rfl rfl rfl ?_
    refine Ops.pure H (X.assign rfl) rfl rfl rfl ?_
    (refine Ops.nil (hK _ _ ?_); clear hK K)
  case' x0 =>
    refine Ops.pure H (X.fieldAddr rfl rfl rfl rfl rfl rfl) rfl rfl rfl ?_
    refine Ops.pure H (X.load1 rfl rfl rfl rfl Pick.head rfl) rfl rfl rfl ?_
    refine Ops.pure H (X.load1 rfl rfl rfl rfl (.tail (.tail .head)) rfl) rfl rfl rfl ?_
    refine Ops.pure H (X.cmp rfl rfl rfl) rfl rfl rfl ?_
    refine Ops.pure H (X.pick_t rfl rfl) rfl rfl rfl ?_
    refine Ops.pure H (X.assign rfl) rfl rfl rfl ?_
    (refine Ops.nil (hK _ _ ?_); clear hK K)
  all_goals (first | refine Fn.ret1 HF rfl rfl ?_ | refine Fn.ret2 HF rfl rfl rfl ?_ | refine Fn.ret3 HF rfl rfl rfl rfl ?_ | refine Fn.ret0 HF rfl ?_ | refine Fn.fin0 HF rfl ?_ | refine Fn.retG (E := env) HF rfl H (by first | exact RVs.cellN rfl rfl rfl (by first | exact .head | exact .tail .head | exact .tail (.tail .head) | exact .tail (.tail (.tail .head)) | exact .tail (.tail (.tail (.tail .head))) | exact .tail (.tail (.tail (.tail (.tail .head)))) | exact .tail (.tail (.tail (.tail (.tail (.tail .head)))))) (by first | assumption | exact Cs.take rfl) RVs.nil | exact RVs.cellN rfl rfl rfl (by first | exact .head | exact .tail .head | exact .tail (.tail .head) | exact .tail (.tail (.tail .head)) | exact .tail (.tail (.tail (.tail .head))) | exact .tail (.tail (.tail (.tail (.tail .head)))) | exact .tail (.tail (.tail (.tail (.tail (.tail .head)))))) (by first | assumption | exact Cs.take rfl) (RVs.tmp rfl RVs.nil)) rfl ?_)
  · exact ⟨by simp_all, H.fr⟩
  · exact ⟨by simp_all, H.fr⟩
theorem next1_any (w : World) (t : Tk) (v : Value) (b1 : Nat) (p : Int) (hv : Ints w v t.parts) (h1 : w.heap[b1]? = some (row [.int .i64 p] 3)) :
    Fn env.P 64 [.agg (tkC t v).toArray, .pointer (some ⟨b1, 0, none⟩)] w fun r w' => r = .bool (decide (p ∈ t.parts)) ∧ Fr w w' [] := by
  have H := (Holds.start w []).add false h1 (by simp) (by simp)
  have HF := Try.func64; refine Fn.enter Try.func64 Try.ntmps64 rfl rfl rfl ?_
  simp only [tkC]
  refine Run.seq ?_
  (refine Run.region ?_; intro K hK)
  (refine Ops.eff rfl (Y.box rfl rfl rfl H ?_); intro b2 w H0 hb2; clear H; have H := H0; clear H0)
  refine Ops.pure H (X.assign rfl) rfl rfl rfl ?_
  (refine Ops.nil (hK _ _ ?_); clear hK K)
  refine Run.seq ?_
  (refine Run.region ?_; intro K hK)
  refine Ops.pure H (X.fieldAddr rfl rfl rfl rfl rfl rfl) rfl rfl rfl ?_
  refine Ops.pure H (X.load1 rfl rfl rfl rfl Pick.head rfl) rfl rfl rfl ?_
  refine Ops.pure H (X.load1 rfl rfl rfl rfl (.tail .head) rfl) rfl rfl rfl ?_
  refine Ops.eff rfl (Y.call rfl rfl (by first | assumption | decide +kernel) rfl (contains_int _ _ _ _ (hv.ext H.fr)) rfl ?_)
  rintro v w2 ⟨rfl, hf⟩
  replace H := H.ext hf
  refine Ops.pure H (X.assign rfl) rfl rfl rfl ?_
  (refine Ops.nil (hK _ _ ?_); clear hK K)
  (first | refine Fn.ret1 HF rfl rfl ?_ | refine Fn.ret2 HF rfl rfl rfl ?_ | refine Fn.ret3 HF rfl rfl rfl rfl ?_ | refine Fn.ret0 HF rfl ?_ | refine Fn.fin0 HF rfl ?_ | refine Fn.retG (E := env) HF rfl H (by first | exact RVs.cellN rfl rfl rfl (by first | exact .head | exact .tail .head | exact .tail (.tail .head) | exact .tail (.tail (.tail .head)) | exact .tail (.tail (.tail (.tail .head))) | exact .tail (.tail (.tail (.tail (.tail .head)))) | exact .tail (.tail (.tail (.tail (.tail (.tail .head)))))) (by first | assumption | exact Cs.take rfl) RVs.nil | exact RVs.cellN rfl rfl rfl (by first | exact .head | exact .tail .head | exact .tail (.tail .head) | exact .tail (.tail (.tail .head)) | exact .tail (.tail (.tail (.tail .head))) | exact .tail (.tail (.tail (.tail (.tail .head)))) | exact .tail (.tail (.tail (.tail (.tail (.tail .head)))))) (by first | assumption | exact Cs.take rfl) (RVs.tmp rfl RVs.nil)) rfl ?_)
  exact ⟨rfl, H.fr⟩
/-- What is needed of a ticket in a row of known cells. -/
theorem TkAt.get {w : World} {cs : List Value} {i : Nat} {t : Tk} (h : TkAt w cs i t) : ∃ v b, Cs cs (0 + i * 4) 4 (tkC t v) ∧ cs[0 + i * 4]? = some (.int .u64 t.id) ∧ cs[0 + i * 4 + 3]? = some v ∧ IntsB w v t.parts b ∧ t.parts.length ≤ 64 := by
  obtain ⟨v, b, h1, h2, h3⟩ := h
  exact ⟨v, b, h1, h1.get 0 _ rfl, h1.get 3 _ rfl, h2, h3⟩
theorem getD_of {l : List Tk} {i : Nat} {t : Tk} (h : l[i]? = some t) : l.getD i tk0 = t := by simp [List.getD_eq_getElem?_getD, h]
theorem some_at {l : List Tk} {i : Nat} (h : i < l.length) : l[i]? = some (l.getD i tk0) := by simp [List.getD_eq_getElem?_getD, h]
theorem may2_any (w : World) (o c : Nat) (n last : Int) (l : List Tk) (i b2 b3 : Nat) (p : Int) (h : Ord w o c n last l) (hi : i < l.length) (h2 : w.heap[b2]? = some (row [.pointer (some ⟨o, 0, none⟩)] 45)) (h3 : w.heap[b3]? = some (row [.int .i64 (i : Nat)] 3)) :
    Fn env.P 50 [.int .i64 p, .pointer (some ⟨b2, 0, none⟩), .pointer (some ⟨b3, 0, none⟩)] w fun r w' => r = .bool (decide (p ∈ (l.getD i tk0).parts)) ∧ Fr w w' [] := by
  obtain ⟨v, ho, a, cap, cs, rfl, hc1, hc2, hac, hall⟩ := h
  obtain ⟨vi, bi, hcs, hid, hc, hvi, h64⟩ := (hall i _ (some_at hi)).get
  rcases hac with ⟨_, rfl⟩ | ⟨rfl, hcc, hcl⟩
  · omega
  have H := ((((Holds.start w []).add false h2 (by simp) (by simp)).add false h3 (by simpa using ne_of_ty h3 h2 (by decide)) (by simp)).add false ho (by simpa using ⟨ne_of_ty ho h3 (by decide), ne_of_ty ho h2 (by decide)⟩) (by simp)).add false hcc (by simpa using ⟨ne_of_ty hcc ho (by decide), ne_of_ty hcc h3 (by decide), ne_of_ty hcc h2 (by decide)⟩) (by simp)
  have HF := Try.func50; refine Fn.enter Try.func50 Try.ntmps50 rfl rfl rfl ?_
  refine Run.seq ?_
  (refine Run.region ?_; intro K hK)
  refine Ops.pure H (X.assign rfl) rfl rfl rfl ?_
  (refine Ops.nil (hK _ _ ?_); clear hK K)
  refine Run.seq ?_
  (refine Run.draw H [] [0, 1, 2, 3, 4, 5, 6, 7, 8, 9, 10] ?_; clear H; intro K hK w H)
  refine Draw.take rfl (X.load1 rfl rfl rfl rfl (.tail (.tail (.tail .head))) rfl) rfl rfl rfl (by decide +kernel) ?_
  refine Draw.take0 rfl (X.nilCheck rfl) rfl rfl rfl (by decide +kernel) ?_
  refine Draw.take0 rfl (X.fieldAddr rfl rfl rfl rfl rfl rfl) rfl rfl rfl (by decide +kernel) ?_
  refine Draw.take rfl (X.load1 rfl rfl rfl rfl (.tail .head) rfl) rfl rfl rfl (by decide +kernel) ?_
  refine Draw.take rfl (X.load1 rfl rfl rfl rfl (.tail (.tail .head)) rfl) rfl rfl rfl (by decide +kernel) ?_
  refine Draw.take0 rfl (X.indexAddr rfl rfl (by omega) rfl rfl rfl rfl) rfl rfl rfl (by decide +kernel) ?_
  refine Draw.take0 rfl (X.fieldAddr rfl rfl rfl rfl rfl rfl) rfl rfl rfl (by decide +kernel) ?_
  refine Draw.take rfl (X.load1 rfl rfl rfl rfl Pick.head (by assumption)) rfl rfl rfl (by decide +kernel) ?_
  refine Draw.take0 rfl (X.move rfl) rfl rfl rfl (by decide +kernel) ?_
  refine Draw.eff rfl rfl (by decide +kernel) (Y.call rfl rfl (by first | assumption | decide +kernel) rfl (contains_int _ _ _ _ (hvi.ints.ext H.fr)) rfl ?_)
  rintro r w2 ⟨rfl, hf⟩
  replace H := H.ext hf
  refine ⟨H.at_, ?_⟩
  refine Draw.take0 rfl (X.assign rfl) rfl rfl rfl (by decide +kernel) ?_
  (refine Draw.done (by decide +kernel) (hK _ _ ?_); clear hK K)
  (first | refine Fn.ret1 HF rfl rfl ?_ | refine Fn.ret2 HF rfl rfl rfl ?_ | refine Fn.ret3 HF rfl rfl rfl rfl ?_ | refine Fn.ret0 HF rfl ?_ | refine Fn.fin0 HF rfl ?_ | refine Fn.retG (E := env) HF rfl H (by first | exact RVs.cellN rfl rfl rfl (by first | exact .head | exact .tail .head | exact .tail (.tail .head) | exact .tail (.tail (.tail .head)) | exact .tail (.tail (.tail (.tail .head))) | exact .tail (.tail (.tail (.tail (.tail .head)))) | exact .tail (.tail (.tail (.tail (.tail (.tail .head)))))) (by first | assumption | exact Cs.take rfl) RVs.nil | exact RVs.cellN rfl rfl rfl (by first | exact .head | exact .tail .head | exact .tail (.tail .head) | exact .tail (.tail (.tail .head)) | exact .tail (.tail (.tail (.tail .head))) | exact .tail (.tail (.tail (.tail (.tail .head)))) | exact .tail (.tail (.tail (.tail (.tail (.tail .head)))))) (by first | assumption | exact Cs.take rfl) (RVs.tmp rfl RVs.nil)) rfl ?_)
  exact ⟨rfl, H.fr⟩
theorem TkAt.keep {w w' : World} {S : List Nat} {cs : List Value} {i : Nat} {t : Tk} (h : TkAt w cs i t) (hf : Fr w w' S) (hS : ∀ b ∈ S, ∀ ds, w.heap[b]? ≠ some (row ds 3)) : TkAt w' cs i t := by
  obtain ⟨v, b, h1, h2, h3⟩ := h
  refine ⟨v, b, h1, h2.keep hf fun hb => ?_, h3⟩
  obtain ⟨cap, ds, _, _, _, h4, _⟩ := h2
  exact hS b hb _ h4
theorem Tks.keep {w w' : World} {S : List Nat} {v : Value} {c : Nat} {l : List Tk} (h : Tks w v c l) (hf : Fr w w' S) (hc : c ∈ S → ∀ ds, w.heap[c]? ≠ some (row ds 56)) (hS : ∀ b ∈ S, ∀ ds, w.heap[b]? ≠ some (row ds 3)) : Tks w' v c l := by
  obtain ⟨a, cap, cs, h1, h2, h3, h4, h5⟩ := h
  refine ⟨a, cap, cs, h1, h2, h3, ?_, fun i t ht => (h5 i t ht).keep hf hS⟩
  rcases h4 with h4 | ⟨h4, h6, h7⟩
  · exact .inl h4
  · exact .inr ⟨h4, hf.get h6 (fun hm => hc hm _ h6), h7⟩
theorem Tks.ext {w w' : World} {v : Value} {c : Nat} {l : List Tk} (h : Tks w v c l) (hf : Fr w w' []) : Tks w' v c l := h.keep hf (by simp) (by simp)
theorem Ord.keep {w w' : World} {S : List Nat} {o c : Nat} {n last : Int} {l : List Tk} (h : Ord w o c n last l) (hf : Fr w w' S) (ho : o ∉ S) (hc : c ∈ S → ∀ ds, w.heap[c]? ≠ some (row ds 56)) (hS : ∀ b ∈ S, ∀ ds, w.heap[b]? ≠ some (row ds 3)) : Ord w' o c n last l := by
  obtain ⟨v, h1, h2⟩ := h
  exact ⟨v, hf.get h1 ho, h2.keep hf hc hS⟩
theorem Ord.ext {w w' : World} {o c : Nat} {n last : Int} {l : List Tk} (h : Ord w o c n last l) (hf : Fr w w' []) : Ord w' o c n last l := h.keep hf (by simp) (by simp) (by simp)
/-- The tickets' Parts, as functions of the place. -/
theorem tks_choose {w : World} {cs : List Value} {l : List Tk} (h : ∀ i t, l[i]? = some t → TkAt w cs i t) :
    ∃ V : Nat → Value × Nat, ∀ i, i < l.length → Cs cs (0 + i * 4) 4 (tkC (l.getD i tk0) (V i).1) ∧ IntsB w (V i).1 (l.getD i tk0).parts (V i).2 ∧ (l.getD i tk0).parts.length ≤ 64 := by
  refine chooseLt (α := Value × Nat) (p := fun i V => Cs cs (0 + i * 4) 4 (tkC (l.getD i tk0) V.1) ∧ IntsB w V.1 (l.getD i tk0).parts V.2 ∧ (l.getD i tk0).parts.length ≤ 64) fun i hi => ?_
  obtain ⟨v, b, h1, h2, h3⟩ := h i _ (some_at hi)
  exact ⟨(v, b), h1, h2, h3⟩
theorem may1_any (w : World) (o c : Nat) (n last : Int) (l : List Tk) (i x2 x3 : Nat) (t : Tk) (v : Value) (hv : Ints w v t.parts) (h : Ord w o c n last l) (hi : i < l.length) (k2 : w.heap[x2]? = some (row [.pointer (some ⟨o, 0, none⟩)] 45)) (k3 : w.heap[x3]? = some (row [.int .i64 (i : Nat)] 3)) :
    Fn env.P 48 [.agg (tkC t v).toArray, .pointer (some ⟨x2, 0, none⟩), .pointer (some ⟨x3, 0, none⟩)] w fun r w' => r = .bool (t.parts.any fun p => decide (p ∈ (l.getD i tk0).parts)) ∧ Fr w w' [] := by
  have H := Holds.start w []
  have HF := Try.func48; refine Fn.enter Try.func48 Try.ntmps48 rfl rfl rfl ?_
  simp only [tkC]
  refine Run.seq ?_
  (refine Run.region ?_; intro K hK)
  (refine Ops.eff rfl (Y.box rfl rfl rfl H ?_); intro b3 w H0 hb3; clear H; have H := H0; clear H0)
  refine Ops.pure H (X.assign rfl) rfl rfl rfl ?_
  (refine Ops.nil (hK _ _ ?_); clear hK K)
  refine Run.seq ?_
  (refine Run.region ?_; intro K hK)
  refine Ops.pure H (X.fieldAddr rfl rfl rfl rfl rfl rfl) rfl rfl rfl ?_
  refine Ops.pure H (X.load1 rfl rfl rfl rfl Pick.head rfl) rfl rfl rfl ?_
  refine Ops.pure H (X.makeFunc rfl rfl) rfl rfl rfl ?_
  have hok : callOK env.P 50 = true := by decide +kernel
  refine Ops.eff rfl (Y.call rfl rfl (by first | assumption | decide +kernel) rfl (containsFunc_int _ _ _ 50 [.pointer (some ⟨x2, 0, none⟩), .pointer (some ⟨x3, 0, none⟩)] _ (hv.ext H.fr) hok (fun x _ w' hw' => may2_any w' o c n last l i x2 x3 x (h.ext (H.fr.then hw')) hi ((H.fr.then hw').get k2 (by simp)) ((H.fr.then hw').get k3 (by simp)))) rfl ?_)
  rintro r w2 ⟨rfl, hf⟩
  replace H := H.ext hf
  refine Ops.pure H (X.assign rfl) rfl rfl rfl ?_
  (refine Ops.nil (hK _ _ ?_); clear hK K)
  (first | refine Fn.ret1 HF rfl rfl ?_ | refine Fn.ret2 HF rfl rfl rfl ?_ | refine Fn.ret3 HF rfl rfl rfl rfl ?_ | refine Fn.ret0 HF rfl ?_ | refine Fn.fin0 HF rfl ?_ | refine Fn.retG (E := env) HF rfl H (by first | exact RVs.cellN rfl rfl rfl (by first | exact .head | exact .tail .head | exact .tail (.tail .head) | exact .tail (.tail (.tail .head)) | exact .tail (.tail (.tail (.tail .head))) | exact .tail (.tail (.tail (.tail (.tail .head)))) | exact .tail (.tail (.tail (.tail (.tail (.tail .head)))))) (by first | assumption | exact Cs.take rfl) RVs.nil | exact RVs.cellN rfl rfl rfl (by first | exact .head | exact .tail .head | exact .tail (.tail .head) | exact .tail (.tail (.tail .head)) | exact .tail (.tail (.tail (.tail .head))) | exact .tail (.tail (.tail (.tail (.tail .head)))) | exact .tail (.tail (.tail (.tail (.tail (.tail .head)))))) (by first | assumption | exact Cs.take rfl) (RVs.tmp rfl RVs.nil)) rfl ?_)
  exact ⟨rfl, H.fr⟩
/-- May the ticket at place i go? -/
def mayL (l : List Tk) (i : Nat) : Bool := !decide (∃ k, k < i ∧ (l.getD k tk0).parts.any (fun p => decide (p ∈ (l.getD i tk0).parts)) = true)
theorem may_any (w : World) (o c : Nat) (n last : Int) (l : List Tk) (i : Nat) (h : Ord w o c n last l) (hi : i < l.length) :
    Fn env.P 31 [.pointer (some ⟨o, 0, none⟩), .int .i64 (i : Nat)] w fun r w' => r = .bool (mayL l i) ∧ Fr w w' [] := by
  have h' := h
  obtain ⟨v, ho, a, cap, cs, rfl, hc1, hc2, hac, hall⟩ := h
  obtain ⟨V, hV⟩ := tks_choose hall
  rcases hac with ⟨_, rfl⟩ | ⟨rfl, hcc, hcl⟩
  · omega
  have H := ((Holds.start w []).add false ho (by simp) (by simp)).add false hcc (by simpa using ne_of_ty hcc ho (by decide)) (by simp)
  have HF := Try.func31; refine Fn.enter Try.func31 Try.ntmps31 rfl rfl rfl ?_
  refine Run.seq ?_
  (refine Run.region ?_; intro K hK)
  (refine Ops.eff rfl (Y.box rfl rfl rfl H ?_); intro b2 w H0 hb2; clear H; have H := H0; clear H0)
  (refine Ops.eff rfl (Y.box rfl rfl rfl H ?_); intro b3 w H0 hb3; clear H; have H := H0; clear H0)
  refine Ops.pure H (X.assign rfl) rfl rfl rfl ?_
  (refine Ops.nil (hK _ _ ?_); clear hK K)
  refine Run.seq ?_
  (refine Run.draw H [] [0, 1, 2, 3, 4, 5, 6, 7, 8, 9] ?_; clear H; intro K hK w H)
  refine Draw.take rfl (X.load1 rfl rfl rfl rfl (.tail .head) rfl) rfl rfl rfl (by decide +kernel) ?_
  refine Draw.take0 rfl (X.nilCheck rfl) rfl rfl rfl (by decide +kernel) ?_
  refine Draw.take0 rfl (X.fieldAddr rfl rfl rfl rfl rfl rfl) rfl rfl rfl (by decide +kernel) ?_
  refine Draw.take rfl (X.load1 rfl rfl rfl rfl (.tail (.tail (.tail .head))) rfl) rfl rfl rfl (by decide +kernel) ?_
  refine Draw.take rfl (X.load1 rfl rfl rfl rfl Pick.head rfl) rfl rfl rfl (by decide +kernel) ?_
  refine Draw.take0 rfl (X.slice_h rfl rfl (by omega) rfl rfl rfl) rfl rfl rfl (by decide +kernel) ?_
  refine Draw.take0 rfl (X.makeFunc rfl rfl) rfl rfl rfl (by decide +kernel) ?_
  have hok : callOK env.P 48 = true := by decide +kernel
  have k2 := H.pick (.tail .head)
  have k3 := H.pick .head
  refine Draw.eff rfl rfl (by decide +kernel) (Y.call rfl rfl (by first | assumption | decide +kernel) rfl (containsFunc_tk _ _ i cap c cs (fun k => tkC (l.getD k tk0) (V k).1) 48 [.pointer (some ⟨b2, 0, none⟩), .pointer (some ⟨b3, 0, none⟩)] _ (by omega) (fun _ => ⟨rfl, H.pick (by first | exact .head | exact .tail .head | exact .tail (.tail .head) | exact .tail (.tail (.tail .head)) | exact .tail (.tail (.tail (.tail .head))) | exact .tail (.tail (.tail (.tail (.tail .head)))) | exact .tail (.tail (.tail (.tail (.tail (.tail .head))))))⟩) (fun k hk => (hV k (by omega)).1) hok (fun k hk w' hw' => may1_any w' o c n last l i b2 b3 (l.getD k tk0) _ ((hV k (by omega)).2.1.ints.ext (H.fr.then hw')) (h'.ext (H.fr.then hw')) hi (hw'.get k2 (by simp)) (hw'.get k3 (by simp)))) rfl ?_)
  rintro r w2 ⟨rfl, hf⟩
  replace H := H.ext hf
  refine ⟨H.at_, ?_⟩
  refine Draw.take0 rfl (X.not rfl) rfl rfl rfl (by decide +kernel) ?_
  refine Draw.take0 rfl (X.assign rfl) rfl rfl rfl (by decide +kernel) ?_
  (refine Draw.done (by decide +kernel) (hK _ _ ?_); clear hK K)
  (first | refine Fn.ret1 HF rfl rfl ?_ | refine Fn.ret2 HF rfl rfl rfl ?_ | refine Fn.ret3 HF rfl rfl rfl rfl ?_ | refine Fn.ret0 HF rfl ?_ | refine Fn.fin0 HF rfl ?_ | refine Fn.retG (E := env) HF rfl H (by first | exact RVs.cellN rfl rfl rfl (by first | exact .head | exact .tail .head | exact .tail (.tail .head) | exact .tail (.tail (.tail .head)) | exact .tail (.tail (.tail (.tail .head))) | exact .tail (.tail (.tail (.tail (.tail .head)))) | exact .tail (.tail (.tail (.tail (.tail (.tail .head)))))) (by first | assumption | exact Cs.take rfl) RVs.nil | exact RVs.cellN rfl rfl rfl (by first | exact .head | exact .tail .head | exact .tail (.tail .head) | exact .tail (.tail (.tail .head)) | exact .tail (.tail (.tail (.tail .head))) | exact .tail (.tail (.tail (.tail (.tail .head)))) | exact .tail (.tail (.tail (.tail (.tail (.tail .head)))))) (by first | assumption | exact Cs.take rfl) (RVs.tmp rfl RVs.nil)) rfl ?_)
  exact ⟨rfl, H.fr⟩
theorem tks_pos {w w' : World} {a : Option Addr} {c n cap : Nat} {cs : List Value} (h : (a = none ∧ cap = 0) ∨ (a = some ⟨c, 0, none⟩ ∧ w.heap[c]? = some (row cs 56) ∧ cs.length = cap * 4)) (hn : n ≤ cap) (hf : Fr w w' []) (hp : 0 < n) : a = some ⟨c, 0, none⟩ ∧ w'.heap[c]? = some (row cs 56) := by
  rcases h with ⟨_, rfl⟩ | ⟨h1, h2, _⟩
  · omega
  · exact ⟨h1, hf.get h2 (by simp)⟩
/-- The place of a number. -/
def findL (l : List Tk) (id : Int) : Int := fidx (fun i => decide ((l.getD i tk0).id = id)) l.length
theorem find_any (w : World) (o c : Nat) (n last : Int) (l : List Tk) (id : Int) (h : Ord w o c n last l) :
    Fn env.P 32 [.pointer (some ⟨o, 0, none⟩), .int .u64 id] w fun r w' => r = .int .i64 (findL l id) ∧ Fr w w' [] := by
  obtain ⟨v, ho, a, cap, cs, rfl, hc1, hc2, hac, hall⟩ := h
  obtain ⟨V, hV⟩ := tks_choose hall
  have H := (Holds.start w []).add false ho (by simp) (by simp)
  have HF := Try.func32; refine Fn.enter Try.func32 Try.ntmps32 rfl rfl rfl ?_
  refine Run.seq ?_
  (refine Run.region ?_; intro K hK)
  (refine Ops.eff rfl (Y.box rfl rfl rfl H ?_); intro b3 w H0 hb3; clear H; have H := H0; clear H0)
  refine Ops.pure H (X.assign rfl) rfl rfl rfl ?_
  (refine Ops.nil (hK _ _ ?_); clear hK K)
  refine Run.seq ?_
  (refine Run.region ?_; intro K hK)
  refine Ops.pure H (X.move rfl) rfl rfl rfl ?_
  refine Ops.pure H (X.nilCheck rfl) rfl rfl rfl ?_
  refine Ops.pure H (X.fieldAddr rfl rfl rfl rfl rfl rfl) rfl rfl rfl ?_
  refine Ops.pure H (X.load1 rfl rfl rfl rfl (.tail .head) rfl) rfl rfl rfl ?_
  refine Ops.pure H (X.makeFunc rfl rfl) rfl rfl rfl ?_
  have hok : callOK env.P 52 = true := by decide +kernel
  have k3 := H.pick .head
  refine Ops.eff rfl (Y.call rfl rfl (by first | assumption | decide +kernel) rfl (indexFunc_tk _ _ l.length cap c cs (fun k => tkC (l.getD k tk0) (V k).1) 52 [.pointer (some ⟨b3, 0, none⟩)] _ (by omega) (tks_pos hac hc1 H.fr) (fun k hk => (hV k (by omega)).1) hok (fun k hk w' hw' => find1_any w' (l.getD k tk0) _ b3 id (hw'.get k3 (by simp)))) rfl ?_)
  rintro r w2 ⟨rfl, hf⟩
  replace H := H.ext hf
  refine Ops.pure H (X.assign rfl) rfl rfl rfl ?_
  (refine Ops.nil (hK _ _ ?_); clear hK K)
  (first | refine Fn.ret1 HF rfl rfl ?_ | refine Fn.ret2 HF rfl rfl rfl ?_ | refine Fn.ret3 HF rfl rfl rfl rfl ?_ | refine Fn.ret0 HF rfl ?_ | refine Fn.fin0 HF rfl ?_ | refine Fn.retG (E := env) HF rfl H (by first | exact RVs.cellN rfl rfl rfl (by first | exact .head | exact .tail .head | exact .tail (.tail .head) | exact .tail (.tail (.tail .head)) | exact .tail (.tail (.tail (.tail .head))) | exact .tail (.tail (.tail (.tail (.tail .head)))) | exact .tail (.tail (.tail (.tail (.tail (.tail .head)))))) (by first | assumption | exact Cs.take rfl) RVs.nil | exact RVs.cellN rfl rfl rfl (by first | exact .head | exact .tail .head | exact .tail (.tail .head) | exact .tail (.tail (.tail .head)) | exact .tail (.tail (.tail (.tail .head))) | exact .tail (.tail (.tail (.tail (.tail .head)))) | exact .tail (.tail (.tail (.tail (.tail (.tail .head)))))) (by first | assumption | exact Cs.take rfl) (RVs.tmp rfl RVs.nil)) rfl ?_)
  exact ⟨rfl, H.fr⟩
end Go.Proofs.Ythidohdnaeboaaa
