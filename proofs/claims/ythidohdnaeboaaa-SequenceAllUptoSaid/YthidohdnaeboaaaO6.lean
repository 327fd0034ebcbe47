/- Walks: Submit. -/
import Derived.Test.YthidohdnaeboaaaO5
namespace Go.Proofs.Ythidohdnaeboaaa
open Go
set_option maxRecDepth 20000
set_option maxHeartbeats 2000000
attribute [local irreducible] Run Ops Fn Draw Draw2 PureOp StepZ

/-- Is place i of a list of partitions as it must be? -/
def placeOK (n : Int) (xs : List Int) (i : Nat) : Prop := (0 ≤ xs.getD i 0 ∧ xs.getD i 0 < n) ∧ (0 < i → xs.getD (i - 1) 0 < xs.getD i 0)
instance (n : Int) (xs : List Int) (i : Nat) : Decidable (placeOK n xs i) := by unfold placeOK; infer_instance
def canL (n : Int) (xs : List Int) : Prop := 0 < xs.length ∧ ∀ i, i < xs.length → placeOK n xs i
instance (n : Int) (xs : List Int) : Decidable (canL n xs) := by unfold canL; infer_instance
theorem canL_len {n : Int} {xs : List Int} (h : canL n xs) : (xs.length : Int) ≤ n := by
  have key : ∀ i, i < xs.length → (i : Int) ≤ xs.getD i 0 := by
    intro i
    induction i with
    | zero => intro hi; exact (h.2 0 hi).1.1
    | succ i ih =>
      intro hi
      have h1 := ih (by omega)
      have h2 := (h.2 (i + 1) hi).2 (by omega)
      simp only [Nat.add_sub_cancel] at h2
      omega
  have h1 := key (xs.length - 1) (by have := h.1; omega)
  have h2 := (h.2 (xs.length - 1) (by have := h.1; omega)).1.2
  have := h.1
  omega
/-- What Submit answers, and what it leaves: number, error, last, tickets. -/
def subOut (n last client seq : Int) (xs : List Int) (l : List Tk) : Int × Int × Int × List Tk :=
  if seq = 0 ∨ ¬ canL n xs then (0, 1, last, l)
  else if ∃ i, i < l.length ∧ (decide ((l.getD i tk0).client = client ∧ (l.getD i tk0).seq = seq)) = true then (0, 241, last, l)
  else if 4096 ≤ l.length then (0, 2, last, l)
  else if last = 18446744073709551615 then (0, 242, last, l)
  else (last + 1, 0, last + 1, l ++ [⟨last + 1, client, seq, xs⟩])
/-- The order, and of what sort the blocks of its tickets' Parts are. -/
def TkAtP (p : Nat → Prop) (w : World) (cs : List Value) (i : Nat) (t : Tk) : Prop := ∃ v b, Cs cs (0 + i * 4) 4 (tkC t v) ∧ IntsB w v t.parts b ∧ t.parts.length ≤ 64 ∧ p b
def TksP (p : Nat → Prop) (w : World) (v : Value) (c : Nat) (l : List Tk) : Prop :=
  ∃ a cap cs, v = .slice a l.length cap ∧ l.length ≤ cap ∧ cap ≤ 9223372036854775807 ∧ ((a = none ∧ cap = 0) ∨ (a = some ⟨c, 0, none⟩ ∧ w.heap[c]? = some (row cs 56) ∧ cs.length = cap * 4)) ∧ ∀ i t, l[i]? = some t → TkAtP p w cs i t
def OrdP (p : Nat → Prop) (w : World) (o c : Nat) (n last : Int) (l : List Tk) : Prop :=
  ∃ v, w.heap[o]? = some (row [.int .i64 n, .int .u64 last, v] 78) ∧ TksP p w v c l
theorem TkAtP.tk {p : Nat → Prop} {w : World} {cs : List Value} {i : Nat} {t : Tk} (h : TkAtP p w cs i t) : TkAt w cs i t := by
  obtain ⟨v, b, h1, h2, h3, _⟩ := h
  exact ⟨v, b, h1, h2, h3⟩
theorem OrdP.ord {p : Nat → Prop} {w : World} {o c : Nat} {n last : Int} {l : List Tk} (h : OrdP p w o c n last l) : Ord w o c n last l := by
  obtain ⟨v, h1, a, cap, cs, h2, h3, h4, h5, h6⟩ := h
  exact ⟨v, h1, a, cap, cs, h2, h3, h4, h5, fun i t ht => (h6 i t ht).tk⟩
theorem Ord.below {w : World} {o c : Nat} {n last : Int} {l : List Tk} (h : Ord w o c n last l) : OrdP (fun b => b < w.heap.size) w o c n last l := by
  obtain ⟨v, h1, a, cap, cs, h2, h3, h4, h5, h6⟩ := h
  refine ⟨v, h1, a, cap, cs, h2, h3, h4, h5, fun i t ht => ?_⟩
  obtain ⟨v, b, g1, g2, g3⟩ := h6 i t ht
  exact ⟨v, b, g1, g2, g3, g2.lt⟩
theorem OrdP.mono {p q : Nat → Prop} {w : World} {o c : Nat} {n last : Int} {l : List Tk} (h : OrdP p w o c n last l) (hq : ∀ b, p b → q b) : OrdP q w o c n last l := by
  obtain ⟨v, h1, a, cap, cs, h2, h3, h4, h5, h6⟩ := h
  refine ⟨v, h1, a, cap, cs, h2, h3, h4, h5, fun i t ht => ?_⟩
  obtain ⟨v, b, g1, g2, g3, g4⟩ := h6 i t ht
  exact ⟨v, b, g1, g2, g3, hq _ g4⟩
theorem TkAtP.keepP {p : Nat → Prop} {w w' : World} {S : List Nat} {cs : List Value} {i : Nat} {t : Tk} (h : TkAtP p w cs i t) (hf : Fr w w' S) (hS : ∀ b, p b → b ∈ S → ∀ ds, w.heap[b]? ≠ some (row ds 3)) : TkAtP p w' cs i t := by
  obtain ⟨v, b, h1, h2, h3, h4⟩ := h
  refine ⟨v, b, h1, h2.keep hf fun hb => ?_, h3, h4⟩
  obtain ⟨cap, ds, _, _, _, h5, _⟩ := h2
  exact hS b h4 hb _ h5
theorem OrdP.keepP {p : Nat → Prop} {w w' : World} {S : List Nat} {o c : Nat} {n last : Int} {l : List Tk} (h : OrdP p w o c n last l) (hf : Fr w w' S) (ho : o ∉ S) (hc : c ∈ S → ∀ ds, w.heap[c]? ≠ some (row ds 56)) (hS : ∀ b, p b → b ∈ S → ∀ ds, w.heap[b]? ≠ some (row ds 3)) : OrdP p w' o c n last l := by
  obtain ⟨v, h1, a, cap, cs, h2, h3, h4, h5, h6⟩ := h
  refine ⟨v, hf.get h1 ho, a, cap, cs, h2, h3, h4, ?_, fun i t ht => (h6 i t ht).keepP hf hS⟩
  rcases h5 with h5 | ⟨h5, h7, h8⟩
  · exact .inl h5
  · exact .inr ⟨h5, hf.get h7 (fun hm => hc hm _ h7), h8⟩
def SubPost (w : World) (o c : Nat) (n : Int) (r : Int × Int × Int × List Tk) (v : Value) (w' : World) : Prop :=
  v = .tuple #[.int .u64 r.1, .int .i64 r.2.1] ∧ Fr w w' [o, c] ∧ ∃ c', Ord w' o c' n r.2.2.1 r.2.2.2 ∧ (c' = c ∨ w.heap.size ≤ c')
/-- Its answer, and the state behind it. -/
def SubPostP (p : Nat → Prop) (w : World) (o c : Nat) (n : Int) (r : Int × Int × Int × List Tk) (v : Value) (w' : World) : Prop :=
  v = .tuple #[.int .u64 r.1, .int .i64 r.2.1] ∧ Fr w w' [o, c] ∧ ∃ c', OrdP p w' o c' n r.2.2.1 r.2.2.2 ∧ (c' = c ∨ w.heap.size ≤ c')

theorem sub_fail {p : Nat → Prop} {w w' : World} {o c : Nat} {n last client seq e : Int} {xs : List Int} {l : List Tk} (h : OrdP p w o c n last l) (hf : Fr w w' []) (hr : subOut n last client seq xs l = (0, e, last, l)) : SubPostP p w o c n (subOut n last client seq xs l) (.tuple #[.int .u64 0, .int .i64 e]) w' := by
  rw [hr]
  exact ⟨rfl, hf.mono (by simp), c, h.keepP hf (by simp) (by simp) (by simp), .inl rfl⟩
theorem tks_addP {p : Nat → Prop} {w w' : World} {c' cap : Nat} {cs cs' : List Value} {l : List Tk} {t : Tk} {v : Value} {b : Nat} (hpb : p b) (hcap : l.length + 1 ≤ cap) (hmx : cap ≤ 9223372036854775807) (hall : ∀ i t, l[i]? = some t → TkAtP p w cs i t) {S : List Nat} (hfr : Fr w w' S) (hS : ∀ b ∈ S, ∀ ds, w.heap[b]? ≠ some (row ds 3))
    (hc' : w'.heap[c']? = some (row cs' 56)) (hl' : cs'.length = cap * 4) (hA : ∀ j, j < l.length → ∀ vs, Cs cs (0 + j * 4) 4 vs → Cs cs' (0 + j * 4) 4 vs) (hB : Cs cs' (0 + l.length * 4) 4 (tkC t v)) (hv : IntsB w' v t.parts b) (h64 : t.parts.length ≤ 64) :
    TksP p w' (.slice (some ⟨c', 0, none⟩) (l.length + 1) cap) c' (l ++ [t]) := by
  refine ⟨_, cap, cs', by simp, by simpa using hcap, hmx, .inr ⟨rfl, hc', hl'⟩, fun j u hu => ?_⟩
  by_cases h : j < l.length
  · rw [List.getElem?_append_left h] at hu
    obtain ⟨v, b, h1, h2, h3, h4⟩ := (hall j u hu).keepP hfr (fun b _ hb => hS b hb)
    exact ⟨v, b, hA j h _ h1, h2, h3, h4⟩
  · have hj : j < (l ++ [t]).length := (List.getElem?_eq_some_iff.1 hu).1
    simp at hj
    obtain rfl : j = l.length := by omega
    rw [List.getElem?_append_right (Nat.le_refl _)] at hu
    simp at hu
    subst hu
    exact ⟨v, b, hB, hv, h64, hpb⟩
theorem tks_add {w w' : World} {c' cap : Nat} {cs cs' : List Value} {l : List Tk} {t : Tk} {v : Value} {b : Nat} (hcap : l.length + 1 ≤ cap) (hmx : cap ≤ 9223372036854775807) (hall : ∀ i t, l[i]? = some t → TkAt w cs i t) {S : List Nat} (hfr : Fr w w' S) (hS : ∀ b ∈ S, ∀ ds, w.heap[b]? ≠ some (row ds 3))
    (hc' : w'.heap[c']? = some (row cs' 56)) (hl' : cs'.length = cap * 4) (hA : ∀ j, j < l.length → ∀ vs, Cs cs (0 + j * 4) 4 vs → Cs cs' (0 + j * 4) 4 vs) (hB : Cs cs' (0 + l.length * 4) 4 (tkC t v)) (hv : IntsB w' v t.parts b) (h64 : t.parts.length ≤ 64) :
    Tks w' (.slice (some ⟨c', 0, none⟩) (l.length + 1) cap) c' (l ++ [t]) := by
  refine ⟨_, cap, cs', by simp, by simpa using hcap, hmx, .inr ⟨rfl, hc', hl'⟩, fun j u hu => ?_⟩
  by_cases h : j < l.length
  · rw [List.getElem?_append_left h] at hu
    obtain ⟨v, b, h1, h2, h3⟩ := (hall j u hu).keep hfr hS
    exact ⟨v, b, hA j h _ h1, h2, h3⟩
  · have hj : j < (l ++ [t]).length := (List.getElem?_eq_some_iff.1 hu).1
    simp at hj
    obtain rfl : j = l.length := by omega
    rw [List.getElem?_append_right (Nat.le_refl _)] at hu
    simp at hu
    subst hu
    exact ⟨v, b, hB, hv, h64⟩
theorem submit_anyP (p : Nat → Prop) (w : World) (o c : Nat) (n last client seq : Int) (l : List Tk) (V : Value) (xs : List Int) (hpz : ∀ b, w.heap.size ≤ b → p b) (h : OrdP p w o c n last l) (hV : Ints w V xs) (hxo : 0 < xs.length → ∀ b off m cap, V = .slice (some ⟨b, off, none⟩) m cap → b ≠ o ∧ (b = c → ∀ ds, w.heap[c]? ≠ some (row ds 56))) (hn : n ≤ 64) (h0 : 0 ≤ last) (hu : last ≤ 18446744073709551615) :
    Fn env.P 17 [.pointer (some ⟨o, 0, none⟩), .int .u64 client, .int .u64 seq, V] w (SubPostP p w o c n (subOut n last client seq xs l)) := by
  have h' := h
  obtain ⟨v, ho, a, cap, cs, rfl, hc1, hc2, hac, hallP⟩ := h
  have hall : ∀ i t, l[i]? = some t → TkAt w cs i t := fun i t ht => (hallP i t ht).tk
  have hV' := hV
  obtain ⟨xa, xcap, xb, xoff, xcs, xT, xfz, rfl, k2, k3, k4, k5⟩ := hV
  have H := (Holds.start w []).add false ho (by simp) (by simp)
  have HF := Try.func17; refine Fn.enter Try.func17 Try.ntmps17 rfl rfl rfl ?_
  refine Run.seq ?_
  (refine Run.region ?_; intro K hK)
  (refine Ops.eff rfl (Y.box rfl rfl rfl H ?_); intro b5 w H0 hb5; clear H; have H := H0; clear H0)
  (refine Ops.eff rfl (Y.box rfl rfl rfl H ?_); intro b6 w H0 hb6; clear H; have H := H0; clear H0)
  refine Ops.pure H (X.assign rfl) rfl rfl rfl ?_
  refine Ops.pure H (X.assign rfl) rfl rfl rfl ?_
  (refine Ops.nil (hK _ _ ?_); clear hK K)
  refine Run.seq ?_
  refine Run.seq ?_
  (refine Run.region ?_; intro K hK)
  refine Ops.pure H (X.load1 rfl rfl rfl rfl Pick.head rfl) rfl rfl rfl ?_
  refine Ops.pure H (X.cmp rfl rfl rfl) rfl rfl rfl ?_
  refine Ops.pure H (X.move rfl) rfl rfl rfl ?_
  refine Ops.split_dec rfl rfl (fun h15 => ?x0) (fun h15 => ?y0)
  case' y0 =>
    refine Ops.pure H (X.move rfl) rfl rfl rfl ?_
    refine Ops.pure H (X.len_slice rfl rfl rfl) rfl rfl rfl ?_
    refine Ops.pure H (X.cmp rfl rfl rfl) rfl rfl rfl ?_
    refine Ops.pure H (X.pick_f rfl rfl) rfl rfl rfl ?_
    (refine Ops.nil (hK _ _ ?_); clear hK K)
    refine Run.cond_dec rfl (fun h18 => ?x1) (fun h18 => ?y1)
    case' y1 =>
      refine Run.skip ?_
      refine Run.seq ?_
      refine Run.seq ?_
      (refine Run.region ?_; intro K hK)
      refine Ops.pure H (X.move rfl) rfl rfl rfl ?_
      refine Ops.pure H (X.len_slice rfl rfl rfl) rfl rfl rfl ?_
      refine Ops.pure H (X.move rfl) rfl rfl rfl ?_
      (refine Ops.nil (hK _ _ ?_); clear hK K)
      refine Run.block ?_
    case' x1 =>
      refine Run.seq ?_
      (refine Run.region ?_; intro K hK)
      refine Ops.pure H (X.assign rfl) rfl rfl rfl ?_
      refine Ops.pure H (X.assign rfl) rfl rfl rfl ?_
      (refine Ops.nil (hK _ _ ?_); clear hK K)
  case' x0 =>
    refine Ops.pass rfl rfl rfl ?_
    refine Ops.pass rfl rfl rfl ?_
    refine Ops.pass rfl rfl rfl ?_
    refine Ops.pure H (X.pick_t rfl rfl) rfl rfl rfl ?_
    (refine Ops.nil (hK _ _ ?_); clear hK K)
    refine Run.cond_true rfl ?_
    refine Run.seq ?_
    (refine Run.region ?_; intro K hK)
    refine Ops.pure H (X.assign rfl) rfl rfl rfl ?_
    refine Ops.pure H (X.assign rfl) rfl rfl rfl ?_
    (refine Ops.nil (hK _ _ ?_); clear hK K)
  · (first | refine Fn.ret1 HF rfl rfl ?_ | refine Fn.ret2 HF rfl rfl rfl ?_ | refine Fn.ret3 HF rfl rfl rfl rfl ?_ | refine Fn.ret0 HF rfl ?_ | refine Fn.fin0 HF rfl ?_ | refine Fn.retG (E := env) HF rfl H (by first | exact RVs.cellN rfl rfl rfl (by first | exact .head | exact .tail .head | exact .tail (.tail .head) | exact .tail (.tail (.tail .head)) | exact .tail (.tail (.tail (.tail .head))) | exact .tail (.tail (.tail (.tail (.tail .head)))) | exact .tail (.tail (.tail (.tail (.tail (.tail .head)))))) (by first | assumption | exact Cs.take rfl) RVs.nil | exact RVs.cellN rfl rfl rfl (by first | exact .head | exact .tail .head | exact .tail (.tail .head) | exact .tail (.tail (.tail .head)) | exact .tail (.tail (.tail (.tail .head))) | exact .tail (.tail (.tail (.tail (.tail .head)))) | exact .tail (.tail (.tail (.tail (.tail (.tail .head)))))) (by first | assumption | exact Cs.take rfl) (RVs.tmp rfl RVs.nil)) rfl ?_)
    exact sub_fail h' H.fr (by unfold subOut; rw [if_pos (.inl (by assumption))])
  · (first | refine Fn.ret1 HF rfl rfl ?_ | refine Fn.ret2 HF rfl rfl rfl ?_ | refine Fn.ret3 HF rfl rfl rfl rfl ?_ | refine Fn.ret0 HF rfl ?_ | refine Fn.fin0 HF rfl ?_ | refine Fn.retG (E := env) HF rfl H (by first | exact RVs.cellN rfl rfl rfl (by first | exact .head | exact .tail .head | exact .tail (.tail .head) | exact .tail (.tail (.tail .head)) | exact .tail (.tail (.tail (.tail .head))) | exact .tail (.tail (.tail (.tail (.tail .head)))) | exact .tail (.tail (.tail (.tail (.tail (.tail .head)))))) (by first | assumption | exact Cs.take rfl) RVs.nil | exact RVs.cellN rfl rfl rfl (by first | exact .head | exact .tail .head | exact .tail (.tail .head) | exact .tail (.tail (.tail .head)) | exact .tail (.tail (.tail (.tail .head))) | exact .tail (.tail (.tail (.tail (.tail .head)))) | exact .tail (.tail (.tail (.tail (.tail (.tail .head)))))) (by first | assumption | exact Cs.take rfl) (RVs.tmp rfl RVs.nil)) rfl ?_)
    exact sub_fail h' H.fr (by unfold subOut; rw [if_pos (.inr fun hc => by have := hc.1; omega)])
  have hpos : 0 < xs.length := by omega
  obtain ⟨rfl, k6⟩ := k4 hpos
  have k7 := lt_of_at k6
  replace H := H.add false (H.fr.get k6 (by simp)) (by simp; exact ⟨by omega, by omega, (hxo hpos _ _ _ _ rfl).1⟩) (by simp)
  refine Run.rounds (fun (x : Nat) => [(0, .pointer (some ⟨o, 0, none⟩)), (3, .slice (some ⟨xb, xoff, none⟩) xs.length xcap), (5, .pointer (some ⟨b5, 0, none⟩)), (6, .pointer (some ⟨b6, 0, none⟩)), (19, .slice (some ⟨xb, xoff, none⟩) xs.length xcap), (20, .int .i64 (xs.length : Nat)), (21, .int .i64 (x : Nat))]) (fun x w' => w' = w ∧ ∀ j, j < x → placeOK n xs j) (fun x => xs.length - x) 0 (by repeat (first | exact trivial | refine ⟨rfl, ?_⟩)) ⟨rfl, by intro j hj; omega⟩ ?_
  rintro x _ ⟨rfl, hx⟩ IH
  by_cases hlt : x < xs.length
  · have hc := k5.at1 hlt
    have hg : xs.getD x 0 = xs[x] := by simp [hlt]
    by_cases hp : 0 ≤ xs[x] ∧ xs[x] < n
    · rcases x with _ | y
      · refine Run.seq ?_
        (refine Run.region ?_; intro K hK)
        refine Ops.pure H (X.cmp rfl rfl rfl) rfl rfl rfl ?_
        (refine Ops.nil (hK _ _ ?_); clear hK K)
        refine Run.seq ?_
        refine Run.cond_dec rfl (fun h22 => ?x2) (fun h22 => ?y2)
        case' y2 => exfalso; omega
        case' x2 =>
          refine Run.skip ?_
          refine Run.seq ?_
          refine Run.block ?_
          refine Run.seq ?_
          (refine Run.region ?_; intro K hK)
          refine Ops.pure H (X.move rfl) rfl rfl rfl ?_
          refine Ops.pure H (X.indexAddr rfl rfl (by omega) rfl rfl rfl rfl) rfl rfl rfl ?_
          refine Ops.pure H (X.load1 rfl rfl rfl rfl Pick.head (by assumption)) rfl rfl rfl ?_
          refine Ops.pure H (X.assign rfl) rfl rfl rfl ?_
          refine Ops.pure H (X.assign rfl) rfl rfl rfl ?_
          (refine Ops.nil (hK _ _ ?_); clear hK K)
          refine Run.seq ?_
          (refine Run.region ?_; intro K hK)
          refine Ops.pure H (X.move rfl) rfl rfl rfl ?_
          refine Ops.pure H (X.move rfl) rfl rfl rfl ?_
        refine Ops.eff rfl (Y.call rfl rfl (by first | assumption | decide +kernel) rfl (is_any _ o n _ _ (H.pick (by first | exact .head | exact .tail .head | exact .tail (.tail .head) | exact .tail (.tail (.tail .head)) | exact .tail (.tail (.tail (.tail .head))) | exact .tail (.tail (.tail (.tail (.tail .head)))) | exact .tail (.tail (.tail (.tail (.tail (.tail .head)))))))) rfl ?_)
        rintro v w2 ⟨rfl, rfl⟩
        rw [decide_eq_true hp]
        refine Ops.pure H (X.not rfl) rfl rfl rfl ?_
        refine Ops.pure H (X.move rfl) rfl rfl rfl ?_
        refine Ops.pure H (X.move rfl) rfl rfl rfl ?_
        refine Ops.pure H (X.cmp rfl rfl rfl) rfl rfl rfl ?_
        refine Ops.pure H (X.move rfl) rfl rfl rfl ?_
        refine Ops.pass rfl rfl rfl ?_
        refine Ops.pass rfl rfl rfl ?_
        refine Ops.pass rfl rfl rfl ?_
        refine Ops.pass rfl rfl rfl ?_
        refine Ops.pass rfl rfl rfl ?_
        refine Ops.pass rfl rfl rfl ?_
        refine Ops.pass rfl rfl rfl ?_
        refine Ops.pure H (X.pick_f rfl rfl) rfl rfl rfl ?_
        refine Ops.pure H (X.pick_f rfl rfl) rfl rfl rfl ?_
        (refine Ops.nil (hK _ _ ?_); clear hK K)
        refine Run.cond_false rfl ?_
        refine Run.skip ?_
        refine Run.inBlock ?_
        (refine Run.region ?_; intro K hK)
        refine Ops.pure H (X.succ rfl rfl (by omega)) rfl rfl rfl ?_
        refine Ops.pure H (X.move rfl) rfl rfl rfl ?_
        (refine Ops.nil (hK _ _ ?_); clear hK K)
        refine (IH 1 _ (by omega) ⟨rfl, fun j hj => ?_⟩).weak (by repeat (first | exact trivial | refine ⟨rfl, ?_⟩))
        obtain rfl : j = 0 := by omega
        exact ⟨by rw [hg]; exact hp, fun h => by omega⟩
      · have hy : y < xs.length := by omega
        have hcy := k5.at1 hy
        have hgy : xs.getD y 0 = xs[y] := by simp [hy]
        refine Run.seq ?_
        (refine Run.region ?_; intro K hK)
        refine Ops.pure H (X.cmp rfl rfl rfl) rfl rfl rfl ?_
        (refine Ops.nil (hK _ _ ?_); clear hK K)
        refine Run.seq ?_
        refine Run.cond_dec rfl (fun h22 => ?x3) (fun h22 => ?y3)
        case' y3 => exfalso; omega
        case' x3 =>
          refine Run.skip ?_
          refine Run.seq ?_
          refine Run.block ?_
          refine Run.seq ?_
          (refine Run.region ?_; intro K hK)
          refine Ops.pure H (X.move rfl) rfl rfl rfl ?_
          refine Ops.pure H (X.indexAddr rfl rfl (by omega) rfl rfl rfl rfl) rfl rfl rfl ?_
          refine Ops.pure H (X.load1 rfl rfl rfl rfl Pick.head (by assumption)) rfl rfl rfl ?_
          refine Ops.pure H (X.assign rfl) rfl rfl rfl ?_
          refine Ops.pure H (X.assign rfl) rfl rfl rfl ?_
          (refine Ops.nil (hK _ _ ?_); clear hK K)
          refine Run.seq ?_
          (refine Run.region ?_; intro K hK)
          refine Ops.pure H (X.move rfl) rfl rfl rfl ?_
          refine Ops.pure H (X.move rfl) rfl rfl rfl ?_
        refine Ops.eff rfl (Y.call rfl rfl (by first | assumption | decide +kernel) rfl (is_any _ o n _ _ (H.pick (by first | exact .head | exact .tail .head | exact .tail (.tail .head) | exact .tail (.tail (.tail .head)) | exact .tail (.tail (.tail (.tail .head))) | exact .tail (.tail (.tail (.tail (.tail .head)))) | exact .tail (.tail (.tail (.tail (.tail (.tail .head)))))))) rfl ?_)
        rintro v w2 ⟨rfl, rfl⟩
        rw [decide_eq_true hp]
        refine Ops.pure H (X.not rfl) rfl rfl rfl ?_
        refine Ops.pure H (X.move rfl) rfl rfl rfl ?_
        refine Ops.pure H (X.move rfl) rfl rfl rfl ?_
        refine Ops.pure H (X.cmp rfl rfl rfl) rfl rfl rfl ?_
        refine Ops.pure H (X.move rfl) rfl rfl rfl ?_
        refine Ops.split_dec rfl rfl (fun h34 => ?x4) (fun h34 => ?y4)
        case' y4 => exfalso; omega
        case' x4 =>
          refine Ops.pure H (X.move rfl) rfl rfl rfl ?_
          refine Ops.pure H (X.move rfl) rfl rfl rfl ?_
          refine Ops.pure H (X.move rfl) rfl rfl rfl ?_
          refine Ops.pure H (X.pred rfl rfl (by omega)) rfl rfl rfl ?_
          refine Ops.pure H (X.indexAddr rfl rfl (by omega) rfl rfl rfl rfl) rfl rfl rfl ?_
          refine Ops.pure H (X.load1 rfl rfl rfl rfl Pick.head (by assumption)) rfl rfl rfl ?_
          refine Ops.pure H (X.cmp rfl rfl rfl) rfl rfl rfl ?_
          refine Ops.pure H (X.pick_t rfl rfl) rfl rfl rfl ?_
          refine Ops.pure H (X.pick_f rfl rfl) rfl rfl rfl ?_
          (refine Ops.nil (hK _ _ ?_); clear hK K)
          refine Run.cond_dec rfl (fun h42 => ?x5) (fun h42 => ?y5)
          case' y5 =>
            refine Run.skip ?_
            refine Run.inBlock ?_
            (refine Run.region ?_; intro K hK)
            refine Ops.pure H (X.succ rfl rfl (by omega)) rfl rfl rfl ?_
            refine Ops.pure H (X.move rfl) rfl rfl rfl ?_
            (refine Ops.nil (hK _ _ ?_); clear hK K)
          case' x5 =>
            refine Run.seq ?_
            (refine Run.region ?_; intro K hK)
            refine Ops.pure H (X.assign rfl) rfl rfl rfl ?_
            refine Ops.pure H (X.assign rfl) rfl rfl rfl ?_
            (refine Ops.nil (hK _ _ ?_); clear hK K)
        · (first | refine Fn.ret1 HF rfl rfl ?_ | refine Fn.ret2 HF rfl rfl rfl ?_ | refine Fn.ret3 HF rfl rfl rfl rfl ?_ | refine Fn.ret0 HF rfl ?_ | refine Fn.fin0 HF rfl ?_ | refine Fn.retG (E := env) HF rfl H (by first | exact RVs.cellN rfl rfl rfl (by first | exact .head | exact .tail .head | exact .tail (.tail .head) | exact .tail (.tail (.tail .head)) | exact .tail (.tail (.tail (.tail .head))) | exact .tail (.tail (.tail (.tail (.tail .head)))) | exact .tail (.tail (.tail (.tail (.tail (.tail .head)))))) (by first | assumption | exact Cs.take rfl) RVs.nil | exact RVs.cellN rfl rfl rfl (by first | exact .head | exact .tail .head | exact .tail (.tail .head) | exact .tail (.tail (.tail .head)) | exact .tail (.tail (.tail (.tail .head))) | exact .tail (.tail (.tail (.tail (.tail .head)))) | exact .tail (.tail (.tail (.tail (.tail (.tail .head)))))) (by first | assumption | exact Cs.take rfl) (RVs.tmp rfl RVs.nil)) rfl ?_)
          have hnc : ¬ canL n xs := fun hcn => by
            have := (hcn.2 (y + 1) hlt).2 (by omega)
            rw [hg, Nat.add_sub_cancel, hgy] at this
            omega
          exact sub_fail h' H.fr (by unfold subOut; rw [if_pos (.inr hnc)])
        · refine (IH (y + 1 + 1) _ (by omega) ⟨rfl, fun j hj => ?_⟩).weak (by repeat (first | exact trivial | refine ⟨rfl, ?_⟩))
          rcases Nat.lt_succ_iff_lt_or_eq.1 hj with hj | rfl
          · exact hx j hj
          · refine ⟨by rw [hg]; exact hp, fun _ => ?_⟩
            rw [hg, Nat.add_sub_cancel, hgy]
            omega
    · refine Run.seq ?_
      (refine Run.region ?_; intro K hK)
      refine Ops.pure H (X.cmp rfl rfl rfl) rfl rfl rfl ?_
      (refine Ops.nil (hK _ _ ?_); clear hK K)
      refine Run.seq ?_
      refine Run.cond_dec rfl (fun h22 => ?x6) (fun h22 => ?y6)
      case' y6 => exfalso; omega
      case' x6 =>
        refine Run.skip ?_
        refine Run.seq ?_
        refine Run.block ?_
        refine Run.seq ?_
        (refine Run.region ?_; intro K hK)
        refine Ops.pure H (X.move rfl) rfl rfl rfl ?_
        refine Ops.pure H (X.indexAddr rfl rfl (by omega) rfl rfl rfl rfl) rfl rfl rfl ?_
        refine Ops.pure H (X.load1 rfl rfl rfl rfl Pick.head (by assumption)) rfl rfl rfl ?_
        refine Ops.pure H (X.assign rfl) rfl rfl rfl ?_
        refine Ops.pure H (X.assign rfl) rfl rfl rfl ?_
        (refine Ops.nil (hK _ _ ?_); clear hK K)
        refine Run.seq ?_
        (refine Run.region ?_; intro K hK)
        refine Ops.pure H (X.move rfl) rfl rfl rfl ?_
        refine Ops.pure H (X.move rfl) rfl rfl rfl ?_
      refine Ops.eff rfl (Y.call rfl rfl (by first | assumption | decide +kernel) rfl (is_any _ o n _ _ (H.pick (by first | exact .head | exact .tail .head | exact .tail (.tail .head) | exact .tail (.tail (.tail .head)) | exact .tail (.tail (.tail (.tail .head))) | exact .tail (.tail (.tail (.tail (.tail .head)))) | exact .tail (.tail (.tail (.tail (.tail (.tail .head)))))))) rfl ?_)
      rintro v w2 ⟨rfl, rfl⟩
      rw [decide_eq_false hp]
      refine Ops.pure H (X.not rfl) rfl rfl rfl ?_
      refine Ops.pure H (X.move rfl) rfl rfl rfl ?_
      refine Ops.pass rfl rfl rfl ?_
      refine Ops.pass rfl rfl rfl ?_
      refine Ops.pass rfl rfl rfl ?_
      refine Ops.pass rfl rfl rfl ?_
      refine Ops.pass rfl rfl rfl ?_
      refine Ops.pass rfl rfl rfl ?_
      refine Ops.pass rfl rfl rfl ?_
      refine Ops.pass rfl rfl rfl ?_
      refine Ops.pass rfl rfl rfl ?_
      refine Ops.pass rfl rfl rfl ?_
      refine Ops.pass rfl rfl rfl ?_
      refine Ops.pure H (X.pick_t rfl rfl) rfl rfl rfl ?_
      (refine Ops.nil (hK _ _ ?_); clear hK K)
      refine Run.cond_true rfl ?_
      refine Run.seq ?_
      (refine Run.region ?_; intro K hK)
      refine Ops.pure H (X.assign rfl) rfl rfl rfl ?_
      refine Ops.pure H (X.assign rfl) rfl rfl rfl ?_
      (refine Ops.nil (hK _ _ ?_); clear hK K)
      (first | refine Fn.ret1 HF rfl rfl ?_ | refine Fn.ret2 HF rfl rfl rfl ?_ | refine Fn.ret3 HF rfl rfl rfl rfl ?_ | refine Fn.ret0 HF rfl ?_ | refine Fn.fin0 HF rfl ?_ | refine Fn.retG (E := env) HF rfl H (by first | exact RVs.cellN rfl rfl rfl (by first | exact .head | exact .tail .head | exact .tail (.tail .head) | exact .tail (.tail (.tail .head)) | exact .tail (.tail (.tail (.tail .head))) | exact .tail (.tail (.tail (.tail (.tail .head)))) | exact .tail (.tail (.tail (.tail (.tail (.tail .head)))))) (by first | assumption | exact Cs.take rfl) RVs.nil | exact RVs.cellN rfl rfl rfl (by first | exact .head | exact .tail .head | exact .tail (.tail .head) | exact .tail (.tail (.tail .head)) | exact .tail (.tail (.tail (.tail .head))) | exact .tail (.tail (.tail (.tail (.tail .head)))) | exact .tail (.tail (.tail (.tail (.tail (.tail .head)))))) (by first | assumption | exact Cs.take rfl) (RVs.tmp rfl RVs.nil)) rfl ?_)
      have hnc : ¬ canL n xs := fun hcn => by
        have := (hcn.2 x hlt).1
        rw [hg] at this
        exact hp this
      exact sub_fail h' H.fr (by unfold subOut; rw [if_pos (.inr hnc)])
  · have hcan : canL n xs := ⟨hpos, fun j hj => hx j (by omega)⟩
    have hno : ¬ (seq = 0 ∨ ¬ canL n xs) := fun h => h.elim (by assumption) (fun h => h hcan)
    have hlen := canL_len hcan
    obtain ⟨Vk, hVk⟩ := tks_choose hall
    have hok : callOK env.P 29 = true := by decide +kernel
    have n5 := H.pick (.tail (.tail .head))
    have n6 := H.pick (.tail .head)
    have hne : b5 ≠ b6 := by have := H.nd; simp [List.pairwise_cons] at this; omega
    refine Run.seq ?_
    (refine Run.region ?_; intro K hK)
    refine Ops.pure H (X.cmp rfl rfl rfl) rfl rfl rfl ?_
    (refine Ops.nil (hK _ _ ?_); clear hK K)
    refine Run.seq ?_
    refine Run.cond_dec rfl (fun h22 => ?x7) (fun h22 => ?y7)
    case' y7 =>
      refine Run.exit rfl ?_
      refine Run.seq ?_
      refine Run.seq ?_
      (refine Run.region ?_; intro K hK)
      refine Ops.pure H (X.move rfl) rfl rfl rfl ?_
      refine Ops.pure H (X.nilCheck rfl) rfl rfl rfl ?_
      refine Ops.pure H (X.fieldAddr rfl rfl rfl rfl rfl rfl) rfl rfl rfl ?_
      refine Ops.pure H (X.load1 rfl rfl rfl rfl (.tail (.tail (.tail .head))) rfl) rfl rfl rfl ?_
      refine Ops.pure H (X.makeFunc rfl rfl) rfl rfl rfl ?_
    case' x7 => exfalso; omega
    refine Ops.eff rfl (Y.call rfl rfl (by first | assumption | decide +kernel) rfl (containsFunc_tk _ _ l.length cap c cs (fun k => tkC (l.getD k tk0) (Vk k).1) 29 [.pointer (some ⟨b5, 0, none⟩), .pointer (some ⟨b6, 0, none⟩)] _ (by omega) (tks_pos hac hc1 H.fr) (fun k hk => (hVk k (by omega)).1) hok (fun k hk w' hw' => submit1_any w' (l.getD k tk0) _ b5 b6 client seq (hw'.get n5 (by simp)) (hw'.get n6 (by simp)) hne)) rfl ?_)
    rintro v w2 ⟨rfl, hf⟩
    replace H := H.ext hf
    by_cases hex : ∃ i, i < l.length ∧ (decide ((l.getD i tk0).client = client ∧ (l.getD i tk0).seq = seq)) = true
    · rw [decide_eq_true hex]
      (refine Ops.nil (hK _ _ ?_); clear hK K)
      refine Run.cond_true rfl ?_
      refine Run.seq ?_
      (refine Run.region ?_; intro K hK)
      refine Ops.pure H (X.assign rfl) rfl rfl rfl ?_
      refine Ops.pure H (X.assign rfl) rfl rfl rfl ?_
      (refine Ops.nil (hK _ _ ?_); clear hK K)
      (first | refine Fn.ret1 HF rfl rfl ?_ | refine Fn.ret2 HF rfl rfl rfl ?_ | refine Fn.ret3 HF rfl rfl rfl rfl ?_ | refine Fn.ret0 HF rfl ?_ | refine Fn.fin0 HF rfl ?_ | refine Fn.retG (E := env) HF rfl H (by first | exact RVs.cellN rfl rfl rfl (by first | exact .head | exact .tail .head | exact .tail (.tail .head) | exact .tail (.tail (.tail .head)) | exact .tail (.tail (.tail (.tail .head))) | exact .tail (.tail (.tail (.tail (.tail .head)))) | exact .tail (.tail (.tail (.tail (.tail (.tail .head)))))) (by first | assumption | exact Cs.take rfl) RVs.nil | exact RVs.cellN rfl rfl rfl (by first | exact .head | exact .tail .head | exact .tail (.tail .head) | exact .tail (.tail (.tail .head)) | exact .tail (.tail (.tail (.tail .head))) | exact .tail (.tail (.tail (.tail (.tail .head)))) | exact .tail (.tail (.tail (.tail (.tail (.tail .head)))))) (by first | assumption | exact Cs.take rfl) (RVs.tmp rfl RVs.nil)) rfl ?_)
      exact sub_fail h' H.fr (by unfold subOut; rw [if_neg hno, if_pos hex])
    · rw [decide_eq_false hex]
      (refine Ops.nil (hK _ _ ?_); clear hK K)
      refine Run.cond_false rfl ?_
      refine Run.skip ?_
      refine Run.seq ?_
      refine Run.seq ?_
      (refine Run.region ?_; intro K hK)
      refine Ops.pure H (X.move rfl) rfl rfl rfl ?_
      refine Ops.pure H (X.nilCheck rfl) rfl rfl rfl ?_
      refine Ops.pure H (X.fieldAddr rfl rfl rfl rfl rfl rfl) rfl rfl rfl ?_
      refine Ops.pure H (X.load1 rfl rfl rfl rfl (.tail (.tail (.tail .head))) rfl) rfl rfl rfl ?_
      refine Ops.pure H (X.len_slice rfl rfl rfl) rfl rfl rfl ?_
      refine Ops.pure H (X.cmp rfl rfl rfl) rfl rfl rfl ?_
      (refine Ops.nil (hK _ _ ?_); clear hK K)
      refine Run.cond_dec rfl (fun h55 => ?x8) (fun h55 => ?y8)
      case' y8 =>
        refine Run.skip ?_
        refine Run.seq ?_
        refine Run.seq ?_
        (refine Run.region ?_; intro K hK)
        refine Ops.pure H (X.move rfl) rfl rfl rfl ?_
        refine Ops.pure H (X.nilCheck rfl) rfl rfl rfl ?_
        refine Ops.pure H (X.fieldAddr rfl rfl rfl rfl rfl rfl) rfl rfl rfl ?_
        refine Ops.pure H (X.load1 rfl rfl rfl rfl (.tail (.tail (.tail .head))) rfl) rfl rfl rfl ?_
        refine Ops.pure H (X.cmp rfl rfl rfl) rfl rfl rfl ?_
        (refine Ops.nil (hK _ _ ?_); clear hK K)
        refine Run.cond_dec rfl (fun h60 => ?x9) (fun h60 => ?y9)
        case' y9 =>
          refine Run.skip ?_
          refine Run.seq ?_
          (refine Run.region ?_; intro K hK)
          refine Ops.pure H (X.move rfl) rfl rfl rfl ?_
          refine Ops.pure H (X.nilCheck rfl) rfl rfl rfl ?_
          refine Ops.pure H (X.fieldAddr rfl rfl rfl rfl rfl rfl) rfl rfl rfl ?_
          refine Ops.pure H (X.load1 rfl rfl rfl rfl (.tail (.tail (.tail .head))) rfl) rfl rfl rfl ?_
          refine Ops.pure H (X.add_in rfl rfl (u64_in _ (by omega))) rfl rfl rfl ?_
          refine Ops.pure H (X.nilCheck rfl) rfl rfl rfl ?_
          refine Ops.pure H (X.fieldAddr rfl rfl rfl rfl rfl rfl) rfl rfl rfl ?_
        case' x9 =>
          refine Run.seq ?_
          (refine Run.region ?_; intro K hK)
          refine Ops.pure H (X.assign rfl) rfl rfl rfl ?_
          refine Ops.pure H (X.assign rfl) rfl rfl rfl ?_
          (refine Ops.nil (hK _ _ ?_); clear hK K)
      case' x8 =>
        refine Run.seq ?_
        (refine Run.region ?_; intro K hK)
        refine Ops.pure H (X.assign rfl) rfl rfl rfl ?_
        refine Ops.pure H (X.assign rfl) rfl rfl rfl ?_
        (refine Ops.nil (hK _ _ ?_); clear hK K)
      · (first | refine Fn.ret1 HF rfl rfl ?_ | refine Fn.ret2 HF rfl rfl rfl ?_ | refine Fn.ret3 HF rfl rfl rfl rfl ?_ | refine Fn.ret0 HF rfl ?_ | refine Fn.fin0 HF rfl ?_ | refine Fn.retG (E := env) HF rfl H (by first | exact RVs.cellN rfl rfl rfl (by first | exact .head | exact .tail .head | exact .tail (.tail .head) | exact .tail (.tail (.tail .head)) | exact .tail (.tail (.tail (.tail .head))) | exact .tail (.tail (.tail (.tail (.tail .head)))) | exact .tail (.tail (.tail (.tail (.tail (.tail .head)))))) (by first | assumption | exact Cs.take rfl) RVs.nil | exact RVs.cellN rfl rfl rfl (by first | exact .head | exact .tail .head | exact .tail (.tail .head) | exact .tail (.tail (.tail .head)) | exact .tail (.tail (.tail (.tail .head))) | exact .tail (.tail (.tail (.tail (.tail .head)))) | exact .tail (.tail (.tail (.tail (.tail (.tail .head)))))) (by first | assumption | exact Cs.take rfl) (RVs.tmp rfl RVs.nil)) rfl ?_)
        exact sub_fail h' H.fr (by unfold subOut; rw [if_neg hno, if_neg hex, if_pos (by omega)])
      · (first | refine Fn.ret1 HF rfl rfl ?_ | refine Fn.ret2 HF rfl rfl rfl ?_ | refine Fn.ret3 HF rfl rfl rfl rfl ?_ | refine Fn.ret0 HF rfl ?_ | refine Fn.fin0 HF rfl ?_ | refine Fn.retG (E := env) HF rfl H (by first | exact RVs.cellN rfl rfl rfl (by first | exact .head | exact .tail .head | exact .tail (.tail .head) | exact .tail (.tail (.tail .head)) | exact .tail (.tail (.tail (.tail .head))) | exact .tail (.tail (.tail (.tail (.tail .head)))) | exact .tail (.tail (.tail (.tail (.tail (.tail .head)))))) (by first | assumption | exact Cs.take rfl) RVs.nil | exact RVs.cellN rfl rfl rfl (by first | exact .head | exact .tail .head | exact .tail (.tail .head) | exact .tail (.tail (.tail .head)) | exact .tail (.tail (.tail (.tail .head))) | exact .tail (.tail (.tail (.tail (.tail .head)))) | exact .tail (.tail (.tail (.tail (.tail (.tail .head)))))) (by first | assumption | exact Cs.take rfl) (RVs.tmp rfl RVs.nil)) rfl ?_)
        exact sub_fail h' H.fr (by unfold subOut; rw [if_neg hno, if_neg hex, if_neg (by omega), if_pos (by assumption)])
      have hfr := H.fr
      have m1 := H.pick (by first | exact .head | exact .tail .head | exact .tail (.tail .head) | exact .tail (.tail (.tail .head)) | exact .tail (.tail (.tail (.tail .head))) | exact .tail (.tail (.tail (.tail (.tail .head)))) | exact .tail (.tail (.tail (.tail (.tail (.tail .head)))))) (b := o)
      have m2 := H.pick (by first | exact .head | exact .tail .head | exact .tail (.tail .head) | exact .tail (.tail (.tail .head)) | exact .tail (.tail (.tail (.tail .head))) | exact .tail (.tail (.tail (.tail (.tail .head)))) | exact .tail (.tail (.tail (.tail (.tail (.tail .head)))))) (b := b5)
      have m3 := H.pick (by first | exact .head | exact .tail .head | exact .tail (.tail .head) | exact .tail (.tail (.tail .head)) | exact .tail (.tail (.tail (.tail .head))) | exact .tail (.tail (.tail (.tail (.tail .head)))) | exact .tail (.tail (.tail (.tail (.tail (.tail .head)))))) (b := b6)
      have m4 := H.pick (by first | exact .head | exact .tail .head | exact .tail (.tail .head) | exact .tail (.tail (.tail .head)) | exact .tail (.tail (.tail (.tail .head))) | exact .tail (.tail (.tail (.tail (.tail .head)))) | exact .tail (.tail (.tail (.tail (.tail (.tail .head)))))) (b := xb)
      have hxb := (hxo hpos _ _ _ _ rfl).1
      have hno5 : b5 ≠ o := ne_of_ty m2 m1 (by decide)
      have hno6 : b6 ≠ o := ne_of_ty m3 m1 (by decide)
      have hout : subOut n last client seq xs l = (last + 1, 0, last + 1, l ++ [⟨last + 1, client, seq, xs⟩]) := by
        unfold subOut
        rw [if_neg hno, if_neg hex, if_neg (by omega), if_neg (by assumption)]
      clear H
      have H := ((((Holds.start _ [o]).add true m1 (by simp) (by simp)).add false m2 (by simpa using hno5) (by simp)).add false m3 (by simp; exact ⟨by omega, hno6⟩) (by simp)).add false m4 (by simp; exact ⟨by omega, by omega, hxb⟩) (by simp)
      (refine Ops.eff rfl (Y.store1 rfl rfl rfl rfl rfl rfl H (.tail (.tail (.tail .head))) (by repeat (first | exact SetC.zero | apply SetC.succ)) ?_); intro w H0; clear H; have H := H0; clear H0)
      (refine Ops.nil (hK _ _ ?_); clear hK K)
      refine Run.seq ?_
      (refine Run.draw H [18] [0, 1, 2, 3, 4, 5, 6, 7, 8, 9, 10, 11, 12, 13, 14, 15, 16, 17, 18] ?_; clear H; intro K hK w H)
      refine Draw.take0 rfl (X.move rfl) rfl rfl rfl (by decide +kernel) ?_
      refine Draw.take0 rfl (X.move rfl) rfl rfl rfl (by decide +kernel) ?_
      refine Draw.take0 rfl (X.nilCheck rfl) rfl rfl rfl (by decide +kernel) ?_
      refine Draw.take0 rfl (X.fieldAddr rfl rfl rfl rfl rfl rfl) rfl rfl rfl (by decide +kernel) ?_
      refine Draw.take rfl (X.load1 rfl rfl rfl rfl (.tail (.tail (.tail .head))) rfl) rfl rfl rfl (by decide +kernel) ?_
      refine Draw.take0 rfl (X.move rfl) rfl rfl rfl (by decide +kernel) ?_
      refine Draw.take0 rfl (X.nilCheck rfl) rfl rfl rfl (by decide +kernel) ?_
      refine Draw.take0 rfl (X.fieldAddr rfl rfl rfl rfl rfl rfl) rfl rfl rfl (by decide +kernel) ?_
      refine Draw.take rfl (X.load1 rfl rfl rfl rfl (.tail (.tail (.tail .head))) rfl) rfl rfl rfl (by decide +kernel) ?_
      refine Draw.take rfl (X.load1 rfl rfl rfl rfl (.tail (.tail .head)) rfl) rfl rfl rfl (by decide +kernel) ?_
      refine Draw.take rfl (X.load1 rfl rfl rfl rfl (.tail .head) rfl) rfl rfl rfl (by decide +kernel) ?_
      refine Draw.take0 rfl (X.move rfl) rfl rfl rfl (by decide +kernel) ?_
      refine Draw.take0 rfl (X.buildO rfl rfl rfl rfl rfl rfl) rfl rfl rfl (by decide +kernel) ?_
      refine Draw.eff rfl rfl (by decide +kernel) (Y.call rfl rfl (by first | assumption | decide +kernel) rfl (own_any _ ⟨last + 1, client, seq, xs⟩ (.slice (some ⟨xb, xoff, none⟩) xs.length xcap) ⟨_, _, _, _, _, _, _, rfl, k2, k3, fun _ => ⟨rfl, H.pick (by first | exact .head | exact .tail .head | exact .tail (.tail .head) | exact .tail (.tail (.tail .head)) | exact .tail (.tail (.tail (.tail .head))) | exact .tail (.tail (.tail (.tail (.tail .head)))) | exact .tail (.tail (.tail (.tail (.tail (.tail .head))))))⟩, k5⟩ hpos (by dsimp only; omega)) rfl ?_)
      rintro v w3 ⟨v', b, rfl, ⟨cap', ds', rfl, q2, q3, q4, q5, q6⟩, hbz, hf3⟩
      have hw2b := Nat.le_trans H.fr.size hbz
      replace H := H.extAdd false hf3 q4 hbz
      refine ⟨fun e he => H.at_ e (List.mem_cons_of_mem _ he), ?_⟩
      simp only [tkC]
      (refine Draw.eff rfl rfl (by decide +kernel) (Y.buildSliceO rfl rfl rfl rfl rfl rfl rfl rfl H ?_); intro b82 w H0 hb82; clear H; have H := H0; clear H0; refine ⟨fun e he => H.at_ e (by simp only [List.mem_cons, List.not_mem_nil, or_false] at he ⊢; grind), ?_⟩)
      have hob : ∀ b ∈ [o], ∀ ds, w2.heap[b]? ≠ some (row ds 3) := fun b hb ds hd => by
        simp at hb
        subst hb
        exact ne_of_ty m1 hd (by decide) rfl
      have hall2 : ∀ i t, l[i]? = some t → TkAtP p w2 cs i t := fun i t ht => (hallP i t ht).keepP hfr (by simp)
      have hpb : p b := hpz b (Nat.le_trans hfr.size hw2b)
      rcases hac with ⟨rfl, rfl⟩ | ⟨rfl, hcc, hcl⟩
      · have hl0 : l = [] := List.eq_nil_of_length_eq_zero (by omega)
        subst hl0
        refine Draw.eff rfl rfl (by decide +kernel) (Y.append_grow (olds := []) (news := tkC ⟨last + 1, client, seq, xs⟩ (.slice (some ⟨b, 0, none⟩) xs.length cap')) rfl rfl rfl rfl rfl H (by simp) Src.nil rfl rfl (Src.row (m := 4) H .head (Cs.take rfl)) rfl (by simp) (by simp) rfl ?_)
        intro b83 cap83 sp w4 H4 hb83 hc83 hm83 hsp
        clear H
        have H := H4
        clear H4
        refine ⟨fun e he => H.at_ e (by simp only [List.mem_cons, List.not_mem_nil, or_false] at he ⊢; grind), ?_⟩
        refine Draw.take0 rfl (X.nilCheck rfl) rfl rfl rfl (by decide +kernel) ?_
        refine Draw.take0 rfl (X.fieldAddr rfl rfl rfl rfl rfl rfl) rfl rfl rfl (by decide +kernel) ?_
        (refine Draw.last rfl rfl (by decide +kernel) (Y.store1 rfl rfl rfl rfl rfl rfl H (.tail (.tail (.tail (.tail (.tail (.tail .head)))))) (by repeat (first | exact SetC.zero | apply SetC.succ)) ?_); intro w H0; clear H; have H := H0; clear H0)
        (refine Draw2.done (by decide +kernel) (hK _ _ ?_); clear hK K)
        refine Run.seq ?_
        (refine Run.region ?_; intro K hK)
        refine Ops.pure H (X.move rfl) rfl rfl rfl ?_
        refine Ops.pure H (X.nilCheck rfl) rfl rfl rfl ?_
        refine Ops.pure H (X.fieldAddr rfl rfl rfl rfl rfl rfl) rfl rfl rfl ?_
        refine Ops.pure H (X.load1 rfl rfl rfl rfl (.tail (.tail (.tail (.tail (.tail (.tail .head)))))) rfl) rfl rfl rfl ?_
        refine Ops.pure H (X.assign rfl) rfl rfl rfl ?_
        refine Ops.pure H (X.assign rfl) rfl rfl rfl ?_
        (refine Ops.nil (hK _ _ ?_); clear hK K)
        (first | refine Fn.ret1 HF rfl rfl ?_ | refine Fn.ret2 HF rfl rfl rfl ?_ | refine Fn.ret3 HF rfl rfl rfl rfl ?_ | refine Fn.ret0 HF rfl ?_ | refine Fn.fin0 HF rfl ?_ | refine Fn.retG (E := env) HF rfl H (by first | exact RVs.cellN rfl rfl rfl (by first | exact .head | exact .tail .head | exact .tail (.tail .head) | exact .tail (.tail (.tail .head)) | exact .tail (.tail (.tail (.tail .head))) | exact .tail (.tail (.tail (.tail (.tail .head)))) | exact .tail (.tail (.tail (.tail (.tail (.tail .head)))))) (by first | assumption | exact Cs.take rfl) RVs.nil | exact RVs.cellN rfl rfl rfl (by first | exact .head | exact .tail .head | exact .tail (.tail .head) | exact .tail (.tail (.tail .head)) | exact .tail (.tail (.tail (.tail .head))) | exact .tail (.tail (.tail (.tail (.tail .head)))) | exact .tail (.tail (.tail (.tail (.tail (.tail .head)))))) (by first | assumption | exact Cs.take rfl) (RVs.tmp rfl RVs.nil)) rfl ?_)
        rw [hout]
        refine ⟨rfl, (hfr.trans H.fr (by simp) (by simp)), b83, ⟨_, H.pick (by first | exact .head | exact .tail .head | exact .tail (.tail .head) | exact .tail (.tail (.tail .head)) | exact .tail (.tail (.tail (.tail .head))) | exact .tail (.tail (.tail (.tail (.tail .head)))) | exact .tail (.tail (.tail (.tail (.tail (.tail .head)))))), tks_addP (cs := cs) hpb hc83 hm83 hall2 H.fr hob (H.pick (by first | exact .head | exact .tail .head | exact .tail (.tail .head) | exact .tail (.tail (.tail .head)) | exact .tail (.tail (.tail (.tail .head))) | exact .tail (.tail (.tail (.tail (.tail .head)))) | exact .tail (.tail (.tail (.tail (.tail (.tail .head))))))) ?_ (fun j hj => by simp at hj) ?_ ⟨_, _, rfl, q2, q3, H.pick (by first | exact .head | exact .tail .head | exact .tail (.tail .head) | exact .tail (.tail (.tail .head)) | exact .tail (.tail (.tail (.tail .head))) | exact .tail (.tail (.tail (.tail (.tail .head)))) | exact .tail (.tail (.tail (.tail (.tail (.tail .head)))))), q5, q6⟩ (by dsimp only; omega)⟩, .inr (Nat.le_trans hfr.size hb83)⟩
        · simp [tkC] at hsp hc83 ⊢; omega
        · exact (Cs.mid [] _ sp).cast (by simp) rfl rfl
      · have hall3 : ∀ (i : Nat) (t : Tk), l[i]? = some t → i < l.length := fun i t ht => (List.getElem?_eq_some_iff.1 ht).1
        have hco : c ≠ o := ne_of_ty hcc ho (by decide)
        have hcw : w.heap[c]? = some (row cs 56) := H.fr.get (hfr.get hcc (by simp)) (by simpa using hco)
        have hc2w := hfr.get hcc (by simp)
        have hxc := (hxo hpos _ _ _ _ rfl).2
        have hcl2 := lt_of_at hcc
        by_cases hroom : l.length + 1 ≤ cap
        · have hfrA := H.fr
          have hcb : c ≠ b := ne_of_ty hcw (H.pick (.tail .head)) (by decide)
          have hsz := hfr.size
          replace H := H.anew (S' := [o, c]) (G' := [⟨_, _, false⟩, ⟨_, _, false⟩, ⟨_, _, false⟩, ⟨_, _, false⟩, ⟨_, _, false⟩, ⟨_, _, true⟩]) (by repeat constructor) (by simp)
          replace H := H.add true hcw (by
            simp
            exact ⟨by omega, hcb, fun e => hxc e.symm cs hcc, by omega, by omega, hco⟩) (by simp)
          refine Draw.eff rfl rfl (by decide +kernel) (Y.append_room (news := tkC ⟨last + 1, client, seq, xs⟩ (.slice (some ⟨b, 0, none⟩) xs.length cap')) rfl rfl rfl rfl rfl H .head hroom (by dsimp only; omega) rfl (Src.row (m := 4) H (.tail .head) (Cs.take rfl)) (by intro u hu; simp [tkC] at hu; rcases hu with rfl | rfl | rfl | rfl <;> rfl) rfl ?_)
          intro w4 H4
          dsimp only at H4
          clear H
          have H := H4
          clear H4
          refine ⟨fun e he => H.at_ e (by simp only [List.mem_cons, List.not_mem_nil, or_false] at he ⊢; grind), ?_⟩
          refine Draw.take0 rfl (X.nilCheck rfl) rfl rfl rfl (by decide +kernel) ?_
          refine Draw.take0 rfl (X.fieldAddr rfl rfl rfl rfl rfl rfl) rfl rfl rfl (by decide +kernel) ?_
          (refine Draw.last rfl rfl (by decide +kernel) (Y.store1 rfl rfl rfl rfl rfl rfl H (.tail (.tail (.tail (.tail (.tail (.tail .head)))))) (by repeat (first | exact SetC.zero | apply SetC.succ)) ?_); intro w H0; clear H; have H := H0; clear H0)
          (refine Draw2.done (by decide +kernel) (hK _ _ ?_); clear hK K)
          refine Run.seq ?_
          (refine Run.region ?_; intro K hK)
          refine Ops.pure H (X.move rfl) rfl rfl rfl ?_
          refine Ops.pure H (X.nilCheck rfl) rfl rfl rfl ?_
          refine Ops.pure H (X.fieldAddr rfl rfl rfl rfl rfl rfl) rfl rfl rfl ?_
          refine Ops.pure H (X.load1 rfl rfl rfl rfl (.tail (.tail (.tail (.tail (.tail (.tail .head)))))) rfl) rfl rfl rfl ?_
          refine Ops.pure H (X.assign rfl) rfl rfl rfl ?_
          refine Ops.pure H (X.assign rfl) rfl rfl rfl ?_
          (refine Ops.nil (hK _ _ ?_); clear hK K)
          (first | refine Fn.ret1 HF rfl rfl ?_ | refine Fn.ret2 HF rfl rfl rfl ?_ | refine Fn.ret3 HF rfl rfl rfl rfl ?_ | refine Fn.ret0 HF rfl ?_ | refine Fn.fin0 HF rfl ?_ | refine Fn.retG (E := env) HF rfl H (by first | exact RVs.cellN rfl rfl rfl (by first | exact .head | exact .tail .head | exact .tail (.tail .head) | exact .tail (.tail (.tail .head)) | exact .tail (.tail (.tail (.tail .head))) | exact .tail (.tail (.tail (.tail (.tail .head)))) | exact .tail (.tail (.tail (.tail (.tail (.tail .head)))))) (by first | assumption | exact Cs.take rfl) RVs.nil | exact RVs.cellN rfl rfl rfl (by first | exact .head | exact .tail .head | exact .tail (.tail .head) | exact .tail (.tail (.tail .head)) | exact .tail (.tail (.tail (.tail .head))) | exact .tail (.tail (.tail (.tail (.tail .head)))) | exact .tail (.tail (.tail (.tail (.tail (.tail .head)))))) (by first | assumption | exact Cs.take rfl) (RVs.tmp rfl RVs.nil)) rfl ?_)
          rw [hout]
          have hfrB : Fr w2 _ [o, c] := hfrA.trans H.fr (by simp) (by simp)
          have hput : 0 + l.length * 4 + (tkC ⟨last + 1, client, seq, xs⟩ (.slice (some ⟨b, 0, none⟩) xs.length cap')).length ≤ cs.length := by simp [tkC]; omega
          refine ⟨rfl, (hfr.trans hfrB (by simp) (by simp)), c, ⟨_, H.pick (by first | exact .head | exact .tail .head | exact .tail (.tail .head) | exact .tail (.tail (.tail .head)) | exact .tail (.tail (.tail (.tail .head))) | exact .tail (.tail (.tail (.tail (.tail .head)))) | exact .tail (.tail (.tail (.tail (.tail (.tail .head)))))), tks_addP hpb hroom hc2 hall2 hfrB (oc_not3 m1 hc2w) (H.pick (by first | exact .head | exact .tail .head | exact .tail (.tail .head) | exact .tail (.tail (.tail .head)) | exact .tail (.tail (.tail (.tail .head))) | exact .tail (.tail (.tail (.tail (.tail .head)))) | exact .tail (.tail (.tail (.tail (.tail (.tail .head))))))) (by rw [putC_length]; exact hcl) (fun j hj vs hv => hv.apart hput (.inl (by omega))) (Cs.put hput) ⟨_, _, rfl, q2, q3, H.pick (by first | exact .head | exact .tail .head | exact .tail (.tail .head) | exact .tail (.tail (.tail .head)) | exact .tail (.tail (.tail (.tail .head))) | exact .tail (.tail (.tail (.tail (.tail .head)))) | exact .tail (.tail (.tail (.tail (.tail (.tail .head)))))), q5, q6⟩ (by dsimp only; omega)⟩, .inl rfl⟩
        · have hC : Cs cs 0 (l.length * 4) (cs.take (l.length * 4)) := Cs.ofGet _ _ _ (by simp; omega) (fun j hj => by simp [hj])
          have hCl : (cs.take (l.length * 4)).length = l.length * 4 := hC.length
          have hsrc : Src w (some ⟨c, 0, none⟩) (cs.take (l.length * 4)) := Src.row ((Holds.start w []).add false hcw (by simp) (by simp)) .head hC
          refine Draw.eff rfl rfl (by decide +kernel) (Y.append_grow (olds := cs.take (l.length * 4)) (news := tkC ⟨last + 1, client, seq, xs⟩ (.slice (some ⟨b, 0, none⟩) xs.length cap')) rfl rfl rfl rfl rfl H (by omega) hsrc hCl rfl (Src.row (m := 4) H .head (Cs.take rfl)) rfl (by dsimp only; omega) (by omega) rfl ?_)
          intro b83 cap83 sp w4 H4 hb83 hc83 hm83 hsp
          clear H
          have H := H4
          clear H4
          refine ⟨fun e he => H.at_ e (by simp only [List.mem_cons, List.not_mem_nil, or_false] at he ⊢; grind), ?_⟩
          refine Draw.take0 rfl (X.nilCheck rfl) rfl rfl rfl (by decide +kernel) ?_
          refine Draw.take0 rfl (X.fieldAddr rfl rfl rfl rfl rfl rfl) rfl rfl rfl (by decide +kernel) ?_
          (refine Draw.last rfl rfl (by decide +kernel) (Y.store1 rfl rfl rfl rfl rfl rfl H (.tail (.tail (.tail (.tail (.tail (.tail .head)))))) (by repeat (first | exact SetC.zero | apply SetC.succ)) ?_); intro w H0; clear H; have H := H0; clear H0)
          (refine Draw2.done (by decide +kernel) (hK _ _ ?_); clear hK K)
          refine Run.seq ?_
          (refine Run.region ?_; intro K hK)
          refine Ops.pure H (X.move rfl) rfl rfl rfl ?_
          refine Ops.pure H (X.nilCheck rfl) rfl rfl rfl ?_
          refine Ops.pure H (X.fieldAddr rfl rfl rfl rfl rfl rfl) rfl rfl rfl ?_
          refine Ops.pure H (X.load1 rfl rfl rfl rfl (.tail (.tail (.tail (.tail (.tail (.tail .head)))))) rfl) rfl rfl rfl ?_
          refine Ops.pure H (X.assign rfl) rfl rfl rfl ?_
          refine Ops.pure H (X.assign rfl) rfl rfl rfl ?_
          (refine Ops.nil (hK _ _ ?_); clear hK K)
          (first | refine Fn.ret1 HF rfl rfl ?_ | refine Fn.ret2 HF rfl rfl rfl ?_ | refine Fn.ret3 HF rfl rfl rfl rfl ?_ | refine Fn.ret0 HF rfl ?_ | refine Fn.fin0 HF rfl ?_ | refine Fn.retG (E := env) HF rfl H (by first | exact RVs.cellN rfl rfl rfl (by first | exact .head | exact .tail .head | exact .tail (.tail .head) | exact .tail (.tail (.tail .head)) | exact .tail (.tail (.tail (.tail .head))) | exact .tail (.tail (.tail (.tail (.tail .head)))) | exact .tail (.tail (.tail (.tail (.tail (.tail .head)))))) (by first | assumption | exact Cs.take rfl) RVs.nil | exact RVs.cellN rfl rfl rfl (by first | exact .head | exact .tail .head | exact .tail (.tail .head) | exact .tail (.tail (.tail .head)) | exact .tail (.tail (.tail (.tail .head))) | exact .tail (.tail (.tail (.tail (.tail .head)))) | exact .tail (.tail (.tail (.tail (.tail (.tail .head)))))) (by first | assumption | exact Cs.take rfl) (RVs.tmp rfl RVs.nil)) rfl ?_)
          rw [hout]
          dsimp only at hsp
          refine ⟨rfl, (hfr.trans H.fr (by simp) (by simp)), b83, ⟨_, H.pick (by first | exact .head | exact .tail .head | exact .tail (.tail .head) | exact .tail (.tail (.tail .head)) | exact .tail (.tail (.tail (.tail .head))) | exact .tail (.tail (.tail (.tail (.tail .head)))) | exact .tail (.tail (.tail (.tail (.tail (.tail .head)))))), tks_addP hpb hc83 hm83 hall2 H.fr hob (H.pick (by first | exact .head | exact .tail .head | exact .tail (.tail .head) | exact .tail (.tail (.tail .head)) | exact .tail (.tail (.tail (.tail .head))) | exact .tail (.tail (.tail (.tail (.tail .head)))) | exact .tail (.tail (.tail (.tail (.tail (.tail .head))))))) ?_ (fun j hj vs hv => ?_) ?_ ⟨_, _, rfl, q2, q3, H.pick (by first | exact .head | exact .tail .head | exact .tail (.tail .head) | exact .tail (.tail (.tail .head)) | exact .tail (.tail (.tail (.tail .head))) | exact .tail (.tail (.tail (.tail (.tail .head)))) | exact .tail (.tail (.tail (.tail (.tail (.tail .head)))))), q5, q6⟩ (by dsimp only; omega)⟩, .inr (Nat.le_trans hfr.size hb83)⟩
          · rw [List.length_append, List.length_append, hCl, hsp, tkC_len]; omega
          · rw [List.append_assoc]
            exact hv.pre (by omega) (by omega)
          · exact (Cs.mid _ _ sp).cast (by rw [hCl, Nat.zero_add]) rfl rfl
theorem submit_any (w : World) (o c : Nat) (n last client seq : Int) (l : List Tk) (V : Value) (xs : List Int) (h : Ord w o c n last l) (hV : Ints w V xs) (hxo : 0 < xs.length → ∀ b off m cap, V = .slice (some ⟨b, off, none⟩) m cap → b ≠ o ∧ (b = c → ∀ ds, w.heap[c]? ≠ some (row ds 56))) (hn : n ≤ 64) (h0 : 0 ≤ last) (hu : last ≤ 18446744073709551615) :
    Fn env.P 17 [.pointer (some ⟨o, 0, none⟩), .int .u64 client, .int .u64 seq, V] w (SubPost w o c n (subOut n last client seq xs l)) :=
  (submit_anyP (fun _ => True) w o c n last client seq l V xs (fun _ _ => trivial) (h.below.mono fun _ _ => trivial) hV hxo hn h0 hu).mono fun v w' ⟨h1, h2, c', h3, h4⟩ => ⟨h1, h2, c', h3.ord, h4⟩
end Go.Proofs.Ythidohdnaeboaaa
