/- Walks: slices of numbers; the library's searches. -/
import Derived.Test.YthidohdnaeboaaaTab24
import Derived.Test.YthidohdnaeboaaaEngF
namespace Go.Proofs.Ythidohdnaeboaaa
open Go
set_option maxRecDepth 20000
set_option maxHeartbeats 2000000
attribute [local irreducible] Run Ops Fn Draw Draw2 PureOp StepZ

/-- The first place below n at which p says yes; else -1. -/
def fidx (p : Nat → Bool) (n : Nat) : Int := match (List.range n).find? p with | some i => i | none => -1
theorem fidx_some {p : Nat → Bool} {n i : Nat} (hi : i < n) (hp : p i = true) (hb : ∀ j, j < i → p j = false) : fidx p n = i := by
  have : (List.range n).find? p = some i := by
    rw [List.find?_range_eq_some]
    exact ⟨hp, by simpa using hi, fun j hj => by simp [hb j hj]⟩
  simp [fidx, this]
theorem fidx_none {p : Nat → Bool} {n : Nat} (hb : ∀ j, j < n → p j = false) : fidx p n = -1 := by
  have : (List.range n).find? p = none := by
    rw [List.find?_range_eq_none]
    intro i hi
    simp [hb i hi]
  simp [fidx, this]
theorem fidx_cases (p : Nat → Bool) (n : Nat) : (∃ i, i < n ∧ p i = true ∧ (∀ j, j < i → p j = false) ∧ fidx p n = i) ∨ ((∀ j, j < n → p j = false) ∧ fidx p n = -1) := by
  cases h : (List.range n).find? p with
  | some i =>
    rw [List.find?_range_eq_some] at h
    exact .inl ⟨i, by simpa using h.2.1, h.1, fun j hj => by simpa using h.2.2 j hj, fidx_some (by simpa using h.2.1) h.1 (fun j hj => by simpa using h.2.2 j hj)⟩
  | none =>
    rw [List.find?_range_eq_none] at h
    exact .inr ⟨fun j hj => by simpa using h j hj, fidx_none (fun j hj => by simpa using h j hj)⟩

/-- A slice that reads as a list of numbers. -/
def Ints (w : World) (v : Value) (xs : List Int) : Prop :=
  ∃ a cap b off cs T fz, v = .slice a xs.length cap ∧ xs.length ≤ cap ∧ cap ≤ 9223372036854775807 ∧ (0 < xs.length → a = some ⟨b, off, none⟩ ∧ w.heap[b]? = some (.cells (List.toArray cs) T fz)) ∧ Cs cs off xs.length (xs.map (Value.int .i64))
theorem Ints.ext {w w' : World} {v : Value} {xs : List Int} (h : Ints w v xs) (hf : Fr w w' []) : Ints w' v xs := by
  obtain ⟨a, cap, b, off, cs, T, fz, h1, h2, h3, h4, h5⟩ := h
  exact ⟨a, cap, b, off, cs, T, fz, h1, h2, h3, fun hp => ⟨(h4 hp).1, hf.get (h4 hp).2 (by simp)⟩, h5⟩
theorem Cs.at1 {cs : List Value} {off n : Nat} {xs : List Int} {k : IntKind} (h : Cs cs off n (xs.map (Value.int k))) {x : Nat} (hx : x < xs.length) : cs[off + x * 1]? = some (.int k xs[x]) := by
  rw [Nat.mul_one]
  exact h.get x _ (by simp [hx])

theorem index_int (w : World) (v : Value) (xs : List Int) (p : Int) (hv : Ints w v xs) :
    Fn env.P 62 [v, .int .i64 p] w fun v w' => v = .int .i64 (fidx (fun i => decide (p = xs.getD i 0)) xs.length) ∧ Fr w w' [] := by
  obtain ⟨a, cap, b, off, cs, T, fz, rfl, h2, h3, h4, h5⟩ := hv
  have H := Holds.start w []
  have HF := Try.func62; refine Fn.enter Try.func62 Try.ntmps62 rfl rfl rfl ?_
  refine Run.seq ?_
  (refine Run.region ?_; intro K hK)
  refine Ops.pure H (X.assign rfl) rfl rfl rfl ?_
  (refine Ops.nil (hK _ _ ?_); clear hK K)
  refine Run.seq ?_
  refine Run.seq ?_
  (refine Run.region ?_; intro K hK)
  refine Ops.pure H (X.move rfl) rfl rfl rfl ?_
  refine Ops.pure H (X.len_slice rfl rfl rfl) rfl rfl rfl ?_
  refine Ops.pure H (X.move rfl) rfl rfl rfl ?_
  (refine Ops.nil (hK _ _ ?_); clear hK K)
  refine Run.block ?_
  refine Run.rounds (fun (x : Nat) => [(0, .slice a xs.length cap), (1, .int .i64 p), (7, .int .i64 (xs.length : Nat)), (8, .int .i64 (x : Nat))]) (fun x w' => w' = w ∧ ∀ j, j < x → decide (p = xs.getD j 0) = false) (fun x => xs.length - x) 0 (by repeat (first | exact trivial | refine ⟨rfl, ?_⟩)) ⟨rfl, by intro j hj; omega⟩ ?_
  rintro x _ ⟨rfl, hx⟩ IH
  by_cases hlt : x < xs.length
  · obtain ⟨rfl, hb⟩ := h4 (by omega)
    replace H := H.add false hb (by simp) (by simp)
    have hc := h5.at1 hlt
    refine Run.seq ?_
    (refine Run.region ?_; intro K hK)
    refine Ops.pure H (X.cmp rfl rfl rfl) rfl rfl rfl ?_
    (refine Ops.nil (hK _ _ ?_); clear hK K)
    refine Run.seq ?_
    refine Run.cond_dec rfl (fun h9 => ?x0) (fun h9 => ?y0)
    case' y0 => exfalso; omega
    case' x0 =>
      refine Run.skip ?_
      refine Run.seq ?_
      refine Run.block ?_
      refine Run.seq ?_
      (refine Run.region ?_; intro K hK)
      refine Ops.pure H (X.move rfl) rfl rfl rfl ?_
      refine Ops.pure H (X.assign rfl) rfl rfl rfl ?_
      (refine Ops.nil (hK _ _ ?_); clear hK K)
      refine Run.seq ?_
      (refine Run.region ?_; intro K hK)
      refine Ops.pure H (X.move rfl) rfl rfl rfl ?_
      refine Ops.pure H (X.move rfl) rfl rfl rfl ?_
      refine Ops.pure H (X.move rfl) rfl rfl rfl ?_
      refine Ops.pure H (X.indexAddr rfl rfl (by omega) rfl rfl rfl rfl) rfl rfl rfl ?_
      refine Ops.pure H (X.load1 rfl rfl rfl rfl Pick.head (by assumption)) rfl rfl rfl ?_
      refine Ops.pure H (X.cmp rfl rfl rfl) rfl rfl rfl ?_
      (refine Ops.nil (hK _ _ ?_); clear hK K)
      refine Run.cond_dec rfl (fun h16 => ?x1) (fun h16 => ?y1)
      case' y1 =>
        refine Run.skip ?_
        refine Run.inBlock ?_
        (refine Run.region ?_; intro K hK)
        refine Ops.pure H (X.succ rfl rfl (by omega)) rfl rfl rfl ?_
        refine Ops.pure H (X.move rfl) rfl rfl rfl ?_
        (refine Ops.nil (hK _ _ ?_); clear hK K)
      case' x1 =>
        refine Run.seq ?_
        (refine Run.region ?_; intro K hK)
        refine Ops.pure H (X.move rfl) rfl rfl rfl ?_
        refine Ops.pure H (X.assign rfl) rfl rfl rfl ?_
        (refine Ops.nil (hK _ _ ?_); clear hK K)
    · (first | refine Fn.ret1 HF rfl rfl ?_ | refine Fn.ret2 HF rfl rfl rfl ?_ | refine Fn.ret3 HF rfl rfl rfl rfl ?_ | refine Fn.ret0 HF rfl ?_ | refine Fn.fin0 HF rfl ?_ | refine Fn.retG (E := env) HF rfl H (by first | exact RVs.cellN rfl rfl rfl (by first | exact .head | exact .tail .head | exact .tail (.tail .head) | exact .tail (.tail (.tail .head)) | exact .tail (.tail (.tail (.tail .head))) | exact .tail (.tail (.tail (.tail (.tail .head)))) | exact .tail (.tail (.tail (.tail (.tail (.tail .head)))))) (by first | assumption | exact Cs.take rfl) RVs.nil | exact RVs.cellN rfl rfl rfl (by first | exact .head | exact .tail .head | exact .tail (.tail .head) | exact .tail (.tail (.tail .head)) | exact .tail (.tail (.tail (.tail .head))) | exact .tail (.tail (.tail (.tail (.tail .head)))) | exact .tail (.tail (.tail (.tail (.tail (.tail .head)))))) (by first | assumption | exact Cs.take rfl) (RVs.tmp rfl RVs.nil)) rfl ?_)
      exact ⟨by rw [fidx_some hlt (by simpa [hlt] using h16) hx], H.fr⟩
    · refine (IH (x + 1) _ (by omega) ⟨rfl, fun j hj => ?_⟩).weak (by repeat (first | exact trivial | refine ⟨rfl, ?_⟩))
      rcases Nat.lt_succ_iff_lt_or_eq.1 hj with h | rfl
      · exact hx j h
      · simpa [hlt] using h16
  · refine Run.seq ?_
    (refine Run.region ?_; intro K hK)
    refine Ops.pure H (X.cmp rfl rfl rfl) rfl rfl rfl ?_
    (refine Ops.nil (hK _ _ ?_); clear hK K)
    refine Run.seq ?_
    refine Run.cond_dec rfl (fun h9 => ?x2) (fun h9 => ?y2)
    case' y2 =>
      refine Run.exit rfl ?_
      refine Run.seq ?_
      (refine Run.region ?_; intro K hK)
      refine Ops.pure H (X.assign rfl) rfl rfl rfl ?_
      (refine Ops.nil (hK _ _ ?_); clear hK K)
    case' x2 => exfalso; omega
    (first | refine Fn.ret1 HF rfl rfl ?_ | refine Fn.ret2 HF rfl rfl rfl ?_ | refine Fn.ret3 HF rfl rfl rfl rfl ?_ | refine Fn.ret0 HF rfl ?_ | refine Fn.fin0 HF rfl ?_ | refine Fn.retG (E := env) HF rfl H (by first | exact RVs.cellN rfl rfl rfl (by first | exact .head | exact .tail .head | exact .tail (.tail .head) | exact .tail (.tail (.tail .head)) | exact .tail (.tail (.tail (.tail .head))) | exact .tail (.tail (.tail (.tail (.tail .head)))) | exact .tail (.tail (.tail (.tail (.tail (.tail .head)))))) (by first | assumption | exact Cs.take rfl) RVs.nil | exact RVs.cellN rfl rfl rfl (by first | exact .head | exact .tail .head | exact .tail (.tail .head) | exact .tail (.tail (.tail .head)) | exact .tail (.tail (.tail (.tail .head))) | exact .tail (.tail (.tail (.tail (.tail .head)))) | exact .tail (.tail (.tail (.tail (.tail (.tail .head)))))) (by first | assumption | exact Cs.take rfl) (RVs.tmp rfl RVs.nil)) rfl ?_)
    exact ⟨by rw [fidx_none (fun j hj => hx j (by omega))], H.fr⟩

theorem contains_int (w : World) (v : Value) (xs : List Int) (p : Int) (hv : Ints w v xs) :
    Fn env.P 51 [v, .int .i64 p] w fun v w' => v = .bool (decide (p ∈ xs)) ∧ Fr w w' [] := by
  have H := Holds.start w []
  have HF := Try.func51; refine Fn.enter Try.func51 Try.ntmps51 rfl rfl rfl ?_
  refine Run.seq ?_
  (refine Run.region ?_; intro K hK)
  refine Ops.pure H (X.assign rfl) rfl rfl rfl ?_
  (refine Ops.nil (hK _ _ ?_); clear hK K)
  refine Run.seq ?_
  (refine Run.region ?_; intro K hK)
  refine Ops.pure H (X.move rfl) rfl rfl rfl ?_
  refine Ops.pure H (X.move rfl) rfl rfl rfl ?_
  refine Ops.eff rfl (Y.call rfl rfl (by first | assumption | decide +kernel) rfl (index_int _ _ _ _ hv) rfl ?_)
  rintro v w2 ⟨rfl, hf⟩
  replace H := H.ext hf
  refine Ops.pure H (X.cmp rfl rfl rfl) rfl rfl rfl ?_
  refine Ops.pure H (X.assign rfl) rfl rfl rfl ?_
  (refine Ops.nil (hK _ _ ?_); clear hK K)
  (first | refine Fn.ret1 HF rfl rfl ?_ | refine Fn.ret2 HF rfl rfl rfl ?_ | refine Fn.ret3 HF rfl rfl rfl rfl ?_ | refine Fn.ret0 HF rfl ?_ | refine Fn.fin0 HF rfl ?_ | refine Fn.retG (E := env) HF rfl H (by first | exact RVs.cellN rfl rfl rfl (by first | exact .head | exact .tail .head | exact .tail (.tail .head) | exact .tail (.tail (.tail .head)) | exact .tail (.tail (.tail (.tail .head))) | exact .tail (.tail (.tail (.tail (.tail .head)))) | exact .tail (.tail (.tail (.tail (.tail (.tail .head)))))) (by first | assumption | exact Cs.take rfl) RVs.nil | exact RVs.cellN rfl rfl rfl (by first | exact .head | exact .tail .head | exact .tail (.tail .head) | exact .tail (.tail (.tail .head)) | exact .tail (.tail (.tail (.tail .head))) | exact .tail (.tail (.tail (.tail (.tail .head)))) | exact .tail (.tail (.tail (.tail (.tail (.tail .head)))))) (by first | assumption | exact Cs.take rfl) (RVs.tmp rfl RVs.nil)) rfl ?_)
  refine ⟨?_, H.fr⟩
  congr 1
  rw [decide_eq_decide]
  rcases fidx_cases (fun i => decide (p = xs.getD i 0)) xs.length with ⟨i, h1, h2, _, h4⟩ | ⟨h1, h2⟩
  · rw [h4]
    have : xs.getD i 0 = xs[i] := by simp [h1]
    simp only [decide_eq_true_eq, this] at h2
    exact ⟨fun _ => h2 ▸ List.getElem_mem _, fun _ => by omega⟩
  · rw [h2]
    refine ⟨fun h => by omega, fun h => ?_⟩
    obtain ⟨i, hi, e⟩ := List.getElem_of_mem h
    have := h1 i hi
    simp [hi, e] at this

theorem indexFunc_int (w : World) (v : Value) (xs : List Int) (g : Nat) (caps : List Value) (p : Int → Bool) (hv : Ints w v xs) (hok : callOK env.P g = true)
    (hf : ∀ x ∈ xs, ∀ w', Fr w w' [] → Fn env.P g (.int .i64 x :: caps) w' fun v w'' => v = .bool (p x) ∧ Fr w' w'' []) :
    Fn env.P 61 [v, .func (.func g) #[] caps.toArray] w fun v w' => v = .int .i64 (fidx (fun i => p (xs.getD i 0)) xs.length) ∧ Fr w w' [] := by
  obtain ⟨a, cap, b, off, cs, T, fz, rfl, h2, h3, h4, h5⟩ := hv
  have H := Holds.start w []
  have HF := Try.func61; refine Fn.enter Try.func61 Try.ntmps61 rfl rfl rfl ?_
  refine Run.seq ?_
  (refine Run.region ?_; intro K hK)
  refine Ops.pure H (X.assign rfl) rfl rfl rfl ?_
  (refine Ops.nil (hK _ _ ?_); clear hK K)
  refine Run.seq ?_
  refine Run.seq ?_
  (refine Run.region ?_; intro K hK)
  refine Ops.pure H (X.move rfl) rfl rfl rfl ?_
  refine Ops.pure H (X.len_slice rfl rfl rfl) rfl rfl rfl ?_
  refine Ops.pure H (X.move rfl) rfl rfl rfl ?_
  (refine Ops.nil (hK _ _ ?_); clear hK K)
  refine Run.block ?_
  refine Run.rounds (fun (x : Nat) => [(0, .slice a xs.length cap), (1, .func (.func g) #[] caps.toArray), (7, .int .i64 (xs.length : Nat)), (8, .int .i64 (x : Nat))]) (fun x w' => Fr w w' [] ∧ ∀ j, j < x → p (xs.getD j 0) = false) (fun x => xs.length - x) 0 (by repeat (first | exact trivial | refine ⟨rfl, ?_⟩)) ⟨Fr.refl _ _, by intro j hj; omega⟩ ?_
  rintro x w1 ⟨hfr, hx⟩ IH
  replace H := H.ext hfr
  by_cases hlt : x < xs.length
  · obtain ⟨rfl, hb⟩ := h4 (by omega)
    replace H := H.add false (hfr.get hb (by simp)) (by simp) (by simp)
    have hc := h5.at1 hlt
    refine Run.seq ?_
    (refine Run.region ?_; intro K hK)
    refine Ops.pure H (X.cmp rfl rfl rfl) rfl rfl rfl ?_
    (refine Ops.nil (hK _ _ ?_); clear hK K)
    refine Run.seq ?_
    refine Run.cond_dec rfl (fun h9 => ?x3) (fun h9 => ?y3)
    case' y3 => exfalso; omega
    case' x3 =>
      refine Run.skip ?_
      refine Run.seq ?_
      refine Run.block ?_
      refine Run.seq ?_
      (refine Run.region ?_; intro K hK)
      refine Ops.pure H (X.move rfl) rfl rfl rfl ?_
      refine Ops.pure H (X.assign rfl) rfl rfl rfl ?_
      (refine Ops.nil (hK _ _ ?_); clear hK K)
      refine Run.seq ?_
      (refine Run.region ?_; intro K hK)
      refine Ops.pure H (X.move rfl) rfl rfl rfl ?_
      refine Ops.pure H (X.move rfl) rfl rfl rfl ?_
      refine Ops.pure H (X.move rfl) rfl rfl rfl ?_
      refine Ops.pure H (X.indexAddr rfl rfl (by omega) rfl rfl rfl rfl) rfl rfl rfl ?_
      refine Ops.pure H (X.load1 rfl rfl rfl rfl Pick.head (by assumption)) rfl rfl rfl ?_
    refine Ops.eff rfl (Y.call rfl rfl (by first | assumption | decide +kernel) rfl (hf xs[x] (List.getElem_mem _) _ hfr) rfl ?_)
    rintro v w2 ⟨rfl, hf2⟩
    replace H := H.ext hf2
    cases hp : p xs[x]
    · (refine Ops.nil (hK _ _ ?_); clear hK K)
      refine Run.cond_false rfl ?_
      refine Run.skip ?_
      refine Run.inBlock ?_
      (refine Run.region ?_; intro K hK)
      refine Ops.pure H (X.succ rfl rfl (by omega)) rfl rfl rfl ?_
      refine Ops.pure H (X.move rfl) rfl rfl rfl ?_
      (refine Ops.nil (hK _ _ ?_); clear hK K)
      refine (IH (x + 1) _ (by omega) ⟨hfr.then hf2, fun j hj => ?_⟩).weak (by repeat (first | exact trivial | refine ⟨rfl, ?_⟩))
      rcases Nat.lt_succ_iff_lt_or_eq.1 hj with h | rfl
      · exact hx j h
      · simpa [hlt] using hp
    · (refine Ops.nil (hK _ _ ?_); clear hK K)
      refine Run.cond_true rfl ?_
      refine Run.seq ?_
      (refine Run.region ?_; intro K hK)
      refine Ops.pure H (X.move rfl) rfl rfl rfl ?_
      refine Ops.pure H (X.assign rfl) rfl rfl rfl ?_
      (refine Ops.nil (hK _ _ ?_); clear hK K)
      (first | refine Fn.ret1 HF rfl rfl ?_ | refine Fn.ret2 HF rfl rfl rfl ?_ | refine Fn.ret3 HF rfl rfl rfl rfl ?_ | refine Fn.ret0 HF rfl ?_ | refine Fn.fin0 HF rfl ?_ | refine Fn.retG (E := env) HF rfl H (by first | exact RVs.cellN rfl rfl rfl (by first | exact .head | exact .tail .head | exact .tail (.tail .head) | exact .tail (.tail (.tail .head)) | exact .tail (.tail (.tail (.tail .head))) | exact .tail (.tail (.tail (.tail (.tail .head)))) | exact .tail (.tail (.tail (.tail (.tail (.tail .head)))))) (by first | assumption | exact Cs.take rfl) RVs.nil | exact RVs.cellN rfl rfl rfl (by first | exact .head | exact .tail .head | exact .tail (.tail .head) | exact .tail (.tail (.tail .head)) | exact .tail (.tail (.tail (.tail .head))) | exact .tail (.tail (.tail (.tail (.tail .head)))) | exact .tail (.tail (.tail (.tail (.tail (.tail .head)))))) (by first | assumption | exact Cs.take rfl) (RVs.tmp rfl RVs.nil)) rfl ?_)
      exact ⟨by rw [fidx_some hlt (by simpa [hlt] using hp) hx], H.fr⟩
  · refine Run.seq ?_
    (refine Run.region ?_; intro K hK)
    refine Ops.pure H (X.cmp rfl rfl rfl) rfl rfl rfl ?_
    (refine Ops.nil (hK _ _ ?_); clear hK K)
    refine Run.seq ?_
    refine Run.cond_dec rfl (fun h9 => ?x4) (fun h9 => ?y4)
    case' y4 =>
      refine Run.exit rfl ?_
      refine Run.seq ?_
      (refine Run.region ?_; intro K hK)
      refine Ops.pure H (X.assign rfl) rfl rfl rfl ?_
      (refine Ops.nil (hK _ _ ?_); clear hK K)
    case' x4 => exfalso; omega
    (first | refine Fn.ret1 HF rfl rfl ?_ | refine Fn.ret2 HF rfl rfl rfl ?_ | refine Fn.ret3 HF rfl rfl rfl rfl ?_ | refine Fn.ret0 HF rfl ?_ | refine Fn.fin0 HF rfl ?_ | refine Fn.retG (E := env) HF rfl H (by first | exact RVs.cellN rfl rfl rfl (by first | exact .head | exact .tail .head | exact .tail (.tail .head) | exact .tail (.tail (.tail .head)) | exact .tail (.tail (.tail (.tail .head))) | exact .tail (.tail (.tail (.tail (.tail .head)))) | exact .tail (.tail (.tail (.tail (.tail (.tail .head)))))) (by first | assumption | exact Cs.take rfl) RVs.nil | exact RVs.cellN rfl rfl rfl (by first | exact .head | exact .tail .head | exact .tail (.tail .head) | exact .tail (.tail (.tail .head)) | exact .tail (.tail (.tail (.tail .head))) | exact .tail (.tail (.tail (.tail (.tail .head)))) | exact .tail (.tail (.tail (.tail (.tail (.tail .head)))))) (by first | assumption | exact Cs.take rfl) (RVs.tmp rfl RVs.nil)) rfl ?_)
    exact ⟨by rw [fidx_none (fun j hj => hx j (by omega))], H.fr⟩

theorem containsFunc_int (w : World) (v : Value) (xs : List Int) (g : Nat) (caps : List Value) (p : Int → Bool) (hv : Ints w v xs) (hok : callOK env.P g = true)
    (hf : ∀ x ∈ xs, ∀ w', Fr w w' [] → Fn env.P g (.int .i64 x :: caps) w' fun v w'' => v = .bool (p x) ∧ Fr w' w'' []) :
    Fn env.P 49 [v, .func (.func g) #[] caps.toArray] w fun v w' => v = .bool (xs.any p) ∧ Fr w w' [] := by
  have H := Holds.start w []
  have HF := Try.func49; refine Fn.enter Try.func49 Try.ntmps49 rfl rfl rfl ?_
  refine Run.seq ?_
  (refine Run.region ?_; intro K hK)
  refine Ops.pure H (X.assign rfl) rfl rfl rfl ?_
  (refine Ops.nil (hK _ _ ?_); clear hK K)
  refine Run.seq ?_
  (refine Run.region ?_; intro K hK)
  refine Ops.pure H (X.move rfl) rfl rfl rfl ?_
  refine Ops.pure H (X.move rfl) rfl rfl rfl ?_
  refine Ops.eff rfl (Y.call rfl rfl (by first | assumption | decide +kernel) rfl (indexFunc_int _ _ _ _ _ p hv hok hf) rfl ?_)
  rintro v w2 ⟨rfl, hf⟩
  replace H := H.ext hf
  refine Ops.pure H (X.cmp rfl rfl rfl) rfl rfl rfl ?_
  refine Ops.pure H (X.assign rfl) rfl rfl rfl ?_
  (refine Ops.nil (hK _ _ ?_); clear hK K)
  (first | refine Fn.ret1 HF rfl rfl ?_ | refine Fn.ret2 HF rfl rfl rfl ?_ | refine Fn.ret3 HF rfl rfl rfl rfl ?_ | refine Fn.ret0 HF rfl ?_ | refine Fn.fin0 HF rfl ?_ | refine Fn.retG (E := env) HF rfl H (by first | exact RVs.cellN rfl rfl rfl (by first | exact .head | exact .tail .head | exact .tail (.tail .head) | exact .tail (.tail (.tail .head)) | exact .tail (.tail (.tail (.tail .head))) | exact .tail (.tail (.tail (.tail (.tail .head)))) | exact .tail (.tail (.tail (.tail (.tail (.tail .head)))))) (by first | assumption | exact Cs.take rfl) RVs.nil | exact RVs.cellN rfl rfl rfl (by first | exact .head | exact .tail .head | exact .tail (.tail .head) | exact .tail (.tail (.tail .head)) | exact .tail (.tail (.tail (.tail .head))) | exact .tail (.tail (.tail (.tail (.tail .head)))) | exact .tail (.tail (.tail (.tail (.tail (.tail .head)))))) (by first | assumption | exact Cs.take rfl) (RVs.tmp rfl RVs.nil)) rfl ?_)
  refine ⟨?_, H.fr⟩
  congr 1
  rw [Bool.eq_iff_iff]
  simp only [decide_eq_true_eq, List.any_eq_true]
  rcases fidx_cases (fun i => p (xs.getD i 0)) xs.length with ⟨i, h1, h2, _, h4⟩ | ⟨h1, h2⟩
  · rw [h4]
    have : xs.getD i 0 = xs[i] := by simp [h1]
    rw [this] at h2
    exact ⟨fun _ => ⟨_, List.getElem_mem _, h2⟩, fun _ => by omega⟩
  · rw [h2]
    refine ⟨fun h => by omega, ?_⟩
    rintro ⟨y, h, hy⟩
    obtain ⟨i, hi, e⟩ := List.getElem_of_mem h
    have := h1 i hi
    simp [hi, e, hy] at this

/-- The tickets' searches: R i: the cells of ticket i. -/
theorem indexFunc_tk (w : World) (a : Option Addr) (n cap b : Nat) (cs : List Value) (R : Nat → List Value) (g : Nat) (caps : List Value) (p : Nat → Bool) (hn : n ≤ 9223372036854775807) (hm : 0 < n → a = some ⟨b, 0, none⟩ ∧ w.heap[b]? = some (row cs 56))
    (hr : ∀ i, i < n → Cs cs (0 + i * 4) 4 (R i)) (hok : callOK env.P g = true)
    (hf : ∀ i, i < n → ∀ w', Fr w w' [] → Fn env.P g (.agg (R i).toArray :: caps) w' fun v w'' => v = .bool (p i) ∧ Fr w' w'' []) :
    Fn env.P 46 [.slice a n cap, .func (.func g) #[] caps.toArray] w fun v w' => v = .int .i64 (fidx p n) ∧ Fr w w' [] := by
  have H := Holds.start w []
  have HF := Try.func46; refine Fn.enter Try.func46 Try.ntmps46 rfl rfl rfl ?_
  refine Run.seq ?_
  (refine Run.region ?_; intro K hK)
  refine Ops.pure H (X.assign rfl) rfl rfl rfl ?_
  (refine Ops.nil (hK _ _ ?_); clear hK K)
  refine Run.seq ?_
  refine Run.seq ?_
  (refine Run.region ?_; intro K hK)
  refine Ops.pure H (X.move rfl) rfl rfl rfl ?_
  refine Ops.pure H (X.len_slice rfl rfl rfl) rfl rfl rfl ?_
  refine Ops.pure H (X.move rfl) rfl rfl rfl ?_
  (refine Ops.nil (hK _ _ ?_); clear hK K)
  refine Run.block ?_
  refine Run.rounds (fun (x : Nat) => [(0, .slice a n cap), (1, .func (.func g) #[] caps.toArray), (7, .int .i64 (n : Nat)), (8, .int .i64 (x : Nat))]) (fun x w' => Fr w w' [] ∧ ∀ j, j < x → p j = false) (fun x => n - x) 0 (by repeat (first | exact trivial | refine ⟨rfl, ?_⟩)) ⟨Fr.refl _ _, by intro j hj; omega⟩ ?_
  rintro x w1 ⟨hfr, hx⟩ IH
  replace H := H.ext hfr
  by_cases hlt : x < n
  · obtain ⟨rfl, hb⟩ := hm (by omega)
    replace H := H.add false (hfr.get hb (by simp)) (by simp) (by simp)
    have hc := hr x hlt
    refine Run.seq ?_
    (refine Run.region ?_; intro K hK)
    refine Ops.pure H (X.cmp rfl rfl rfl) rfl rfl rfl ?_
    (refine Ops.nil (hK _ _ ?_); clear hK K)
    refine Run.seq ?_
    refine Run.cond_dec rfl (fun h9 => ?x5) (fun h9 => ?y5)
    case' y5 => exfalso; omega
    case' x5 =>
      refine Run.skip ?_
      refine Run.seq ?_
      refine Run.block ?_
      refine Run.seq ?_
      (refine Run.region ?_; intro K hK)
      refine Ops.pure H (X.move rfl) rfl rfl rfl ?_
      refine Ops.pure H (X.assign rfl) rfl rfl rfl ?_
      (refine Ops.nil (hK _ _ ?_); clear hK K)
      refine Run.seq ?_
      (refine Run.region ?_; intro K hK)
      refine Ops.pure H (X.move rfl) rfl rfl rfl ?_
      refine Ops.pure H (X.move rfl) rfl rfl rfl ?_
      refine Ops.pure H (X.move rfl) rfl rfl rfl ?_
      refine Ops.pure H (X.indexAddr rfl rfl (by omega) rfl rfl rfl rfl) rfl rfl rfl ?_
      refine Ops.pure H (X.loadN rfl rfl rfl Pick.head (by assumption)) rfl rfl rfl ?_
    refine Ops.eff rfl (Y.call rfl rfl (by first | assumption | decide +kernel) rfl (hf x hlt _ hfr) rfl ?_)
    rintro v w2 ⟨rfl, hf2⟩
    replace H := H.ext hf2
    cases hp : p x
    · (refine Ops.nil (hK _ _ ?_); clear hK K)
      refine Run.cond_false rfl ?_
      refine Run.skip ?_
      refine Run.inBlock ?_
      (refine Run.region ?_; intro K hK)
      refine Ops.pure H (X.succ rfl rfl (by omega)) rfl rfl rfl ?_
      refine Ops.pure H (X.move rfl) rfl rfl rfl ?_
      (refine Ops.nil (hK _ _ ?_); clear hK K)
      refine (IH (x + 1) _ (by omega) ⟨hfr.then hf2, fun j hj => ?_⟩).weak (by repeat (first | exact trivial | refine ⟨rfl, ?_⟩))
      rcases Nat.lt_succ_iff_lt_or_eq.1 hj with h | rfl
      · exact hx j h
      · exact hp
    · (refine Ops.nil (hK _ _ ?_); clear hK K)
      refine Run.cond_true rfl ?_
      refine Run.seq ?_
      (refine Run.region ?_; intro K hK)
      refine Ops.pure H (X.move rfl) rfl rfl rfl ?_
      refine Ops.pure H (X.assign rfl) rfl rfl rfl ?_
      (refine Ops.nil (hK _ _ ?_); clear hK K)
      (first | refine Fn.ret1 HF rfl rfl ?_ | refine Fn.ret2 HF rfl rfl rfl ?_ | refine Fn.ret3 HF rfl rfl rfl rfl ?_ | refine Fn.ret0 HF rfl ?_ | refine Fn.fin0 HF rfl ?_ | refine Fn.retG (E := env) HF rfl H (by first | exact RVs.cellN rfl rfl rfl (by first | exact .head | exact .tail .head | exact .tail (.tail .head) | exact .tail (.tail (.tail .head)) | exact .tail (.tail (.tail (.tail .head))) | exact .tail (.tail (.tail (.tail (.tail .head)))) | exact .tail (.tail (.tail (.tail (.tail (.tail .head)))))) (by first | assumption | exact Cs.take rfl) RVs.nil | exact RVs.cellN rfl rfl rfl (by first | exact .head | exact .tail .head | exact .tail (.tail .head) | exact .tail (.tail (.tail .head)) | exact .tail (.tail (.tail (.tail .head))) | exact .tail (.tail (.tail (.tail (.tail .head)))) | exact .tail (.tail (.tail (.tail (.tail (.tail .head)))))) (by first | assumption | exact Cs.take rfl) (RVs.tmp rfl RVs.nil)) rfl ?_)
      exact ⟨by rw [fidx_some hlt hp hx], H.fr⟩
  · refine Run.seq ?_
    (refine Run.region ?_; intro K hK)
    refine Ops.pure H (X.cmp rfl rfl rfl) rfl rfl rfl ?_
    (refine Ops.nil (hK _ _ ?_); clear hK K)
    refine Run.seq ?_
    refine Run.cond_dec rfl (fun h9 => ?x6) (fun h9 => ?y6)
    case' y6 =>
      refine Run.exit rfl ?_
      refine Run.seq ?_
      (refine Run.region ?_; intro K hK)
      refine Ops.pure H (X.assign rfl) rfl rfl rfl ?_
      (refine Ops.nil (hK _ _ ?_); clear hK K)
    case' x6 => exfalso; omega
    (first | refine Fn.ret1 HF rfl rfl ?_ | refine Fn.ret2 HF rfl rfl rfl ?_ | refine Fn.ret3 HF rfl rfl rfl rfl ?_ | refine Fn.ret0 HF rfl ?_ | refine Fn.fin0 HF rfl ?_ | refine Fn.retG (E := env) HF rfl H (by first | exact RVs.cellN rfl rfl rfl (by first | exact .head | exact .tail .head | exact .tail (.tail .head) | exact .tail (.tail (.tail .head)) | exact .tail (.tail (.tail (.tail .head))) | exact .tail (.tail (.tail (.tail (.tail .head)))) | exact .tail (.tail (.tail (.tail (.tail (.tail .head)))))) (by first | assumption | exact Cs.take rfl) RVs.nil | exact RVs.cellN rfl rfl rfl (by first | exact .head | exact .tail .head | exact .tail (.tail .head) | exact .tail (.tail (.tail .head)) | exact .tail (.tail (.tail (.tail .head))) | exact .tail (.tail (.tail (.tail (.tail .head)))) | exact .tail (.tail (.tail (.tail (.tail (.tail .head)))))) (by first | assumption | exact Cs.take rfl) (RVs.tmp rfl RVs.nil)) rfl ?_)
    exact ⟨by rw [fidx_none (fun j hj => hx j (by omega))], H.fr⟩

theorem containsFunc_tk (w : World) (a : Option Addr) (n cap b : Nat) (cs : List Value) (R : Nat → List Value) (g : Nat) (caps : List Value) (p : Nat → Bool) (hn : n ≤ 9223372036854775807) (hm : 0 < n → a = some ⟨b, 0, none⟩ ∧ w.heap[b]? = some (row cs 56))
    (hr : ∀ i, i < n → Cs cs (0 + i * 4) 4 (R i)) (hok : callOK env.P g = true)
    (hf : ∀ i, i < n → ∀ w', Fr w w' [] → Fn env.P g (.agg (R i).toArray :: caps) w' fun v w'' => v = .bool (p i) ∧ Fr w' w'' []) :
    Fn env.P 28 [.slice a n cap, .func (.func g) #[] caps.toArray] w fun v w' => v = .bool (decide (∃ i, i < n ∧ p i = true)) ∧ Fr w w' [] := by
  have H := Holds.start w []
  have HF := Try.func28; refine Fn.enter Try.func28 Try.ntmps28 rfl rfl rfl ?_
  refine Run.seq ?_
  (refine Run.region ?_; intro K hK)
  refine Ops.pure H (X.assign rfl) rfl rfl rfl ?_
  (refine Ops.nil (hK _ _ ?_); clear hK K)
  refine Run.seq ?_
  (refine Run.region ?_; intro K hK)
  refine Ops.pure H (X.move rfl) rfl rfl rfl ?_
  refine Ops.pure H (X.move rfl) rfl rfl rfl ?_
  refine Ops.eff rfl (Y.call rfl rfl (by first | assumption | decide +kernel) rfl (indexFunc_tk _ _ _ _ _ _ _ _ _ p hn hm hr hok hf) rfl ?_)
  rintro v w2 ⟨rfl, hf⟩
  replace H := H.ext hf
  refine Ops.pure H (X.cmp rfl rfl rfl) rfl rfl rfl ?_
  refine Ops.pure H (X.assign rfl) rfl rfl rfl ?_
  (refine Ops.nil (hK _ _ ?_); clear hK K)
  (first | refine Fn.ret1 HF rfl rfl ?_ | refine Fn.ret2 HF rfl rfl rfl ?_ | refine Fn.ret3 HF rfl rfl rfl rfl ?_ | refine Fn.ret0 HF rfl ?_ | refine Fn.fin0 HF rfl ?_ | refine Fn.retG (E := env) HF rfl H (by first | exact RVs.cellN rfl rfl rfl (by first | exact .head | exact .tail .head | exact .tail (.tail .head) | exact .tail (.tail (.tail .head)) | exact .tail (.tail (.tail (.tail .head))) | exact .tail (.tail (.tail (.tail (.tail .head)))) | exact .tail (.tail (.tail (.tail (.tail (.tail .head)))))) (by first | assumption | exact Cs.take rfl) RVs.nil | exact RVs.cellN rfl rfl rfl (by first | exact .head | exact .tail .head | exact .tail (.tail .head) | exact .tail (.tail (.tail .head)) | exact .tail (.tail (.tail (.tail .head))) | exact .tail (.tail (.tail (.tail (.tail .head)))) | exact .tail (.tail (.tail (.tail (.tail (.tail .head)))))) (by first | assumption | exact Cs.take rfl) (RVs.tmp rfl RVs.nil)) rfl ?_)
  refine ⟨?_, H.fr⟩
  congr 1
  rw [decide_eq_decide]
  rcases fidx_cases p n with ⟨i, h1, h2, _, h4⟩ | ⟨h1, h2⟩
  · rw [h4]
    exact ⟨fun _ => ⟨i, h1, h2⟩, fun _ => by omega⟩
  · rw [h2]
    refine ⟨fun h => by omega, ?_⟩
    rintro ⟨i, hi, e⟩
    rw [h1 i hi] at e
    cases e

/-- A slice of numbers (one at least) in a block of its own. -/
def IntsB (w : World) (v : Value) (xs : List Int) (b : Nat) : Prop :=
  ∃ cap cs, v = .slice (some ⟨b, 0, none⟩) xs.length cap ∧ xs.length ≤ cap ∧ cap ≤ 9223372036854775807 ∧ w.heap[b]? = some (row cs 3) ∧ Cs cs 0 xs.length (xs.map (Value.int .i64)) ∧ 0 < xs.length
theorem IntsB.ints {w : World} {v : Value} {xs : List Int} {b : Nat} (h : IntsB w v xs b) : Ints w v xs := by
  obtain ⟨cap, cs, h1, h2, h3, h4, h5, h6⟩ := h
  exact ⟨_, cap, b, 0, cs, 3, (0, 0), h1, h2, h3, fun hp => ⟨rfl, h4⟩, h5⟩
theorem IntsB.keep {w w' : World} {v : Value} {xs : List Int} {b : Nat} {S : List Nat} (h : IntsB w v xs b) (hf : Fr w w' S) (hn : b ∉ S) : IntsB w' v xs b := by
  obtain ⟨cap, cs, h1, h2, h3, h4, h5, h6⟩ := h
  exact ⟨cap, cs, h1, h2, h3, hf.get h4 hn, h5, h6⟩
theorem clone_int (w : World) (v : Value) (xs : List Int) (hv : Ints w v xs) (h0 : 0 < xs.length) (hb : xs.length * 8 ≤ 140737488355328) :
    Fn env.P 47 [v] w fun v w' => ∃ b, IntsB w' v xs b ∧ w.heap.size ≤ b ∧ Fr w w' [] := by
  obtain ⟨a, cap, b, off, cs, T, fz, rfl, h2, h3, h4, h5⟩ := hv
  obtain ⟨rfl, h6⟩ := h4 h0
  have H := (Holds.start w []).add false h6 (by simp) (by simp)
  have HF := Try.func47; refine Fn.enter Try.func47 Try.ntmps47 rfl rfl rfl ?_
  refine Run.seq ?_
  (refine Run.region ?_; intro K hK)
  refine Ops.pure H (X.assign rfl) rfl rfl rfl ?_
  (refine Ops.nil (hK _ _ ?_); clear hK K)
  refine Run.seq ?_
  refine Run.seq ?_
  (refine Run.region ?_; intro K hK)
  refine Ops.pure H (X.move rfl) rfl rfl rfl ?_
  refine Ops.pure H (X.sliceNil rfl rfl rfl rfl rfl) rfl rfl rfl ?_
  (refine Ops.nil (hK _ _ ?_); clear hK K)
  refine Run.cond_false rfl ?_
  refine Run.skip ?_
  refine Run.seq ?_
  (refine Run.region ?_; intro K hK)
  (refine Ops.eff rfl (Y.buildSliceO rfl rfl rfl rfl rfl rfl rfl rfl H ?_); intro b5 w H0 hb5; clear H; have H := H0; clear H0)
  refine Ops.pure H (X.move rfl) rfl rfl rfl ?_
  refine Ops.eff rfl (Y.append_grow (olds := []) (news := xs.map (Value.int .i64)) rfl rfl rfl rfl rfl H (by omega) Src.nil rfl (by simp) (Src.cells H (by first | exact .head | exact .tail .head | exact .tail (.tail .head) | exact .tail (.tail (.tail .head)) | exact .tail (.tail (.tail (.tail .head))) | exact .tail (.tail (.tail (.tail (.tail .head)))) | exact .tail (.tail (.tail (.tail (.tail (.tail .head)))))) h5) rfl (by simp only [Nat.zero_add]; omega) (by omega) rfl ?_)
  intro b7 cap7 sp w H hb7 hc7 hm7 _
  refine Ops.pure H (X.assign rfl) rfl rfl rfl ?_
  (refine Ops.nil (hK _ _ ?_); clear hK K)
  (first | refine Fn.ret1 HF rfl rfl ?_ | refine Fn.ret2 HF rfl rfl rfl ?_ | refine Fn.ret3 HF rfl rfl rfl rfl ?_ | refine Fn.ret0 HF rfl ?_ | refine Fn.fin0 HF rfl ?_ | refine Fn.retG (E := env) HF rfl H (by first | exact RVs.cellN rfl rfl rfl (by first | exact .head | exact .tail .head | exact .tail (.tail .head) | exact .tail (.tail (.tail .head)) | exact .tail (.tail (.tail (.tail .head))) | exact .tail (.tail (.tail (.tail (.tail .head)))) | exact .tail (.tail (.tail (.tail (.tail (.tail .head)))))) (by first | assumption | exact Cs.take rfl) RVs.nil | exact RVs.cellN rfl rfl rfl (by first | exact .head | exact .tail .head | exact .tail (.tail .head) | exact .tail (.tail (.tail .head)) | exact .tail (.tail (.tail (.tail .head))) | exact .tail (.tail (.tail (.tail (.tail .head)))) | exact .tail (.tail (.tail (.tail (.tail (.tail .head)))))) (by first | assumption | exact Cs.take rfl) (RVs.tmp rfl RVs.nil)) rfl ?_)
  refine ⟨b7, ⟨cap7, _, by rw [Nat.zero_add], by omega, hm7, H.at_ _ (List.mem_cons_self ..), (Cs.mid [] _ _).cast rfl (by simp) rfl, h0⟩, hb7, H.fr⟩
end Go.Proofs.Ythidohdnaeboaaa