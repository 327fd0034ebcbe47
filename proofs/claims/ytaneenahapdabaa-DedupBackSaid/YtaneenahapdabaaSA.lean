/- The library's sort, walked: numbers in a row; what an exchange does. No statement of the seat is proved here. -/
import Derived.Test.YtaneenahapdabaaP8
import Derived.Test.YtaneenahapdabaaEngJ
import Derived.Sort.AssemblyPlain
namespace Go.Proofs.Ytaneenahapdabaa
open Go

/-- A row of numbers. -/
structure Ar (w : World) (blk off : Nat) (d : Array Int) (cs : List Value) : Prop where
  hb : w.heap[blk]? = some (row cs 28)
  hl : off + d.size ≤ cs.length
  hc : ∀ i, i < d.size → cs[off + i * 1]? = some (.int .u64 d[i]!)
theorem Ar.keep {w w' : World} {S : List Nat} {blk off : Nat} {d : Array Int} {cs : List Value} (h : Ar w blk off d cs) (hf : Fr w w' S) (hS : blk ∉ S) : Ar w' blk off d cs := ⟨hf.get h.hb hS, h.hl, h.hc⟩
theorem Ar.ext {w w' : World} {blk off : Nat} {d : Array Int} {cs : List Value} (h : Ar w blk off d cs) (hf : Fr w w' []) : Ar w' blk off d cs := h.keep hf (by simp)
theorem Ar.keepH {w w' : World} {S : List Nat} {blk off : Nat} {d : Array Int} {cs : List Value} (h : Ar w blk off d cs) (_ : Fr w w' S) (hb : w'.heap[blk]? = some (row cs 28)) : Ar w' blk off d cs := ⟨hb, h.hl, h.hc⟩
theorem swp_size {d : Array Int} {i j : Nat} : (Sort.swp d i j).size = d.size := by simp [Sort.swp]
theorem swp_get {d : Array Int} {i j k : Nat} (hi : i < d.size) (hj : j < d.size) (hk : k < d.size) : (Sort.swp d i j)[k]! = if k = j then d[i]! else if k = i then d[j]! else d[k]! := by
  unfold Sort.swp
  simp only [Array.getElem!_eq_getD, Array.getD_eq_getD_getElem?, Array.getElem?_setIfInBounds]
  by_cases h1 : k = j
  · subst h1
    simp [hk]
  · rw [if_neg (fun e => h1 e.symm), if_neg h1]
    by_cases h2 : k = i
    · subst h2
      simp [hk, hj]
    · rw [if_neg (fun e => h2 e.symm), if_neg h2]
section
variable {w w' : World} {blk off : Nat} {d : Array Int} {cs : List Value} {i j : Nat}
theorem Ar.swp1 (h : Ar w blk off d cs) (hi : i < d.size) (hj : j < d.size) (hw : w'.heap[blk]? = some (row ((cs.set (off + i * 1) (.int .u64 d[j]!)).set (off + j * 1) (.int .u64 d[i]!)) 28)) :
    Ar w' blk off (Sort.swp d i j) ((cs.set (off + i * 1) (.int .u64 d[j]!)).set (off + j * 1) (.int .u64 d[i]!)) := by
  have hl := h.hl
  refine ⟨hw, by rw [swp_size]; simpa using hl, fun k hk => ?_⟩
  rw [swp_size] at hk
  rw [swp_get hi hj hk, List.getElem?_set, List.getElem?_set]
  by_cases h1 : k = j
  · subst h1
    simp; omega
  · rw [if_neg (by omega), if_neg h1]
    by_cases h2 : k = i
    · subst h2
      simp; omega
    · rw [if_neg (by omega), if_neg h2]
      exact h.hc k hk
theorem Ar.swp2 (h : Ar w blk off d cs) (hi : i < d.size) (hj : j < d.size) (hw : w'.heap[blk]? = some (row ((cs.set (off + j * 1) (.int .u64 d[i]!)).set (off + i * 1) (.int .u64 d[j]!)) 28)) :
    Ar w' blk off (Sort.swp d i j) ((cs.set (off + j * 1) (.int .u64 d[i]!)).set (off + i * 1) (.int .u64 d[j]!)) := by
  have e : Sort.swp d i j = Sort.swp d j i := by
    refine Array.ext (by simp [swp_size]) fun k h1 h2 => ?_
    rw [swp_size] at h1
    have a1 := swp_get hi hj h1
    have a2 := swp_get hj hi h1
    rw [getElem!_pos _ _ (by rw [swp_size]; exact h1)] at a1 a2
    rw [a1, a2]
    split <;> split <;> simp_all
  rw [e]
  exact h.swp1 hj hi hw
end
set_option maxRecDepth 20000
set_option maxHeartbeats 2000000
attribute [local irreducible] Run Ops Fn Draw Draw2 PureOp StepZ
abbrev ltU : Int → Int → Bool := fun x y => decide (x < y)
theorem ins_any (z : World) (blk off cap : Nat) (d : Array Int) (cs : List Value) (a b : Nat) (h : Ar z blk off d cs) (hab : a ≤ b) (hb : b ≤ d.size) (hm : d.size ≤ 4611686018427387903) :
    Fn env.P 66 [.slice (some ⟨blk, off, none⟩) d.size cap, .int .i64 (a : Nat), .int .i64 (b : Nat)] z fun _ w' => ∃ cs', Ar w' blk off (Sort.insertionSort ltU d a b) cs' ∧ Fr z w' [blk] := by
  have H := Holds.start z []
  have HF := Try.func66; refine Fn.enter Try.func66 Try.ntmps66 rfl rfl rfl ?_
  refine Run.seq ?_
  (refine Run.region ?_; intro K hK)
  refine Ops.pure H (X.move rfl) rfl rfl rfl ?_
  refine Ops.pure H (X.succ rfl rfl (by omega)) rfl rfl rfl ?_
  refine Ops.pure H (X.assign rfl) rfl rfl rfl ?_
  (refine Ops.nil (hK _ _ ?_); clear hK K)
  refine Run.block ?_
  refine Run.rounds (fun (i : Nat) => [(0, .slice (some ⟨blk, off, none⟩) d.size cap), (1, .int .i64 (a : Nat)), (2, .int .i64 (b : Nat)), (6, .int .i64 (i : Nat))])
    (fun i w' => a < i ∧ ∃ (d' : Array Int) (cs' : List Value), d'.size = d.size ∧ Ar w' blk off d' cs' ∧ Sort.insOuter ltU a b i d' = Sort.insertionSort ltU d a b ∧ Fr z w' [blk]) (fun i => b - i) (a + 1) (by repeat (first | exact trivial | refine ⟨rfl, ?_⟩)) ⟨by omega, d, cs, rfl, h, rfl, Fr.refl _ _⟩ ?_
  clear H
  rintro i w1 ⟨hi, d1, cs1, hs1, h1, he1, hf1⟩ IH
  by_cases hib : i < b
  · rw [Sort.insOuter, if_pos hib] at he1
    have H := Holds.start w1 []
    refine Run.seq ?_
    refine Run.seq ?_
    (refine Run.region ?_; intro K hK)
    refine Ops.pure H (X.move rfl) rfl rfl rfl ?_
    refine Ops.pure H (X.move rfl) rfl rfl rfl ?_
    refine Ops.pure H (X.cmp rfl rfl rfl) rfl rfl rfl ?_
    (refine Ops.nil (hK _ _ ?_); clear hK K)
    refine Run.cond_dec rfl (fun h12 => ?x0) (fun h12 => ?y0)
    case' y0 => exfalso; omega
    case' x0 =>
      refine Run.skip ?_
      refine Run.seq ?_
      refine Run.block ?_
      refine Run.seq ?_
      (refine Run.region ?_; intro K hK)
      refine Ops.pure H (X.move rfl) rfl rfl rfl ?_
      refine Ops.pure H (X.assign rfl) rfl rfl rfl ?_
      (refine Ops.nil (hK _ _ ?_); clear hK K)
      refine Run.block ?_
    refine Run.rounds (fun (j : Nat) => [(0, .slice (some ⟨blk, off, none⟩) d.size cap), (1, .int .i64 (a : Nat)), (2, .int .i64 (b : Nat)), (6, .int .i64 (i : Nat)), (7, .int .i64 (j : Nat))])
      (fun j w' => j ≤ i ∧ a ≤ j ∧ ∃ (d' : Array Int) (cs' : List Value), d'.size = d.size ∧ Ar w' blk off d' cs' ∧ Sort.insInner ltU a j d' = Sort.insInner ltU a i d1 ∧ Fr z w' [blk]) (fun j => j) i (by repeat (first | exact trivial | refine ⟨rfl, ?_⟩)) ⟨by omega, by omega, d1, cs1, hs1, h1, rfl, hf1⟩ ?_
    clear H
    rintro j w2 ⟨hj, haj, d2, cs2, hs2, h2, he2, hf2⟩ IH2
    by_cases hja : a < j
    · obtain ⟨q, rfl⟩ : ∃ q, j = q + 1 := ⟨j - 1, by omega⟩
      have c1 := h2.hc (q + 1) (by omega)
      have c2 := h2.hc q (by omega)
      have hl2 := h2.hl
      have H := (Holds.start w2 [blk]).add true h2.hb (by simp) (by simp)
      refine Run.seq ?_
      refine Run.seq ?_
      (refine Run.draw H [13] [0, 1, 2, 3, 4, 5, 6, 7, 8, 9, 10, 11, 12, 13, 14] ?_; clear H; intro K hK w H)
      refine Draw.take0 rfl (X.move rfl) rfl rfl rfl (by decide +kernel) ?_
      refine Draw.take0 rfl (X.move rfl) rfl rfl rfl (by decide +kernel) ?_
      refine Draw.take0 rfl (X.cmp rfl rfl rfl) rfl rfl rfl (by decide +kernel) ?_
      refine Draw.take0 rfl (X.move rfl) rfl rfl rfl (by decide +kernel) ?_
      refine Draw.split_dec rfl rfl rfl (fun h20 => ?x1) (fun h20 => ?y1)
      case' y1 => exfalso; omega
      case' x1 =>
        refine Draw.take0 rfl (X.move rfl) rfl rfl rfl (by decide +kernel) ?_
        refine Draw.take0 rfl (X.move rfl) rfl rfl rfl (by decide +kernel) ?_
        refine Draw.take0 rfl (X.indexAddr rfl rfl (by omega) rfl rfl rfl rfl) rfl rfl rfl (by decide +kernel) ?_
        refine Draw.take rfl (X.load1 rfl rfl rfl rfl Pick.head (by assumption)) rfl rfl rfl (by decide +kernel) ?_
        refine Draw.take0 rfl (X.move rfl) rfl rfl rfl (by decide +kernel) ?_
        refine Draw.take0 rfl (X.move rfl) rfl rfl rfl (by decide +kernel) ?_
        refine Draw.take0 rfl (X.pred rfl rfl (by omega)) rfl rfl rfl (by decide +kernel) ?_
        refine Draw.take0 rfl (X.indexAddr rfl rfl (by omega) rfl rfl rfl rfl) rfl rfl rfl (by decide +kernel) ?_
        refine Draw.take rfl (X.load1 rfl rfl rfl rfl Pick.head (by assumption)) rfl rfl rfl (by decide +kernel) ?_
      refine Draw.last rfl rfl (by decide +kernel) (Y.call rfl rfl (by first | assumption | decide +kernel) rfl (less_any _ d2[q + 1]! d2[q]!) rfl ?_)
      rintro v w3 ⟨rfl, rfl⟩
      refine Draw2.take rfl (X.pick_t rfl rfl) rfl rfl rfl (by decide +kernel) ?_
      (refine Draw2.done (by decide +kernel) (hK _ _ ?_); clear hK K)
      refine Run.cond_dec rfl (fun h30 => ?x2) (fun h30 => ?y2)
      case' y2 =>
        refine Run.exit rfl ?_
        refine Run.inBlock ?_
        (refine Run.region ?_; intro K hK)
        refine Ops.pure H (X.move rfl) rfl rfl rfl ?_
        refine Ops.pure H (X.succ rfl rfl (by omega)) rfl rfl rfl ?_
        refine Ops.pure H (X.assign rfl) rfl rfl rfl ?_
        (refine Ops.nil (hK _ _ ?_); clear hK K)
      case' x2 =>
        refine Run.skip ?_
        refine Run.seq ?_
        refine Run.block ?_
        (refine Run.draw H [15, 17] [0, 1, 2, 3, 4, 5, 6, 7, 8, 9, 10, 11, 12, 13, 14, 15, 16, 17] ?_; clear H; intro K hK w H)
        refine Draw.take0 rfl (X.move rfl) rfl rfl rfl (by decide +kernel) ?_
        refine Draw.take0 rfl (X.move rfl) rfl rfl rfl (by decide +kernel) ?_
        refine Draw.take0 rfl (X.move rfl) rfl rfl rfl (by decide +kernel) ?_
        refine Draw.take0 rfl (X.move rfl) rfl rfl rfl (by decide +kernel) ?_
        refine Draw.take0 rfl (X.pred rfl rfl (by omega)) rfl rfl rfl (by decide +kernel) ?_
        refine Draw.take0 rfl (X.move rfl) rfl rfl rfl (by decide +kernel) ?_
        refine Draw.take0 rfl (X.move rfl) rfl rfl rfl (by decide +kernel) ?_
        refine Draw.take0 rfl (X.pred rfl rfl (by omega)) rfl rfl rfl (by decide +kernel) ?_
        refine Draw.take0 rfl (X.indexAddr rfl rfl (by omega) rfl rfl rfl rfl) rfl rfl rfl (by decide +kernel) ?_
        refine Draw.take rfl (X.load1 rfl rfl rfl rfl Pick.head (by assumption)) rfl rfl rfl (by decide +kernel) ?_
        refine Draw.take0 rfl (X.move rfl) rfl rfl rfl (by decide +kernel) ?_
        refine Draw.take0 rfl (X.move rfl) rfl rfl rfl (by decide +kernel) ?_
        refine Draw.take0 rfl (X.indexAddr rfl rfl (by omega) rfl rfl rfl rfl) rfl rfl rfl (by decide +kernel) ?_
        refine Draw.take rfl (X.load1 rfl rfl rfl rfl Pick.head (by assumption)) rfl rfl rfl (by decide +kernel) ?_
        refine Draw.take0 rfl (X.indexAddr rfl rfl (by omega) rfl rfl rfl rfl) rfl rfl rfl (by decide +kernel) ?_
        (refine Draw.last rfl rfl (by decide +kernel) (Y.storeI rfl rfl rfl rfl rfl rfl H Upd.head (by first | omega | (simp only [List.length_set]; omega)) ?_); intro w H0; clear H; have H := H0; clear H0)
        refine Draw2.take rfl (X.indexAddr rfl rfl (by omega) rfl rfl rfl rfl) rfl rfl rfl (by decide +kernel) ?_
        (refine Draw2.eff rfl rfl (by decide +kernel) (Y.storeI rfl rfl rfl rfl rfl rfl H Upd.head (by first | omega | (simp only [List.length_set]; omega)) ?_); intro w H0; clear H; have H := H0; clear H0)
        (refine Draw2.done (by decide +kernel) (hK _ _ ?_); clear hK K)
        refine Run.inBlock ?_
        (refine Run.region ?_; intro K hK)
        refine Ops.pure H (X.move rfl) rfl rfl rfl ?_
        refine Ops.pure H (X.pred rfl rfl (by omega)) rfl rfl rfl ?_
        refine Ops.pure H (X.assign rfl) rfl rfl rfl ?_
        (refine Ops.nil (hK _ _ ?_); clear hK K)
      · have h3 := h2.swp1 (i := q + 1) (j := q) (by omega) (by omega) (H.pick .head)
        refine (IH2 q _ (by omega) ⟨by omega, by omega, Sort.swp d2 (q + 1) q, _, by rw [swp_size]; exact hs2, h3, ?_, hf2.trans H.fr (by simp) (by simp)⟩).weak (by repeat (first | exact trivial | refine ⟨rfl, ?_⟩))
        rw [← he2, Sort.insInner, if_pos (by simp [ltU]; exact ⟨hja, by assumption⟩)]
      · refine (IH (i + 1) _ (by omega) ⟨by omega, d2, cs2, hs2, h2.keepH H.fr (H.pick .head), ?_, hf2.trans H.fr (by simp) (by simp)⟩).weak (by repeat (first | exact trivial | refine ⟨rfl, ?_⟩))
        rw [← he1, ← he2, Sort.insInner, if_neg (by simp [ltU]; intro _; omega)]
    · obtain rfl : j = a := by omega
      have H := (Holds.start w2 []).add false h2.hb (by simp) (by simp)
      refine Run.seq ?_
      refine Run.seq ?_
      (refine Run.draw H [13] [0, 1, 2, 3, 4, 5, 6, 7, 8, 9, 10, 11, 12, 13, 14] ?_; clear H; intro K hK w H)
      refine Draw.take0 rfl (X.move rfl) rfl rfl rfl (by decide +kernel) ?_
      refine Draw.take0 rfl (X.move rfl) rfl rfl rfl (by decide +kernel) ?_
      refine Draw.take0 rfl (X.cmp rfl rfl rfl) rfl rfl rfl (by decide +kernel) ?_
      refine Draw.take0 rfl (X.move rfl) rfl rfl rfl (by decide +kernel) ?_
      refine Draw.split_dec rfl rfl rfl (fun h20 => ?x3) (fun h20 => ?y3)
      case' y3 =>
        refine Draw.pass rfl rfl rfl rfl (by decide +kernel) ?_
        refine Draw.pass rfl rfl rfl rfl (by decide +kernel) ?_
        refine Draw.pass rfl rfl rfl rfl (by decide +kernel) ?_
        refine Draw.pass rfl rfl rfl rfl (by decide +kernel) ?_
        refine Draw.pass rfl rfl rfl rfl (by decide +kernel) ?_
        refine Draw.pass rfl rfl rfl rfl (by decide +kernel) ?_
        refine Draw.pass rfl rfl rfl rfl (by decide +kernel) ?_
        refine Draw.pass rfl rfl rfl rfl (by decide +kernel) ?_
        refine Draw.pass rfl rfl rfl rfl (by decide +kernel) ?_
        refine Draw.passL rfl rfl rfl rfl (by decide +kernel) ?_
        refine Draw2.take rfl (X.pick_f rfl rfl) rfl rfl rfl (by decide +kernel) ?_
        (refine Draw2.done (by decide +kernel) (hK _ _ ?_); clear hK K)
        refine Run.cond_false rfl ?_
        refine Run.exit rfl ?_
        refine Run.inBlock ?_
        (refine Run.region ?_; intro K hK)
        refine Ops.pure H (X.move rfl) rfl rfl rfl ?_
        refine Ops.pure H (X.succ rfl rfl (by omega)) rfl rfl rfl ?_
        refine Ops.pure H (X.assign rfl) rfl rfl rfl ?_
        (refine Ops.nil (hK _ _ ?_); clear hK K)
      case' x3 => exfalso; omega
      refine (IH (i + 1) _ (by omega) ⟨by omega, d2, cs2, hs2, h2.ext H.fr, ?_, hf2.trans H.fr (by simp) (by simp)⟩).weak (by repeat (first | exact trivial | refine ⟨rfl, ?_⟩))
      rw [← he1, ← he2]
      cases j with
      | zero => rfl
      | succ q => rw [Sort.insInner, if_neg (by simp)]
  · rw [Sort.insOuter, if_neg hib] at he1
    have H := Holds.start w1 []
    refine Run.seq ?_
    refine Run.seq ?_
    (refine Run.region ?_; intro K hK)
    refine Ops.pure H (X.move rfl) rfl rfl rfl ?_
    refine Ops.pure H (X.move rfl) rfl rfl rfl ?_
    refine Ops.pure H (X.cmp rfl rfl rfl) rfl rfl rfl ?_
    (refine Ops.nil (hK _ _ ?_); clear hK K)
    refine Run.cond_dec rfl (fun h12 => ?x4) (fun h12 => ?y4)
    case' y4 =>
      refine Run.exit rfl ?_
    case' x4 => exfalso; omega
    (first | refine Fn.ret1 HF rfl rfl ?_ | refine Fn.ret2 HF rfl rfl rfl ?_ | refine Fn.ret3 HF rfl rfl rfl rfl ?_ | refine Fn.ret0 HF rfl ?_ | refine Fn.fin0 HF rfl ?_ | refine Fn.retG (E := env) HF rfl H (by first | exact RVs.cellN rfl rfl rfl (by first | exact .head | exact .tail .head | exact .tail (.tail .head) | exact .tail (.tail (.tail .head)) | exact .tail (.tail (.tail (.tail .head))) | exact .tail (.tail (.tail (.tail (.tail .head)))) | exact .tail (.tail (.tail (.tail (.tail (.tail .head)))))) (by first | assumption | exact Cs.take rfl) RVs.nil | exact RVs.cellN rfl rfl rfl (by first | exact .head | exact .tail .head | exact .tail (.tail .head) | exact .tail (.tail (.tail .head)) | exact .tail (.tail (.tail (.tail .head))) | exact .tail (.tail (.tail (.tail (.tail .head)))) | exact .tail (.tail (.tail (.tail (.tail (.tail .head)))))) (by first | assumption | exact Cs.take rfl) (RVs.tmp rfl RVs.nil) | exact RVs.cellN rfl rfl rfl (by first | exact .head | exact .tail .head | exact .tail (.tail .head) | exact .tail (.tail (.tail .head)) | exact .tail (.tail (.tail (.tail .head))) | exact .tail (.tail (.tail (.tail (.tail .head)))) | exact .tail (.tail (.tail (.tail (.tail (.tail .head)))))) (by first | assumption | exact Cs.take rfl) (RVs.tmp rfl (RVs.tmp rfl RVs.nil))) rfl ?_)
    exact ⟨cs1, by rw [← he1]; exact h1.ext H.fr, hf1.trans H.fr (by simp) (by simp)⟩
theorem ins_at (z : World) (blk off cap : Nat) (d : Array Int) (cs : List Value) (a b : Nat) {n : Nat} (hn : d.size = n) (h : Ar z blk off d cs) (hab : a ≤ b) (hb : b ≤ n) (hm : n ≤ 4611686018427387903) :
    Fn env.P 66 [.slice (some ⟨blk, off, none⟩) n cap, .int .i64 (a : Nat), .int .i64 (b : Nat)] z fun _ w' => ∃ cs', Ar w' blk off (Sort.insertionSort ltU d a b) cs' ∧ Fr z w' [blk] := by subst hn; exact ins_any z blk off cap d cs a b h hab hb hm
end Go.Proofs.Ytaneenahapdabaa
