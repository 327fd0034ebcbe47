/- The library's sort, walked: siftDown, heapSort. -/
import Derived.Test.YtaneenahapdabaaP8
import Derived.Test.YtaneenahapdabaaEngJ
import Derived.Sort.AssemblyPlain
namespace Go.Proofs.Ytaneenahapdabaa
open Go

/-- A row of numbers. -/
structure Ar (w : World) (blk off : Nat) (d : Array Int) (cs : List Value) : Prop where
  hb : w.heap[blk]? = some (row cs 28)
  hl : off + d.size ≤ cs.length
  hc : ∀ i, i < d.size → cs[off + i * 1]? = some (.int .u64 d[i]!)
theorem Ar.keep {w w' : World} {S : List Nat} {blk off : Nat} {d : Array Int} {cs : List Value} (h : Ar w blk off d cs) (hf : Fr w w' S) (hS : blk ∉ S) : Ar w' blk off d cs := ⟨hf.get h.hb hS, h.hl, h.hc⟩
theorem Ar.ext {w w' : World} {blk off : Nat} {d : Array Int} {cs : List Value} (h : Ar w blk off d cs) (hf : Fr w w' []) : Ar w' blk off d cs := h.keep hf (by simp)
theorem Ar.keepH {w w' : World} {S : List Nat} {blk off : Nat} {d : Array Int} {cs : List Value} (h : Ar w blk off d cs) (_ : Fr w w' S) (hb : w'.heap[blk]? = some (row cs 28)) : Ar w' blk off d cs := ⟨hb, h.hl, h.hc⟩
theorem swp_size {d : Array Int} {i j : Nat} : (Sort.swp d i j).size = d.size := by simp [Sort.swp]
theorem swp_get {d : Array Int} {i j k : Nat} (hi : i < d.size) (hj : j < d.size) (hk : k < d.size) : (Sort.swp d i j)[k]! = if k = j then d[i]! else if k = i then d[j]! else d[k]! := by
  unfold Sort.swp
  simp only [Array.getElem!_eq_getD, Array.getD_eq_getD_getElem?, Array.getElem?_setIfInBounds]
  by_cases h1 : k = j
  · subst h1
    simp [hk]
  · rw [if_neg (fun e => h1 e.symm), if_neg h1]
    by_cases h2 : k = i
    · subst h2
      simp [hk, hj]
    · rw [if_neg (fun e => h2 e.symm), if_neg h2]
section
variable {w w' : World} {blk off : Nat} {d : Array Int} {cs : List Value} {i j : Nat}
theorem Ar.swp1 (h : Ar w blk off d cs) (hi : i < d.size) (hj : j < d.size) (hw : w'.heap[blk]? = some (row ((cs.set (off + i * 1) (.int .u64 d[j]!)).set (off + j * 1) (.int .u64 d[i]!)) 28)) :
    Ar w' blk off (Sort.swp d i j) ((cs.set (off + i * 1) (.int .u64 d[j]!)).set (off + j * 1) (.int .u64 d[i]!)) := by
  have hl := h.hl
  refine ⟨hw, by rw [swp_size]; simpa using hl, fun k hk => ?_⟩
  rw [swp_size] at hk
  rw [swp_get hi hj hk, List.getElem?_set, List.getElem?_set]
  by_cases h1 : k = j
  · subst h1
    simp; omega
  · rw [if_neg (by omega), if_neg h1]
    by_cases h2 : k = i
    · subst h2
      simp; omega
    · rw [if_neg (by omega), if_neg h2]
      exact h.hc k hk
theorem Ar.swp2 (h : Ar w blk off d cs) (hi : i < d.size) (hj : j < d.size) (hw : w'.heap[blk]? = some (row ((cs.set (off + j * 1) (.int .u64 d[i]!)).set (off + i * 1) (.int .u64 d[j]!)) 28)) :
    Ar w' blk off (Sort.swp d i j) ((cs.set (off + j * 1) (.int .u64 d[i]!)).set (off + i * 1) (.int .u64 d[j]!)) := by
  have e : Sort.swp d i j = Sort.swp d j i := by
    refine Array.ext (by simp [swp_size]) fun k h1 h2 => ?_
    rw [swp_size] at h1
    have a1 := swp_get hi hj h1
    have a2 := swp_get hj hi h1
    rw [getElem!_pos _ _ (by rw [swp_size]; exact h1)] at a1 a2
    rw [a1, a2]
    split <;> split <;> simp_all
  rw [e]
  exact h.swp1 hj hi hw
end
set_option maxRecDepth 20000
set_option maxHeartbeats 2000000
attribute [local irreducible] Run Ops Fn Draw Draw2 PureOp StepZ
abbrev ltU : Int → Int → Bool := fun x y => decide (x < y)
theorem ins_any (z : World) (blk off cap : Nat) (d : Array Int) (cs : List Value) (a b : Nat) (h : Ar z blk off d cs) (hab : a ≤ b) (hb : b ≤ d.size) (hm : d.size ≤ 4611686018427387903) :
    Fn env.P 66 [.slice (some ⟨blk, off, none⟩) d.size cap, .int .i64 (a : Nat), .int .i64 (b : Nat)] z fun _ w' => ∃ cs', Ar w' blk off (Sort.insertionSort ltU d a b) cs' ∧ Fr z w' [blk] := by
  have H := Holds.start z []
  have HF := Try.func66; refine Fn.enter Try.func66 Try.ntmps66 rfl rfl rfl ?_
  (refine Run.seq (Run.region ?_); intro K hK)
  refine Ops.pure H (X.move rfl) rfl rfl rfl ?_
  refine Ops.pure H (X.succ rfl rfl (by omega)) rfl rfl rfl ?_
  refine Ops.pure H (X.assign rfl) rfl rfl rfl ?_
  (refine Ops.nil (hK _ _ ?_); clear hK K)
  refine Run.block ?_
  refine Run.rounds (fun (i : Nat) => [(0, .slice (some ⟨blk, off, none⟩) d.size cap), (1, .int .i64 (a : Nat)), (2, .int .i64 (b : Nat)), (6, .int .i64 (i : Nat))])
    (fun i w' => a < i ∧ ∃ (d' : Array Int) (cs' : List Value), d'.size = d.size ∧ Ar w' blk off d' cs' ∧ Sort.insOuter ltU a b i d' = Sort.insertionSort ltU d a b ∧ Fr z w' [blk]) (fun i => b - i) (a + 1) (by repeat (first | exact trivial | refine ⟨rfl, ?_⟩)) ⟨by omega, d, cs, rfl, h, rfl, Fr.refl _ _⟩ ?_
  clear H
  rintro i w1 ⟨hi, d1, cs1, hs1, h1, he1, hf1⟩ IH
  by_cases hib : i < b
  · rw [Sort.insOuter, if_pos hib] at he1
    have H := Holds.start w1 []
    refine Run.seq ?_
    (refine Run.seq (Run.region ?_); intro K hK)
    refine Ops.pure H (X.move rfl) rfl rfl rfl ?_
    refine Ops.pure H (X.move rfl) rfl rfl rfl ?_
    refine Ops.pure H (X.cmp rfl rfl rfl) rfl rfl rfl ?_
    (refine Ops.nil (hK _ _ ?_); clear hK K)
    refine Run.cond_dec rfl (fun h12 => ?x0) (fun h12 => ?y0)
    case' y0 => exfalso; omega
    case' x0 =>
      refine Run.skip ?_
      refine Run.seq ?_
      refine Run.block ?_
      (refine Run.seq (Run.region ?_); intro K hK)
      refine Ops.pure H (X.move rfl) rfl rfl rfl ?_
      refine Ops.pure H (X.assign rfl) rfl rfl rfl ?_
      (refine Ops.nil (hK _ _ ?_); clear hK K)
      refine Run.block ?_
    refine Run.rounds (fun (j : Nat) => [(0, .slice (some ⟨blk, off, none⟩) d.size cap), (1, .int .i64 (a : Nat)), (2, .int .i64 (b : Nat)), (6, .int .i64 (i : Nat)), (7, .int .i64 (j : Nat))])
      (fun j w' => j ≤ i ∧ a ≤ j ∧ ∃ (d' : Array Int) (cs' : List Value), d'.size = d.size ∧ Ar w' blk off d' cs' ∧ Sort.insInner ltU a j d' = Sort.insInner ltU a i d1 ∧ Fr z w' [blk]) (fun j => j) i (by repeat (first | exact trivial | refine ⟨rfl, ?_⟩)) ⟨by omega, by omega, d1, cs1, hs1, h1, rfl, hf1⟩ ?_
    clear H
    rintro j w2 ⟨hj, haj, d2, cs2, hs2, h2, he2, hf2⟩ IH2
    by_cases hja : a < j
    · obtain ⟨q, rfl⟩ : ∃ q, j = q + 1 := ⟨j - 1, by omega⟩
      have c1 := h2.hc (q + 1) (by omega)
      have c2 := h2.hc q (by omega)
      have hl2 := h2.hl
      have H := (Holds.start w2 [blk]).add true h2.hb (by simp) (by simp)
      refine Run.seq ?_
      refine Run.seq ?_
      (refine Run.draw H [13] [0, 1, 2, 3, 4, 5, 6, 7, 8, 9, 10, 11, 12, 13, 14] ?_; clear H; intro K hK w H)
      refine Draw.take0 rfl (X.move rfl) rfl rfl rfl (by decide +kernel) ?_
      refine Draw.take0 rfl (X.move rfl) rfl rfl rfl (by decide +kernel) ?_
      refine Draw.take0 rfl (X.cmp rfl rfl rfl) rfl rfl rfl (by decide +kernel) ?_
      refine Draw.take0 rfl (X.move rfl) rfl rfl rfl (by decide +kernel) ?_
      refine Draw.split_dec rfl rfl rfl (fun h20 => ?x1) (fun h20 => ?y1)
      case' y1 => exfalso; omega
      case' x1 =>
        refine Draw.take0 rfl (X.move rfl) rfl rfl rfl (by decide +kernel) ?_
        refine Draw.take0 rfl (X.move rfl) rfl rfl rfl (by decide +kernel) ?_
        refine Draw.take0 rfl (X.indexAddr rfl rfl (by omega) rfl rfl rfl rfl) rfl rfl rfl (by decide +kernel) ?_
        refine Draw.take rfl (X.load1 rfl rfl rfl rfl Pick.head (by assumption)) rfl rfl rfl (by decide +kernel) ?_
        refine Draw.take0 rfl (X.move rfl) rfl rfl rfl (by decide +kernel) ?_
        refine Draw.take0 rfl (X.move rfl) rfl rfl rfl (by decide +kernel) ?_
        refine Draw.take0 rfl (X.pred rfl rfl (by omega)) rfl rfl rfl (by decide +kernel) ?_
        refine Draw.take0 rfl (X.indexAddr rfl rfl (by omega) rfl rfl rfl rfl) rfl rfl rfl (by decide +kernel) ?_
        refine Draw.take rfl (X.load1 rfl rfl rfl rfl Pick.head (by assumption)) rfl rfl rfl (by decide +kernel) ?_
      refine Draw.last rfl rfl (by decide +kernel) (Y.call rfl rfl (by first | assumption | decide +kernel) rfl (less_any _ d2[q + 1]! d2[q]!) rfl ?_)
      rintro v w3 ⟨rfl, rfl⟩
      refine Draw2.take rfl (X.pick_t rfl rfl) rfl rfl rfl (by decide +kernel) ?_
      (refine Draw2.done (by decide +kernel) (hK _ _ ?_); clear hK K)
      refine Run.cond_dec rfl (fun h30 => ?x2) (fun h30 => ?y2)
      case' y2 =>
        refine Run.exit rfl ?_
        refine Run.inBlock ?_
        (refine Run.region ?_; intro K hK)
        refine Ops.pure H (X.move rfl) rfl rfl rfl ?_
        refine Ops.pure H (X.succ rfl rfl (by omega)) rfl rfl rfl ?_
        refine Ops.pure H (X.assign rfl) rfl rfl rfl ?_
        (refine Ops.nil (hK _ _ ?_); clear hK K)
      case' x2 =>
        refine Run.skip ?_
        refine Run.seq ?_
        refine Run.block ?_
        (refine Run.draw H [15, 17] [0, 1, 2, 3, 4, 5, 6, 7, 8, 9, 10, 11, 12, 13, 14, 15, 16, 17] ?_; clear H; intro K hK w H)
        refine Draw.take0 rfl (X.move rfl) rfl rfl rfl (by decide +kernel) ?_
        refine Draw.take0 rfl (X.move rfl) rfl rfl rfl (by decide +kernel) ?_
        refine Draw.take0 rfl (X.move rfl) rfl rfl rfl (by decide +kernel) ?_
        refine Draw.take0 rfl (X.move rfl) rfl rfl rfl (by decide +kernel) ?_
        refine Draw.take0 rfl (X.pred rfl rfl (by omega)) rfl rfl rfl (by decide +kernel) ?_
        refine Draw.take0 rfl (X.move rfl) rfl rfl rfl (by decide +kernel) ?_
        refine Draw.take0 rfl (X.move rfl) rfl rfl rfl (by decide +kernel) ?_
        refine Draw.take0 rfl (X.pred rfl rfl (by omega)) rfl rfl rfl (by decide +kernel) ?_
        refine Draw.take0 rfl (X.indexAddr rfl rfl (by omega) rfl rfl rfl rfl) rfl rfl rfl (by decide +kernel) ?_
        refine Draw.take rfl (X.load1 rfl rfl rfl rfl Pick.head (by assumption)) rfl rfl rfl (by decide +kernel) ?_
        refine Draw.take0 rfl (X.move rfl) rfl rfl rfl (by decide +kernel) ?_
        refine Draw.take0 rfl (X.move rfl) rfl rfl rfl (by decide +kernel) ?_
        refine Draw.take0 rfl (X.indexAddr rfl rfl (by omega) rfl rfl rfl rfl) rfl rfl rfl (by decide +kernel) ?_
        refine Draw.take rfl (X.load1 rfl rfl rfl rfl Pick.head (by assumption)) rfl rfl rfl (by decide +kernel) ?_
        refine Draw.take0 rfl (X.indexAddr rfl rfl (by omega) rfl rfl rfl rfl) rfl rfl rfl (by decide +kernel) ?_
        (refine Draw.last rfl rfl (by decide +kernel) (Y.storeI rfl rfl rfl rfl rfl rfl H Upd.head (by first | omega | (simp only [List.length_set]; omega)) ?_); intro w H0; clear H; have H := H0; clear H0)
        refine Draw2.take rfl (X.indexAddr rfl rfl (by omega) rfl rfl rfl rfl) rfl rfl rfl (by decide +kernel) ?_
        (refine Draw2.eff rfl rfl (by decide +kernel) (Y.storeI rfl rfl rfl rfl rfl rfl H Upd.head (by first | omega | (simp only [List.length_set]; omega)) ?_); intro w H0; clear H; have H := H0; clear H0)
        (refine Draw2.done (by decide +kernel) (hK _ _ ?_); clear hK K)
        refine Run.inBlock ?_
        (refine Run.region ?_; intro K hK)
        refine Ops.pure H (X.move rfl) rfl rfl rfl ?_
        refine Ops.pure H (X.pred rfl rfl (by omega)) rfl rfl rfl ?_
        refine Ops.pure H (X.assign rfl) rfl rfl rfl ?_
        (refine Ops.nil (hK _ _ ?_); clear hK K)
      · have h3 := h2.swp1 (i := q + 1) (j := q) (by omega) (by omega) (H.pick .head)
        refine (IH2 q _ (by omega) ⟨by omega, by omega, Sort.swp d2 (q + 1) q, _, by rw [swp_size]; exact hs2, h3, ?_, hf2.trans H.fr (by simp) (by simp)⟩).weak (by repeat (first | exact trivial | refine ⟨rfl, ?_⟩))
        rw [← he2, Sort.insInner, if_pos (by simp [ltU]; exact ⟨hja, by assumption⟩)]
      · refine (IH (i + 1) _ (by omega) ⟨by omega, d2, cs2, hs2, h2.keepH H.fr (H.pick .head), ?_, hf2.trans H.fr (by simp) (by simp)⟩).weak (by repeat (first | exact trivial | refine ⟨rfl, ?_⟩))
        rw [← he1, ← he2, Sort.insInner, if_neg (by simp [ltU]; intro _; omega)]
    · obtain rfl : j = a := by omega
      have H := (Holds.start w2 []).add false h2.hb (by simp) (by simp)
      refine Run.seq ?_
      refine Run.seq ?_
      (refine Run.draw H [13] [0, 1, 2, 3, 4, 5, 6, 7, 8, 9, 10, 11, 12, 13, 14] ?_; clear H; intro K hK w H)
      refine Draw.take0 rfl (X.move rfl) rfl rfl rfl (by decide +kernel) ?_
      refine Draw.take0 rfl (X.move rfl) rfl rfl rfl (by decide +kernel) ?_
      refine Draw.take0 rfl (X.cmp rfl rfl rfl) rfl rfl rfl (by decide +kernel) ?_
      refine Draw.take0 rfl (X.move rfl) rfl rfl rfl (by decide +kernel) ?_
      refine Draw.split_dec rfl rfl rfl (fun h20 => ?x3) (fun h20 => ?y3)
      case' y3 =>
        refine Draw.pass rfl rfl rfl rfl (by decide +kernel) ?_
        refine Draw.pass rfl rfl rfl rfl (by decide +kernel) ?_
        refine Draw.pass rfl rfl rfl rfl (by decide +kernel) ?_
        refine Draw.pass rfl rfl rfl rfl (by decide +kernel) ?_
        refine Draw.pass rfl rfl rfl rfl (by decide +kernel) ?_
        refine Draw.pass rfl rfl rfl rfl (by decide +kernel) ?_
        refine Draw.pass rfl rfl rfl rfl (by decide +kernel) ?_
        refine Draw.pass rfl rfl rfl rfl (by decide +kernel) ?_
        refine Draw.pass rfl rfl rfl rfl (by decide +kernel) ?_
        refine Draw.passL rfl rfl rfl rfl (by decide +kernel) ?_
        refine Draw2.take rfl (X.pick_f rfl rfl) rfl rfl rfl (by decide +kernel) ?_
        (refine Draw2.done (by decide +kernel) (hK _ _ ?_); clear hK K)
        refine Run.cond_false rfl ?_
        refine Run.exit rfl ?_
        refine Run.inBlock ?_
        (refine Run.region ?_; intro K hK)
        refine Ops.pure H (X.move rfl) rfl rfl rfl ?_
        refine Ops.pure H (X.succ rfl rfl (by omega)) rfl rfl rfl ?_
        refine Ops.pure H (X.assign rfl) rfl rfl rfl ?_
        (refine Ops.nil (hK _ _ ?_); clear hK K)
      case' x3 => exfalso; omega
      refine (IH (i + 1) _ (by omega) ⟨by omega, d2, cs2, hs2, h2.ext H.fr, ?_, hf2.trans H.fr (by simp) (by simp)⟩).weak (by repeat (first | exact trivial | refine ⟨rfl, ?_⟩))
      rw [← he1, ← he2]
      cases j with
      | zero => rfl
      | succ q => rw [Sort.insInner, if_neg (by simp)]
  · rw [Sort.insOuter, if_neg hib] at he1
    have H := Holds.start w1 []
    refine Run.seq ?_
    (refine Run.seq (Run.region ?_); intro K hK)
    refine Ops.pure H (X.move rfl) rfl rfl rfl ?_
    refine Ops.pure H (X.move rfl) rfl rfl rfl ?_
    refine Ops.pure H (X.cmp rfl rfl rfl) rfl rfl rfl ?_
    (refine Ops.nil (hK _ _ ?_); clear hK K)
    refine Run.cond_dec rfl (fun h12 => ?x4) (fun h12 => ?y4)
    case' y4 =>
      refine Run.exit rfl ?_
    case' x4 => exfalso; omega
    (first | refine Fn.ret0 HF rfl ?_ | refine Fn.fin0 HF rfl ?_)
    exact ⟨cs1, by rw [← he1]; exact h1.ext H.fr, hf1.trans H.fr (by simp) (by simp)⟩
theorem ins_at (z : World) (blk off cap : Nat) (d : Array Int) (cs : List Value) (a b : Nat) {n : Nat} (hn : d.size = n) (h : Ar z blk off d cs) (hab : a ≤ b) (hb : b ≤ n) (hm : n ≤ 4611686018427387903) :
    Fn env.P 66 [.slice (some ⟨blk, off, none⟩) n cap, .int .i64 (a : Nat), .int .i64 (b : Nat)] z fun _ w' => ∃ cs', Ar w' blk off (Sort.insertionSort ltU d a b) cs' ∧ Fr z w' [blk] := by subst hn; exact ins_any z blk off cap d cs a b h hab hb hm
end Go.Proofs.Ytaneenahapdabaa

namespace Go.Proofs.Ytaneenahapdabaa
open Go
set_option maxRecDepth 20000
set_option maxHeartbeats 2000000
attribute [local irreducible] Run Ops Fn Draw Draw2 PureOp StepZ

theorem sift_any (z : World) (blk off cap : Nat) (d : Array Int) (cs : List Value) (lo hi first : Nat) (h : Ar z blk off d cs) (hf : first + hi ≤ d.size) (hlo : lo ≤ d.size) (hm : d.size ≤ 2305843009213693951) :
    Fn env.P 76 [.slice (some ⟨blk, off, none⟩) d.size cap, .int .i64 (lo : Nat), .int .i64 (hi : Nat), .int .i64 (first : Nat)] z fun _ w' => ∃ cs', Ar w' blk off (Sort.siftDown ltU hi first lo d) cs' ∧ Fr z w' [blk] ∧ (Sort.siftDown ltU hi first lo d).size = d.size := by
  have H := Holds.start z []
  have HF := Try.func76; refine Fn.enter Try.func76 Try.ntmps76 rfl rfl rfl ?_
  (refine Run.seq (Run.region ?_); intro K hK)
  refine Ops.pure H (X.move rfl) rfl rfl rfl ?_
  refine Ops.pure H (X.assign rfl) rfl rfl rfl ?_
  (refine Ops.nil (hK _ _ ?_); clear hK K)
  refine Run.block ?_
  refine Run.rounds (fun (i : Nat) => [(0, .slice (some ⟨blk, off, none⟩) d.size cap), (2, .int .i64 (hi : Nat)), (3, .int .i64 (first : Nat)), (8, .int .i64 (i : Nat))])
    (fun i w' => i ≤ d.size ∧ ∃ (d' : Array Int) (cs' : List Value), d'.size = d.size ∧ Ar w' blk off d' cs' ∧ Sort.siftDown ltU hi first i d' = Sort.siftDown ltU hi first lo d ∧ Fr z w' [blk]) (fun i => d.size - i) lo (by repeat (first | exact trivial | refine ⟨rfl, ?_⟩)) ⟨hlo, d, cs, rfl, h, rfl, Fr.refl _ _⟩ ?_
  clear H
  rintro r w1 ⟨hr, d1, cs1, hs1, h1, he1, hf1⟩ IH
  rw [Sort.siftDown] at he1
  by_cases hge : 2 * r + 1 ≥ hi
  · rw [dif_pos hge] at he1
    have H := Holds.start w1 []
    refine Run.block ?_
    (refine Run.seq (Run.region ?_); intro K hK)
    refine Ops.pure H (X.move rfl) rfl rfl rfl ?_
    refine Ops.pure H (X.mulN (i := 2) rfl rfl rfl rfl (IntWalk.i64_in _ (by omega))) rfl rfl rfl ?_
    refine Ops.pure H (X.succ rfl rfl (by omega)) rfl rfl rfl ?_
    refine Ops.pure H (X.assign rfl) rfl rfl rfl ?_
    (refine Ops.nil (hK _ _ ?_); clear hK K)
    refine Run.seq ?_
    (refine Run.seq (Run.region ?_); intro K hK)
    refine Ops.pure H (X.move rfl) rfl rfl rfl ?_
    refine Ops.pure H (X.move rfl) rfl rfl rfl ?_
    refine Ops.pure H (X.cmp rfl rfl rfl) rfl rfl rfl ?_
    (refine Ops.nil (hK _ _ ?_); clear hK K)
    refine Run.cond_dec rfl (fun h16 => ?x0) (fun h16 => ?y0)
    case' y0 => exfalso; omega
    case' x0 =>
      refine Run.exit rfl ?_
    (first | refine Fn.ret1 HF rfl rfl ?_ | refine Fn.ret2 HF rfl rfl rfl ?_ | refine Fn.ret3 HF rfl rfl rfl rfl ?_ | refine Fn.ret0 HF rfl ?_ | refine Fn.fin0 HF rfl ?_ | refine Fn.retG (E := env) HF rfl H (by first | exact RVs.cellN rfl rfl rfl (by repeat (first | exact .head | apply Pick.tail)) (by first | assumption | exact Cs.take rfl) RVs.nil | exact RVs.cellN rfl rfl rfl (by repeat (first | exact .head | apply Pick.tail)) (by first | assumption | exact Cs.take rfl) (RVs.tmp rfl RVs.nil) | exact RVs.cellN rfl rfl rfl (by repeat (first | exact .head | apply Pick.tail)) (by first | assumption | exact Cs.take rfl) (RVs.tmp rfl (RVs.tmp rfl RVs.nil))) rfl ?_)
    rw [← he1]
    exact ⟨cs1, h1.ext H.fr, hf1.trans H.fr (by simp) (by simp), hs1⟩
  · rw [dif_neg hge] at he1
    have c0 := h1.hc (first + r) (by omega)
    have c1 := h1.hc (first + (2 * r + 1)) (by omega)
    have hl1 := h1.hl
    have H := (Holds.start w1 [blk]).add true h1.hb (by simp) (by simp)
    refine Run.block ?_
    (refine Run.seq (Run.region ?_); intro K hK)
    refine Ops.pure H (X.move rfl) rfl rfl rfl ?_
    refine Ops.pure H (X.mulN (i := 2) rfl rfl rfl rfl (IntWalk.i64_in _ (by omega))) rfl rfl rfl ?_
    refine Ops.pure H (X.succ rfl rfl (by omega)) rfl rfl rfl ?_
    refine Ops.pure H (X.assign rfl) rfl rfl rfl ?_
    (refine Ops.nil (hK _ _ ?_); clear hK K)
    refine Run.seq ?_
    (refine Run.seq (Run.region ?_); intro K hK)
    refine Ops.pure H (X.move rfl) rfl rfl rfl ?_
    refine Ops.pure H (X.move rfl) rfl rfl rfl ?_
    refine Ops.pure H (X.cmp rfl rfl rfl) rfl rfl rfl ?_
    (refine Ops.nil (hK _ _ ?_); clear hK K)
    refine Run.cond_dec rfl (fun h16 => ?x1) (fun h16 => ?y1)
    case' y1 =>
      refine Run.skip ?_
    case' x1 => exfalso; omega
    refine Run.seq ?_
    refine Run.meet (fun (c : Nat) => [(0, .slice (some ⟨blk, off, none⟩) d.size cap), (2, .int .i64 (hi : Nat)), (3, .int .i64 (first : Nat)), (8, .int .i64 (r : Nat)), (9, .int .i64 (c : Nat))])
      (fun c w' => r < c ∧ c < hi ∧ (if (!ltU d1[first + r]! d1[first + c]!) = true then d1 else Sort.siftDown ltU hi first c (Sort.swp d1 (first + r) (first + c))) = Sort.siftDown ltU hi first lo d ∧ Ar w' blk off d1 cs1 ∧ Fr z w' [blk]) ?_ ?_
    rotate_left
    · intro kk go
      by_cases hk : 2 * r + 1 + 1 < hi
      · have c2 := h1.hc (first + (2 * r + 1) + 1) (by omega)
        refine Run.seq ?_
        (refine Run.draw H [18] [0, 1, 2, 3, 4, 5, 6, 7, 8, 9, 10, 11, 12, 13, 14, 15, 16, 17, 18, 19] ?_; clear H; intro K hK w H)
        refine Draw.take0 rfl (X.move rfl) rfl rfl rfl (by decide +kernel) ?_
        refine Draw.take0 rfl (X.succ rfl rfl (by omega)) rfl rfl rfl (by decide +kernel) ?_
        refine Draw.take0 rfl (X.move rfl) rfl rfl rfl (by decide +kernel) ?_
        refine Draw.take0 rfl (X.cmp rfl rfl rfl) rfl rfl rfl (by decide +kernel) ?_
        refine Draw.take0 rfl (X.move rfl) rfl rfl rfl (by decide +kernel) ?_
        refine Draw.split_dec rfl rfl rfl (fun h22 => ?x2) (fun h22 => ?y2)
        case' y2 => exfalso; omega
        case' x2 =>
          refine Draw.take0 rfl (X.move rfl) rfl rfl rfl (by decide +kernel) ?_
          refine Draw.take0 rfl (X.move rfl) rfl rfl rfl (by decide +kernel) ?_
          refine Draw.take0 rfl (X.move rfl) rfl rfl rfl (by decide +kernel) ?_
          refine Draw.take0 rfl (X.addN rfl rfl rfl rfl (IntWalk.i64_in _ (by omega))) rfl rfl rfl (by decide +kernel) ?_
          refine Draw.take0 rfl (X.indexAddr rfl rfl (by omega) rfl rfl rfl rfl) rfl rfl rfl (by decide +kernel) ?_
          refine Draw.take rfl (X.load1 rfl rfl rfl rfl Pick.head (by assumption)) rfl rfl rfl (by decide +kernel) ?_
          refine Draw.take0 rfl (X.move rfl) rfl rfl rfl (by decide +kernel) ?_
          refine Draw.take0 rfl (X.move rfl) rfl rfl rfl (by decide +kernel) ?_
          refine Draw.take0 rfl (X.move rfl) rfl rfl rfl (by decide +kernel) ?_
          refine Draw.take0 rfl (X.addN rfl rfl rfl rfl (IntWalk.i64_in _ (by omega))) rfl rfl rfl (by decide +kernel) ?_
          refine Draw.take0 rfl (X.succ rfl rfl (by omega)) rfl rfl rfl (by decide +kernel) ?_
          refine Draw.take0 rfl (X.indexAddr rfl rfl (by omega) rfl rfl rfl rfl) rfl rfl rfl (by decide +kernel) ?_
          refine Draw.take rfl (X.load1 rfl rfl rfl rfl Pick.head (by assumption)) rfl rfl rfl (by decide +kernel) ?_
        refine Draw.last rfl rfl (by decide +kernel) (Y.call rfl rfl (by first | assumption | decide +kernel) rfl (less_any _ d1[first + (2 * r + 1)]! d1[first + (2 * r + 1) + 1]!) rfl ?_)
        rintro v w3 ⟨rfl, rfl⟩
        refine Draw2.take rfl (X.pick_t rfl rfl) rfl rfl rfl (by decide +kernel) ?_
        (refine Draw2.done (by decide +kernel) (hK _ _ ?_); clear hK K)
        refine Run.cond_dec rfl (fun h36 => ?x3) (fun h36 => ?y3)
        case' y3 =>
          refine Run.skip ?_
        case' x3 =>
          (refine Run.region ?_; intro K hK)
          refine Ops.pure H (X.move rfl) rfl rfl rfl ?_
          refine Ops.pure H (X.succ rfl rfl (by omega)) rfl rfl rfl ?_
          refine Ops.pure H (X.assign rfl) rfl rfl rfl ?_
          (refine Ops.nil (hK _ _ ?_); clear hK K)
        · refine go (2 * r + 1 + 1) _ _ ⟨by omega, by omega, ?_, h1.keepH H.fr (H.pick .head), hf1.trans H.fr (by simp) (by simp)⟩ (by repeat (first | exact trivial | refine ⟨rfl, ?_⟩))
          rw [if_pos (by simp [ltU]; exact ⟨hk, by assumption⟩)] at he1
          rw [← he1, show 2 * r + 1 + 1 = 2 * r + 2 from rfl, dif_pos (by omega)]
        · refine go (2 * r + 1) _ _ ⟨by omega, by omega, ?_, h1.keepH H.fr (H.pick .head), hf1.trans H.fr (by simp) (by simp)⟩ (by repeat (first | exact trivial | refine ⟨rfl, ?_⟩))
          rw [if_neg (by simp [ltU]; intro _; omega)] at he1
          exact he1
      · refine Run.seq ?_
        (refine Run.draw H [18] [0, 1, 2, 3, 4, 5, 6, 7, 8, 9, 10, 11, 12, 13, 14, 15, 16, 17, 18, 19] ?_; clear H; intro K hK w H)
        refine Draw.take0 rfl (X.move rfl) rfl rfl rfl (by decide +kernel) ?_
        refine Draw.take0 rfl (X.succ rfl rfl (by omega)) rfl rfl rfl (by decide +kernel) ?_
        refine Draw.take0 rfl (X.move rfl) rfl rfl rfl (by decide +kernel) ?_
        refine Draw.take0 rfl (X.cmp rfl rfl rfl) rfl rfl rfl (by decide +kernel) ?_
        refine Draw.take0 rfl (X.move rfl) rfl rfl rfl (by decide +kernel) ?_
        refine Draw.split_dec rfl rfl rfl (fun h22 => ?x4) (fun h22 => ?y4)
        case' y4 =>
          refine Draw.pass rfl rfl rfl rfl (by decide +kernel) ?_
          refine Draw.pass rfl rfl rfl rfl (by decide +kernel) ?_
          refine Draw.pass rfl rfl rfl rfl (by decide +kernel) ?_
          refine Draw.pass rfl rfl rfl rfl (by decide +kernel) ?_
          refine Draw.pass rfl rfl rfl rfl (by decide +kernel) ?_
          refine Draw.pass rfl rfl rfl rfl (by decide +kernel) ?_
          refine Draw.pass rfl rfl rfl rfl (by decide +kernel) ?_
          refine Draw.pass rfl rfl rfl rfl (by decide +kernel) ?_
          refine Draw.pass rfl rfl rfl rfl (by decide +kernel) ?_
          refine Draw.pass rfl rfl rfl rfl (by decide +kernel) ?_
          refine Draw.pass rfl rfl rfl rfl (by decide +kernel) ?_
          refine Draw.pass rfl rfl rfl rfl (by decide +kernel) ?_
          refine Draw.pass rfl rfl rfl rfl (by decide +kernel) ?_
          refine Draw.passL rfl rfl rfl rfl (by decide +kernel) ?_
          refine Draw2.take rfl (X.pick_f rfl rfl) rfl rfl rfl (by decide +kernel) ?_
          (refine Draw2.done (by decide +kernel) (hK _ _ ?_); clear hK K)
          refine Run.cond_false rfl ?_
          refine Run.skip ?_
        case' x4 => exfalso; omega
        refine go (2 * r + 1) _ _ ⟨by omega, by omega, ?_, h1.keepH H.fr (H.pick .head), hf1.trans H.fr (by simp) (by simp)⟩ (by repeat (first | exact trivial | refine ⟨rfl, ?_⟩))
        rw [if_neg (by simp [ltU]; intro _; omega)] at he1
        exact he1
    · rintro c w2 ⟨hrc, hch, he2, h2, hf2⟩
      have c1 := h2.hc (first + c) (by omega)
      clear H
      have H := (Holds.start w2 [blk]).add true h2.hb (by simp) (by simp)
      refine Run.seq ?_
      refine Run.seq ?_
      (refine Run.draw H [12] [0, 1, 2, 3, 4, 5, 6, 7, 8, 9, 10, 11, 12, 13] ?_; clear H; intro K hK w H)
      refine Draw.take0 rfl (X.move rfl) rfl rfl rfl (by decide +kernel) ?_
      refine Draw.take0 rfl (X.move rfl) rfl rfl rfl (by decide +kernel) ?_
      refine Draw.take0 rfl (X.move rfl) rfl rfl rfl (by decide +kernel) ?_
      refine Draw.take0 rfl (X.addN rfl rfl rfl rfl (IntWalk.i64_in _ (by omega))) rfl rfl rfl (by decide +kernel) ?_
      refine Draw.take0 rfl (X.indexAddr rfl rfl (by omega) rfl rfl rfl rfl) rfl rfl rfl (by decide +kernel) ?_
      refine Draw.take rfl (X.load1 rfl rfl rfl rfl Pick.head (by assumption)) rfl rfl rfl (by decide +kernel) ?_
      refine Draw.take0 rfl (X.move rfl) rfl rfl rfl (by decide +kernel) ?_
      refine Draw.take0 rfl (X.move rfl) rfl rfl rfl (by decide +kernel) ?_
      refine Draw.take0 rfl (X.move rfl) rfl rfl rfl (by decide +kernel) ?_
      refine Draw.take0 rfl (X.addN rfl rfl rfl rfl (IntWalk.i64_in _ (by omega))) rfl rfl rfl (by decide +kernel) ?_
      refine Draw.take0 rfl (X.indexAddr rfl rfl (by omega) rfl rfl rfl rfl) rfl rfl rfl (by decide +kernel) ?_
      refine Draw.take rfl (X.load1 rfl rfl rfl rfl Pick.head (by assumption)) rfl rfl rfl (by decide +kernel) ?_
      refine Draw.last rfl rfl (by decide +kernel) (Y.call rfl rfl (by first | assumption | decide +kernel) rfl (less_any _ d1[first + r]! d1[first + c]!) rfl ?_)
      rintro v w3 ⟨rfl, rfl⟩
      by_cases hlt : d1[first + r]! < d1[first + c]!
      · refine Draw2.take rfl (X.not rfl) rfl rfl rfl (by decide +kernel) ?_
        (refine Draw2.done (by decide +kernel) (hK _ _ ?_); clear hK K)
        refine Run.cond_ndec rfl (fun h52 => ?x5) (fun h52 => ?y5)
        case' y5 =>
          refine Run.skip ?_
          refine Run.seq ?_
          (refine Run.draw H [21, 23] [0, 1, 2, 3, 4, 5, 6, 7, 8, 9, 10, 11, 12, 13, 14, 15, 16, 17, 18, 19, 20, 21, 22, 23] ?_; clear H; intro K hK w H)
          refine Draw.take0 rfl (X.move rfl) rfl rfl rfl (by decide +kernel) ?_
          refine Draw.take0 rfl (X.move rfl) rfl rfl rfl (by decide +kernel) ?_
          refine Draw.take0 rfl (X.move rfl) rfl rfl rfl (by decide +kernel) ?_
          refine Draw.take0 rfl (X.addN rfl rfl rfl rfl (IntWalk.i64_in _ (by omega))) rfl rfl rfl (by decide +kernel) ?_
          refine Draw.take0 rfl (X.move rfl) rfl rfl rfl (by decide +kernel) ?_
          refine Draw.take0 rfl (X.move rfl) rfl rfl rfl (by decide +kernel) ?_
          refine Draw.take0 rfl (X.move rfl) rfl rfl rfl (by decide +kernel) ?_
          refine Draw.take0 rfl (X.addN rfl rfl rfl rfl (IntWalk.i64_in _ (by omega))) rfl rfl rfl (by decide +kernel) ?_
          refine Draw.take0 rfl (X.move rfl) rfl rfl rfl (by decide +kernel) ?_
          refine Draw.take0 rfl (X.move rfl) rfl rfl rfl (by decide +kernel) ?_
          refine Draw.take0 rfl (X.move rfl) rfl rfl rfl (by decide +kernel) ?_
          refine Draw.take0 rfl (X.addN rfl rfl rfl rfl (IntWalk.i64_in _ (by omega))) rfl rfl rfl (by decide +kernel) ?_
          refine Draw.take0 rfl (X.indexAddr rfl rfl (by omega) rfl rfl rfl rfl) rfl rfl rfl (by decide +kernel) ?_
          refine Draw.take rfl (X.load1 rfl rfl rfl rfl Pick.head (by assumption)) rfl rfl rfl (by decide +kernel) ?_
          refine Draw.take0 rfl (X.move rfl) rfl rfl rfl (by decide +kernel) ?_
          refine Draw.take0 rfl (X.move rfl) rfl rfl rfl (by decide +kernel) ?_
          refine Draw.take0 rfl (X.move rfl) rfl rfl rfl (by decide +kernel) ?_
          refine Draw.take0 rfl (X.addN rfl rfl rfl rfl (IntWalk.i64_in _ (by omega))) rfl rfl rfl (by decide +kernel) ?_
          refine Draw.take0 rfl (X.indexAddr rfl rfl (by omega) rfl rfl rfl rfl) rfl rfl rfl (by decide +kernel) ?_
          refine Draw.take rfl (X.load1 rfl rfl rfl rfl Pick.head (by assumption)) rfl rfl rfl (by decide +kernel) ?_
          refine Draw.take0 rfl (X.indexAddr rfl rfl (by omega) rfl rfl rfl rfl) rfl rfl rfl (by decide +kernel) ?_
          (refine Draw.last rfl rfl (by decide +kernel) (Y.storeI rfl rfl rfl rfl rfl rfl H Upd.head (by first | omega | (simp only [List.length_set]; omega)) ?_); intro w H0; clear H; have H := H0; clear H0)
          refine Draw2.take rfl (X.indexAddr rfl rfl (by omega) rfl rfl rfl rfl) rfl rfl rfl (by decide +kernel) ?_
          (refine Draw2.eff rfl rfl (by decide +kernel) (Y.storeI rfl rfl rfl rfl rfl rfl H Upd.head (by first | omega | (simp only [List.length_set]; omega)) ?_); intro w H0; clear H; have H := H0; clear H0)
          (refine Draw2.done (by decide +kernel) (hK _ _ ?_); clear hK K)
          (refine Run.region ?_; intro K hK)
          refine Ops.pure H (X.move rfl) rfl rfl rfl ?_
          refine Ops.pure H (X.assign rfl) rfl rfl rfl ?_
          (refine Ops.nil (hK _ _ ?_); clear hK K)
          refine Run.inBlock ?_
        case' x5 => exfalso; omega
        rw [if_neg (by simp [ltU]; exact hlt)] at he2
        have h3 := h2.swp1 (i := first + r) (j := first + c) (by omega) (by omega) (H.pick .head)
        exact (IH c _ (by omega) ⟨by omega, Sort.swp d1 (first + r) (first + c), _, by rw [swp_size]; exact hs1, h3, he2, hf2.trans H.fr (by simp) (by simp)⟩).weak (by repeat (first | exact trivial | refine ⟨rfl, ?_⟩))
      · refine Draw2.take rfl (X.not rfl) rfl rfl rfl (by decide +kernel) ?_
        (refine Draw2.done (by decide +kernel) (hK _ _ ?_); clear hK K)
        refine Run.cond_ndec rfl (fun h52 => ?x6) (fun h52 => ?y6)
        case' y6 => exfalso; omega
        case' x6 => skip
        (first | refine Fn.ret1 HF rfl rfl ?_ | refine Fn.ret2 HF rfl rfl rfl ?_ | refine Fn.ret3 HF rfl rfl rfl rfl ?_ | refine Fn.ret0 HF rfl ?_ | refine Fn.fin0 HF rfl ?_ | refine Fn.retG (E := env) HF rfl H (by first | exact RVs.cellN rfl rfl rfl (by repeat (first | exact .head | apply Pick.tail)) (by first | assumption | exact Cs.take rfl) RVs.nil | exact RVs.cellN rfl rfl rfl (by repeat (first | exact .head | apply Pick.tail)) (by first | assumption | exact Cs.take rfl) (RVs.tmp rfl RVs.nil) | exact RVs.cellN rfl rfl rfl (by repeat (first | exact .head | apply Pick.tail)) (by first | assumption | exact Cs.take rfl) (RVs.tmp rfl (RVs.tmp rfl RVs.nil))) rfl ?_)
        rw [if_pos (by simp [ltU]; omega)] at he2
        rw [← he2]
        exact ⟨cs1, h2.keepH H.fr (H.pick .head), hf2.trans H.fr (by simp) (by simp), hs1⟩
theorem sift_at (z : World) (blk off cap : Nat) (d : Array Int) (cs : List Value) (lo hi first : Nat) {n : Nat} (hn : d.size = n) (h : Ar z blk off d cs) (hf : first + hi ≤ n) (hlo : lo ≤ n) (hm : n ≤ 2305843009213693951) :
    Fn env.P 76 [.slice (some ⟨blk, off, none⟩) n cap, .int .i64 (lo : Nat), .int .i64 (hi : Nat), .int .i64 (first : Nat)] z fun _ w' => ∃ cs', Ar w' blk off (Sort.siftDown ltU hi first lo d) cs' ∧ Fr z w' [blk] ∧ (Sort.siftDown ltU hi first lo d).size = n := by subst hn; exact sift_any z blk off cap d cs lo hi first h hf hlo hm
theorem heap_any (z : World) (blk off cap : Nat) (d : Array Int) (cs : List Value) (a b : Nat) (h : Ar z blk off d cs) (hab : a < b) (hb : b ≤ d.size) (hm : d.size ≤ 2305843009213693951) :
    Fn env.P 67 [.slice (some ⟨blk, off, none⟩) d.size cap, .int .i64 (a : Nat), .int .i64 (b : Nat)] z fun _ w' => ∃ cs', Ar w' blk off (Sort.heapSort ltU d a b) cs' ∧ Fr z w' [blk] := by
  have H := Holds.start z []
  have HF := Try.func67; refine Fn.enter Try.func67 Try.ntmps67 rfl rfl rfl ?_
  (refine Run.seq (Run.region ?_); intro K hK)
  refine Ops.pure H (X.move rfl) rfl rfl rfl ?_
  refine Ops.pure H (X.assign rfl) rfl rfl rfl ?_
  (refine Ops.nil (hK _ _ (Run.seq (Run.region ?_))); clear hK K; intro K hK)
  refine Ops.pure H (X.assign rfl) rfl rfl rfl ?_
  (refine Ops.nil (hK _ _ (Run.seq (Run.region ?_))); clear hK K; intro K hK)
  refine Ops.pure H (X.move rfl) rfl rfl rfl ?_
  refine Ops.pure H (X.move rfl) rfl rfl rfl ?_
  refine Ops.pure H (X.subN rfl rfl rfl rfl (by omega) (IntWalk.i64_in _ (by omega))) rfl rfl rfl ?_
  refine Ops.pure H (X.assign rfl) rfl rfl rfl ?_
  (refine Ops.nil (hK _ _ ?_); clear hK K)
  refine Run.seq ?_
  (refine Run.seq (Run.region ?_); intro K hK)
  refine Ops.pure H (X.move rfl) rfl rfl rfl ?_
  refine Ops.pure H (X.subN (j := 1) rfl rfl rfl rfl (by omega) (IntWalk.i64_in _ (by omega))) rfl rfl rfl ?_
  refine Ops.pure H (X.quoN (j := 2) rfl rfl rfl rfl (by omega) (IntWalk.i64_in _ (by omega))) rfl rfl rfl ?_
  refine Ops.pure H (X.assign rfl) rfl rfl rfl ?_
  (refine Ops.nil (hK _ _ ?_); clear hK K)
  refine Run.block ?_
  rw [show (((b - a - 1) / 2 : Nat) : Int) = (((b - a - 1) / 2 + 1 : Nat) : Int) - 1 from by omega]
  refine Run.rounds (fun (k : Nat) => [(0, .slice (some ⟨blk, off, none⟩) d.size cap), (6, .int .i64 (a : Nat)), (7, .int .i64 0), (8, .int .i64 ((b - a : Nat) : Nat)), (9, .int .i64 ((k : Int) - 1))])
    (fun k w' => k ≤ d.size ∧ ∃ (d' : Array Int) (cs' : List Value), d'.size = d.size ∧ Ar w' blk off d' cs' ∧ Sort.heapBuild ltU (b - a) a k d' = Sort.heapBuild ltU (b - a) a ((b - a - 1) / 2 + 1) d ∧ Fr z w' [blk]) (fun k => k) ((b - a - 1) / 2 + 1) (by repeat (first | exact trivial | refine ⟨rfl, ?_⟩)) ⟨by omega, d, cs, rfl, h, rfl, Fr.refl _ _⟩ ?_
  clear H
  rintro k w1 ⟨hk, d1, cs1, hs1, h1, he1, hf1⟩ IH
  cases k with
  | succ q =>
    have e0 : ((q + 1 : Nat) : Int) - 1 = (q : Int) := by omega
    rw [e0]
    have H := (Holds.start w1 [blk]).add true h1.hb (by simp) (by simp)
    refine Run.seq ?_
    (refine Run.seq (Run.region ?_); intro K hK)
    refine Ops.pure H (X.move rfl) rfl rfl rfl ?_
    refine Ops.pure H (X.cmp rfl rfl rfl) rfl rfl rfl ?_
    (refine Ops.nil (hK _ _ ?_); clear hK K)
    refine Run.cond_true rfl ?_
    refine Run.skip ?_
    refine Run.seq ?_
    refine Run.block ?_
    (refine Run.region ?_; intro K hK)
    refine Ops.pure H (X.move rfl) rfl rfl rfl ?_
    refine Ops.pure H (X.move rfl) rfl rfl rfl ?_
    refine Ops.pure H (X.move rfl) rfl rfl rfl ?_
    refine Ops.pure H (X.move rfl) rfl rfl rfl ?_
    refine Ops.eff rfl (Y.call rfl rfl (by first | assumption | decide +kernel) rfl (sift_at _ blk off cap d1 cs1 q (b - a) a hs1 (h1.keepH H.fr (H.pick .head)) (by omega) (by omega) (by omega)) rfl ?_)
    rintro v w3 ⟨cs3, h3, hf3, hz3⟩
    have hF := (hf1.trans H.fr (by simp) (by simp) : Fr z _ [blk]).trans (U := [blk]) hf3 (by simp) (by simp)
    clear H
    have H := Holds.start w3 []
    (refine Ops.nil (hK _ _ ?_); clear hK K)
    refine Run.inBlock ?_
    (refine Run.region ?_; intro K hK)
    refine Ops.pure H (X.move rfl) rfl rfl rfl ?_
    refine Ops.pure H (X.sub_in rfl rfl (IntWalk.i64_in _ (by omega))) rfl rfl rfl ?_
    refine Ops.pure H (X.assign rfl) rfl rfl rfl ?_
    (refine Ops.nil (hK _ _ ?_); clear hK K)
    exact (IH q _ (by omega) ⟨by omega, _, cs3, hz3, h3.ext H.fr, by rw [← he1, Sort.heapBuild], hF.trans H.fr (by simp) (by simp)⟩).weak (by repeat (first | exact trivial | refine ⟨rfl, ?_⟩))
  | zero =>
    have H := (Holds.start w1 [blk]).add true h1.hb (by simp) (by simp)
    rw [Sort.heapBuild] at he1
    refine Run.seq ?_
    (refine Run.seq (Run.region ?_); intro K hK)
    refine Ops.pure H (X.move rfl) rfl rfl rfl ?_
    refine Ops.pure H (X.cmp rfl rfl rfl) rfl rfl rfl ?_
    (refine Ops.nil (hK _ _ ?_); clear hK K)
    refine Run.cond_false rfl ?_
    refine Run.exit rfl ?_
    (refine Run.seq (Run.region ?_); intro K hK)
    refine Ops.pure H (X.move rfl) rfl rfl rfl ?_
    refine Ops.pure H (X.subN (j := 1) rfl rfl rfl rfl (by omega) (IntWalk.i64_in _ (by omega))) rfl rfl rfl ?_
    refine Ops.pure H (X.assign rfl) rfl rfl rfl ?_
    (refine Ops.nil (hK _ _ ?_); clear hK K)
    refine Run.block ?_
    rw [show ((b - a - 1 : Nat) : Int) = ((b - a : Nat) : Int) - 1 from by omega]
    have hfin : Sort.heapSort ltU d a b = Sort.heapPop ltU a (b - a) d1 := by rw [Sort.heapSort, he1]
    refine Run.rounds (fun (k : Nat) => [(0, .slice (some ⟨blk, off, none⟩) d.size cap), (6, .int .i64 (a : Nat)), (7, .int .i64 0), (10, .int .i64 ((k : Int) - 1))])
      (fun k w' => k ≤ b - a ∧ ∃ (d' : Array Int) (cs' : List Value), d'.size = d.size ∧ Ar w' blk off d' cs' ∧ Sort.heapPop ltU a k d' = Sort.heapSort ltU d a b ∧ Fr z w' [blk]) (fun k => k) (b - a) (by repeat (first | exact trivial | refine ⟨rfl, ?_⟩)) ⟨by omega, d1, cs1, hs1, h1.keepH H.fr (H.pick .head), hfin.symm, hf1.trans H.fr (by simp) (by simp)⟩ ?_
    clear H IH
    rintro k w2 ⟨hk2, d2, cs2, hs2, h2, he2, hf2⟩ IH
    cases k with
    | succ q =>
      have e0 : ((q + 1 : Nat) : Int) - 1 = (q : Int) := by omega
      rw [e0]
      have c0 := h2.hc a (by omega)
      have c1 := h2.hc (a + q) (by omega)
      have hl2 := h2.hl
      have H := (Holds.start w2 [blk]).add true h2.hb (by simp) (by simp)
      refine Run.seq ?_
      (refine Run.seq (Run.region ?_); intro K hK)
      refine Ops.pure H (X.move rfl) rfl rfl rfl ?_
      refine Ops.pure H (X.cmp rfl rfl rfl) rfl rfl rfl ?_
      (refine Ops.nil (hK _ _ ?_); clear hK K)
      refine Run.cond_true rfl ?_
      refine Run.skip ?_
      refine Run.seq ?_
      refine Run.block ?_
      refine Run.seq ?_
      (refine Run.draw H [17, 19] [0, 1, 2, 3, 4, 5, 6, 7, 8, 9, 10, 11, 12, 13, 14, 15, 16, 17, 18, 19] ?_; clear H; intro K hK w H)
      refine Draw.take0 rfl (X.move rfl) rfl rfl rfl (by decide +kernel) ?_
      refine Draw.take0 rfl (X.move rfl) rfl rfl rfl (by decide +kernel) ?_
      refine Draw.take0 rfl (X.move rfl) rfl rfl rfl (by decide +kernel) ?_
      refine Draw.take0 rfl (X.move rfl) rfl rfl rfl (by decide +kernel) ?_
      refine Draw.take0 rfl (X.move rfl) rfl rfl rfl (by decide +kernel) ?_
      refine Draw.take0 rfl (X.addN rfl rfl rfl rfl (IntWalk.i64_in _ (by omega))) rfl rfl rfl (by decide +kernel) ?_
      refine Draw.take0 rfl (X.move rfl) rfl rfl rfl (by decide +kernel) ?_
      refine Draw.take0 rfl (X.move rfl) rfl rfl rfl (by decide +kernel) ?_
      refine Draw.take0 rfl (X.move rfl) rfl rfl rfl (by decide +kernel) ?_
      refine Draw.take0 rfl (X.addN rfl rfl rfl rfl (IntWalk.i64_in _ (by omega))) rfl rfl rfl (by decide +kernel) ?_
      refine Draw.take0 rfl (X.indexAddr rfl rfl (by omega) rfl rfl rfl rfl) rfl rfl rfl (by decide +kernel) ?_
      refine Draw.take rfl (X.load1 rfl rfl rfl rfl Pick.head (by assumption)) rfl rfl rfl (by decide +kernel) ?_
      refine Draw.take0 rfl (X.move rfl) rfl rfl rfl (by decide +kernel) ?_
      refine Draw.take0 rfl (X.move rfl) rfl rfl rfl (by decide +kernel) ?_
      refine Draw.take0 rfl (X.indexAddr rfl rfl (by omega) rfl rfl rfl rfl) rfl rfl rfl (by decide +kernel) ?_
      refine Draw.take rfl (X.load1 rfl rfl rfl rfl Pick.head (by assumption)) rfl rfl rfl (by decide +kernel) ?_
      refine Draw.take0 rfl (X.indexAddr rfl rfl (by omega) rfl rfl rfl rfl) rfl rfl rfl (by decide +kernel) ?_
      (refine Draw.last rfl rfl (by decide +kernel) (Y.storeI rfl rfl rfl rfl rfl rfl H Upd.head (by first | omega | (simp only [List.length_set]; omega)) ?_); intro w H0; clear H; have H := H0; clear H0)
      refine Draw2.take rfl (X.indexAddr rfl rfl (by omega) rfl rfl rfl rfl) rfl rfl rfl (by decide +kernel) ?_
      (refine Draw2.eff rfl rfl (by decide +kernel) (Y.storeI rfl rfl rfl rfl rfl rfl H Upd.head (by first | omega | (simp only [List.length_set]; omega)) ?_); intro w H0; clear H; have H := H0; clear H0)
      (refine Draw2.done (by decide +kernel) (hK _ _ ?_); clear hK K)
      (refine Run.region ?_; intro K hK)
      refine Ops.pure H (X.move rfl) rfl rfl rfl ?_
      refine Ops.pure H (X.move rfl) rfl rfl rfl ?_
      refine Ops.pure H (X.move rfl) rfl rfl rfl ?_
      refine Ops.pure H (X.move rfl) rfl rfl rfl ?_
      have h3 := h2.swp1 (i := a) (j := a + q) (by omega) (by omega) (H.pick .head)
      refine Ops.eff rfl (Y.call rfl rfl (by first | assumption | decide +kernel) rfl (sift_at _ blk off cap (Sort.swp d2 a (a + q)) _ 0 q a (swp_size.trans hs2) h3 (by omega) (by omega) (by omega)) rfl ?_)
      rintro v w3 ⟨cs3, h4, hf3, hz3⟩
      have hF := (hf2.trans H.fr (by simp) (by simp) : Fr z _ [blk]).trans (U := [blk]) hf3 (by simp) (by simp)
      clear H
      have H := Holds.start w3 []
      (refine Ops.nil (hK _ _ ?_); clear hK K)
      refine Run.inBlock ?_
      (refine Run.region ?_; intro K hK)
      refine Ops.pure H (X.move rfl) rfl rfl rfl ?_
      refine Ops.pure H (X.sub_in rfl rfl (IntWalk.i64_in _ (by omega))) rfl rfl rfl ?_
      refine Ops.pure H (X.assign rfl) rfl rfl rfl ?_
      (refine Ops.nil (hK _ _ ?_); clear hK K)
      exact (IH q _ (by omega) ⟨by omega, _, cs3, hz3, h4.ext H.fr, by rw [← he2, Sort.heapPop], hF.trans H.fr (by simp) (by simp)⟩).weak (by repeat (first | exact trivial | refine ⟨rfl, ?_⟩))
    | zero =>
      rw [Sort.heapPop] at he2
      have H := Holds.start w2 []
      refine Run.seq ?_
      (refine Run.seq (Run.region ?_); intro K hK)
      refine Ops.pure H (X.move rfl) rfl rfl rfl ?_
      refine Ops.pure H (X.cmp rfl rfl rfl) rfl rfl rfl ?_
      (refine Ops.nil (hK _ _ ?_); clear hK K)
      refine Run.cond_false rfl ?_
      refine Run.exit rfl ?_
      (first | refine Fn.ret0 HF rfl ?_ | refine Fn.fin0 HF rfl ?_)
      rw [← he2]
      exact ⟨cs2, h2.ext H.fr, hf2.trans H.fr (by simp) (by simp)⟩
end Go.Proofs.Ytaneenahapdabaa
