/- Walks: SequenceRises. -/
import Derived.Test.YthidohdnaeboaaaO7
namespace Go.Proofs.Ythidohdnaeboaaa
open Go
set_option maxRecDepth 20000
set_option maxHeartbeats 2000000
attribute [local irreducible] Run Ops Fn Draw Draw2 PureOp StepZ

def Bts (w : World) (a : Option Addr) (n b off : Nat) (cs : List Value) (T : TypeId) (fz : Nat × Nat) (xs : Nat → Int) : Prop :=
  n ≤ 9223372036854775807 ∧ (0 < n → a = some ⟨b, off, none⟩ ∧ w.heap[b]? = some (.cells (List.toArray cs) T fz)) ∧ ∀ j, j < n → cs[off + j * 1]? = some (.int .u8 (xs j)) ∧ 0 ≤ xs j ∧ xs j ≤ 255
/-- The clocks that were made: k pointers. -/
def ptrs (q : Nat → Nat) (n : Nat) : List Value := (List.range n).map fun k => .pointer (some ⟨q k, 0, none⟩)
theorem ptrs_succ (q : Nat → Nat) (n : Nat) : ptrs q (n + 1) = ptrs q n ++ [.pointer (some ⟨q n, 0, none⟩)] := by simp [ptrs, List.range_succ]
theorem ptrs_congr {q q' : Nat → Nat} {n : Nat} (h : ∀ k, k < n → q k = q' k) : ptrs q n = ptrs q' n := by
  unfold ptrs
  refine List.map_congr_left fun k hk => ?_
  rw [h k (by simpa using hk)]
structure Clocks (w : World) (z : Nat) (v : Value) (q : Nat → Nat) (n : Nat) : Prop where
  own : Own w z 23 1 v n (ptrs q n)
  at_ : ∀ k, k < n → w.heap[q k]? = some (row [.int .u64 0, .int .u64 ((k : Int) * 40)] 74)
  new : ∀ k, k < n → z ≤ q k
  inj : ∀ j k, j < k → k < n → q j < q k

structure Rises (w : World) (lb : Nat) (q : Nat → Nat) (ct ls : Nat → Int) (i : Nat) (xs : List Int) : Prop where
  hq : ∀ k, k < 4 → w.heap[q k]? = some (row [.int .u64 (ct k), .int .u64 ((k : Int) * 40)] 74)
  hl : ∃ lcs, w.heap[lb]? = some (row lcs 30) ∧ lcs.length = 4 ∧ ∀ k, k < 4 → lcs[0 + k * 1]? = some (.int .u64 (ls k))
  hc : ∀ k, k < 4 → 0 ≤ ct k ∧ ct k ≤ i ∧ 0 ≤ ls k ∧ ls k ≤ ct k * 128 + (k : Int) * 40
  hx : ∀ x ∈ xs, ∃ k : Nat, k < 4 ∧ x % 128 = (k : Int) * 40 ∧ x / 128 ≤ ct k
theorem rises_any (z : World) (wa ha : Option Addr) (wn wcap hn hcap wb woff hb hoff : Nat) (wcs hcs : List Value) (wT hT : TypeId) (wfz hfz : Nat × Nat) (ws hs : Nat → Int) (hw : Bts z wa wn wb woff wcs wT wfz ws) (hh : Bts z ha hn hb hoff hcs hT hfz hs) :
    Fn env.P 4 [.slice wa wn wcap, .slice ha hn hcap] z fun v w' => v = .bool true ∧ Fr z w' [] := by
  have H := Holds.start z []
  have HF := Try.func4; refine Fn.enter Try.func4 Try.ntmps4 rfl rfl rfl ?_
  refine Run.seq ?_
  (refine Run.region ?_; intro K hK)
  refine Ops.pure H (X.assign rfl) rfl rfl rfl ?_
  (refine Ops.nil (hK _ _ ?_); clear hK K)
  refine Run.seq ?_
  refine Run.seq ?_
  (refine Run.region ?_; intro K hK)
  refine Ops.eff rfl (Y.call rfl rfl (by first | assumption | decide +kernel) rfl (lives_any _) rfl ?_)
  rintro v w1 ⟨rfl, hT1⟩
  replace H := H.ext hT1
  refine Ops.pure H (X.not rfl) rfl rfl rfl ?_
  (refine Ops.nil (hK _ _ ?_); clear hK K)
  refine Run.cond_false rfl ?_
  refine Run.skip ?_
  refine Run.seq ?_
  (refine Run.region ?_; intro K hK)
  refine Ops.pure H (X.assign rfl) rfl rfl rfl ?_
  (refine Ops.nil (hK _ _ ?_); clear hK K)
  refine Run.seq ?_
  refine Run.seq ?_
  (refine Run.region ?_; intro K hK)
  refine Ops.pure H (X.assign rfl) rfl rfl rfl ?_
  (refine Ops.nil (hK _ _ ?_); clear hK K)
  refine Run.block ?_
  refine Run.rounds (fun (x : Nat × Value) => [(0, .slice wa wn wcap), (1, .slice ha hn hcap), (5, x.2), (6, .int .i64 (x.1 : Nat))]) (fun x w' => x.1 ≤ 4 ∧ Fr z w' [] ∧ ∃ q, Clocks w' z.heap.size x.2 q x.1) (fun x => 4 - x.1) (0, .slice none 0 0) (by repeat (first | exact trivial | refine ⟨rfl, ?_⟩)) ⟨by omega, hT1, fun _ => 0, Own.nil, fun k hk => by omega, fun k hk => by omega, fun j k _ hk => by omega⟩ ?_
  rintro ⟨i, kv⟩ w2 ⟨hi, hfr, q, hC⟩ IH
  dsimp only at hi hfr hC IH ⊢
  clear H
  have H := Holds.start w2 []
  by_cases hlt : i < 4
  · refine Run.seq ?_
    refine Run.seq ?_
    (refine Run.region ?_; intro K hK)
    refine Ops.pure H (X.move rfl) rfl rfl rfl ?_
    refine Ops.pure H (X.cmp rfl rfl rfl) rfl rfl rfl ?_
    (refine Ops.nil (hK _ _ ?_); clear hK K)
    refine Run.cond_dec rfl (fun h23 => ?x0) (fun h23 => ?y0)
    case' y0 => exfalso; omega
    case' x0 =>
      refine Run.skip ?_
      refine Run.seq ?_
      refine Run.block ?_
      refine Run.seq ?_
      (refine Run.region ?_; intro K hK)
      refine Ops.pure H (X.move rfl) rfl rfl rfl ?_
      refine Ops.pure H (X.mul_in rfl rfl (IntWalk.i64_in _ (by omega))) rfl rfl rfl ?_
    refine Ops.eff rfl (Y.call rfl rfl (by first | assumption | decide +kernel) rfl (newClock_yes _ ((i : Int) * 40) (by omega) (by omega)) rfl ?_)
    rintro v w3 ⟨cb, rfl, H3, hcb⟩
    have hf3 := H3.fr
    clear H
    have H := H3
    clear H3
    refine Ops.pure H (X.move rfl) rfl rfl rfl ?_
    refine Ops.pure H (X.extract rfl rfl) rfl rfl rfl ?_
    refine Ops.pure H (X.extract rfl rfl) rfl rfl rfl ?_
    refine Ops.pure H (X.assign rfl) rfl rfl rfl ?_
    refine Ops.pure H (X.assign rfl) rfl rfl rfl ?_
    (refine Ops.nil (hK _ _ ?_); clear hK K)
    refine Run.seq ?_
    refine Run.seq ?_
    (refine Run.region ?_; intro K hK)
    refine Ops.pure H (X.move rfl) rfl rfl rfl ?_
    refine Ops.pure H (X.cmp rfl rfl rfl) rfl rfl rfl ?_
    refine Ops.pure H (X.move rfl) rfl rfl rfl ?_
    refine Ops.pure H (X.move rfl) rfl rfl rfl ?_
    refine Ops.pure H (X.ptrNil rfl rfl rfl rfl rfl) rfl rfl rfl ?_
    refine Ops.pure H (X.pick_f rfl rfl) rfl rfl rfl ?_
    (refine Ops.nil (hK _ _ ?_); clear hK K)
    refine Run.cond_false rfl ?_
    refine Run.skip ?_
    (refine Run.region ?_; intro K hK)
    refine Ops.pure H (X.move rfl) rfl rfl rfl ?_
    refine Ops.pure H (X.move rfl) rfl rfl rfl ?_
    (refine Ops.eff rfl (Y.buildSliceO rfl rfl rfl rfl rfl rfl rfl rfl H ?_); intro b40 w H0 hb40; clear H; have H := H0; clear H0)
    refine Ops.eff rfl (Y.appendOwn (news := [.pointer (some ⟨cb, 0, none⟩)]) (hC.own.ext H.fr) rfl rfl rfl rfl rfl rfl (hfr.then H.fr) (by omega) rfl (Src.row (m := 1) H .head (Cs.take rfl)) rfl rfl (by dsimp only; omega) (by omega) rfl ?_)
    intro kv' w4 hF4 hK4 hO4
    have hcw := hK4 _ _ _ (by decide) (H.pick (.tail .head))
    have hf23 := H.fr
    clear H
    have H := Holds.start w4 []
    refine Ops.pure H (X.assign rfl) rfl rfl rfl ?_
    (refine Ops.nil (hK _ _ ?_); clear hK K)
    refine Run.inBlock ?_
    (refine Run.region ?_; intro K hK)
    refine Ops.pure H (X.move rfl) rfl rfl rfl ?_
    refine Ops.pure H (X.succ rfl rfl (by omega)) rfl rfl rfl ?_
    refine Ops.pure H (X.assign rfl) rfl rfl rfl ?_
    (refine Ops.nil (hK _ _ ?_); clear hK K)
    refine (IH (i + 1, kv') _ (by dsimp only; omega) ⟨by dsimp only; omega, hF4, fun k => if k < i then q k else cb, ?_, fun k hk => ?_, fun k hk => ?_, fun j k hj hk => ?_⟩).weak (by repeat (first | exact trivial | refine ⟨rfl, ?_⟩))
    · dsimp only
      rw [ptrs_succ, ptrs_congr (q' := q) (fun k hk => by rw [if_pos hk]), if_neg (Nat.lt_irrefl i)]
      exact hO4
    · by_cases h : k < i
      · rw [if_pos h]
        exact hK4 _ _ _ (by decide) (hf23.get (hC.at_ k h) (by simp))
      · rw [if_neg h]
        obtain rfl : k = i := by dsimp only at hk; omega
        exact hcw
    · by_cases h : k < i
      · rw [if_pos h]
        exact hC.new k h
      · rw [if_neg h]
        exact Nat.le_trans hfr.size hcb
    · dsimp only at hk
      by_cases h : k < i
      · rw [if_pos h, if_pos (by omega)]
        exact hC.inj j k hj h
      · rw [if_neg h, if_pos (by omega)]
        exact Nat.lt_of_lt_of_le (lt_of_at (hC.at_ j (by omega))) hcb
  · obtain rfl : i = 4 := by omega
    refine Run.seq ?_
    refine Run.seq ?_
    (refine Run.region ?_; intro K hK)
    refine Ops.pure H (X.move rfl) rfl rfl rfl ?_
    refine Ops.pure H (X.cmp rfl rfl rfl) rfl rfl rfl ?_
    (refine Ops.nil (hK _ _ ?_); clear hK K)
    refine Run.cond_false rfl ?_
    refine Run.exit rfl ?_
    refine Run.seq ?_
    (refine Run.region ?_; intro K hK)
    refine Ops.eff rfl (Y.make (len := 4) (cap := 4) rfl rfl (by omega) rfl rfl rfl rfl (by decide) (by omega) rfl H ?_)
    intro lb lcs w3 H3 hlb _ hlr
    clear H
    have H := H3
    clear H3
    replace hlr := hlr rfl
    have hl4 : ∀ k, k < 4 → lcs[0 + k * 1]? = some (.int .u64 0) := fun k hk => by
      rw [hlr]
      have : k = 0 ∨ k = 1 ∨ k = 2 ∨ k = 3 := by omega
      rcases this with rfl | rfl | rfl | rfl <;> rfl
    have hl0 := H.pick .head
    have hf3 := H.fr
    have hC3 : Clocks w3 z.heap.size kv q 4 := ⟨hC.own.ext hf3, fun k hk => hf3.get (hC.at_ k hk) (by simp), hC.new, hC.inj⟩
    have hT3 := hfr.then hf3
    refine Ops.pure H (X.assign rfl) rfl rfl rfl ?_
    (refine Ops.nil (hK _ _ ?_); clear hK K)
    refine Run.seq ?_
    (refine Run.region ?_; intro K hK)
    refine Ops.pure H (X.assign rfl) rfl rfl rfl ?_
    (refine Ops.nil (hK _ _ ?_); clear hK K)
    refine Run.seq ?_
    refine Run.seq ?_
    (refine Run.region ?_; intro K hK)
    refine Ops.pure H (X.assign rfl) rfl rfl rfl ?_
    (refine Ops.nil (hK _ _ ?_); clear hK K)
    refine Run.block ?_
    obtain ⟨kb, kcap, kcs, rfl, hk1, hk2, hk3, hkb, hk5, hk6⟩ := hC3.own.get (by decide)
    have hkp : ∀ k, k < 4 → kcs[0 + k * 1]? = some (.pointer (some ⟨q k, 0, none⟩)) := fun k hk => by
      rw [Nat.mul_one, hk6.toGet (by omega)]
      simp [ptrs, hk]
    refine Run.rounds (fun (x : Nat × Value) => [(0, .slice wa wn wcap), (1, .slice ha hn hcap), (5, .slice (some ⟨kb, 0, none⟩) 4 kcap), (9, .slice (some ⟨lb, 0, none⟩) 4 4), (10, x.2), (11, .int .i64 (x.1 : Nat))])
      (fun x w' => x.1 ≤ 300 ∧ Fr z w' [] ∧ Fr w3 w' [lb, q 0, q 1, q 2, q 3] ∧ ∃ ct ls xs, Own w' w3.heap.size 30 1 x.2 x.1 (u64s xs) ∧ Rises w' lb q ct ls x.1 xs) (fun x => 300 - x.1) (0, .slice none 0 0) (by repeat (first | exact trivial | refine ⟨rfl, ?_⟩))
      ⟨by omega, hT3, Fr.refl _ _, fun _ => 0, fun _ => 0, [], Own.nil, fun k hk => hC3.at_ k hk, ⟨lcs, hl0, by rw [hlr]; rfl, hl4⟩, fun k hk => by simp; omega, by simp⟩ ?_
    rintro ⟨i, av⟩ w4 ⟨hi, hfr4, hS4, ct, ls, xs, hO4, hR4⟩ IH
    dsimp only at hi hfr4 hS4 hO4 hR4 IH ⊢
    clear H
    have H := Holds.start w4 []
    by_cases hlt : i < wn
    · by_cases h300 : i < 300
      · obtain ⟨hwx, hw0, hw1⟩ := hw.2.2 i hlt
        obtain ⟨rfl, hwb⟩ := hw.2.1 (by omega)
        replace H := H.add false (hfr4.get hwb (by simp)) (by simp) (by simp)
        obtain ⟨k, hk, hk4⟩ : ∃ k : Nat, ws i % 4 = (k : Int) ∧ k < 4 := ⟨(ws i % 4).toNat, by omega, by omega⟩
        refine Run.seq ?_
        refine Run.seq ?_
        (refine Run.region ?_; intro K hK)
        refine Ops.pure H (X.move rfl) rfl rfl rfl ?_
        refine Ops.pure H (X.move rfl) rfl rfl rfl ?_
        refine Ops.pure H (X.len_slice rfl rfl rfl) rfl rfl rfl ?_
        refine Ops.pure H (X.cmp rfl rfl rfl) rfl rfl rfl ?_
        refine Ops.pure H (X.move rfl) rfl rfl rfl ?_
        refine Ops.split_dec rfl rfl (fun h48 => ?x1) (fun h48 => ?y1)
        case' y1 => exfalso; omega
        case' x1 =>
          refine Ops.pure H (X.move rfl) rfl rfl rfl ?_
          refine Ops.pure H (X.cmp rfl rfl rfl) rfl rfl rfl ?_
          refine Ops.pure H (X.pick_t rfl rfl) rfl rfl rfl ?_
          (refine Ops.nil (hK _ _ ?_); clear hK K)
          refine Run.cond_dec rfl (fun h50 => ?x2) (fun h50 => ?y2)
          case' y2 => exfalso; omega
          case' x2 =>
            refine Run.skip ?_
            refine Run.seq ?_
            refine Run.block ?_
            refine Run.seq ?_
            (refine Run.region ?_; intro K hK)
            refine Ops.pure H (X.move rfl) rfl rfl rfl ?_
            refine Ops.pure H (X.move rfl) rfl rfl rfl ?_
            refine Ops.pure H (X.indexAddr rfl rfl (by omega) rfl rfl rfl rfl) rfl rfl rfl ?_
            refine Ops.pure H (X.load1 rfl rfl rfl rfl Pick.head (by assumption)) rfl rfl rfl ?_
            refine Ops.pure H (X.remP rfl rfl (by omega)) rfl rfl rfl ?_
            refine Ops.pure H (X.conv rfl rfl rfl rfl rfl (IntWalk.i64_in _ (by omega))) rfl rfl rfl ?_
            refine Ops.pure H (X.assign rfl) rfl rfl rfl ?_
            (refine Ops.nil (hK _ _ ?_); clear hK K)
            refine Run.seq ?_
            (refine Run.region ?_; intro K hK)
            refine Ops.pure H (X.move rfl) rfl rfl rfl ?_
            refine Ops.pure H (X.move rfl) rfl rfl rfl ?_
        obtain ⟨dcs, hd1, hd2, hd3⟩ := hR4.hl
        have hdk := hd3 k hk4
        have hqk := hR4.hq k hk4
        have hkb4 : w4.heap[kb]? = some (row kcs 23) := hS4.get hkb (by simp; exact ⟨ne_of_ty hkb hl0 (by decide), ne_of_ty hkb (hC3.at_ 0 (by omega)) (by decide), ne_of_ty hkb (hC3.at_ 1 (by omega)) (by decide), ne_of_ty hkb (hC3.at_ 2 (by omega)) (by decide), ne_of_ty hkb (hC3.at_ 3 (by omega)) (by decide)⟩)
        have hkk := hkp k hk4
        have hz1 := lt_of_at hwb
        have hz2 := hC3.new k hk4
        have hz3 : z.heap.size ≤ lb := Nat.le_trans hfr.size hlb
        rw [hk]
        clear H
        have hlq := ne_of_ty hd1 hqk (by decide)
        have hqS : q k ∈ [lb, q 0, q 1, q 2, q 3] := by
          have : k = 0 ∨ k = 1 ∨ k = 2 ∨ k = 3 := by omega
          rcases this with rfl | rfl | rfl | rfl <;> simp
        have H := (((Holds.start w4 [q k, lb]).add false hkb4 (by simp) (by simp)).add true hd1 (by simpa using ne_of_ty hd1 hkb4 (by decide)) (by simp)).add true hqk (by simpa using ⟨hlq.symm, ne_of_ty hqk hkb4 (by decide)⟩) (by simp)
        refine Ops.pure H (X.indexAddr rfl rfl (by omega) rfl rfl rfl rfl) rfl rfl rfl ?_
        refine Ops.pure H (X.load1 rfl rfl rfl rfl (.tail .head) (by assumption)) rfl rfl rfl ?_
        refine Ops.pure H (X.assign rfl) rfl rfl rfl ?_
        (refine Ops.nil (hK _ _ ?_); clear hK K)
        refine Run.seq ?_
        refine Run.meet (fun (x : Int × Int) => [(0, .slice (some ⟨wb, woff, none⟩) wn wcap), (1, .slice ha hn hcap), (5, .slice (some ⟨kb, 0, none⟩) 4 kcap), (9, .slice (some ⟨lb, 0, none⟩) 4 4), (10, av), (11, .int .i64 (i : Nat)), (12, .int .i64 (k : Nat)), (13, .int .u64 x.2)])
          (fun x w' => Holds w4 [q k, lb] w' [⟨q k, row [.int .u64 x.1, .int .u64 ((k : Int) * 40)] 74, true⟩, ⟨lb, row dcs 30, true⟩, ⟨kb, row kcs 23, false⟩] ∧ ct k ≤ x.1 ∧ x.1 ≤ i ∧ ls k ≤ x.2 ∧ x.2 < (x.1 + 1) * 128 + (k : Int) * 40) ?_ ?_
        · rintro ⟨c', least⟩ w5 ⟨H, hc1, hc2, hc3, hc4⟩
          dsimp only at H hc1 hc2 hc3 hc4 ⊢
          have hck := hR4.hc k hk4
          refine Run.seq ?_
          (refine Run.region ?_; intro K hK)
          refine Ops.pure H (X.move rfl) rfl rfl rfl ?_
          refine Ops.pure H (X.move rfl) rfl rfl rfl ?_
          refine Ops.pure H (X.indexAddr rfl rfl (by omega) rfl rfl rfl rfl) rfl rfl rfl ?_
          refine Ops.pure H (X.load1 rfl rfl rfl rfl (.tail (.tail .head)) (by assumption)) rfl rfl rfl ?_
          refine Ops.eff rfl (Y.call rfl rfl (by first | assumption | decide +kernel) rfl (next_goes _ (q k) c' ((k : Int) * 40) (H.pick .head) (by omega) (by omega) (by omega) (by omega)) rfl ?_)
          rintro v w6 ⟨rfl, h6⟩
          replace H := H.call1 (by first | exact .head | exact .tail .head | exact .tail (.tail .head) | exact .tail (.tail (.tail .head)) | exact .tail (.tail (.tail (.tail .head))) | exact .tail (.tail (.tail (.tail (.tail .head)))) | exact .tail (.tail (.tail (.tail (.tail (.tail .head)))))) h6 (by simp); simp only [List.cons_append, List.nil_append] at H; clear h6
          obtain ⟨nn, hnn⟩ : ∃ nn, nn = (c' + 1) * 128 + (k : Int) * 40 := ⟨_, rfl⟩
          rw [← hnn]
          refine Ops.pure H (X.move rfl) rfl rfl rfl ?_
          refine Ops.pure H (X.extract rfl rfl) rfl rfl rfl ?_
          refine Ops.pure H (X.extract rfl rfl) rfl rfl rfl ?_
          refine Ops.pure H (X.assign rfl) rfl rfl rfl ?_
          refine Ops.pure H (X.assign rfl) rfl rfl rfl ?_
          (refine Ops.nil (hK _ _ ?_); clear hK K)
          refine Run.seq ?_
          (refine Run.region ?_; intro K hK)
          refine Ops.pure H (X.move rfl) rfl rfl rfl ?_
          refine Ops.eff rfl (Y.call rfl rfl (by first | assumption | decide +kernel) rfl (split_any _ nn (by omega) (by omega)) rfl ?_)
          rintro v w7 ⟨rfl, rfl⟩
          refine Ops.pure H (X.move rfl) rfl rfl rfl ?_
          refine Ops.pure H (X.extract rfl rfl) rfl rfl rfl ?_
          refine Ops.pure H (X.extract rfl rfl) rfl rfl rfl ?_
          refine Ops.pure H (X.assign rfl) rfl rfl rfl ?_
          refine Ops.pure H (X.assign rfl) rfl rfl rfl ?_
          (refine Ops.nil (hK _ _ ?_); clear hK K)
          refine Run.seq ?_
          refine Run.seq ?_
          (refine Run.region ?_; intro K hK)
          refine Ops.pure H (X.move rfl) rfl rfl rfl ?_
          refine Ops.pure H (X.cmp rfl rfl rfl) rfl rfl rfl ?_
          refine Ops.pure H (X.move rfl) rfl rfl rfl ?_
          refine Ops.pure H (X.move rfl) rfl rfl rfl ?_
          refine Ops.pure H (X.move rfl) rfl rfl rfl ?_
          refine Ops.pure H (X.cmp rfl rfl rfl) rfl rfl rfl ?_
          refine Ops.pure H (X.pick_f rfl rfl) rfl rfl rfl ?_
          refine Ops.pure H (X.move rfl) rfl rfl rfl ?_
          refine Ops.split_dec rfl rfl (fun h115 => ?x3) (fun h115 => ?y3)
          case' y3 =>
            refine Ops.pure H (X.move rfl) rfl rfl rfl ?_
            refine Ops.pure H (X.move rfl) rfl rfl rfl ?_
            refine Ops.pure H (X.mul_in rfl rfl (IntWalk.i64_in _ (by omega))) rfl rfl rfl ?_
            refine Ops.pure H (X.cmp rfl rfl rfl) rfl rfl rfl ?_
            refine Ops.pure H (X.pick_f rfl rfl) rfl rfl rfl ?_
            refine Ops.pure H (X.move rfl) rfl rfl rfl ?_
            refine Ops.split_ndec rfl rfl (fun h121 => ?x4) (fun h121 => ?y4)
            case' y4 =>
              refine Ops.pure H (X.move rfl) rfl rfl rfl ?_
              refine Ops.pure H (X.cmp rfl rfl rfl) rfl rfl rfl ?_
              refine Ops.pure H (X.pick_f rfl rfl) rfl rfl rfl ?_
              (refine Ops.nil (hK _ _ ?_); clear hK K)
              refine Run.cond_dec rfl (fun h123 => ?x5) (fun h123 => ?y5)
              case' y5 =>
                refine Run.skip ?_
                refine Run.seq ?_
                refine Run.seq ?_
                (refine Run.region ?_; intro K hK)
                refine Ops.pure H (X.assign rfl) rfl rfl rfl ?_
                (refine Ops.nil (hK _ _ ?_); clear hK K)
                refine Run.block ?_
              case' x5 => exfalso; omega
            case' x4 => exfalso; omega
          case' x3 => exfalso; omega
          have hlxs : xs.length = i := by have := hO4.len; simpa using this
          have hzl : ∀ x ∈ [q k, lb], x < w3.heap.size := by
            intro x hx
            simp at hx
            rcases hx with rfl | rfl
            · exact lt_of_at (hC3.at_ k hk4)
            · exact lt_of_at hl0
          have hkbl := lt_of_at hkb
          have hO7 := hO4.keepS H.fr hzl
          have hne : ∀ x ∈ xs, x ≠ nn := by
            intro x hx e
            obtain ⟨k', hk', hm', hd'⟩ := hR4.hx x hx
            have : k' = k := by omega
            subst this
            omega
          refine Run.rounds (fun (j : Nat) => [(0, .slice (some ⟨wb, woff, none⟩) wn wcap), (1, .slice ha hn hcap), (5, .slice (some ⟨kb, 0, none⟩) 4 kcap), (9, .slice (some ⟨lb, 0, none⟩) 4 4), (10, av), (11, .int .i64 (i : Nat)), (12, .int .i64 (k : Nat)), (15, .int .u64 nn), (19, .int .i64 (j : Nat))]) (fun j w' => w' = w7 ∧ j ≤ i) (fun j => i - j) 0 (by repeat (first | exact trivial | refine ⟨rfl, ?_⟩)) ⟨rfl, by omega⟩ ?_
          rintro j _ ⟨rfl, hj⟩ IH2
          by_cases hji : j < i
          · obtain ⟨ab, acap, acs, rfl, ha1, ha2, ha3, ha4, ha5, ha6⟩ := hO7.get (by omega)
            have hxj : acs[0 + j * 1]? = some (.int .u64 (xs[j]'(by omega))) := by
              rw [Nat.mul_one, ha6.toGet (by omega)]
              simp [show j < xs.length by omega]
            have hnj := hne (xs[j]'(by omega)) (List.getElem_mem _)
            have h1 := hzl (q k) (by simp)
            have h2 := hzl lb (by simp)
            replace H := H.add false ha4 (by simp; omega) (by simp)
            refine Run.seq ?_
            refine Run.seq ?_
            (refine Run.region ?_; intro K hK)
            refine Ops.pure H (X.move rfl) rfl rfl rfl ?_
            refine Ops.pure H (X.move rfl) rfl rfl rfl ?_
            refine Ops.pure H (X.len_slice rfl rfl rfl) rfl rfl rfl ?_
            refine Ops.pure H (X.cmp rfl rfl rfl) rfl rfl rfl ?_
            (refine Ops.nil (hK _ _ ?_); clear hK K)
            refine Run.cond_dec rfl (fun h127 => ?x6) (fun h127 => ?y6)
            case' y6 => exfalso; omega
            case' x6 =>
              refine Run.skip ?_
              refine Run.seq ?_
              refine Run.block ?_
              refine Run.seq ?_
              (refine Run.region ?_; intro K hK)
              refine Ops.pure H (X.move rfl) rfl rfl rfl ?_
              refine Ops.pure H (X.move rfl) rfl rfl rfl ?_
              refine Ops.pure H (X.indexAddr rfl rfl (by omega) rfl rfl rfl rfl) rfl rfl rfl ?_
              refine Ops.pure H (X.load1 rfl rfl rfl rfl Pick.head (by assumption)) rfl rfl rfl ?_
              refine Ops.pure H (X.move rfl) rfl rfl rfl ?_
              refine Ops.pure H (X.cmp rfl rfl rfl) rfl rfl rfl ?_
              (refine Ops.nil (hK _ _ ?_); clear hK K)
              refine Run.cond_dec rfl (fun h135 => ?x7) (fun h135 => ?y7)
              case' y7 =>
                refine Run.skip ?_
                refine Run.inBlock ?_
                (refine Run.region ?_; intro K hK)
                refine Ops.pure H (X.move rfl) rfl rfl rfl ?_
                refine Ops.pure H (X.succ rfl rfl (by omega)) rfl rfl rfl ?_
                refine Ops.pure H (X.assign rfl) rfl rfl rfl ?_
                (refine Ops.nil (hK _ _ ?_); clear hK K)
              case' x7 => exfalso; omega
            exact (IH2 (j + 1) _ (by omega) ⟨rfl, by omega⟩).weak (by repeat (first | exact trivial | refine ⟨rfl, ?_⟩))
          · obtain ⟨aa, acap, rfl⟩ := hO7.slice
            refine Run.seq ?_
            refine Run.seq ?_
            (refine Run.region ?_; intro K hK)
            refine Ops.pure H (X.move rfl) rfl rfl rfl ?_
            refine Ops.pure H (X.move rfl) rfl rfl rfl ?_
            refine Ops.pure H (X.len_slice rfl rfl rfl) rfl rfl rfl ?_
            refine Ops.pure H (X.cmp rfl rfl rfl) rfl rfl rfl ?_
            (refine Ops.nil (hK _ _ ?_); clear hK K)
            refine Run.cond_dec rfl (fun h127 => ?x8) (fun h127 => ?y8)
            case' y8 =>
              refine Run.exit rfl ?_
              refine Run.seq ?_
              (refine Run.region ?_; intro K hK)
              refine Ops.pure H (X.move rfl) rfl rfl rfl ?_
              refine Ops.pure H (X.move rfl) rfl rfl rfl ?_
              (refine Ops.eff rfl (Y.buildSliceO rfl rfl rfl rfl rfl rfl rfl rfl H ?_); intro b138 w H0 hb138; clear H; have H := H0; clear H0)
            case' x8 => exfalso; omega
            have hf4w := H.fr
            have hS : Fr w3 w [lb, q 0, q 1, q 2, q 3] := hS4.trans H.fr (fun _ h => h) (by intro x hx _; simp only [List.mem_cons, List.not_mem_nil, or_false] at hx; rcases hx with rfl | rfl; exact hqS; simp)
            have hqw := H.pick (.tail .head)
            have hlw := H.pick (.tail (.tail .head))
            refine Ops.eff rfl (Y.appendOwnS (news := [.int .u64 nn]) (hO4.keepS H.fr hzl) rfl rfl rfl rfl rfl rfl hS (by omega) rfl (Src.row (m := 1) H .head (Cs.take rfl)) rfl rfl (by dsimp only; omega) (by omega) rfl ?_)
            intro av' w8 hF8 _ hK8 hO8
            have hl8 : w8.heap[lb]? = some (row dcs 30) := by rw [hK8 lb (hzl lb (by simp))]; exact hlw
            have hq8 : w8.heap[q k]? = _ := (hK8 (q k) (hzl (q k) (by simp))).trans hqw
            clear H
            have H := (Holds.start w8 [lb]).add true hl8 (by simp) (by simp)
            refine Ops.pure H (X.assign rfl) rfl rfl rfl ?_
            (refine Ops.nil (hK _ _ ?_); clear hK K)
            (refine Run.region ?_; intro K hK)
            refine Ops.pure H (X.move rfl) rfl rfl rfl ?_
            refine Ops.pure H (X.move rfl) rfl rfl rfl ?_
            refine Ops.pure H (X.move rfl) rfl rfl rfl ?_
            refine Ops.pure H (X.indexAddr rfl rfl (by omega) rfl rfl rfl rfl) rfl rfl rfl ?_
            (refine Ops.eff rfl (Y.storeI rfl rfl rfl rfl rfl rfl H Upd.head (by omega) ?_); intro w H0; clear H; have H := H0; clear H0)
            (refine Ops.nil (hK _ _ ?_); clear hK K)
            refine Run.inBlock ?_
            (refine Run.region ?_; intro K hK)
            refine Ops.pure H (X.move rfl) rfl rfl rfl ?_
            refine Ops.pure H (X.succ rfl rfl (by omega)) rfl rfl rfl ?_
            refine Ops.pure H (X.assign rfl) rfl rfl rfl ?_
            (refine Ops.nil (hK _ _ ?_); clear hK K)
            have hf9 := H.fr
            have hS9 : Fr w3 w [lb, q 0, q 1, q 2, q 3] := hF8.trans H.fr (fun _ h => h) (by intro x hx _; simp at hx; subst hx; simp)
            refine (IH (i + 1, av') _ (by dsimp only; omega) ⟨by dsimp only; omega, hT3.grow hS9 ?_, hS9, fun j => if j = k then c' + 1 else ct j, fun j => if j = k then nn else ls j, xs ++ [nn], ?_, ?_⟩).weak (by repeat (first | exact trivial | refine ⟨rfl, ?_⟩))
            · intro x hx
              simp at hx
              have := hC3.new
              rcases hx with rfl | rfl | rfl | rfl | rfl
              · exact hz3
              · exact this 0 (by omega)
              · exact this 1 (by omega)
              · exact this 2 (by omega)
              · exact this 3 (by omega)
            · have := hO8.keepS hf9 (by simpa using hzl lb (by simp))
              simpa using this
            · refine ⟨fun j hj => ?_, ⟨_, H.pick .head, by simp [hd2], fun j hj => ?_⟩, fun j hj => ?_, fun x hx => ?_⟩
              · have hlj : lb ≠ q j := ne_of_ty hd1 (hR4.hq j hj) (by decide)
                by_cases h : j = k
                · subst h
                  rw [if_pos rfl]
                  exact hf9.get hq8 (by simpa using hlj.symm)
                · rw [if_neg h]
                  have hjk : q j ≠ q k := by
                    rcases Nat.lt_or_gt_of_ne h with h | h
                    · have := hC3.inj j k h hk4; omega
                    · have := hC3.inj k j h hj; omega
                  refine hf9.get ?_ (by simpa using hlj.symm)
                  rw [hK8 (q j) (lt_of_at (hC3.at_ j hj))]
                  exact hf4w.get (hR4.hq j hj) (by simpa using ⟨hjk, hlj.symm⟩)
              · by_cases h : j = k
                · subst h
                  rw [if_pos rfl, List.getElem?_set_self (by omega)]
                · rw [if_neg h, List.getElem?_set_ne (by omega)]
                  exact hd3 j hj
              · have := hR4.hc j hj
                by_cases h : j = k
                · subst h
                  simp only [↓reduceIte]
                  omega
                · simp only [if_neg h]
                  omega
              · rcases List.mem_append.1 hx with hx | hx
                · obtain ⟨k', hk', hm', hd'⟩ := hR4.hx x hx
                  refine ⟨k', hk', hm', ?_⟩
                  by_cases h : k' = k
                  · subst h
                    rw [if_pos rfl]
                    omega
                  · rw [if_neg h]
                    exact hd'
                · simp at hx
                  subst hx
                  exact ⟨k, hk4, by omega, by rw [if_pos rfl]; omega⟩
        · intro kk go
          have hck := hR4.hc k hk4
          by_cases hpos : 0 < hn
          · obtain ⟨rfl, hhb⟩ := hh.2.1 hpos
            have him : i % hn < hn := Nat.mod_lt _ hpos
            obtain ⟨hhx, hh0, hh1⟩ := hh.2.2 (i % hn) him
            have hm : ((i : Int) % (hn : Int)) = ((i % hn : Nat) : Int) := (Int.natCast_emod i hn).symm
            obtain ⟨f, hf, hf4⟩ : ∃ f : Nat, hs (i % hn) % 4 = (f : Int) ∧ f < 4 := ⟨(hs (i % hn) % 4).toNat, by omega, by omega⟩
            have hdf := hd3 f hf4
            have hz4 := lt_of_at hhb
            have hcf := hR4.hc f hf4
            replace H := H.add false (hfr4.get hhb (by simp)) (by simp; omega) (by simp)
            refine Run.seq ?_
            (refine Run.region ?_; intro K hK)
            refine Ops.pure H (X.move rfl) rfl rfl rfl ?_
            refine Ops.pure H (X.len_slice rfl rfl rfl) rfl rfl rfl ?_
            refine Ops.pure H (X.cmp rfl rfl rfl) rfl rfl rfl ?_
            (refine Ops.nil (hK _ _ ?_); clear hK K)
            refine Run.cond_dec rfl (fun h65 => ?x9) (fun h65 => ?y9)
            case' y9 => exfalso; omega
            case' x9 =>
              refine Run.seq ?_
              (refine Run.region ?_; intro K hK)
              refine Ops.pure H (X.move rfl) rfl rfl rfl ?_
              refine Ops.pure H (X.move rfl) rfl rfl rfl ?_
              refine Ops.pure H (X.move rfl) rfl rfl rfl ?_
              refine Ops.pure H (X.len_slice rfl rfl rfl) rfl rfl rfl ?_
              refine Ops.pure H (X.remP rfl rfl (by omega)) rfl rfl rfl ?_
              refine Ops.pure H (X.indexAddr rfl rfl (by assumption) rfl rfl rfl rfl) rfl rfl rfl ?_
              refine Ops.pure H (X.load1 rfl rfl rfl rfl Pick.head (by assumption)) rfl rfl rfl ?_
              refine Ops.pure H (X.remP rfl rfl (by omega)) rfl rfl rfl ?_
              refine Ops.pure H (X.conv rfl rfl rfl rfl rfl (IntWalk.i64_in _ (by omega))) rfl rfl rfl ?_
              refine Ops.pure H (X.assign rfl) rfl rfl rfl ?_
              (refine Ops.nil (hK _ _ ?_); clear hK K)
              refine Run.seq ?_
              (refine Run.draw H [8] [0, 1, 2, 3, 4, 5, 6, 7, 8] ?_; clear H; intro K hK w H)
              refine Draw.take0 rfl (X.move rfl) rfl rfl rfl (by decide +kernel) ?_
              refine Draw.take0 rfl (X.move rfl) rfl rfl rfl (by decide +kernel) ?_
              refine Draw.take0 rfl (X.indexAddr rfl rfl (by omega) rfl rfl rfl rfl) rfl rfl rfl (by decide +kernel) ?_
              refine Draw.take rfl (X.load1 rfl rfl rfl rfl (.tail (.tail (.tail .head))) (by assumption)) rfl rfl rfl (by decide +kernel) ?_
              refine Draw.take0 rfl (X.move rfl) rfl rfl rfl (by decide +kernel) ?_
              refine Draw.take0 rfl (X.move rfl) rfl rfl rfl (by decide +kernel) ?_
            rw [hm]
            skip
            rw [hf]
            refine Draw.take0 rfl (X.indexAddr rfl rfl (by omega) rfl rfl rfl rfl) rfl rfl rfl (by decide +kernel) ?_
            refine Draw.take rfl (X.load1 rfl rfl rfl rfl (.tail (.tail .head)) (by assumption)) rfl rfl rfl (by decide +kernel) ?_
            refine Draw.last rfl rfl (by decide +kernel) (Y.call rfl rfl (by first | assumption | decide +kernel) rfl (see_any _ (q k) (ct k) ((k : Int) * 40) (ls f) (H.pick (.tail .head)) (by omega) (by omega)) rfl ?_)
            rintro v w5 h5
            generalize hc' : (if ls f / 128 > ct k then ls f / 128 else ct k) = c' at h5
            have hc1 : ct k ≤ c' ∧ ls f / 128 ≤ c' ∧ c' ≤ i := by subst hc'; split <;> omega
            replace H := H.call1 (by first | exact .head | exact .tail .head | exact .tail (.tail .head) | exact .tail (.tail (.tail .head)) | exact .tail (.tail (.tail (.tail .head))) | exact .tail (.tail (.tail (.tail (.tail .head)))) | exact .tail (.tail (.tail (.tail (.tail (.tail .head)))))) h5 (by simp); simp only [List.cons_append, List.nil_append] at H; clear h5
            (refine Draw2.done (by decide +kernel) (hK _ _ ?_); clear hK K)
            refine Run.seq ?_
            (refine Run.region ?_; intro K hK)
            refine Ops.pure H (X.move rfl) rfl rfl rfl ?_
            refine Ops.pure H (X.move rfl) rfl rfl rfl ?_
            refine Ops.pure H (X.indexAddr rfl rfl (by omega) rfl rfl rfl rfl) rfl rfl rfl ?_
            refine Ops.pure H (X.load1 rfl rfl rfl rfl (.tail (.tail .head)) (by assumption)) rfl rfl rfl ?_
            refine Ops.pure H (X.move rfl) rfl rfl rfl ?_
            refine Ops.pure H (X.cmp rfl rfl rfl) rfl rfl rfl ?_
            (refine Ops.nil (hK _ _ ?_); clear hK K)
            refine Run.cond_dec rfl (fun h89 => ?x10) (fun h89 => ?y10)
            case' y10 =>
              refine Run.skip ?_
            case' x10 =>
              (refine Run.region ?_; intro K hK)
              refine Ops.pure H (X.move rfl) rfl rfl rfl ?_
              refine Ops.pure H (X.move rfl) rfl rfl rfl ?_
              refine Ops.pure H (X.indexAddr rfl rfl (by omega) rfl rfl rfl rfl) rfl rfl rfl ?_
              refine Ops.pure H (X.load1 rfl rfl rfl rfl (.tail (.tail .head)) (by assumption)) rfl rfl rfl ?_
              refine Ops.pure H (X.assign rfl) rfl rfl rfl ?_
              (refine Ops.nil (hK _ _ ?_); clear hK K)
            · exact go (c', ls f) _ _ ⟨H.sub (.cons_cons _ (.cons _ (.refl _))), by dsimp only; omega, by dsimp only; omega, by dsimp only; omega, by dsimp only; omega⟩ (by repeat (first | exact trivial | refine ⟨rfl, ?_⟩))
            · exact go (c', ls k) _ _ ⟨H.sub (.cons_cons _ (.cons _ (.refl _))), by dsimp only; omega, by dsimp only; omega, by dsimp only; omega, by dsimp only; omega⟩ (by repeat (first | exact trivial | refine ⟨rfl, ?_⟩))
          · refine Run.seq ?_
            (refine Run.region ?_; intro K hK)
            refine Ops.pure H (X.move rfl) rfl rfl rfl ?_
            refine Ops.pure H (X.len_slice rfl rfl rfl) rfl rfl rfl ?_
            refine Ops.pure H (X.cmp rfl rfl rfl) rfl rfl rfl ?_
            (refine Ops.nil (hK _ _ ?_); clear hK K)
            refine Run.cond_dec rfl (fun h65 => ?x11) (fun h65 => ?y11)
            case' y11 =>
              refine Run.skip ?_
            case' x11 => exfalso; omega
            exact go (ct k, ls k) _ _ ⟨H, by dsimp only; omega, by dsimp only; omega, by dsimp only; omega, by dsimp only; omega⟩ (by repeat (first | exact trivial | refine ⟨rfl, ?_⟩))
      · refine Run.seq ?_
        refine Run.seq ?_
        (refine Run.region ?_; intro K hK)
        refine Ops.pure H (X.move rfl) rfl rfl rfl ?_
        refine Ops.pure H (X.move rfl) rfl rfl rfl ?_
        refine Ops.pure H (X.len_slice rfl rfl rfl) rfl rfl rfl ?_
        refine Ops.pure H (X.cmp rfl rfl rfl) rfl rfl rfl ?_
        refine Ops.pure H (X.move rfl) rfl rfl rfl ?_
        refine Ops.split_dec rfl rfl (fun h48 => ?x12) (fun h48 => ?y12)
        case' y12 => exfalso; omega
        case' x12 =>
          refine Ops.pure H (X.move rfl) rfl rfl rfl ?_
          refine Ops.pure H (X.cmp rfl rfl rfl) rfl rfl rfl ?_
          refine Ops.pure H (X.pick_t rfl rfl) rfl rfl rfl ?_
          (refine Ops.nil (hK _ _ ?_); clear hK K)
          refine Run.cond_dec rfl (fun h50 => ?x13) (fun h50 => ?y13)
          case' y13 =>
            refine Run.exit rfl ?_
            refine Run.seq ?_
            (refine Run.region ?_; intro K hK)
            refine Ops.pure H (X.assign rfl) rfl rfl rfl ?_
            (refine Ops.nil (hK _ _ ?_); clear hK K)
          case' x13 => exfalso; omega
        (first | refine Fn.ret1 HF rfl rfl ?_ | refine Fn.ret2 HF rfl rfl rfl ?_ | refine Fn.ret3 HF rfl rfl rfl rfl ?_ | refine Fn.ret0 HF rfl ?_ | refine Fn.fin0 HF rfl ?_ | refine Fn.retG (E := env) HF rfl H (by first | exact RVs.cellN rfl rfl rfl (by first | exact .head | exact .tail .head | exact .tail (.tail .head) | exact .tail (.tail (.tail .head)) | exact .tail (.tail (.tail (.tail .head))) | exact .tail (.tail (.tail (.tail (.tail .head)))) | exact .tail (.tail (.tail (.tail (.tail (.tail .head)))))) (by first | assumption | exact Cs.take rfl) RVs.nil | exact RVs.cellN rfl rfl rfl (by first | exact .head | exact .tail .head | exact .tail (.tail .head) | exact .tail (.tail (.tail .head)) | exact .tail (.tail (.tail (.tail .head))) | exact .tail (.tail (.tail (.tail (.tail .head)))) | exact .tail (.tail (.tail (.tail (.tail (.tail .head)))))) (by first | assumption | exact Cs.take rfl) (RVs.tmp rfl RVs.nil)) rfl ?_)
        exact ⟨rfl, hfr4.then H.fr⟩
    · refine Run.seq ?_
      refine Run.seq ?_
      (refine Run.region ?_; intro K hK)
      refine Ops.pure H (X.move rfl) rfl rfl rfl ?_
      refine Ops.pure H (X.move rfl) rfl rfl rfl ?_
      refine Ops.pure H (X.len_slice rfl rfl rfl) rfl rfl rfl ?_
      refine Ops.pure H (X.cmp rfl rfl rfl) rfl rfl rfl ?_
      refine Ops.pure H (X.move rfl) rfl rfl rfl ?_
      refine Ops.split_dec rfl rfl (fun h48 => ?x14) (fun h48 => ?y14)
      case' y14 =>
        refine Ops.pass rfl rfl rfl ?_
        refine Ops.pass rfl rfl rfl ?_
        refine Ops.pure H (X.pick_f rfl rfl) rfl rfl rfl ?_
        (refine Ops.nil (hK _ _ ?_); clear hK K)
        refine Run.cond_false rfl ?_
        refine Run.exit rfl ?_
        refine Run.seq ?_
        (refine Run.region ?_; intro K hK)
        refine Ops.pure H (X.assign rfl) rfl rfl rfl ?_
        (refine Ops.nil (hK _ _ ?_); clear hK K)
      case' x14 => exfalso; omega
      (first | refine Fn.ret1 HF rfl rfl ?_ | refine Fn.ret2 HF rfl rfl rfl ?_ | refine Fn.ret3 HF rfl rfl rfl rfl ?_ | refine Fn.ret0 HF rfl ?_ | refine Fn.fin0 HF rfl ?_ | refine Fn.retG (E := env) HF rfl H (by first | exact RVs.cellN rfl rfl rfl (by first | exact .head | exact .tail .head | exact .tail (.tail .head) | exact .tail (.tail (.tail .head)) | exact .tail (.tail (.tail (.tail .head))) | exact .tail (.tail (.tail (.tail (.tail .head)))) | exact .tail (.tail (.tail (.tail (.tail (.tail .head)))))) (by first | assumption | exact Cs.take rfl) RVs.nil | exact RVs.cellN rfl rfl rfl (by first | exact .head | exact .tail .head | exact .tail (.tail .head) | exact .tail (.tail (.tail .head)) | exact .tail (.tail (.tail (.tail .head))) | exact .tail (.tail (.tail (.tail (.tail .head)))) | exact .tail (.tail (.tail (.tail (.tail (.tail .head)))))) (by first | assumption | exact Cs.take rfl) (RVs.tmp rfl RVs.nil)) rfl ?_)
      exact ⟨rfl, hfr4.then H.fr⟩
end Go.Proofs.Ythidohdnaeboaaa
