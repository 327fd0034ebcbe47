/- Layer 20: a window's clients. -/
import Derived.Test.YtaneenahapdabaaSL
import Derived.Test.YtaneenahapdabaaEngL
namespace Go.Proofs.Ytaneenahapdabaa
open Go
set_option maxRecDepth 20000
set_option maxHeartbeats 2000000
attribute [local irreducible] Run Ops Fn Draw Draw2 PureOp StepZ

/-- A number's bytes, the high ones first. -/
def beL : Nat → Nat → List Int
  | 0, _ => []
  | k + 1, n => ((n / 256 ^ k % 256 : Nat) : Int) :: beL k n
theorem beL_len (k n : Nat) : (beL k n).length = k := by induction k <;> simp [beL, *]
def fnvS (h : Nat) (x : Int) : Nat := ((h ^^^ x.toNat) * 1099511628211) % 18446744073709551616
def fnvL (xs : List Int) : Nat := xs.foldl fnvS 14695981039346656037
def Byt (xs : List Int) : Prop := ∀ x ∈ xs, 0 ≤ x ∧ x ≤ 255
theorem fnvS_lt (h : Nat) (x : Int) : fnvS h x < 18446744073709551616 := Nat.mod_lt _ (by decide)
theorem fnvL_lt (xs : List Int) : fnvL xs < 18446744073709551616 := by
  unfold fnvL
  have : ∀ (xs : List Int) (h : Nat), h < 18446744073709551616 → xs.foldl fnvS h < 18446744073709551616 := by
    intro xs
    induction xs with
    | nil => exact fun _ h => h
    | cons x l ih => exact fun h _ => ih _ (fnvS_lt h x)
  exact this xs _ (by decide)
theorem u64_wrap (m : Nat) : IntKind.u64.wrap ((m : Nat) : Int) = ((m % 18446744073709551616 : Nat) : Int) := by
  simp [IntKind.wrap, IntKind.bits, IntKind.signed]
theorem u8_wrap (m : Nat) : IntKind.u8.wrap ((m : Nat) : Int) = ((m % 256 : Nat) : Int) := by
  simp [IntKind.wrap, IntKind.bits, IntKind.signed]

theorem fnv0 (xs : List Int) : (14695981039346656037 : Int) = ((fnvL (xs.take 0) : Nat) : Int) := by simp [fnvL]
theorem fnvL_succ (xs : List Int) (i : Nat) (hil : i < xs.length) : fnvL (xs.take (i + 1)) = fnvS (fnvL (xs.take i)) xs[i] := by
  rw [List.take_succ_eq_append_getElem hil, fnvL, fnvL, List.foldl_append, List.foldl_cons, List.foldl_nil]
theorem fnvS_nat (h y : Nat) : fnvS h (y : Int) = ((h ^^^ y) * 1099511628211) % 18446744073709551616 := by rw [fnvS, Int.toNat_natCast]
theorem mul_cast (a p : Nat) (P : Int) (h : P = (p : Int)) : (a : Int) * P = ((a * p : Nat) : Int) := by
  subst h
  simp
theorem fnv_prime : (1099511628211 : Int) = ((1099511628211 : Nat) : Int) := rfl
theorem fnv_mul (a : Nat) : (a : Int) * 1099511628211 = ((a * 1099511628211 : Nat) : Int) := mul_cast a 1099511628211 1099511628211 fnv_prime
theorem fnv_step (xs : List Int) (i y : Nat) (hil : i < xs.length) (hy : xs[i] = (y : Int)) : IntKind.u64.wrap (((fnvL (xs.take i) ^^^ y : Nat) : Int) * 1099511628211) = ((fnvL (xs.take (i + 1)) : Nat) : Int) := by
  rw [fnv_mul, u64_wrap, fnvL_succ xs i hil, hy, fnvS_nat]
theorem fnv_any (z : World) (v : Value) (xs : List Int) (hb : Bys z v xs) (hr : Byt xs) : Fn env.P 56 [v] z fun r w' => r = .int .u64 (fnvL xs : Nat) ∧ Fr z w' [] := by
  obtain ⟨a, cap, b, off, cs, T, fz, rfl, h1, h2, h3, h4⟩ := hb
  have H := Holds.start z []
  have HF := Try.func56; refine Fn.enter Try.func56 Try.ntmps56 rfl rfl rfl ?_
  (refine Run.seq (Run.region ?_); intro K hK)
  refine Ops.pure H (X.assign rfl) rfl rfl rfl ?_
  (refine Ops.nil (hK _ _ (Run.seq (Run.region ?_))); clear hK K; intro K hK)
  refine Ops.pure H (X.assign rfl) rfl rfl rfl ?_
  (refine Ops.nil (hK _ _ ?_); clear hK K)
  refine Run.seq ?_
  (refine Run.seq (Run.region ?_); intro K hK)
  refine Ops.pure H (X.move rfl) rfl rfl rfl ?_
  refine Ops.pure H (X.len_slice rfl rfl rfl) rfl rfl rfl ?_
  refine Ops.pure H (X.move rfl) rfl rfl rfl ?_
  (refine Ops.nil (hK _ _ ?_); clear hK K)
  refine Run.block ?_
  rw [fnv0 xs]
  refine Run.rounds (fun (i : Nat) => [(3, .int .u64 (fnvL (xs.take i) : Nat)), (6, .slice a xs.length cap), (7, .int .i64 (xs.length : Nat)), (8, .int .i64 (i : Nat))]) (fun i w' => i ≤ xs.length ∧ Fr z w' []) (fun i => xs.length - i) 0 (by repeat (first | exact trivial | refine ⟨rfl, ?_⟩)) ⟨by omega, H.fr⟩ ?_
  clear H
  rintro i w1 ⟨hi, hf1⟩ IH
  by_cases hil : i < xs.length
  · obtain ⟨rfl, hbz⟩ := h3 (by omega)
    obtain ⟨y, hy⟩ : ∃ y : Nat, xs[i] = (y : Int) := ⟨xs[i].toNat, by have := hr xs[i] (List.getElem_mem hil); omega⟩
    have hy2 : y ≤ 255 := by have := hr xs[i] (List.getElem_mem hil); omega
    have c1 : cs[off + i * 1]? = some (.int .u8 ((y : Nat) : Int)) := by
      rw [Nat.mul_one, h4.toGet hil]
      simp [u8s, hil, hy]
    have hlt := fnvL_lt (xs.take i)
    have H := (Holds.start w1 []).add false (hf1.get hbz (by simp)) (by simp) (by simp)
    have hcl : off + i < cs.length := (List.getElem?_eq_some_iff.1 (by rw [← Nat.mul_one i]; exact c1)).1
    (refine Run.seq (Run.region ?_); intro K hK)
    refine Ops.pure H (X.cmp rfl rfl rfl) rfl rfl rfl ?_
    (refine Ops.nil (hK _ _ ?_); clear hK K)
    refine Run.seq ?_
    refine Run.cond_dec rfl (fun h9 => ?x0) (fun h9 => ?y0)
    case' y0 => exfalso; omega
    case' x0 =>
      refine Run.skip ?_
      refine Run.seq ?_
      refine Run.block ?_
      (refine Run.seq (Run.region ?_); intro K hK)
      refine Ops.pure H (X.indexAddr rfl rfl (by omega) rfl rfl rfl rfl) rfl rfl rfl ?_
      refine Ops.pure H (X.load1 rfl rfl rfl rfl Pick.head (by assumption)) rfl rfl rfl ?_
      refine Ops.pure H (X.assign rfl) rfl rfl rfl ?_
      (refine Ops.nil (hK _ _ ?_); clear hK K)
      (refine Run.region ?_; intro K hK)
      refine Ops.pure H (X.move rfl) rfl rfl rfl ?_
      refine Ops.pure H (X.move rfl) rfl rfl rfl ?_
      refine Ops.pure H (X.conv rfl rfl rfl rfl rfl (u64_in _ (by omega))) rfl rfl rfl ?_
      refine Ops.pure H (X.xorN rfl rfl rfl rfl (by omega) (by omega)) rfl rfl rfl ?_
      refine Ops.pure H (X.arith rfl rfl rfl) rfl rfl rfl ?_
      refine Ops.pure H (X.assign rfl) rfl rfl rfl ?_
      (refine Ops.nil (hK _ _ ?_); clear hK K)
      refine Run.inBlock ?_
      (refine Run.region ?_; intro K hK)
      refine Ops.pure H (X.succ rfl rfl (by omega)) rfl rfl rfl ?_
      refine Ops.pure H (X.move rfl) rfl rfl rfl ?_
      (refine Ops.nil (hK _ _ ?_); clear hK K)
    have hstep := fnv_step xs i y hil hy
    rw [hstep]
    exact (IH (i + 1) _ (by omega) ⟨by omega, hf1.then H.fr⟩).weak (by repeat (first | exact trivial | refine ⟨rfl, ?_⟩))
  · obtain rfl : i = xs.length := by omega
    rw [List.take_length]
    have H := Holds.start w1 []
    (refine Run.seq (Run.region ?_); intro K hK)
    refine Ops.pure H (X.cmp rfl rfl rfl) rfl rfl rfl ?_
    (refine Ops.nil (hK _ _ ?_); clear hK K)
    refine Run.seq ?_
    refine Run.cond_dec rfl (fun h9 => ?x1) (fun h9 => ?y1)
    case' y1 =>
      refine Run.exit rfl ?_
      (refine Run.seq (Run.region ?_); intro K hK)
      refine Ops.pure H (X.move rfl) rfl rfl rfl ?_
      refine Ops.pure H (X.assign rfl) rfl rfl rfl ?_
      (refine Ops.nil (hK _ _ ?_); clear hK K)
    case' x1 => exfalso; omega
    refine Fn.ret1 HF rfl rfl ?_
    exact ⟨rfl, hf1.then H.fr⟩
theorem hash_any (z : World) (v : Value) (xs : List Int) (hb : Bys z v xs) (hr : Byt xs) : Fn env.P 43 [v] z fun r w' => r = .int .u64 (fnvL xs : Nat) ∧ Fr z w' [] := by
  have H := Holds.start z []
  have HF := Try.func43; refine Fn.enter Try.func43 Try.ntmps43 rfl rfl rfl ?_
  (refine Run.seq (Run.region ?_); intro K hK)
  refine Ops.pure H (X.assign rfl) rfl rfl rfl ?_
  (refine Ops.nil (hK _ _ (Run.seq (Run.region ?_))); clear hK K; intro K hK)
  refine Ops.pure H (X.move rfl) rfl rfl rfl ?_
  refine Ops.eff rfl (Y.call rfl rfl (by first | assumption | decide +kernel) rfl (fnv_any _ v xs (hb.ext H.fr) hr) rfl ?_)
  rintro r w2 ⟨rfl, hf2⟩
  have F2 := H.fr.then hf2
  clear H
  have H := Holds.start w2 []
  refine Ops.pure H (X.assign rfl) rfl rfl rfl ?_
  (refine Ops.nil (hK _ _ ?_); clear hK K)
  refine Fn.ret1 HF rfl rfl ?_
  exact ⟨rfl, F2.then H.fr⟩

theorem enc_any (w0 z : World) (v : Value) (xs : List Int) (n many : Nat) (hO : Own z w0.heap.size 5 1 v xs.length (u8s xs)) (hF : Fr w0 z []) (hn : n < 18446744073709551616) (hk : many ≤ 8) (hl : xs.length + 8 ≤ 70368744177664) :
    Fn env.P 41 [v, .int .u64 (n : Nat), .int .i64 (many : Nat)] z fun v' w' => Own w' w0.heap.size 5 1 v' (xs ++ beL many n).length (u8s (xs ++ beL many n)) ∧ Fr w0 w' [] ∧ ∀ (b : Nat) (o : Obj), z.heap[b]? = some o → (∀ cs, o ≠ row cs 5) → w'.heap[b]? = some o := by
  obtain ⟨sa, scap, rfl⟩ := hO.slice
  have H := Holds.start z []
  have HF := Try.func41; refine Fn.enter Try.func41 Try.ntmps41 rfl rfl rfl ?_
  (refine Run.seq (Run.region ?_); intro K hK)
  refine Ops.pure H (X.assign rfl) rfl rfl rfl ?_
  (refine Ops.nil (hK _ _ ?_); clear hK K)
  refine Run.seq ?_
  (refine Run.seq (Run.region ?_); intro K hK)
  refine Ops.pure H (X.move rfl) rfl rfl rfl ?_
  refine Ops.pure H (X.sub_in rfl rfl (IntWalk.i64_in _ (by omega))) rfl rfl rfl ?_
  refine Ops.pure H (X.assign rfl) rfl rfl rfl ?_
  (refine Ops.nil (hK _ _ ?_); clear hK K)
  refine Run.block ?_
  refine Run.rounds (fun (x : Nat × Value) => [(0, x.2), (1, .int .u64 (n : Nat)), (7, .int .i64 ((x.1 : Int) - 1))])
    (fun x w' => x.1 ≤ many ∧ ∃ ys : List Int, ys ++ beL x.1 n = xs ++ beL many n ∧ Own w' w0.heap.size 5 1 x.2 ys.length (u8s ys) ∧ Fr w0 w' [] ∧ ∀ (b : Nat) (o : Obj), z.heap[b]? = some o → (∀ cs, o ≠ row cs 5) → w'.heap[b]? = some o) (fun x => x.1) (many, .slice sa xs.length scap) (by repeat (first | exact trivial | refine ⟨rfl, ?_⟩)) ⟨by dsimp only; omega, xs, rfl, hO, hF, fun b o h _ => h⟩ ?_
  clear H
  rintro ⟨j, v⟩ w1 ⟨hj, ys, he, hO1, hF1, hk1⟩ IH
  dsimp only at hj he hO1 IH ⊢
  obtain ⟨sa1, scap1, rfl⟩ := hO1.slice
  have hly : ys.length + j = xs.length + many := by have := congrArg List.length he; simpa [beL_len] using this
  by_cases hj0 : j = 0
  · subst hj0
    have H := Holds.start w1 []
    refine Run.seq ?_
    (refine Run.seq (Run.region ?_); intro K hK)
    refine Ops.pure H (X.move rfl) rfl rfl rfl ?_
    refine Ops.pure H (X.cmp rfl rfl rfl) rfl rfl rfl ?_
    (refine Ops.nil (hK _ _ ?_); clear hK K)
    refine Run.cond_false rfl ?_
    refine Run.exit rfl ?_
    (refine Run.seq (Run.region ?_); intro K hK)
    refine Ops.pure H (X.move rfl) rfl rfl rfl ?_
    refine Ops.pure H (X.assign rfl) rfl rfl rfl ?_
    (refine Ops.nil (hK _ _ ?_); clear hK K)
    refine Fn.ret1 HF rfl rfl ?_
    have hys : ys = xs ++ beL many n := by simpa [beL] using he
    rw [← hys]
    exact ⟨hO1.ext H.fr, hF1.then H.fr, fun b o h1 h2 => H.fr.get (hk1 b o h1 h2) (by simp)⟩
  · obtain ⟨q, rfl⟩ : ∃ q, j = q + 1 := ⟨j - 1, by omega⟩
    rw [show (((q + 1 : Nat) : Int) - 1) = ((q : Nat) : Int) by omega]
    have H := Holds.start w1 []
    refine Run.seq ?_
    (refine Run.seq (Run.region ?_); intro K hK)
    refine Ops.pure H (X.move rfl) rfl rfl rfl ?_
    refine Ops.pure H (X.cmp rfl rfl rfl) rfl rfl rfl ?_
    (refine Ops.nil (hK _ _ ?_); clear hK K)
    refine Run.cond_true rfl ?_
    refine Run.skip ?_
    refine Run.seq ?_
    refine Run.block ?_
    (refine Run.region ?_; intro K hK)
    refine Ops.pure H (X.move rfl) rfl rfl rfl ?_
    refine Ops.pure H (X.move rfl) rfl rfl rfl ?_
    refine Ops.pure H (X.move rfl) rfl rfl rfl ?_
    refine Ops.pure H (X.mul_in rfl rfl (IntWalk.i64_in _ (by omega))) rfl rfl rfl ?_
    refine Ops.pure H (X.shrN (s := 8 * q) rfl rfl rfl rfl (by omega)) rfl rfl rfl ?_
    refine Ops.pure H (X.conv rfl rfl rfl rfl rfl (u8_wrap _)) rfl rfl rfl ?_
    rw [show n / 2 ^ (8 * q) = n / 256 ^ q by rw [Nat.pow_mul]]
    (refine Ops.eff rfl (Y.buildSliceO rfl rfl rfl rfl rfl rfl rfl rfl H ?_); intro b20 w H0 hb20; clear H; have H := H0; clear H0)
    refine Ops.eff rfl (Y.appendOwnK (w0 := w0) (S := []) (news := [.int .u8 ((n / 256 ^ q % 256 : Nat) : Int)]) (hO1.ext H.fr) rfl rfl rfl rfl rfl rfl (hF1.then H.fr) (by omega) rfl (Src.row (m := 1) H .head (Cs.take rfl)) rfl rfl (by dsimp only; omega) (by omega) rfl ?_)
    intro v' w3 hF3 hk3 hO3
    have hk4 : ∀ (b : Nat) (o : Obj), z.heap[b]? = some o → (∀ cs, o ≠ row cs 5) → w3.heap[b]? = some o := fun b o h1 h2 => hk3 b o (H.fr.get (hk1 b o h1 h2) (by simp)) h2
    clear H
    have H := Holds.start w3 []
    refine Ops.pure H (X.assign rfl) rfl rfl rfl ?_
    (refine Ops.nil (hK _ _ ?_); clear hK K)
    refine Run.inBlock ?_
    (refine Run.region ?_; intro K hK)
    refine Ops.pure H (X.move rfl) rfl rfl rfl ?_
    refine Ops.pure H (X.sub_in rfl rfl (IntWalk.i64_in _ (by omega))) rfl rfl rfl ?_
    refine Ops.pure H (X.assign rfl) rfl rfl rfl ?_
    (refine Ops.nil (hK _ _ ?_); clear hK K)
    refine (IH (q, v') _ (by dsimp only; omega) ⟨by dsimp only; omega, ys ++ [((n / 256 ^ q % 256 : Nat) : Int)], by rw [← he]; simp [beL], ?_, hF3.then H.fr, fun b o h1 h2 => H.fr.get (hk4 b o h1 h2) (by simp)⟩).weak (by repeat (first | exact trivial | refine ⟨rfl, ?_⟩))
    have hO4 := hO3.ext H.fr
    simpa [u8s] using hO4
end Go.Proofs.Ytaneenahapdabaa

namespace Go.Proofs.Ytaneenahapdabaa
open Go
set_option maxRecDepth 20000
set_option maxHeartbeats 2000000
attribute [local irreducible] Run Ops Fn Draw Draw2 PureOp StepZ

theorem known_any (z : World) (W : WS) (h : Wn z W) (hN : W.N ≤ 1048576) : Fn env.P 42 [.pointer (some ⟨W.wb, 0, none⟩)] z fun v w' => ∃ ys : List Int, (∀ x, x ∈ ys ↔ (W.m x).isSome = true) ∧ ys.Pairwise (· < ·) ∧ ys.length = W.N ∧ Ks z.heap.size w' v ys ∧ Fr z w' [] := by
  obtain ⟨es, k, f, h2, h3, h4, h5⟩ := h.mp
  have hst := h.stp es k h2
  have hkf : ∀ e ∈ es.toList, ∃ x, e.key = .int .u64 x ∧ f x = some e.val := fun e he => by
    obtain ⟨i, hi⟩ := List.getElem?_of_mem he
    exact h3.key i e (by simpa using hi)
  have hke : ∀ e ∈ es.toList, ∃ x, e.key = .int .u64 x := fun e he => (hkf e he).imp fun _ h => h.1
  have H := (Holds.start z []).add false h.at_ (by simp) (by simp)
  have HF := Try.func42; refine Fn.enter Try.func42 Try.ntmps42 rfl rfl rfl ?_
  (refine Run.seq (Run.region ?_); intro K hK)
  refine Ops.pure H (X.assign rfl) rfl rfl rfl ?_
  (refine Ops.nil (hK _ _ (Run.seq (Run.region ?_))); clear hK K; intro K hK)
  refine Ops.pure H (X.move rfl) rfl rfl rfl ?_
  refine Ops.pure H (X.nilCheck rfl) rfl rfl rfl ?_
  refine Ops.pure H (X.fieldAddr rfl rfl rfl rfl rfl rfl) rfl rfl rfl ?_
  refine Ops.pure H (X.load1 rfl rfl rfl rfl Pick.head rfl) rfl rfl rfl ?_
  refine Ops.eff rfl (Y.call rfl rfl (by first | assumption | decide +kernel) rfl (keys_any _ W.mb) rfl ?_)
  rintro v w2 ⟨xb, rfl, hx, hf2, hxz⟩
  have F2 := H.fr.then hf2
  have hm2 := F2.get h2 (by simp)
  clear H
  have H := Holds.start w2 []
  skip
  refine Ops.eff rfl (Y.call rfl rfl (by first | assumption | decide +kernel) rfl (sorted_any _ xb W.mb k es hst hke (H.fr.get hx (by simp)) (H.fr.get hm2 (by simp)) (by omega)) rfl ?_)
  rintro v w3 ⟨ys, hp, hs, hq, hf3⟩
  have F3 := F2.then (H.fr.then hf3)
  replace hq := hq.low (F2.then H.fr).size
  clear H
  have H := Holds.start w3 []
  refine Ops.pure H (X.assign rfl) rfl rfl rfl ?_
  (refine Ops.nil (hK _ _ ?_); clear hK K)
  refine Fn.ret1 HF rfl rfl ?_
  have hnd : (es.toList.map fun e => kI e.key).Nodup := by
    rw [List.nodup_iff_pairwise_ne, List.pairwise_map]
    have h6 := hst.2.2
    rw [List.nodup_iff_pairwise_ne, List.pairwise_map] at h6
    refine h6.imp_of_mem fun {a b} ha hb hab hh => hab ?_
    obtain ⟨x, hx⟩ := hke a ha
    obtain ⟨y, hy⟩ := hke b hb
    rw [hx, hy] at hh ⊢
    simp only [kI] at hh
    rw [hh]
  refine ⟨ys, fun x => ?_, ?_, ?_, hq.ext H.fr, F3.then H.fr⟩
  · rw [hp.mem_iff, List.mem_map]
    constructor
    · rintro ⟨e, he, rfl⟩
      obtain ⟨x, hx, hv⟩ := hkf e he
      rw [hx]
      simp only [kI]
      rw [h5] at hv
      cases hc : W.m x with
      | none => rw [hc] at hv; cases hv
      | some c => rfl
    · intro hx
      obtain ⟨c, hc⟩ := Option.isSome_iff_exists.1 hx
      obtain ⟨i, e, h6, h7, _⟩ := h3.has x (.pointer (some ⟨c.cb, 0, none⟩)) (by rw [h5, hc]; rfl)
      exact ⟨e, by simpa using List.mem_of_getElem? (by simpa using h6 : es.toList[i]? = some e), by rw [h7]; rfl⟩
  · have hn := hp.nodup_iff.2 hnd
    rw [List.nodup_iff_pairwise_ne] at hn
    exact (hs.and hn).imp fun {a b} ⟨h1, h2⟩ => by omega
  · rw [hp.length_eq]
    simpa using h4
end Go.Proofs.Ytaneenahapdabaa
