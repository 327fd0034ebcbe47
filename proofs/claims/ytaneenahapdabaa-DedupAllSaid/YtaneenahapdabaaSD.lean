/- The library's sort, walked: bits.Len, nextPowerOfTwo, xorshift, breakPatterns. -/
import Derived.Test.YtaneenahapdabaaSC
import Derived.Test.YtaneenahapdabaaEngL
namespace Go.Proofs.Ytaneenahapdabaa
open Go
set_option maxRecDepth 20000
set_option maxHeartbeats 2000000
attribute [local irreducible] Run Ops Fn Draw Draw2 PureOp StepZ

def tab8 : ByteArray := ⟨(([0, 1, 2, 2, 3, 3, 3, 3, 4, 4, 4, 4, 4, 4, 4, 4] : List UInt8) ++ List.replicate 16 5 ++ List.replicate 32 6 ++ List.replicate 64 7 ++ List.replicate 128 8).toArray⟩
theorem pow_step (m s y x : Nat) (h : 2 ^ m * y ≤ x) : 2 ^ (m + s) * (y / 2 ^ s) ≤ x := by
  rw [Nat.pow_add, Nat.mul_assoc]
  exact Nat.le_trans (Nat.mul_le_mul_left _ (Nat.mul_div_le y (2 ^ s))) h
theorem tab8_get : ∀ j : Fin 256, ∃ b : UInt8, tab8[j.val]? = some b ∧ b.toNat ≤ 8 ∧ (0 < j.val → 2 ^ b.toNat ≤ 2 * j.val) ∧ (j.val = 0 → b.toNat = 0) := by
  have h : ∀ j : Fin 256, (match tab8[j.val]? with | some b => decide (b.toNat ≤ 8 ∧ (0 < j.val → 2 ^ b.toNat ≤ 2 * j.val) ∧ (j.val = 0 → b.toNat = 0)) | none => false) = true := by decide +kernel
  intro j
  have := h j
  cases hq : tab8[j.val]? with
  | none => rw [hq] at this; cases this
  | some b => rw [hq] at this; exact ⟨b, rfl, of_decide_eq_true this⟩
theorem len64_any (z : World) (x : Nat) (hx : x < 18446744073709551616) : Fn env.P 75 [.int .u64 (x : Nat)] z fun v w' => ∃ l : Nat, v = .int .i64 (l : Nat) ∧ l ≤ 64 ∧ (0 < x → 2 ^ l ≤ 2 * x) ∧ Fr z w' [] := by
  have H := Holds.start z []
  have HF := Try.func75; refine Fn.enter Try.func75 Try.ntmps75 rfl rfl rfl ?_
  (refine Run.seq (Run.region ?_); intro K hK)
  refine Ops.pure H (X.assign rfl) rfl rfl rfl ?_
  (refine Ops.nil (hK _ _ ?_); clear hK K)
  refine Run.seq ?_
  refine Run.meet (fun (p : Nat × Nat) => [(0, .int .u64 (p.2 : Nat)), (2, .int .i64 (p.1 : Nat))]) (fun p w' => p.1 ≤ 32 ∧ p.2 < 4294967296 ∧ 2 ^ p.1 * p.2 ≤ x ∧ (0 < x → 0 < p.2) ∧ Fr z w' []) ?_ ?_
  rotate_left
  · intro kk go
    (refine Run.seq (Run.region ?_); intro K hK)
    refine Ops.pure H (X.move rfl) rfl rfl rfl ?_
    refine Ops.pure H (X.cmp rfl rfl rfl) rfl rfl rfl ?_
    (refine Ops.nil (hK _ _ ?_); clear hK K)
    refine Run.cond_dec rfl (fun h4 => ?x0) (fun h4 => ?y0)
    case' y0 =>
      refine Run.skip ?_
    case' x0 =>
      (refine Run.seq (Run.region ?_); intro K hK)
      refine Ops.pure H (X.move rfl) rfl rfl rfl ?_
      refine Ops.pure H (X.shrN (s := 32) rfl rfl rfl rfl (by decide)) rfl rfl rfl ?_
      refine Ops.pure H (X.assign rfl) rfl rfl rfl ?_
      (refine Ops.nil (hK _ _ ?_); clear hK K)
      (refine Run.region ?_; intro K hK)
      refine Ops.pure H (X.assign rfl) rfl rfl rfl ?_
      (refine Ops.nil (hK _ _ ?_); clear hK K)
    · exact go (32, x / 2 ^ 32) _ _ ⟨by dsimp only; omega, by dsimp only; omega, by dsimp only; omega, by intro _; dsimp only; omega, H.fr⟩ (by repeat (first | exact trivial | refine ⟨rfl, ?_⟩))
    · exact go (0, x) _ _ ⟨by dsimp only; omega, by dsimp only; omega, by simp, by simp, H.fr⟩ (by repeat (first | exact trivial | refine ⟨rfl, ?_⟩))
  rintro ⟨m, y⟩ w1 ⟨hm, hy, hxy, hp, hf1⟩
  dsimp only at hm hy hxy hp ⊢
  clear H
  have H := Holds.start w1 []
  refine Run.seq ?_
  refine Run.meet (fun (p : Nat × Nat) => [(0, .int .u64 (p.2 : Nat)), (2, .int .i64 (p.1 : Nat))]) (fun p w' => p.1 ≤ 48 ∧ p.2 < 65536 ∧ 2 ^ p.1 * p.2 ≤ x ∧ (0 < x → 0 < p.2) ∧ Fr z w' []) ?_ ?_
  rotate_left
  · intro kk go
    (refine Run.seq (Run.region ?_); intro K hK)
    refine Ops.pure H (X.move rfl) rfl rfl rfl ?_
    refine Ops.pure H (X.cmp rfl rfl rfl) rfl rfl rfl ?_
    (refine Ops.nil (hK _ _ ?_); clear hK K)
    refine Run.cond_dec rfl (fun h8 => ?x1) (fun h8 => ?y1)
    case' y1 =>
      refine Run.skip ?_
    case' x1 =>
      (refine Run.seq (Run.region ?_); intro K hK)
      refine Ops.pure H (X.move rfl) rfl rfl rfl ?_
      refine Ops.pure H (X.shrN (s := 16) rfl rfl rfl rfl (by decide)) rfl rfl rfl ?_
      refine Ops.pure H (X.assign rfl) rfl rfl rfl ?_
      (refine Ops.nil (hK _ _ ?_); clear hK K)
      (refine Run.region ?_; intro K hK)
      refine Ops.pure H (X.move rfl) rfl rfl rfl ?_
      refine Ops.pure H (X.add_in rfl rfl (IntWalk.i64_in _ (by omega))) rfl rfl rfl ?_
      refine Ops.pure H (X.assign rfl) rfl rfl rfl ?_
      (refine Ops.nil (hK _ _ ?_); clear hK K)
    · exact go (m + 16, y / 2 ^ 16) _ _ ⟨by dsimp only; omega, by dsimp only; omega, pow_step m 16 y x hxy, by intro _; dsimp only; omega, hf1.then H.fr⟩ (by repeat (first | exact trivial | refine ⟨rfl, ?_⟩))
    · exact go (m, y) _ _ ⟨by dsimp only; omega, by dsimp only; omega, hxy, hp, hf1.then H.fr⟩ (by repeat (first | exact trivial | refine ⟨rfl, ?_⟩))
  clear H hm hy hxy hp hf1 m y
  rintro ⟨m, y⟩ w2 ⟨hm, hy, hxy, hp, hf1⟩
  dsimp only at hm hy hxy hp ⊢
  have H := Holds.start w2 []
  refine Run.seq ?_
  refine Run.meet (fun (p : Nat × Nat) => [(0, .int .u64 (p.2 : Nat)), (2, .int .i64 (p.1 : Nat))]) (fun p w' => p.1 ≤ 56 ∧ p.2 < 256 ∧ 2 ^ p.1 * p.2 ≤ x ∧ (0 < x → 0 < p.2) ∧ Fr z w' []) ?_ ?_
  rotate_left
  · intro kk go
    (refine Run.seq (Run.region ?_); intro K hK)
    refine Ops.pure H (X.move rfl) rfl rfl rfl ?_
    refine Ops.pure H (X.cmp rfl rfl rfl) rfl rfl rfl ?_
    (refine Ops.nil (hK _ _ ?_); clear hK K)
    refine Run.cond_dec rfl (fun h14 => ?x2) (fun h14 => ?y2)
    case' y2 =>
      refine Run.skip ?_
    case' x2 =>
      (refine Run.seq (Run.region ?_); intro K hK)
      refine Ops.pure H (X.move rfl) rfl rfl rfl ?_
      refine Ops.pure H (X.shrN (s := 8) rfl rfl rfl rfl (by decide)) rfl rfl rfl ?_
      refine Ops.pure H (X.assign rfl) rfl rfl rfl ?_
      (refine Ops.nil (hK _ _ ?_); clear hK K)
      (refine Run.region ?_; intro K hK)
      refine Ops.pure H (X.move rfl) rfl rfl rfl ?_
      refine Ops.pure H (X.add_in rfl rfl (IntWalk.i64_in _ (by omega))) rfl rfl rfl ?_
      refine Ops.pure H (X.assign rfl) rfl rfl rfl ?_
      (refine Ops.nil (hK _ _ ?_); clear hK K)
    · exact go (m + 8, y / 2 ^ 8) _ _ ⟨by dsimp only; omega, by dsimp only; omega, pow_step m 8 y x hxy, by intro _; dsimp only; omega, hf1.then H.fr⟩ (by repeat (first | exact trivial | refine ⟨rfl, ?_⟩))
    · exact go (m, y) _ _ ⟨by dsimp only; omega, by dsimp only; omega, hxy, hp, hf1.then H.fr⟩ (by repeat (first | exact trivial | refine ⟨rfl, ?_⟩))
  clear H hm hy hxy hp hf1 m y
  rintro ⟨m, y⟩ w3 ⟨hm, hy, hxy, hp, hf1⟩
  dsimp only at hm hy hxy hp ⊢
  have H := Holds.start w3 []
  obtain ⟨b, hb1, hb2, hb3, hb4⟩ := tab8_get ⟨y, hy⟩
  dsimp only at hb1 hb3 hb4
  have hcv : IntKind.u8.wrap ((y : Nat) : Int) = ((y : Nat) : Int) := by simp [IntKind.wrap, IntKind.bits, IntKind.signed]; omega
  have hfin : 0 < x → 2 ^ (m + b.toNat) ≤ 2 * x := fun h0 => by
    have h1 := hb3 (hp h0)
    rw [Nat.pow_add]
    exact Nat.le_trans (Nat.mul_le_mul_left _ h1) (by rw [Nat.mul_left_comm]; omega)
  (refine Run.seq (Run.region ?_); intro K hK)
  refine Ops.pure H (X.move rfl) rfl rfl rfl ?_
  refine Ops.pure H (X.move rfl) rfl rfl rfl ?_
  refine Ops.pure H (X.conv rfl rfl rfl rfl rfl rfl) rfl rfl rfl ?_
  rw [hcv]
  refine Ops.pure H (X.letter rfl rfl rfl (by exact hb1) rfl rfl) rfl rfl rfl ?_
  refine Ops.pure H (X.conv rfl rfl rfl rfl rfl (IntWalk.i64_in _ (by omega))) rfl rfl rfl ?_
  refine Ops.pure H (X.addN rfl rfl rfl rfl (IntWalk.i64_in _ (by omega))) rfl rfl rfl ?_
  refine Ops.pure H (X.assign rfl) rfl rfl rfl ?_
  (refine Ops.nil (hK _ _ ?_); clear hK K)
  (first | refine Fn.ret1 HF rfl rfl ?_ | refine Fn.ret2 HF rfl rfl rfl ?_ | refine Fn.ret3 HF rfl rfl rfl rfl ?_ | refine Fn.ret0 HF rfl ?_ | refine Fn.fin0 HF rfl ?_ | refine Fn.retG (E := env) HF rfl H (by first | exact RVs.cellN rfl rfl rfl (by repeat (first | exact .head | apply Pick.tail)) (by first | assumption | exact Cs.take rfl) RVs.nil | exact RVs.cellN rfl rfl rfl (by repeat (first | exact .head | apply Pick.tail)) (by first | assumption | exact Cs.take rfl) (RVs.tmp rfl RVs.nil) | exact RVs.cellN rfl rfl rfl (by repeat (first | exact .head | apply Pick.tail)) (by first | assumption | exact Cs.take rfl) (RVs.tmp rfl (RVs.tmp rfl RVs.nil))) rfl ?_)
  exact ⟨m + b.toNat, rfl, by omega, hfin, hf1.then H.fr⟩
theorem len_any (z : World) (x : Nat) (hx : x < 18446744073709551616) : Fn env.P 65 [.int .u64 (x : Nat)] z fun v w' => ∃ l : Nat, v = .int .i64 (l : Nat) ∧ l ≤ 64 ∧ (0 < x → 2 ^ l ≤ 2 * x) ∧ Fr z w' [] := by
  have H := Holds.start z []
  have HF := Try.func65; refine Fn.enter Try.func65 Try.ntmps65 rfl rfl rfl ?_
  (refine Run.seq (Run.region ?_); intro K hK)
  refine Ops.pure H (X.assign rfl) rfl rfl rfl ?_
  (refine Ops.nil (hK _ _ ?_); clear hK K)
  refine Run.seq ?_
  refine Run.cond_false rfl ?_
  refine Run.skip ?_
  (refine Run.seq (Run.region ?_); intro K hK)
  refine Ops.pure H (X.move rfl) rfl rfl rfl ?_
  refine Ops.eff rfl (Y.call rfl rfl (by first | assumption | decide +kernel) rfl (len64_any _ x hx) rfl ?_)
  rintro v w1 ⟨l, rfl, h1, h2, hf1⟩
  replace H := H.ext hf1
  refine Ops.pure H (X.assign rfl) rfl rfl rfl ?_
  (refine Ops.nil (hK _ _ ?_); clear hK K)
  refine Fn.ret1 HF rfl rfl ?_
  exact ⟨l, rfl, h1, h2, H.fr⟩
theorem npow_any (z : World) (x : Nat) (h0 : 0 < x) (hx : x ≤ 2305843009213693951) : Fn env.P 77 [.int .i64 (x : Nat)] z fun v w' => ∃ m : Nat, v = .int .u64 (m : Nat) ∧ 0 < m ∧ m ≤ 2 * x ∧ Fr z w' [] := by
  have H := Holds.start z []
  have HF := Try.func77; refine Fn.enter Try.func77 Try.ntmps77 rfl rfl rfl ?_
  (refine Run.seq (Run.region ?_); intro K hK)
  refine Ops.pure H (X.assign rfl) rfl rfl rfl ?_
  (refine Ops.nil (hK _ _ (Run.seq (Run.region ?_))); clear hK K; intro K hK)
  refine Ops.pure H (X.move rfl) rfl rfl rfl ?_
  refine Ops.pure H (X.conv rfl rfl rfl rfl rfl (u64_in _ (by omega))) rfl rfl rfl ?_
  refine Ops.eff rfl (Y.call rfl rfl (by first | assumption | decide +kernel) rfl (len_any _ x (by omega)) rfl ?_)
  rintro v w1 ⟨l, rfl, h1, h2, hf1⟩
  replace H := H.ext hf1
  have h3 := h2 h0
  have h63 : l ≤ 63 := Nat.le_of_not_lt fun h => by
    have := Nat.pow_le_pow_right (n := 2) (by decide) h
    have e : (2 : Nat) ^ (63 + 1) = 18446744073709551616 := by decide
    omega
  refine Ops.pure H (X.shlN rfl rfl rfl rfl h63) rfl rfl rfl ?_
  refine Ops.pure H (X.assign rfl) rfl rfl rfl ?_
  (refine Ops.nil (hK _ _ ?_); clear hK K)
  (first | refine Fn.ret1 HF rfl rfl ?_ | refine Fn.ret2 HF rfl rfl rfl ?_ | refine Fn.ret3 HF rfl rfl rfl rfl ?_ | refine Fn.ret0 HF rfl ?_ | refine Fn.fin0 HF rfl ?_ | refine Fn.retG (E := env) HF rfl H (by first | exact RVs.cellN rfl rfl rfl (by repeat (first | exact .head | apply Pick.tail)) (by first | assumption | exact Cs.take rfl) RVs.nil | exact RVs.cellN rfl rfl rfl (by repeat (first | exact .head | apply Pick.tail)) (by first | assumption | exact Cs.take rfl) (RVs.tmp rfl RVs.nil) | exact RVs.cellN rfl rfl rfl (by repeat (first | exact .head | apply Pick.tail)) (by first | assumption | exact Cs.take rfl) (RVs.tmp rfl (RVs.tmp rfl RVs.nil))) rfl ?_)
  have hp : 0 < 2 ^ l := Nat.pow_pos (by decide)
  have e : 1 * 2 ^ l % 18446744073709551616 = 2 ^ l := by rw [Nat.one_mul]; exact Nat.mod_eq_of_lt (by omega)
  refine ⟨1 * 2 ^ l % 18446744073709551616, rfl, by rw [e]; exact hp, by rw [e]; exact h3, H.fr⟩
theorem next_any (z : World) (rb r : Nat) (hb : z.heap[rb]? = some (row [.int .u64 (r : Nat)] 124)) (hr : r < 18446744073709551616) : Fn env.P 78 [.pointer (some ⟨rb, 0, none⟩)] z fun v w' => ∃ r' : Nat, v = .int .u64 (r' : Nat) ∧ r' < 18446744073709551616 ∧ w'.heap[rb]? = some (row [.int .u64 (r' : Nat)] 124) ∧ Fr z w' [rb] := by
  have H := (Holds.start z [rb]).add true hb (by simp) (by simp)
  have HF := Try.func78; refine Fn.enter Try.func78 Try.ntmps78 rfl rfl rfl ?_
  (refine Run.seq (Run.region ?_); intro K hK)
  refine Ops.pure H (X.assign rfl) rfl rfl rfl ?_
  (refine Ops.nil (hK _ _ ?_); clear hK K)
  refine Run.seq ?_
  (refine Run.draw H [9] [0, 1, 2, 3, 4, 5, 6, 7, 8, 9] ?_; clear H; intro K hK w H)
  refine Draw.take0 rfl (X.move rfl) rfl rfl rfl (by decide +kernel) ?_
  refine Draw.take0 rfl (X.nilCheck rfl) rfl rfl rfl (by decide +kernel) ?_
  refine Draw.take rfl (X.load1 rfl rfl rfl rfl Pick.head rfl) rfl rfl rfl (by decide +kernel) ?_
  refine Draw.take0 rfl (X.move rfl) rfl rfl rfl (by decide +kernel) ?_
  refine Draw.take0 rfl (X.nilCheck rfl) rfl rfl rfl (by decide +kernel) ?_
  refine Draw.take rfl (X.load1 rfl rfl rfl rfl Pick.head rfl) rfl rfl rfl (by decide +kernel) ?_
  refine Draw.take0 rfl (X.shlN (s := 13) rfl rfl rfl rfl (by decide)) rfl rfl rfl (by decide +kernel) ?_
  refine Draw.take0 rfl (X.xorN rfl rfl rfl rfl (by omega) (by omega)) rfl rfl rfl (by decide +kernel) ?_
  refine Draw.take0 rfl (X.nilCheck rfl) rfl rfl rfl (by decide +kernel) ?_
  (refine Draw.last rfl rfl (by decide +kernel) (Y.store1 rfl rfl rfl rfl rfl rfl H Upd.head (by repeat (first | exact SetC.zero | apply SetC.succ)) ?_); intro w H0; clear H; have H := H0; clear H0)
  (refine Draw2.done (by decide +kernel) (hK _ _ ?_); clear hK K)
  have q1 : r ^^^ (r * 2 ^ 13 % 18446744073709551616) < 18446744073709551616 := Nat.xor_lt_two_pow (n := 64) hr (by omega)
  have k1 := H.pick (b := rb) (by repeat (first | exact .head | apply Pick.tail))
  have f1 := H.fr
  generalize r ^^^ (r * 2 ^ 13 % 18446744073709551616) = r1 at q1 k1
  clear H
  have H := (Holds.start _ [rb]).add true k1 (by simp) (by simp)
  refine Run.seq ?_
  (refine Run.draw H [9] [0, 1, 2, 3, 4, 5, 6, 7, 8, 9] ?_; clear H; intro K hK w H)
  refine Draw.take0 rfl (X.move rfl) rfl rfl rfl (by decide +kernel) ?_
  refine Draw.take0 rfl (X.nilCheck rfl) rfl rfl rfl (by decide +kernel) ?_
  refine Draw.take rfl (X.load1 rfl rfl rfl rfl Pick.head rfl) rfl rfl rfl (by decide +kernel) ?_
  refine Draw.take0 rfl (X.move rfl) rfl rfl rfl (by decide +kernel) ?_
  refine Draw.take0 rfl (X.nilCheck rfl) rfl rfl rfl (by decide +kernel) ?_
  refine Draw.take rfl (X.load1 rfl rfl rfl rfl Pick.head rfl) rfl rfl rfl (by decide +kernel) ?_
  refine Draw.take0 rfl (X.shrN (s := 7) rfl rfl rfl rfl (by decide)) rfl rfl rfl (by decide +kernel) ?_
  refine Draw.take0 rfl (X.xorN rfl rfl rfl rfl (by omega) (by omega)) rfl rfl rfl (by decide +kernel) ?_
  refine Draw.take0 rfl (X.nilCheck rfl) rfl rfl rfl (by decide +kernel) ?_
  (refine Draw.last rfl rfl (by decide +kernel) (Y.store1 rfl rfl rfl rfl rfl rfl H Upd.head (by repeat (first | exact SetC.zero | apply SetC.succ)) ?_); intro w H0; clear H; have H := H0; clear H0)
  (refine Draw2.done (by decide +kernel) (hK _ _ ?_); clear hK K)
  have q2 : r1 ^^^ (r1 / 2 ^ 7) < 18446744073709551616 := Nat.xor_lt_two_pow (n := 64) q1 (by omega)
  have k2 := H.pick (b := rb) (by repeat (first | exact .head | apply Pick.tail))
  have f2 := f1.trans (U := [rb]) H.fr (by simp) (by simp)
  generalize r1 ^^^ (r1 / 2 ^ 7) = r2 at q2 k2
  clear H
  have H := (Holds.start _ [rb]).add true k2 (by simp) (by simp)
  refine Run.seq ?_
  (refine Run.draw H [9] [0, 1, 2, 3, 4, 5, 6, 7, 8, 9] ?_; clear H; intro K hK w H)
  refine Draw.take0 rfl (X.move rfl) rfl rfl rfl (by decide +kernel) ?_
  refine Draw.take0 rfl (X.nilCheck rfl) rfl rfl rfl (by decide +kernel) ?_
  refine Draw.take rfl (X.load1 rfl rfl rfl rfl Pick.head rfl) rfl rfl rfl (by decide +kernel) ?_
  refine Draw.take0 rfl (X.move rfl) rfl rfl rfl (by decide +kernel) ?_
  refine Draw.take0 rfl (X.nilCheck rfl) rfl rfl rfl (by decide +kernel) ?_
  refine Draw.take rfl (X.load1 rfl rfl rfl rfl Pick.head rfl) rfl rfl rfl (by decide +kernel) ?_
  refine Draw.take0 rfl (X.shlN (s := 17) rfl rfl rfl rfl (by decide)) rfl rfl rfl (by decide +kernel) ?_
  refine Draw.take0 rfl (X.xorN rfl rfl rfl rfl (by omega) (by omega)) rfl rfl rfl (by decide +kernel) ?_
  refine Draw.take0 rfl (X.nilCheck rfl) rfl rfl rfl (by decide +kernel) ?_
  (refine Draw.last rfl rfl (by decide +kernel) (Y.store1 rfl rfl rfl rfl rfl rfl H Upd.head (by repeat (first | exact SetC.zero | apply SetC.succ)) ?_); intro w H0; clear H; have H := H0; clear H0)
  (refine Draw2.done (by decide +kernel) (hK _ _ ?_); clear hK K)
  have q3 : r2 ^^^ (r2 * 2 ^ 17 % 18446744073709551616) < 18446744073709551616 := Nat.xor_lt_two_pow (n := 64) q2 (by omega)
  have k3 := H.pick (b := rb) (by repeat (first | exact .head | apply Pick.tail))
  have f3 := f2.trans (U := [rb]) H.fr (by simp) (by simp)
  generalize r2 ^^^ (r2 * 2 ^ 17 % 18446744073709551616) = r3 at q3 k3
  clear H
  have H := (Holds.start _ []).add false k3 (by simp) (by simp)
  (refine Run.seq (Run.region ?_); intro K hK)
  refine Ops.pure H (X.move rfl) rfl rfl rfl ?_
  refine Ops.pure H (X.nilCheck rfl) rfl rfl rfl ?_
  refine Ops.pure H (X.load1 rfl rfl rfl rfl Pick.head rfl) rfl rfl rfl ?_
  refine Ops.pure H (X.assign rfl) rfl rfl rfl ?_
  (refine Ops.nil (hK _ _ ?_); clear hK K)
  (first | refine Fn.ret1 HF rfl rfl ?_ | refine Fn.ret2 HF rfl rfl rfl ?_ | refine Fn.ret3 HF rfl rfl rfl rfl ?_ | refine Fn.ret0 HF rfl ?_ | refine Fn.fin0 HF rfl ?_ | refine Fn.retG (E := env) HF rfl H (by first | exact RVs.cellN rfl rfl rfl (by repeat (first | exact .head | apply Pick.tail)) (by first | assumption | exact Cs.take rfl) RVs.nil | exact RVs.cellN rfl rfl rfl (by repeat (first | exact .head | apply Pick.tail)) (by first | assumption | exact Cs.take rfl) (RVs.tmp rfl RVs.nil) | exact RVs.cellN rfl rfl rfl (by repeat (first | exact .head | apply Pick.tail)) (by first | assumption | exact Cs.take rfl) (RVs.tmp rfl (RVs.tmp rfl RVs.nil))) rfl ?_)
  exact ⟨r3, rfl, q3, H.pick (b := rb) (by repeat (first | exact .head | apply Pick.tail)), f3.trans H.fr (by simp) (by simp)⟩
end Go.Proofs.Ytaneenahapdabaa
