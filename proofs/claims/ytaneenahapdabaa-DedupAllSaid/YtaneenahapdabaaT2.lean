/- Layer 20: a window that goes on: what Put keeps of it. -/
import Derived.Test.YtaneenahapdabaaSX
import Derived.Test.YtaneenahapdabaaP8
namespace Go.Proofs.Ytaneenahapdabaa
open Go
set_option maxRecDepth 20000
set_option maxHeartbeats 2000000
attribute [local irreducible] Run Ops Fn Draw Draw2 PureOp StepZ

theorem own_one (z : World) (v : Value) (xs : List Int) (hv : Bys z v xs) (hb : xs.length ≤ 140737488355327) :
    Fn env.P 8 [v] z fun r w' => ∃ nb cs, r = .slice (some ⟨nb, 0, none⟩) xs.length (xs.length + 2) ∧ w'.heap[nb]? = some (row cs 5) ∧ cs.length = xs.length + 2 ∧ Cs cs 0 xs.length (u8s xs) ∧ z.heap.size ≤ nb ∧ Fr z w' [] := by
  have hv' := hv
  obtain ⟨a, cap, b, off, cs, T, fz, rfl, h2, h3, h4, h5⟩ := hv
  have H := Holds.start z []
  have HF := Try.func8; refine Fn.enter Try.func8 Try.ntmps8 rfl rfl rfl ?_
  (refine Run.seq (Run.region ?_); intro K hK)
  refine Ops.pure H (X.assign rfl) rfl rfl rfl ?_
  (refine Ops.nil (hK _ _ (Run.seq (Run.region ?_))); clear hK K; intro K hK)
  refine Ops.pure H (X.move rfl) rfl rfl rfl ?_
  refine Ops.pure H (X.len_slice rfl rfl rfl) rfl rfl rfl ?_
  refine Ops.pure H (X.add_in rfl rfl (IntWalk.i64_in _ (by omega))) rfl rfl rfl ?_
  refine Ops.eff rfl (Y.make (len := 0) (cap := xs.length + 2) rfl rfl (by omega) rfl rfl rfl rfl (by dsimp only; omega) (by omega) rfl H ?_)
  intro nb ncs w H hnb hnl hnr
  refine Ops.pure H (X.move rfl) rfl rfl rfl ?_
  refine Ops.eff rfl (Y.append_room (news := u8s xs) rfl rfl rfl rfl rfl H .head (by omega) (by dsimp only at hnl ⊢; omega) (by simp) ((hv'.ext H.fr).src) (u8s_one xs) rfl ?_)
  intro w H
  refine Ops.pure H (X.assign rfl) rfl rfl rfl ?_
  (refine Ops.nil (hK _ _ ?_); clear hK K)
  refine Fn.ret1 HF rfl rfl ?_
  dsimp only at hnl
  exact ⟨nb, _, by rw [Nat.zero_add], H.pick .head, by rw [putC_length]; omega, (Cs.put (by simp; omega)).cast rfl (by simp) rfl, hnb, H.fr⟩
theorem dnew_no (z : World) (n : Int) (h : ¬ (1 ≤ n ∧ n ≤ 64)) : Fn env.P 16 [.int .i64 n] z fun v w' => v = .tuple #[.pointer none, .int .i64 1] ∧ Fr z w' [] := by
  have H := Holds.start z []
  have HF := Try.func16; refine Fn.enter Try.func16 Try.ntmps16 rfl rfl rfl ?_
  (refine Run.seq (Run.region ?_); intro K hK)
  refine Ops.pure H (X.assign rfl) rfl rfl rfl ?_
  refine Ops.pure H (X.assign rfl) rfl rfl rfl ?_
  (refine Ops.nil (hK _ _ ?_); clear hK K)
  refine Run.seq ?_
  (refine Run.seq (Run.region ?_); intro K hK)
  refine Ops.pure H (X.move rfl) rfl rfl rfl ?_
  refine Ops.pure H (X.cmp rfl rfl rfl) rfl rfl rfl ?_
  refine Ops.pure H (X.move rfl) rfl rfl rfl ?_
  refine Ops.split_dec rfl rfl (fun h7 => ?x0) (fun h7 => ?y0)
  case' y0 =>
    refine Ops.pure H (X.move rfl) rfl rfl rfl ?_
    refine Ops.pure H (X.cmp rfl rfl rfl) rfl rfl rfl ?_
    refine Ops.pure H (X.pick_f rfl rfl) rfl rfl rfl ?_
    (refine Ops.nil (hK _ _ ?_); clear hK K)
    refine Run.cond_dec rfl (fun h9 => ?x1) (fun h9 => ?y1)
    case' y1 => exfalso; omega
    case' x1 =>
      (refine Run.seq (Run.region ?_); intro K hK)
      refine Ops.pure H (X.assign rfl) rfl rfl rfl ?_
      refine Ops.pure H (X.assign rfl) rfl rfl rfl ?_
      (refine Ops.nil (hK _ _ ?_); clear hK K)
  case' x0 =>
    refine Ops.pass rfl rfl rfl ?_
    refine Ops.pass rfl rfl rfl ?_
    refine Ops.pure H (X.pick_t rfl rfl) rfl rfl rfl ?_
    (refine Ops.nil (hK _ _ ?_); clear hK K)
    refine Run.cond_true rfl ?_
    (refine Run.seq (Run.region ?_); intro K hK)
    refine Ops.pure H (X.assign rfl) rfl rfl rfl ?_
    refine Ops.pure H (X.assign rfl) rfl rfl rfl ?_
    (refine Ops.nil (hK _ _ ?_); clear hK K)
  all_goals refine Fn.ret2 HF rfl rfl rfl ?_
  all_goals exact ⟨rfl, H.fr⟩
theorem dnew_yes (z : World) (n : Int) (h1 : 1 ≤ n) (h2 : n ≤ 64) : Fn env.P 16 [.int .i64 n] z fun v w' => ∃ db, v = .tuple #[.pointer (some ⟨db, 0, none⟩), .int .i64 0] ∧ w'.heap[db]? = some (row [.int .i64 n, .slice none 0 0] 80) ∧ Fr z w' [] ∧ z.heap.size ≤ db := by
  have H := Holds.start z []
  have HF := Try.func16; refine Fn.enter Try.func16 Try.ntmps16 rfl rfl rfl ?_
  (refine Run.seq (Run.region ?_); intro K hK)
  refine Ops.pure H (X.assign rfl) rfl rfl rfl ?_
  refine Ops.pure H (X.assign rfl) rfl rfl rfl ?_
  (refine Ops.nil (hK _ _ ?_); clear hK K)
  refine Run.seq ?_
  (refine Run.seq (Run.region ?_); intro K hK)
  refine Ops.pure H (X.move rfl) rfl rfl rfl ?_
  refine Ops.pure H (X.cmp rfl rfl rfl) rfl rfl rfl ?_
  refine Ops.pure H (X.move rfl) rfl rfl rfl ?_
  refine Ops.split_dec rfl rfl (fun h7 => ?x2) (fun h7 => ?y2)
  case' y2 =>
    refine Ops.pure H (X.move rfl) rfl rfl rfl ?_
    refine Ops.pure H (X.cmp rfl rfl rfl) rfl rfl rfl ?_
    refine Ops.pure H (X.pick_f rfl rfl) rfl rfl rfl ?_
    (refine Ops.nil (hK _ _ ?_); clear hK K)
    refine Run.cond_dec rfl (fun h9 => ?x3) (fun h9 => ?y3)
    case' y3 =>
      refine Run.skip ?_
      (refine Run.seq (Run.region ?_); intro K hK)
      refine Ops.pure H (X.move rfl) rfl rfl rfl ?_
      refine Ops.pure H (X.buildO rfl rfl rfl rfl rfl rfl) rfl rfl rfl ?_
      (refine Ops.eff rfl (Y.box rfl rfl rfl H ?_); intro b12 w H0 hb12; clear H; have H := H0; clear H0)
      refine Ops.pure H (X.assign rfl) rfl rfl rfl ?_
      refine Ops.pure H (X.assign rfl) rfl rfl rfl ?_
      (refine Ops.nil (hK _ _ ?_); clear hK K)
    case' x3 => exfalso; omega
  case' x2 => exfalso; omega
  refine Fn.ret2 HF rfl rfl rfl ?_
  exact ⟨_, rfl, H.pick .head, H.fr, by assumption⟩
theorem begins_no (z : World) (n : Int) (h : ¬ (1 ≤ n ∧ n ≤ 64)) : Fn env.P 6 [.int .i64 n] z fun v w' => v = .tuple #[.pointer none, .bool true] ∧ Fr z w' [] := by
  have H := Holds.start z []
  have HF := Try.func6; refine Fn.enter Try.func6 Try.ntmps6 rfl rfl rfl ?_
  (refine Run.seq (Run.region ?_); intro K hK)
  refine Ops.pure H (X.assign rfl) rfl rfl rfl ?_
  refine Ops.pure H (X.assign rfl) rfl rfl rfl ?_
  (refine Ops.nil (hK _ _ (Run.seq (Run.region ?_))); clear hK K; intro K hK)
  refine Ops.pure H (X.move rfl) rfl rfl rfl ?_
  refine Ops.eff rfl (Y.call rfl rfl (by first | assumption | decide +kernel) rfl (new_no _ n h) rfl ?_)
  rintro v w1 ⟨rfl, hf1⟩
  replace H := H.ext hf1
  refine Ops.pure H (X.move rfl) rfl rfl rfl ?_
  refine Ops.pure H (X.extract rfl rfl) rfl rfl rfl ?_
  refine Ops.pure H (X.extract rfl rfl) rfl rfl rfl ?_
  refine Ops.pure H (X.assign rfl) rfl rfl rfl ?_
  refine Ops.pure H (X.assign rfl) rfl rfl rfl ?_
  (refine Ops.nil (hK _ _ (Run.seq (Run.region ?_))); clear hK K; intro K hK)
  refine Ops.pure H (X.move rfl) rfl rfl rfl ?_
  refine Ops.eff rfl (Y.call rfl rfl (by first | assumption | decide +kernel) rfl (dnew_no _ n h) rfl ?_)
  rintro v w2 ⟨rfl, hf2⟩
  replace H := H.ext hf2
  refine Ops.pure H (X.move rfl) rfl rfl rfl ?_
  refine Ops.pure H (X.extract rfl rfl) rfl rfl rfl ?_
  refine Ops.pure H (X.extract rfl rfl) rfl rfl rfl ?_
  refine Ops.pure H (X.assign rfl) rfl rfl rfl ?_
  refine Ops.pure H (X.assign rfl) rfl rfl rfl ?_
  (refine Ops.nil (hK _ _ ?_); clear hK K)
  refine Run.seq ?_
  (refine Run.seq (Run.region ?_); intro K hK)
  refine Ops.pure H (X.move rfl) rfl rfl rfl ?_
  refine Ops.pure H (X.move rfl) rfl rfl rfl ?_
  refine Ops.pure H (X.cmp rfl rfl rfl) rfl rfl rfl ?_
  refine Ops.pure H (X.move rfl) rfl rfl rfl ?_
  refine Ops.pure H (X.move rfl) rfl rfl rfl ?_
  refine Ops.pure H (X.ptrNil rfl rfl rfl rfl rfl) rfl rfl rfl ?_
  refine Ops.pure H (X.move rfl) rfl rfl rfl ?_
  refine Ops.pure H (X.ptrNil rfl rfl rfl rfl rfl) rfl rfl rfl ?_
  refine Ops.pure H (X.boolEq rfl rfl rfl rfl rfl) rfl rfl rfl ?_
  refine Ops.pure H (X.pick_f rfl rfl) rfl rfl rfl ?_
  (refine Ops.nil (hK _ _ ?_); clear hK K)
  refine Run.cond_false rfl ?_
  refine Run.skip ?_
  refine Run.seq ?_
  (refine Run.seq (Run.region ?_); intro K hK)
  refine Ops.pure H (X.move rfl) rfl rfl rfl ?_
  refine Ops.pure H (X.ptrNil rfl rfl rfl rfl rfl) rfl rfl rfl ?_
  (refine Ops.nil (hK _ _ ?_); clear hK K)
  refine Run.cond_true rfl ?_
  (refine Run.seq (Run.region ?_); intro K hK)
  refine Ops.pure H (X.assign rfl) rfl rfl rfl ?_
  refine Ops.pure H (X.assign rfl) rfl rfl rfl ?_
  (refine Ops.nil (hK _ _ ?_); clear hK K)
  refine Fn.ret2 HF rfl rfl rfl ?_
  exact ⟨rfl, H.fr⟩
theorem begins_yes (z : World) (n : Int) (h1 : 1 ≤ n) (h2 : n ≤ 64) : Fn env.P 6 [.int .i64 n] z fun v w' => ∃ pb wb mb db, v = .tuple #[.pointer (some ⟨pb, 0, none⟩), .bool true] ∧ w'.heap[pb]? = some (row [.pointer (some ⟨wb, 0, none⟩), .pointer (some ⟨db, 0, none⟩)] 36) ∧ Wn w' ⟨wb, mb, n, 0, fun _ => none⟩ ∧ w'.heap[db]? = some (row [.int .i64 n, .slice none 0 0] 80) ∧ Fr z w' [] ∧ z.heap.size ≤ wb ∧ z.heap.size ≤ mb ∧ z.heap.size ≤ db ∧ z.heap.size ≤ pb := by
  have H := Holds.start z []
  have HF := Try.func6; refine Fn.enter Try.func6 Try.ntmps6 rfl rfl rfl ?_
  (refine Run.seq (Run.region ?_); intro K hK)
  refine Ops.pure H (X.assign rfl) rfl rfl rfl ?_
  refine Ops.pure H (X.assign rfl) rfl rfl rfl ?_
  (refine Ops.nil (hK _ _ (Run.seq (Run.region ?_))); clear hK K; intro K hK)
  refine Ops.pure H (X.move rfl) rfl rfl rfl ?_
  refine Ops.eff rfl (Y.call rfl rfl (by first | assumption | decide +kernel) rfl (new_yes _ n h1 h2) rfl ?_)
  rintro v w1 ⟨wb, mb, rfl, hW1, hf1, hwb, hmb⟩
  have hz1 := H.fr.size
  have hz2 := hf1.size
  replace H := H.ext hf1
  have F1 := H.fr
  replace H := H.anew (S' := []) (G' := []) (by repeat constructor) (by simp)
  refine Ops.pure H (X.move rfl) rfl rfl rfl ?_
  refine Ops.pure H (X.extract rfl rfl) rfl rfl rfl ?_
  refine Ops.pure H (X.extract rfl rfl) rfl rfl rfl ?_
  refine Ops.pure H (X.assign rfl) rfl rfl rfl ?_
  refine Ops.pure H (X.assign rfl) rfl rfl rfl ?_
  (refine Ops.nil (hK _ _ (Run.seq (Run.region ?_))); clear hK K; intro K hK)
  refine Ops.pure H (X.move rfl) rfl rfl rfl ?_
  refine Ops.eff rfl (Y.call rfl rfl (by first | assumption | decide +kernel) rfl (dnew_yes _ n h1 h2) rfl ?_)
  rintro v w2 ⟨db, rfl, hD2, hf2, hdb⟩
  have hz3 := H.fr.size
  have hz4 := hf2.size
  have hz5 := F1.size
  have hW2 := (hW1.ext H.fr).ext hf2
  have F2 := (F1.then H.fr).then hf2
  clear H
  have H := (Holds.start w2 []).add false hD2 (by simp) (by simp)
  refine Ops.pure H (X.move rfl) rfl rfl rfl ?_
  refine Ops.pure H (X.extract rfl rfl) rfl rfl rfl ?_
  refine Ops.pure H (X.extract rfl rfl) rfl rfl rfl ?_
  refine Ops.pure H (X.assign rfl) rfl rfl rfl ?_
  refine Ops.pure H (X.assign rfl) rfl rfl rfl ?_
  (refine Ops.nil (hK _ _ ?_); clear hK K)
  refine Run.seq ?_
  (refine Run.seq (Run.region ?_); intro K hK)
  refine Ops.pure H (X.move rfl) rfl rfl rfl ?_
  refine Ops.pure H (X.move rfl) rfl rfl rfl ?_
  refine Ops.pure H (X.cmp rfl rfl rfl) rfl rfl rfl ?_
  refine Ops.pure H (X.move rfl) rfl rfl rfl ?_
  refine Ops.pure H (X.move rfl) rfl rfl rfl ?_
  refine Ops.pure H (X.ptrNil rfl rfl rfl rfl rfl) rfl rfl rfl ?_
  refine Ops.pure H (X.move rfl) rfl rfl rfl ?_
  refine Ops.pure H (X.ptrNil rfl rfl rfl rfl rfl) rfl rfl rfl ?_
  refine Ops.pure H (X.boolEq rfl rfl rfl rfl rfl) rfl rfl rfl ?_
  refine Ops.pure H (X.pick_f rfl rfl) rfl rfl rfl ?_
  (refine Ops.nil (hK _ _ ?_); clear hK K)
  refine Run.cond_false rfl ?_
  refine Run.skip ?_
  refine Run.seq ?_
  (refine Run.seq (Run.region ?_); intro K hK)
  refine Ops.pure H (X.move rfl) rfl rfl rfl ?_
  refine Ops.pure H (X.ptrNil rfl rfl rfl rfl rfl) rfl rfl rfl ?_
  (refine Ops.nil (hK _ _ ?_); clear hK K)
  refine Run.cond_false rfl ?_
  refine Run.skip ?_
  (refine Run.seq (Run.region ?_); intro K hK)
  refine Ops.pure H (X.move rfl) rfl rfl rfl ?_
  refine Ops.pure H (X.move rfl) rfl rfl rfl ?_
  refine Ops.pure H (X.buildO rfl rfl rfl rfl rfl rfl) rfl rfl rfl ?_
  (refine Ops.eff rfl (Y.box rfl rfl rfl H ?_); intro b33 w H0 hb33; clear H; have H := H0; clear H0)
  refine Ops.pure H (X.assign rfl) rfl rfl rfl ?_
  refine Ops.pure H (X.assign rfl) rfl rfl rfl ?_
  (refine Ops.nil (hK _ _ ?_); clear hK K)
  refine Fn.ret2 HF rfl rfl rfl ?_
  exact ⟨_, wb, mb, db, rfl, H.pick (by repeat (first | exact .head | apply Pick.tail)), hW2.ext H.fr, H.pick (b := db) (by repeat (first | exact .head | apply Pick.tail)), F2.then H.fr, by omega, by omega, by omega, by omega⟩
/-- Put keeps a client whole. -/
theorem Full.ins {size : Nat} {s : CS} {seq : Int} {bs : List Int} (h : s = cs0 ∨ Full size s) (h1 : 1 ≤ size) (hq : U64 seq) (hf : s.floor < seq) (hk : s.ans seq = none) (hb : Byt bs) (hl : bs.length ≤ 65536) : Full size (insC size s seq bs) := by
  have hr : Ris s := h.elim (fun e => by rw [e]; exact Ris.zero) (fun h => h.ris)
  have hok : COk s := h.elim (fun e => by rw [e]; exact ⟨⟨by simp [cs0], by simp [cs0]⟩, by simp [cs0], by simp [cs0]⟩) (fun h => h.ok)
  have hle : s.seqs.length ≤ size := h.elim (fun e => by rw [e]; simp [cs0]) (fun h => h.le)
  have hall : s.floor ≠ 0 → s.seqs.length = size := h.elim (fun e => by rw [e]; simp [cs0]) (fun h => h.all)
  have hR := (hr.ins (n := (size : Int)) (bs := bs) hf hk).1
  have hlen := insL_len (x := seq) (bsL_le s.seqs seq)
  have hmem : ∀ y ∈ insL (bsL s.seqs seq) seq s.seqs, U64 y := fun y hy => by
    rcases insL_mem.1 hy with rfl | hy
    · exact hq
    · exact hok.sq y hy
  have han : ∀ x a, updA s.ans seq (some bs) x = some a → Byt a ∧ a.length ≤ 65536 := fun x a hx => by
    rw [updA] at hx
    split at hx
    · cases hx; exact ⟨hb, hl⟩
    · exact hok.an x a hx
  have hg : U64 ((insL (bsL s.seqs seq) seq s.seqs).getD 0 0) := by
    cases hQ : insL (bsL s.seqs seq) seq s.seqs with
    | nil => exact ⟨by simp, by simp⟩
    | cons q r => exact hmem q (by rw [hQ]; simp)
  unfold insC at hR ⊢
  by_cases hs : (size : Int) < ((insL (bsL s.seqs seq) seq s.seqs).length : Nat)
  · rw [if_pos hs] at hR ⊢
    refine ⟨⟨hg, fun x hx => hmem x (List.mem_of_mem_tail hx), fun x a hx => ?_⟩, hR, ?_, ?_, fun _ => ?_⟩
    · dsimp only at hx
      rw [updA] at hx
      split at hx
      · cases hx
      · exact han x a hx
    · simp; omega
    · simp; omega
    · simp; omega
  · rw [if_neg hs] at hR ⊢
    refine ⟨⟨hok.fl, hmem, han⟩, hR, ?_, ?_, fun h0 => ?_⟩
    · dsimp only; omega
    · dsimp only; omega
    · dsimp only at h0 ⊢
      have := hall h0
      omega
theorem ask_fresh {s : Option CS} {seq : Int} (h0 : 0 < seq) (h : askK s seq = 1) : (s.getD cs0).floor < seq ∧ (s.getD cs0).ans seq = none := by
  cases s with
  | none => exact ⟨h0, rfl⟩
  | some c =>
    unfold askK at h
    dsimp only at h
    split at h
    · omega
    · split at h
      · omega
      · rename_i h1 h2
        refine ⟨by simp only [Option.getD_some]; omega, ?_⟩
        simp only [Option.getD_some]
        cases ha : c.ans seq with
        | none => rfl
        | some b => rw [ha] at h2; exact absurd rfl h2
theorem putS_full {size N : Nat} {s : Option CS} {seq : Int} {bs : List Int} (h : ∀ c, s = some c → Full size c) (h1 : 1 ≤ size) (hq : U64 seq) (hb : Byt bs) : ∀ c, putS size N s seq bs = some c → Full size c := by
  unfold putS
  split
  · rename_i he
    intro c hc
    cases hc
    unfold putE at he
    split at he
    · omega
    · split at he
      · omega
      · split at he
        · omega
        · rename_i h0 hl hk
          have hk' : askK s seq = 1 := Classical.not_not.1 hk
          have hf := ask_fresh (by have := hq.1; omega) hk'
          refine Full.ins ?_ h1 hq hf.1 hf.2 hb (by omega)
          cases s with
          | none => exact .inl rfl
          | some c => exact .inr (h c rfl)
  · exact h
end Go.Proofs.Ytaneenahapdabaa

namespace Go.Proofs.Ytaneenahapdabaa
open Go
section
variable {E : Env} {n : Nat} {L : Sl} {G : List Ent} {d T : Nat} {pos : String} {e : Array Edge} {g : Option (Nat × Bool)} {x y : Operand}
theorem X.xor8 {t t' i j : Nat} {a b : Int} (hx : ev L x = some (.int .u8 a)) (hy : ev L y = some (.int .u8 b)) (ha : natOf a = some i) (hb : natOf b = some j) (hi : i < 256) (hj : j < 256) :
    PureOp E n L G ⟨some d, .binOp .xor t x y t', T, pos, e, g⟩ (.int .u8 ((i ^^^ j : Nat) : Nat)) := by
  rw [natOf_eq ha] at hx
  rw [natOf_eq hb] at hy
  intro w _ c hc
  have h1 : ((BitVec.ofInt IntKind.u8.bits (i : Int)) ^^^ (BitVec.ofInt IntKind.u8.bits (j : Int))).toNat = i ^^^ j := by
    have e : ∀ k : Nat, BitVec.ofInt IntKind.u8.bits (k : Int) = BitVec.ofNat IntKind.u8.bits k := fun k => by simp
    rw [e, e, BitVec.toNat_xor, BitVec.toNat_ofNat, BitVec.toNat_ofNat, Nat.mod_eq_of_lt (by simpa [IntKind.bits] using hi), Nat.mod_eq_of_lt (by simpa [IntKind.bits] using hj)]
  have h2 : IntKind.u8.wrap (((i ^^^ j : Nat) : Nat) : Int) = ((i ^^^ j : Nat) : Int) := by
    rw [u8_wrap, Nat.mod_eq_of_lt (Nat.xor_lt_two_pow (n := 8) hi hj)]
  simp only [execOp, hc.eval hx, hc.eval hy, eqGuard, binOp, Op.intBits, h1, h2]
  simp
end
section
variable {E : Env} {n : Nat} {L : Sl} {G : List Ent} {d T : Nat} {pos : String} {e : Array Edge} {g : Option (Nat × Bool)} {x : Operand}
theorem X.bytesG {t t2 el : Nat} {v : Value} {xs : List Int} {ti t2i te : TyI} (hB : ∀ w : World, (∀ e ∈ G, w.heap[e.b]? = some e.o) → Bys w v xs) (hx : ev L x = some v) (ht : nth E.T t = some (some ti)) (hd : ti.d = .slice el) (hte : nth E.T el = some (some te)) (hde : te.d = .int .u8) (ht2 : nth E.T t2 = some (some t2i)) (hd2 : t2i.d = .str) :
    PureOp E n L G ⟨some d, .convert t t2 x, T, pos, e, g⟩ (.string (strOfNums xs)) := by
  obtain ⟨h1, _⟩ := E.ok t ti ht
  rw [hd] at h1
  obtain ⟨h2, _⟩ := E.ok el te hte
  rw [hde] at h2
  obtain ⟨h3, _⟩ := E.ok t2 t2i ht2
  rw [hd2] at h3
  intro w hG c hs
  obtain ⟨a, cap, b, off, cs, T', fz, rfl, k2, k3, k4, k5⟩ := hB w hG
  cases a with
  | none =>
    have h0 : xs = [] := by
      cases xs with
      | nil => rfl
      | cons y r => have := (k4 (by simp)).1; cases this
    subst h0
    have := run_convert_bytes_nil (P := E.P) w t el h1 h2 0 cap t2 h3
    simp only [List.length_nil] at hx
    simp [execOp, hs.eval hx, this]
    rfl
  | some a =>
    by_cases hp : 0 < xs.length
    · obtain ⟨e1, e2⟩ := k4 hp
      cases e1
      have := run_convert_bytes_arg (P := E.P) w t el h1 h2 b off xs.length cap xs rfl (fun i hi => by
        rw [cell_cells e2, k5.toGet hi]
        simp [List.getD_eq_getElem?_getD, hi]) t2 h3
      simp [execOp, hs.eval hx, this]
    · have h0 : xs = [] := List.eq_nil_of_length_eq_zero (by omega)
      subst h0
      obtain ⟨ab, ao, asp⟩ := a
      have h4 : (convert t t2 (.slice (some ⟨ab, ao, asp⟩) 0 cap)).run E.P w = .ok (.string (strOfNums [])) w := by
        rw [run_convert_bytes_string w t t2 el _ 0 cap h1 h2 h3, run_bytesToString w _ 0 cap [] (by simp [loadCells, loadCellsFrom])]
        rfl
      simp only [List.length_nil] at hx
      simp [execOp, hs.eval hx, h4]
end
theorem AnyS.mono {P : Program} {ops : Array Oper} {Q : Exit → Act → World → Prop} {S S' : World → Prop} {nd : Nat → Bool} (hs : ∀ w, S' w → S w) : ∀ (m : Nat) (listed : Array Bool) (a : Act) (w : World), AnyS P ops Q S' nd m listed a w → AnyS P ops Q S nd m listed a w
  | 0, _, _, _, h => h
  | m + 1, _, _, _, h => ⟨h.1, fun i hi => wpOp_mono (fun _ _ h' => by
      split at h'
      · rename_i hn
        rw [if_pos hn]
        exact ⟨hs _ h'.1, AnyS.mono hs m _ _ _ h'.2⟩
      · rename_i hn
        rw [if_neg hn]
        exact h') (h.2 i hi)⟩
/-- From here on more is known. -/
theorem Draw.more {E : Env} {f : FuncId} {R : Ending → World → Prop} {n : Nat} {ops : List Oper} {k : Sl → World → Prop} {L : Sl} {w w0 : World} {S : List Nat} {G G' : List Ent} {tl td : List Nat} {m : Nat} {listed : Array Bool} (H : Holds w0 S w G') (hs : ∀ e ∈ G, ∃ e' ∈ G', e'.b = e.b ∧ e'.o = e.o) (h : Draw E f R n ops k G' tl td m listed L w) : Draw E f R n ops k G tl td m listed L w :=
  fun _ a ha => AnyS.mono (fun w hw e he => by obtain ⟨e', h1, h2, h3⟩ := hs e he; rw [← h2, ← h3]; exact hw e' h1) m listed a w (h H.at_ a ha)
set_option maxRecDepth 20000
set_option maxHeartbeats 2000000
attribute [local irreducible] Run Ops Fn Draw Draw2 PureOp StepZ

/-- A window that goes on. -/
structure Go1 (z w : World) (n : Nat) (W : WS) : Prop where
  fr : Fr z w []
  pw : Wn w W
  gw : ∀ b, Foot W b → z.heap.size ≤ b
  nw : W.size = n
  nn : W.N ≤ 1024
  u : ∀ x s, st W x = some s → U64 x ∧ Full n s
theorem Go1.ext {z w w' : World} {n : Nat} {W : WS} (h : Go1 z w n W) (hf : Fr w w' []) : Go1 z w' n W := ⟨h.fr.then hf, h.pw.ext hf, h.gw, h.nw, h.nn, h.u⟩
theorem Go1.short {z w : World} {n : Nat} {W : WS} (h : Go1 z w n W) (id : Int) : Short n (st W id) := fun c hc => by
  have hF := (h.u id c hc).2
  exact ⟨by have := hF.le; omega, fun x xs hx => (hF.ok.an x xs hx).2⟩
theorem Go1.wok {z w : World} {n : Nat} {W : WS} (h : Go1 z w n W) (h1 : 1 ≤ n) (h2 : n ≤ 64) : WOk W :=
  ⟨by rw [h.nw]; omega, h.nn, fun x c hx => by
    obtain ⟨a, b⟩ := h.u x c.s (by rw [st, hx]; rfl)
    exact ⟨a, b.ok⟩⟩
/-- Another one, when this one is written. -/
theorem Go1.other {z w w' : World} {n : Nat} {W A : WS} {S : List Nat} (h : Go1 z w n A) (hW : Wn w W) (hd : Dj W A) (hf : Fr w w' S) (hS : ∀ b ∈ S, Foot W b) (hz : Fr z w' []) : Go1 z w' n A :=
  ⟨hz, hW.other h.pw hd hf hS, h.gw, h.nw, h.nn, h.u⟩
theorem Go1.keepS {z w w' : World} {n : Nat} {A : WS} {S : List Nat} (h : Go1 z w n A) (hf : Fr w w' S) (hS : ∀ b ∈ S, ¬ Foot A b) (h5 : ∀ b ∈ S, No5 w b) (hz : Fr z w' []) : Go1 z w' n A :=
  ⟨hz, h.pw.keepS hf hS h5, h.gw, h.nw, h.nn, h.u⟩
theorem putN_le2 {N : Nat} {s : Option CS} {seq : Int} {bs : List Int} (h : N ≤ 1024) : putN N s seq bs ≤ 1024 := by
  unfold putN
  split
  · rename_i hh
    obtain ⟨h1, h2⟩ := hh
    have : ¬ (1024 ≤ N) := fun hN => by
      unfold putE at h1
      split at h1
      · omega
      · split at h1
        · omega
        · split at h1
          · omega
          · rw [if_pos ⟨h2, hN⟩] at h1
            omega
    omega
  · exact h
theorem one_put (z w : World) (n : Nat) (W : WS) (id seq : Int) (V : Value) (bs : List Int) (h : Go1 z w n W) (hV : Ans w V bs) (h1 : 1 ≤ n) (h2 : n ≤ 64) (hid : U64 id) (hq : U64 seq) (hb : Byt bs) :
    Fn env.P 7 [.pointer (some ⟨W.wb, 0, none⟩), .int .u64 id, .int .u64 seq, V] w fun v w' => v = .int .i64 (putE W.N (st W id) seq bs) ∧ ∃ W', W'.wb = W.wb ∧ Go1 z w' n W' ∧ st W' id = putS n W.N (st W id) seq bs ∧ (∀ y, y ≠ id → st W' y = st W y) ∧ W'.N = putN W.N (st W id) seq bs ∧ Fr w w' (footP W id) ∧ ∀ b, Foot W' b → Foot W b ∨ w.heap.size ≤ b := by
  refine (put_any w W id seq V bs h.pw hV (by rw [h.nw]; omega) (by rw [h.nw]; omega) (st_len rfl (fun c hc => by rw [h.nw]; exact (h.short id c hc).1))).mono ?_
  rintro v w' ⟨e1, e2, m', e3, e4, e5, e6⟩
  have hst : ∀ y, y ≠ id → st { W with m := m', N := putN W.N (st W id) seq bs } y = st W y := fun y hy => by
    show (m' y).map _ = (W.m y).map _
    rw [e4 y hy]
  have hst' : st { W with m := m', N := putN W.N (st W id) seq bs } id = putS n W.N (st W id) seq bs := by rw [← h.nw]; exact e5
  have hft : ∀ {b : Nat}, Foot { W with m := m', N := putN W.N (st W id) seq bs } b → Foot W b ∨ w.heap.size ≤ b := fun hb => PutPost.foot e4 e6 hb
  refine ⟨e1, { W with m := m', N := putN W.N (st W id) seq bs }, rfl, ⟨h.fr.grow e2 (fun b hb => h.gw b (footP_foot hb)), e3, fun b hb => ?_, h.nw, putN_le2 h.nn, fun y s hy => ?_⟩, hst', hst, rfl, e2, fun b hb => hft hb⟩
  · rcases hft hb with hb | hb
    · exact h.gw b hb
    · exact Nat.le_trans h.fr.size hb
  · by_cases e : y = id
    · subst e
      rw [hst'] at hy
      exact ⟨hid, putS_full (fun c hc => (h.u y c hc).2) h1 hq hb s hy⟩
    · rw [hst y e] at hy
      exact h.u y s hy
theorem Go1.new {z w : World} {n wb mb : Nat} (hf : Fr z w []) (hW : Wn w ⟨wb, mb, n, 0, fun _ => none⟩) (h1 : z.heap.size ≤ wb) (h2 : z.heap.size ≤ mb) : Go1 z w n ⟨wb, mb, n, 0, fun _ => none⟩ := by
  refine ⟨hf, hW, ?_, rfl, Nat.zero_le _, fun x s hx => by cases hx⟩
  rintro b (rfl | rfl | ⟨x, c, hx, _⟩)
  · exact h1
  · exact h2
  · cases hx
/-- The bytes of a window are read as it. -/
theorem Go1.load {z w : World} {n : Nat} {W : WS} (h : Go1 z w n W) (h1 : 1 ≤ n) (h2 : n ≤ 64) {ids : List Int} (i1 : ∀ x, x ∈ ids ↔ (W.m x).isSome = true) (i2 : ids.Pairwise (· < ·)) (i3 : ids.length = W.N) :
    loadP (encW W.size.toNat W.N (st W) ids) = some (n, W.N, st W, beL 8 (fnvL (encB n W.N (st W) ids))) := by
  have hs : W.size.toNat = n := by rw [h.nw]; exact Int.toNat_natCast n
  have h3 := loadP_enc n h1 h2 (st W) ids (by rw [i3]; exact h.nn) (fun x => by rw [i1, st]; cases W.m x <;> simp) (fun x s hx => h.u x s hx) i2
  rw [hs, ← i3]
  exact h3
theorem Go1.byt {z w : World} {n : Nat} {W : WS} (h : Go1 z w n W) (h1 : 1 ≤ n) (h2 : n ≤ 64) {ids : List Int} (i1 : ∀ x, x ∈ ids ↔ (W.m x).isSome = true) : Byt (encW W.size.toNat W.N (st W) ids) :=
  Byt.append (Byt.encB (h.wok h1 h2) _ _ _ (fun x hx => (i1 x).1 hx)) (Byt.be _ _)
/-- Two windows that keep the same have the same bytes. -/
theorem enc_same {W A : WS} {ids jds : List Int} (hs : st W = st A) (hn : W.size = A.size) (hN : W.N = A.N) (i1 : ∀ x, x ∈ ids ↔ (W.m x).isSome = true) (i2 : ids.Pairwise (· < ·)) (j1 : ∀ x, x ∈ jds ↔ (A.m x).isSome = true) (j2 : jds.Pairwise (· < ·)) : encW W.size.toNat W.N (st W) ids = encW A.size.toNat A.N (st A) jds := by
  have hid : ids = jds := ids_one _ _ i2 j2 (fun x => by
    rw [i1, j1]
    have := congrFun hs x
    simp only [st] at this
    cases hw : W.m x <;> cases ha : A.m x <;> simp [hw, ha] at this ⊢)
  rw [hid, hs, hn, hN]
theorem Dj.symm {W A : WS} (h : Dj W A) : Dj A W := fun b hb hb' => h b hb' hb
theorem Dj.left {w : World} {W W' A : WS} (h : Dj W A) (hA : Wn w A) (hf : ∀ b, Foot W' b → Foot W b ∨ w.heap.size ≤ b) : Dj W' A := fun b hb hb' => by
  rcases hf b hb with h' | h'
  · exact h b h' hb'
  · have := hA.lt hb'
    omega
/-- Put into both. -/
theorem put_same {n : Nat} {W W' A A' : WS} {id seq : Int} {bs : List Int} (hs : st W = st A) (hN : W.N = A.N) (h1 : st W' id = putS n W.N (st W id) seq bs) (h2 : ∀ y, y ≠ id → st W' y = st W y) (h3 : st A' id = putS n A.N (st A id) seq bs) (h4 : ∀ y, y ≠ id → st A' y = st A y) : st W' = st A' := by
  funext y
  by_cases e : y = id
  · subst e
    rw [h1, h3, hs, hN]
  · rw [h2 y e, h4 y e, hs]
theorem len_encW (size N : Nat) (m : Int → Option CS) (ids : List Int) : 16 ≤ (encW size N m ids).length := by
  rw [encW, encB]
  simp only [List.length_append, beL_len]
  omega
theorem encW_le {z w : World} {n : Nat} {W : WS} (h : Go1 z w n W) {ids : List Int} (i1 : ∀ x, x ∈ ids ↔ (W.m x).isSome = true) (i3 : ids.length = W.N) : (encW W.size.toNat W.N (st W) ids).length ≤ 4295786512 := by
  have hc : ∀ x ∈ ids, (encC (st W) x).length ≤ 4195092 := fun x hx => by
    obtain ⟨c, hc⟩ := Option.isSome_iff_exists.1 ((i1 x).1 hx)
    have hs : st W x = some c.s := by rw [st, hc]; rfl
    rw [encC, hs, Option.getD_some, List.length_append, beL_len]
    have := encS_le (h.u x _ hs).2.ok (h.pw.len x c hc)
    omega
  have h1 := len_flat (encC (st W)) 4195092 ids hc
  have h2 := h.nn
  have h3 : ids.length * 4195092 ≤ 1024 * 4195092 := Nat.mul_le_mul_right _ (by omega)
  rw [encW, encB]
  simp only [List.length_append, beL_len]
  omega
theorem LoadQ.fail {z w' : World} {xs : List Int} {r : Value} (h : LoadQ z xs r w') (hn : ∀ (W : WS) (ids tail : List Int), loadP xs = some (W.size.toNat, W.N, st W, tail) → tail.length = 8 → encW W.size.toNat W.N (st W) ids = xs → False) : r = .tuple #[.pointer none, .int .i64 20] ∧ Fr z w' [] := by
  obtain ⟨hf, ⟨W, ids, tail, rfl, _, _, h1, h2, h3, _⟩ | ⟨rfl, _⟩⟩ := h
  · exact (hn W ids tail h1 h2 h3).elim
  · exact ⟨rfl, hf⟩
theorem LoadQ.good {z w' : World} {xs : List Int} {r : Value} (h : LoadQ z xs r w') {size n : Nat} {m : Int → Option CS} {tail ids : List Int} (h1 : loadP xs = some (size, n, m, tail)) (h2 : tail.length = 8) (h3 : ∀ x, x ∈ ids ↔ (m x).isSome = true) (h4 : ids.Pairwise (· < ·)) (h5 : encW size n m ids = xs) :
    ∃ D, r = .tuple #[.pointer (some ⟨D.wb, 0, none⟩), .int .i64 0] ∧ Fr z w' [] ∧ Wn w' D ∧ WOk D ∧ D.size.toNat = size ∧ D.N = n ∧ st D = m ∧ ∀ b, Foot D b → z.heap.size ≤ b := by
  obtain ⟨hf, ⟨D, jds, tl, rfl, k1, k2, k3, _, _, k4, _⟩ | ⟨rfl, hno⟩⟩ := h
  · rw [h1] at k3
    simp only [Option.some.injEq, Prod.mk.injEq] at k3
    obtain ⟨y1, y2, y3, _⟩ := k3
    exact ⟨D, rfl, hf, k1, k2, y1.symm, y2.symm, y3.symm, k4⟩
  · exact (hno _ _ _ _ _ h1 h2 h3 h4 h5).elim
theorem set_spoilt (B : List Int) (n N : Nat) (m : Int → Option CS) (ids : List Int) (hB : B = encW n N m ids) (hByt : Byt B) (q : Nat) (hq : q < B.length) (y : Int) (hy : 0 ≤ y ∧ y ≤ 255) (hne : B[q] ≠ y) (n' N' : Nat) (m' : Int → Option CS) (ids' : List Int) (h : encW n' N' m' ids' = B.set q y) : False := by
  have e1 : B.take q ++ B[q] :: B.drop (q + 1) = B := by
    rw [← List.set_eq_take_append_cons_drop .. |>.trans (if_pos hq)]
    exact List.set_getElem_self hq
  have e2 : B.set q y = B.take q ++ y :: B.drop (q + 1) := (List.set_eq_take_append_cons_drop ..).trans (if_pos hq)
  refine spoilt (encB n N m ids) (encB n' N' m' ids') (B.take q) (B.drop (q + 1)) B[q] y (hByt _ (List.getElem_mem hq)) hy (hByt.drop _) hne ?_ ?_
  · rw [e1]
    exact hB
  · rw [← e2, ← h]
    rfl
theorem Ask_fresh (z : World) (W : WS) (id seq : Int) (h : Wn z W) (hb : (askB (st W id) seq).length ≤ 65536) :
    Fn env.P 11 [.pointer (some ⟨W.wb, 0, none⟩), .int .u64 id, .int .u64 seq] z fun v w' => Fr z w' [] ∧ ∃ b, v = .tuple #[.int .i64 (if seq = 0 then 0 else askK (st W id) seq), b, .int .i64 (if seq = 0 then 1 else 0)] ∧ Fresh5 w' z.heap.size b (if seq = 0 then [] else askB (st W id) seq) := by
  have H := Holds.start z []
  have HF := Try.func11; refine Fn.enter Try.func11 Try.ntmps11 rfl rfl rfl ?_
  (refine Run.seq (Run.region ?_); intro K hK)
  refine Ops.pure H (X.assign rfl) rfl rfl rfl ?_
  refine Ops.pure H (X.assign rfl) rfl rfl rfl ?_
  refine Ops.pure H (X.assign rfl) rfl rfl rfl ?_
  (refine Ops.nil (hK _ _ ?_); clear hK K)
  refine Run.seq ?_
  (refine Run.seq (Run.region ?_); intro K hK)
  refine Ops.pure H (X.move rfl) rfl rfl rfl ?_
  refine Ops.pure H (X.cmp rfl rfl rfl) rfl rfl rfl ?_
  (refine Ops.nil (hK _ _ ?_); clear hK K)
  refine Run.cond_dec rfl (fun h12 => ?x0) (fun h12 => ?y0)
  case' y0 =>
    refine Run.skip ?_
    (refine Run.seq (Run.region ?_); intro K hK)
    refine Ops.pure H (X.move rfl) rfl rfl rfl ?_
    refine Ops.pure H (X.move rfl) rfl rfl rfl ?_
    refine Ops.pure H (X.move rfl) rfl rfl rfl ?_
  case' x0 =>
    (refine Run.seq (Run.region ?_); intro K hK)
    refine Ops.pure H (X.assign rfl) rfl rfl rfl ?_
    refine Ops.pure H (X.assign rfl) rfl rfl rfl ?_
    refine Ops.pure H (X.assign rfl) rfl rfl rfl ?_
    (refine Ops.nil (hK _ _ ?_); clear hK K)
  · refine Fn.ret3 HF rfl rfl rfl rfl ?_
    exact ⟨H.fr, .slice none 0 0, by simp [h12], by simpa [h12] using ⟨none, 0, rfl, by omega, .inl ⟨rfl, rfl⟩⟩⟩
  · refine Ops.eff rfl (Y.call rfl rfl (by first | assumption | decide +kernel) rfl (ask_any _ W id seq (h.ext H.fr)) rfl ?_)
    rintro v w1 ⟨hf, b, rfl, hA⟩
    replace H := H.ext hf
    refine Ops.pure H (X.move rfl) rfl rfl rfl ?_
    refine Ops.pure H (X.extract rfl rfl) rfl rfl rfl ?_
    refine Ops.pure H (X.extract rfl rfl) rfl rfl rfl ?_
    refine Ops.pure H (X.assign rfl) rfl rfl rfl ?_
    refine Ops.pure H (X.assign rfl) rfl rfl rfl ?_
    (refine Ops.nil (hK _ _ (Run.seq (Run.region ?_))); clear hK K; intro K hK)
    refine Ops.pure H (X.move rfl) rfl rfl rfl ?_
    refine Ops.pure H (X.move rfl) rfl rfl rfl ?_
    refine Ops.eff rfl (Y.call rfl rfl (by first | assumption | decide +kernel) rfl (bclone_fresh _ b _ (hA.bys.ext (Fr.refl _ _)) (by omega)) rfl ?_)
    rintro v w2 ⟨hA2, hf2⟩
    have hz := H.fr.size
    replace H := H.ext hf2
    refine Ops.pure H (X.assign rfl) rfl rfl rfl ?_
    refine Ops.pure H (X.assign rfl) rfl rfl rfl ?_
    refine Ops.pure H (X.assign rfl) rfl rfl rfl ?_
    (refine Ops.nil (hK _ _ ?_); clear hK K)
    refine Fn.ret3 HF rfl rfl rfl rfl ?_
    exact ⟨H.fr, v, by simp [h12], by simpa [h12] using hA2.low hz⟩
/-- Rows of bytes, and a window's own, Put does not write. -/
theorem footP_ty {w : World} {W : WS} {id : Int} {b t : Nat} {ds : List Value} (h : Wn w W) (hb : w.heap[b]? = some (row ds t)) (h1 : t ≠ 61) (h2 : t ≠ 28) : b ∉ footP W id := by
  unfold footP
  intro hm
  obtain ⟨es, k, _, m1, _⟩ := h.mp
  rcases List.mem_cons.1 hm with rfl | hm
  · rw [m1] at hb; cases hb
  · cases hc : W.m id with
    | none => rw [hc] at hm; cases hm
    | some c =>
      rw [hc] at hm
      obtain ⟨⟨v, a1, _⟩, es', k', _, a2, _⟩ := h.cl id c hc
      simp only [footC, List.mem_cons, List.not_mem_nil, or_false] at hm
      rcases hm with rfl | rfl | rfl
      · exact ne_of_ty hb a1 h1 rfl
      · rcases h.real id c hc with e | ⟨ds', e⟩
        · rw [e] at hb
          exact ne_of_ty hb a1 h1 rfl
        · exact ne_of_ty hb e h2 rfl
      · rw [a2] at hb; cases hb
/-- A block that tells of bytes: theirs; where there are none, any other one. -/
theorem Fresh5.blk {w : World} {z : Nat} {v : Value} {xs : List Int} (h : Fresh5 w z v xs) {b0 : Nat} {ds0 : List Value} (h0 : w.heap[b0]? = some (row ds0 57)) :
    ∃ b ds t, w.heap[b]? = some (row ds t) ∧ (t = 5 ∨ t = 57) ∧ (b = b0 ∨ z ≤ b) ∧ ∀ w' : World, w'.heap[b]? = some (row ds t) → Bys w' v xs := by
  obtain ⟨a, cap, rfl, h1, ⟨rfl, rfl⟩ | ⟨b, cs, rfl, h2, h3, h4, h5, h6⟩⟩ := h
  · exact ⟨b0, ds0, 57, h0, .inr rfl, .inl rfl, fun w' _ => ⟨a, 0, 0, 0, [], 5, (0, 0), rfl, by simp, h1, fun h => absurd h (Nat.lt_irrefl 0), .nil⟩⟩
  · exact ⟨b, cs, 5, h4, .inl rfl, .inr h2, fun w' hw => ⟨_, cap, b, 0, cs, 5, (0, 0), rfl, h3, h1, fun _ => ⟨rfl, hw⟩, h6⟩⟩
end Go.Proofs.Ytaneenahapdabaa
