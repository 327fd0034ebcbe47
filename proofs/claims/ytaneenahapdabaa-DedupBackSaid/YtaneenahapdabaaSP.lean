/- Layer 20's reader, walked: take, number. -/
import Derived.Test.YtaneenahapdabaaSO
import Derived.Test.YtaneenahapdabaaEngT
namespace Go.Proofs.Ytaneenahapdabaa
open Go
set_option maxRecDepth 20000
set_option maxHeartbeats 2000000
attribute [local irreducible] Run Ops Fn Draw Draw2 PureOp StepZ

/-- A reader at bytes: its block holds a slice of what is left. -/
structure Rd (w : World) (rb : Nat) (xs : List Int) : Prop where
  at_ : ∃ cap b off cs T fz, w.heap[rb]? = some (row [.slice (some ⟨b, off, none⟩) xs.length cap] 69) ∧ xs.length ≤ cap ∧ cap ≤ 9223372036854775807 ∧ w.heap[b]? = some (.cells (List.toArray cs) T fz) ∧ T = 5 ∧ Cs cs off xs.length (u8s xs)
theorem Rd.ext {w w' : World} {rb : Nat} {xs : List Int} (h : Rd w rb xs) (hf : Fr w w' []) : Rd w' rb xs := by
  obtain ⟨cap, b, off, cs, T, fz, h1, h2, h3, h4, h5, h6⟩ := h
  exact ⟨cap, b, off, cs, T, fz, hf.get h1 (by simp), h2, h3, hf.get h4 (by simp), h5, h6⟩
def noneV : Value := .iface 66 (.agg #[])
def Gives (z : World) (rb : Nat) (ch : List PanicEntry) (w' : World) : Prop := ch = [{ v := noneV, recovered := false }] ∧ Fr z w' [rb]

theorem take_any (z : World) (rb n : Nat) (xs : List Int) (h : Rd z rb xs) (hn : n < 18446744073709551616) :
    FnP env.P 44 [.pointer (some ⟨rb, 0, none⟩), .int .u64 (n : Nat)] z (fun v w' => n ≤ xs.length ∧ Bys w' v (xs.take n) ∧ Rd w' rb (xs.drop n) ∧ Fr z w' [rb]) (fun ch w' => ¬ n ≤ xs.length ∧ Gives z rb ch w') := by
  obtain ⟨cap, b, off, cs, T, fz, hb, h1, h2, h3, hT, h4⟩ := h
  have hne : rb ≠ b := fun e => by
    rw [e, h3] at hb
    cases hb
    exact absurd hT (by decide)
  have H := (Holds.start z [rb]).add true hb (by simp) (by simp)
  have HF := Try.func44
  refine FnP.enter Try.func44 Try.ntmps44 rfl rfl rfl ?_
  by_cases hle : n ≤ xs.length
  · refine Run.seq ?_
    (refine Run.region ?_; intro K hK)
    refine Ops.pure H (X.assign rfl) rfl rfl rfl ?_
    (refine Ops.nil (hK _ _ ?_); clear hK K)
    refine Run.seq ?_
    refine Run.seq ?_
    (refine Run.region ?_; intro K hK)
    refine Ops.pure H (X.move rfl) rfl rfl rfl ?_
    refine Ops.pure H (X.move rfl) rfl rfl rfl ?_
    refine Ops.pure H (X.nilCheck rfl) rfl rfl rfl ?_
    refine Ops.pure H (X.fieldAddr rfl rfl rfl rfl rfl rfl) rfl rfl rfl ?_
    refine Ops.pure H (X.load1 rfl rfl rfl rfl Pick.head rfl) rfl rfl rfl ?_
    refine Ops.pure H (X.len_slice rfl rfl rfl) rfl rfl rfl ?_
    refine Ops.pure H (X.conv rfl rfl rfl rfl rfl (u64_in _ (by omega))) rfl rfl rfl ?_
    refine Ops.pure H (X.cmp rfl rfl rfl) rfl rfl rfl ?_
    (refine Ops.nil (hK _ _ ?_); clear hK K)
    refine Run.cond_dec rfl (fun h13 => ?x0) (fun h13 => ?y0)
    case' y0 =>
      refine Run.skip ?_
      refine Run.seq ?_
      (refine Run.region ?_; intro K hK)
      refine Ops.pure H (X.move rfl) rfl rfl rfl ?_
      refine Ops.pure H (X.nilCheck rfl) rfl rfl rfl ?_
      refine Ops.pure H (X.fieldAddr rfl rfl rfl rfl rfl rfl) rfl rfl rfl ?_
      refine Ops.pure H (X.load1 rfl rfl rfl rfl Pick.head rfl) rfl rfl rfl ?_
      refine Ops.pure H (X.move rfl) rfl rfl rfl ?_
      refine Ops.pure H (X.slice_h rfl rfl (by omega) rfl rfl rfl) rfl rfl rfl ?_
      refine Ops.pure H (X.assign rfl) rfl rfl rfl ?_
      (refine Ops.nil (hK _ _ ?_); clear hK K)
      refine Run.seq ?_
      (refine Run.region ?_; intro K hK)
      refine Ops.pure H (X.move rfl) rfl rfl rfl ?_
      refine Ops.pure H (X.move rfl) rfl rfl rfl ?_
      refine Ops.pure H (X.nilCheck rfl) rfl rfl rfl ?_
      refine Ops.pure H (X.fieldAddr rfl rfl rfl rfl rfl rfl) rfl rfl rfl ?_
      refine Ops.pure H (X.load1 rfl rfl rfl rfl Pick.head rfl) rfl rfl rfl ?_
      refine Ops.pure H (X.move rfl) rfl rfl rfl ?_
      refine Ops.pure H (X.slice_l rfl rfl (by omega) rfl rfl rfl rfl) rfl rfl rfl ?_
      refine Ops.pure H (X.nilCheck rfl) rfl rfl rfl ?_
      refine Ops.pure H (X.fieldAddr rfl rfl rfl rfl rfl rfl) rfl rfl rfl ?_
      (refine Ops.eff rfl (Y.store1 rfl rfl rfl rfl rfl rfl H Upd.head (by repeat (first | exact SetC.zero | apply SetC.succ)) ?_); intro w H0; clear H; have H := H0; clear H0)
      (refine Ops.nil (hK _ _ ?_); clear hK K)
      refine Run.seq ?_
      (refine Run.region ?_; intro K hK)
      refine Ops.pure H (X.move rfl) rfl rfl rfl ?_
      refine Ops.pure H (X.assign rfl) rfl rfl rfl ?_
      (refine Ops.nil (hK _ _ ?_); clear hK K)
    case' x0 => exfalso; omega
    refine FnP.ret1 HF rfl rfl ⟨hle, ?_, ?_, H.fr⟩
    · have h3' := H.fr.get h3 (by simpa using hne.symm)
      have h5 := h4.sub 0 n (by omega)
      exact ⟨_, cap, b, off, cs, T, fz, by simp; omega, by simp; omega, h2, fun _ => ⟨rfl, h3'⟩, by simpa [u8s, hle, Nat.min_eq_left hle] using h5⟩
    · have h3' := H.fr.get h3 (by simpa using hne.symm)
      have h5 := h4.sub n (xs.length - n) (by omega)
      refine ⟨cap - n, b, (if cap = n then off else off + n * 1), cs, T, fz, ?_, by simp; omega, by omega, h3', hT, ?_⟩
      · have h6 := H.pick (b := rb) .head
        simpa using h6
      · by_cases hc : cap = n
        · have h7 : xs.drop n = [] := List.drop_eq_nil_of_le (by omega)
          rw [if_pos hc, h7]
          exact .nil
        · rw [if_neg hc]
          have h8 : ((u8s xs).drop n).take (xs.length - n) = (u8s xs).drop n := List.take_of_length_le (by simp [u8s])
          rw [h8] at h5
          simpa [u8s] using h5
  · refine Run.seq ?_
    (refine Run.region ?_; intro K hK)
    refine Ops.pure H (X.assign rfl) rfl rfl rfl ?_
    (refine Ops.nil (hK _ _ ?_); clear hK K)
    refine Run.seq ?_
    refine Run.seq ?_
    (refine Run.region ?_; intro K hK)
    refine Ops.pure H (X.move rfl) rfl rfl rfl ?_
    refine Ops.pure H (X.move rfl) rfl rfl rfl ?_
    refine Ops.pure H (X.nilCheck rfl) rfl rfl rfl ?_
    refine Ops.pure H (X.fieldAddr rfl rfl rfl rfl rfl rfl) rfl rfl rfl ?_
    refine Ops.pure H (X.load1 rfl rfl rfl rfl Pick.head rfl) rfl rfl rfl ?_
    refine Ops.pure H (X.len_slice rfl rfl rfl) rfl rfl rfl ?_
    refine Ops.pure H (X.conv rfl rfl rfl rfl rfl (u64_in _ (by omega))) rfl rfl rfl ?_
    refine Ops.pure H (X.cmp rfl rfl rfl) rfl rfl rfl ?_
    (refine Ops.nil (hK _ _ ?_); clear hK K)
    refine Run.cond_dec rfl (fun h13 => ?x1) (fun h13 => ?y1)
    case' y1 => exfalso; omega
    case' x1 =>
      (refine Run.region ?_; intro K hK)
      refine Ops.pure H (X.buildO rfl rfl rfl rfl rfl rfl) rfl rfl rfl ?_
    refine Ops.pure H (X.mkIface rfl rfl rfl) rfl rfl rfl ?_
    refine Ops.effP rfl (Y.panic rfl fun a ha => QK.none HF ha (.inr ⟨_, rfl, hle, rfl, H.fr⟩))
/-- The number that bytes are. -/
def beV (l : List Int) : Nat := l.foldl (fun n x => n * 256 + x.toNat) 0
theorem beV_succ (xs : List Int) (i : Nat) (hi : i < xs.length) : beV (xs.take (i + 1)) = beV (xs.take i) * 256 + xs[i].toNat := by
  rw [List.take_succ_eq_append_getElem hi, beV, beV, List.foldl_append, List.foldl_cons, List.foldl_nil]
theorem beV_lt (xs : List Int) (h : Byt xs) : ∀ i, i ≤ xs.length → beV (xs.take i) < 256 ^ i := by
  intro i
  induction i with
  | zero => intro _; simp [beV]
  | succ i ih =>
    intro hi
    have h1 := ih (by omega)
    have h2 := h xs[i] (List.getElem_mem (by omega))
    rw [beV_succ xs i (by omega), Nat.pow_succ]
    omega
theorem or_step (n y : Nat) (hn : n < 72057594037927936) (hy : y ≤ 255) : n * 2 ^ 8 % 18446744073709551616 ||| y = n * 256 + y := by
  rw [Nat.mod_eq_of_lt (by omega), Nat.mul_comm, ← Nat.two_pow_add_eq_or_of_lt (by omega : y < 2 ^ 8) n]
theorem number_any (z : World) (rb many : Nat) (xs : List Int) (h : Rd z rb xs) (hx : Byt xs) (hm : many ≤ 8) :
    FnP env.P 23 [.pointer (some ⟨rb, 0, none⟩), .int .u64 (many : Nat)] z (fun v w' => many ≤ xs.length ∧ v = .int .u64 (beV (xs.take many) : Nat) ∧ Rd w' rb (xs.drop many) ∧ Fr z w' [rb]) (fun ch w' => ¬ many ≤ xs.length ∧ Gives z rb ch w') := by
  have H := Holds.start z []
  have HF := Try.func23
  refine FnP.enter Try.func23 Try.ntmps23 rfl rfl rfl ?_
  refine Run.seq ?_
  (refine Run.region ?_; intro K hK)
  refine Ops.pure H (X.assign rfl) rfl rfl rfl ?_
  (refine Ops.nil (hK _ _ ?_); clear hK K)
  refine Run.seq ?_
  (refine Run.region ?_; intro K hK)
  refine Ops.pure H (X.assign rfl) rfl rfl rfl ?_
  (refine Ops.nil (hK _ _ ?_); clear hK K)
  refine Run.seq ?_
  refine Run.seq ?_
  (refine Run.region ?_; intro K hK)
  refine Ops.pure H (X.move rfl) rfl rfl rfl ?_
  refine Ops.pure H (X.move rfl) rfl rfl rfl ?_
  refine Ops.effP rfl (Y.callP rfl rfl (by decide +kernel) rfl (take_any _ rb many xs (h.ext H.fr) (by omega)) rfl (fun ch w' hp a ha => QK.none HF ha (.inr ⟨ch, rfl, hp.1, hp.2.1, H.fr.trans hp.2.2 (by simp) (by simp)⟩)) ?_)
  rintro v w2 ⟨hle, hB, hR, hf2⟩
  have F2 := H.fr.trans (U := [rb]) hf2 (by simp) (by simp)
  obtain ⟨ys, hys⟩ : ∃ ys, ys = xs.take many := ⟨_, rfl⟩
  have hyl : ys.length = many := by rw [hys]; simp; omega
  have hyb : Byt ys := fun x hx' => hx x (List.mem_of_mem_take (by rw [← hys]; exact hx'))
  rw [← hys] at hB ⊢
  obtain ⟨a, cap, b, off, cs, T, fz, rfl, h1, h2, h3, h4⟩ := hB
  clear H
  have H := Holds.start w2 []
  refine Ops.pure H (X.len_slice rfl rfl rfl) rfl rfl rfl ?_
  refine Ops.pure H (X.move rfl) rfl rfl rfl ?_
  (refine Ops.nil (hK _ _ ?_); clear hK K)
  refine Run.block ?_
  refine Run.rounds (fun (i : Nat) => [(5, .int .u64 (beV (ys.take i) : Nat)), (10, .slice a ys.length cap), (11, .int .i64 (ys.length : Nat)), (12, .int .i64 (i : Nat))]) (fun i w' => i ≤ ys.length ∧ Fr w2 w' []) (fun i => ys.length - i) 0 (by repeat (first | exact trivial | refine ⟨rfl, ?_⟩)) ⟨by omega, H.fr⟩ ?_
  clear H
  rintro i w3 ⟨hi, hf3⟩ IH
  by_cases hil : i < ys.length
  · obtain ⟨rfl, hbz⟩ := h3 (by omega)
    obtain ⟨y, hy⟩ : ∃ y : Nat, ys[i] = (y : Int) := ⟨ys[i].toNat, by have := hyb ys[i] (List.getElem_mem hil); omega⟩
    have hy2 : y ≤ 255 := by have := hyb ys[i] (List.getElem_mem hil); omega
    have c1 : cs[off + i * 1]? = some (.int .u8 ((y : Nat) : Int)) := by
      rw [Nat.mul_one, h4.toGet hil]
      simp [u8s, hil, hy]
    have hcl : off + i < cs.length := (List.getElem?_eq_some_iff.1 (by rw [← Nat.mul_one i]; exact c1)).1
    have H := (Holds.start w3 []).add false (hf3.get hbz (by simp)) (by simp) (by simp)
    refine Run.seq ?_
    (refine Run.region ?_; intro K hK)
    refine Ops.pure H (X.cmp rfl rfl rfl) rfl rfl rfl ?_
    (refine Ops.nil (hK _ _ ?_); clear hK K)
    refine Run.seq ?_
    refine Run.cond_dec rfl (fun h13 => ?x2) (fun h13 => ?y2)
    case' y2 => exfalso; omega
    case' x2 =>
      refine Run.skip ?_
      refine Run.seq ?_
      refine Run.block ?_
      refine Run.seq ?_
      (refine Run.region ?_; intro K hK)
      refine Ops.pure H (X.indexAddr rfl rfl (by omega) rfl rfl rfl rfl) rfl rfl rfl ?_
      refine Ops.pure H (X.load1 rfl rfl rfl rfl Pick.head (by assumption)) rfl rfl rfl ?_
      refine Ops.pure H (X.assign rfl) rfl rfl rfl ?_
      (refine Ops.nil (hK _ _ ?_); clear hK K)
      (refine Run.region ?_; intro K hK)
      refine Ops.pure H (X.move rfl) rfl rfl rfl ?_
      refine Ops.pure H (X.shlN (s := 8) rfl rfl rfl rfl (by decide)) rfl rfl rfl ?_
      refine Ops.pure H (X.move rfl) rfl rfl rfl ?_
      refine Ops.pure H (X.conv rfl rfl rfl rfl rfl (u64_in _ (by omega))) rfl rfl rfl ?_
      refine Ops.pure H (X.orN rfl rfl rfl rfl (by omega) (by omega)) rfl rfl rfl ?_
      refine Ops.pure H (X.assign rfl) rfl rfl rfl ?_
      (refine Ops.nil (hK _ _ ?_); clear hK K)
      refine Run.inBlock ?_
      (refine Run.region ?_; intro K hK)
      refine Ops.pure H (X.succ rfl rfl (by omega)) rfl rfl rfl ?_
      refine Ops.pure H (X.move rfl) rfl rfl rfl ?_
      (refine Ops.nil (hK _ _ ?_); clear hK K)
    have hlt : beV (ys.take i) < 72057594037927936 := Nat.lt_of_lt_of_le (beV_lt ys hyb i (by omega)) (Nat.pow_le_pow_right (n := 256) (j := 7) (by decide) (by omega))
    rw [or_step _ _ hlt hy2]
    refine (IH (i + 1) _ (by omega) ⟨by omega, hf3.then H.fr⟩).weak ?_
    rw [beV_succ ys i hil, hy, Int.toNat_natCast]
    exact (by repeat (first | exact trivial | refine ⟨rfl, ?_⟩))
  · obtain rfl : i = ys.length := by omega
    rw [List.take_length]
    have H := Holds.start w3 []
    refine Run.seq ?_
    (refine Run.region ?_; intro K hK)
    refine Ops.pure H (X.cmp rfl rfl rfl) rfl rfl rfl ?_
    (refine Ops.nil (hK _ _ ?_); clear hK K)
    refine Run.seq ?_
    refine Run.cond_dec rfl (fun h13 => ?x3) (fun h13 => ?y3)
    case' y3 =>
      refine Run.exit rfl ?_
      refine Run.seq ?_
      (refine Run.region ?_; intro K hK)
      refine Ops.pure H (X.move rfl) rfl rfl rfl ?_
      refine Ops.pure H (X.assign rfl) rfl rfl rfl ?_
      (refine Ops.nil (hK _ _ ?_); clear hK K)
    case' x3 => exfalso; omega
    refine FnP.ret1 HF rfl rfl ⟨hle, by rw [hys], hR.ext (hf3.then H.fr), F2.trans (hf3.then H.fr) (by simp) (by simp)⟩
end Go.Proofs.Ytaneenahapdabaa
