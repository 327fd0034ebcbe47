/- Layer 20: the document's numbers, sum and bytes. -/
import Derived.Test.YtaneenahapdabaaT4
namespace Go.Proofs.Ytaneenahapdabaa
open Go
set_option maxRecDepth 20000
set_option maxHeartbeats 2000000
attribute [local irreducible] Run Ops Fn Draw Draw2 PureOp StepZ

theorem num_any (w0 z : World) (v : Value) (xs : List Int) (n many : Nat) (hO : Own z w0.heap.size 5 1 v xs.length (u8s xs)) (hF : Fr w0 z []) (hn : n < 18446744073709551616) (hk : many ≤ 8) (hl : xs.length + 8 ≤ 70368744177664) :
    Fn env.P 50 [v, .int .u64 (n : Nat), .int .i64 (many : Nat)] z fun v' w' => Own w' w0.heap.size 5 1 v' (xs ++ beL many n).length (u8s (xs ++ beL many n)) ∧ Fr w0 w' [] ∧ ∀ (b : Nat) (o : Obj), z.heap[b]? = some o → (∀ cs, o ≠ row cs 5) → w'.heap[b]? = some o := by
  obtain ⟨sa, scap, rfl⟩ := hO.slice
  have H := Holds.start z []
  have HF := Try.func50; refine Fn.enter Try.func50 Try.ntmps50 rfl rfl rfl ?_
  (refine Run.seq (Run.region ?_); intro K hK)
  refine Ops.pure H (X.assign rfl) rfl rfl rfl ?_
  (refine Ops.nil (hK _ _ ?_); clear hK K)
  refine Run.seq ?_
  (refine Run.seq (Run.region ?_); intro K hK)
  refine Ops.pure H (X.move rfl) rfl rfl rfl ?_
  refine Ops.pure H (X.sub_in rfl rfl (IntWalk.i64_in _ (by omega))) rfl rfl rfl ?_
  refine Ops.pure H (X.assign rfl) rfl rfl rfl ?_
  (refine Ops.nil (hK _ _ ?_); clear hK K)
  refine Run.block ?_
  refine Run.rounds (fun (x : Nat × Value) => [(0, x.2), (1, .int .u64 (n : Nat)), (7, .int .i64 ((x.1 : Int) - 1))])
    (fun x w' => x.1 ≤ many ∧ ∃ ys : List Int, ys ++ beL x.1 n = xs ++ beL many n ∧ Own w' w0.heap.size 5 1 x.2 ys.length (u8s ys) ∧ Fr w0 w' [] ∧ ∀ (b : Nat) (o : Obj), z.heap[b]? = some o → (∀ cs, o ≠ row cs 5) → w'.heap[b]? = some o) (fun x => x.1) (many, .slice sa xs.length scap) (by repeat (first | exact trivial | refine ⟨rfl, ?_⟩)) ⟨by dsimp only; omega, xs, rfl, hO, hF, fun b o h _ => h⟩ ?_
  clear H
  rintro ⟨j, v⟩ w1 ⟨hj, ys, he, hO1, hF1, hk1⟩ IH
  dsimp only at hj he hO1 IH ⊢
  obtain ⟨sa1, scap1, rfl⟩ := hO1.slice
  have hly : ys.length + j = xs.length + many := by have := congrArg List.length he; simpa [beL_len] using this
  by_cases hj0 : j = 0
  · subst hj0
    have H := Holds.start w1 []
    refine Run.seq ?_
    (refine Run.seq (Run.region ?_); intro K hK)
    refine Ops.pure H (X.move rfl) rfl rfl rfl ?_
    refine Ops.pure H (X.cmp rfl rfl rfl) rfl rfl rfl ?_
    (refine Ops.nil (hK _ _ ?_); clear hK K)
    refine Run.cond_false rfl ?_
    refine Run.exit rfl ?_
    (refine Run.seq (Run.region ?_); intro K hK)
    refine Ops.pure H (X.move rfl) rfl rfl rfl ?_
    refine Ops.pure H (X.assign rfl) rfl rfl rfl ?_
    (refine Ops.nil (hK _ _ ?_); clear hK K)
    refine Fn.ret1 HF rfl rfl ?_
    have hys : ys = xs ++ beL many n := by simpa [beL] using he
    rw [← hys]
    exact ⟨hO1.ext H.fr, hF1.then H.fr, fun b o h1 h2 => H.fr.get (hk1 b o h1 h2) (by simp)⟩
  · obtain ⟨q, rfl⟩ : ∃ q, j = q + 1 := ⟨j - 1, by omega⟩
    rw [show (((q + 1 : Nat) : Int) - 1) = ((q : Nat) : Int) by omega]
    have H := Holds.start w1 []
    refine Run.seq ?_
    (refine Run.seq (Run.region ?_); intro K hK)
    refine Ops.pure H (X.move rfl) rfl rfl rfl ?_
    refine Ops.pure H (X.cmp rfl rfl rfl) rfl rfl rfl ?_
    (refine Ops.nil (hK _ _ ?_); clear hK K)
    refine Run.cond_true rfl ?_
    refine Run.skip ?_
    refine Run.seq ?_
    refine Run.block ?_
    (refine Run.region ?_; intro K hK)
    refine Ops.pure H (X.move rfl) rfl rfl rfl ?_
    refine Ops.pure H (X.move rfl) rfl rfl rfl ?_
    refine Ops.pure H (X.move rfl) rfl rfl rfl ?_
    refine Ops.pure H (X.mul_in rfl rfl (IntWalk.i64_in _ (by omega))) rfl rfl rfl ?_
    refine Ops.pure H (X.conv rfl rfl rfl rfl rfl (u64_in _ (by omega))) rfl rfl rfl ?_
    refine Ops.pure H (X.shrN (s := 8 * q) rfl rfl rfl rfl (by omega)) rfl rfl rfl ?_
    refine Ops.pure H (X.conv rfl rfl rfl rfl rfl (u8_wrap _)) rfl rfl rfl ?_
    rw [show n / 2 ^ (8 * q) = n / 256 ^ q by rw [Nat.pow_mul]]
    (refine Ops.eff rfl (Y.buildSliceO rfl rfl rfl rfl rfl rfl rfl rfl H ?_); intro b21 w H0 hb21; clear H; have H := H0; clear H0)
    refine Ops.eff rfl (Y.appendOwnK (w0 := w0) (S := []) (news := [.int .u8 ((n / 256 ^ q % 256 : Nat) : Int)]) (hO1.ext H.fr) rfl rfl rfl rfl rfl rfl (hF1.then H.fr) (by omega) rfl (Src.row (m := 1) H .head (Cs.take rfl)) rfl rfl (by dsimp only; omega) (by omega) rfl ?_)
    intro v' w3 hF3 hk3 hO3
    have hk4 : ∀ (b : Nat) (o : Obj), z.heap[b]? = some o → (∀ cs, o ≠ row cs 5) → w3.heap[b]? = some o := fun b o h1 h2 => hk3 b o (H.fr.get (hk1 b o h1 h2) (by simp)) h2
    clear H
    have H := Holds.start w3 []
    refine Ops.pure H (X.assign rfl) rfl rfl rfl ?_
    (refine Ops.nil (hK _ _ ?_); clear hK K)
    refine Run.inBlock ?_
    (refine Run.region ?_; intro K hK)
    refine Ops.pure H (X.move rfl) rfl rfl rfl ?_
    refine Ops.pure H (X.sub_in rfl rfl (IntWalk.i64_in _ (by omega))) rfl rfl rfl ?_
    refine Ops.pure H (X.assign rfl) rfl rfl rfl ?_
    (refine Ops.nil (hK _ _ ?_); clear hK K)
    refine (IH (q, v') _ (by dsimp only; omega) ⟨by dsimp only; omega, ys ++ [((n / 256 ^ q % 256 : Nat) : Int)], by rw [← he]; simp [beL], ?_, hF3.then H.fr, fun b o h1 h2 => H.fr.get (hk4 b o h1 h2) (by simp)⟩).weak (by repeat (first | exact trivial | refine ⟨rfl, ?_⟩))
    have hO4 := hO3.ext H.fr
    simpa [u8s] using hO4
theorem dhash_any (z : World) (v : Value) (xs : List Int) (hb : Bys z v xs) (hr : Byt xs) : Fn env.P 51 [v] z fun r w' => r = .int .u64 (fnvL xs : Nat) ∧ Fr z w' [] := by
  obtain ⟨a, cap, b, off, cs, T, fz, rfl, h1, h2, h3, h4⟩ := hb
  have H := Holds.start z []
  have HF := Try.func51; refine Fn.enter Try.func51 Try.ntmps51 rfl rfl rfl ?_
  (refine Run.seq (Run.region ?_); intro K hK)
  refine Ops.pure H (X.assign rfl) rfl rfl rfl ?_
  (refine Ops.nil (hK _ _ (Run.seq (Run.region ?_))); clear hK K; intro K hK)
  refine Ops.pure H (X.assign rfl) rfl rfl rfl ?_
  (refine Ops.nil (hK _ _ ?_); clear hK K)
  refine Run.seq ?_
  (refine Run.seq (Run.region ?_); intro K hK)
  refine Ops.pure H (X.assign rfl) rfl rfl rfl ?_
  (refine Ops.nil (hK _ _ ?_); clear hK K)
  refine Run.block ?_
  rw [fnv0 xs]
  refine Run.rounds (fun (i : Nat) => [(0, .slice a xs.length cap), (3, .int .u64 (fnvL (xs.take i) : Nat)), (4, .int .i64 (i : Nat))]) (fun i w' => i ≤ xs.length ∧ Fr z w' []) (fun i => xs.length - i) 0 (by repeat (first | exact trivial | refine ⟨rfl, ?_⟩)) ⟨by omega, H.fr⟩ ?_
  clear H
  rintro i w1 ⟨hi, hf1⟩ IH
  by_cases hil : i < xs.length
  · obtain ⟨rfl, hbz⟩ := h3 (by omega)
    obtain ⟨y, hy⟩ : ∃ y : Nat, xs[i] = (y : Int) := ⟨xs[i].toNat, by have := hr xs[i] (List.getElem_mem hil); omega⟩
    have hy2 : y ≤ 255 := by have := hr xs[i] (List.getElem_mem hil); omega
    have c1 : cs[off + i * 1]? = some (.int .u8 ((y : Nat) : Int)) := by
      rw [Nat.mul_one, h4.toGet hil]
      simp [u8s, hil, hy]
    have hlt := fnvL_lt (xs.take i)
    have H := (Holds.start w1 []).add false (hf1.get hbz (by simp)) (by simp) (by simp)
    have hcl : off + i < cs.length := (List.getElem?_eq_some_iff.1 (by rw [← Nat.mul_one i]; exact c1)).1
    refine Run.seq ?_
    (refine Run.seq (Run.region ?_); intro K hK)
    refine Ops.pure H (X.move rfl) rfl rfl rfl ?_
    refine Ops.pure H (X.move rfl) rfl rfl rfl ?_
    refine Ops.pure H (X.len_slice rfl rfl rfl) rfl rfl rfl ?_
    refine Ops.pure H (X.cmp rfl rfl rfl) rfl rfl rfl ?_
    (refine Ops.nil (hK _ _ ?_); clear hK K)
    refine Run.cond_dec rfl (fun h8 => ?x0) (fun h8 => ?y0)
    case' y0 => exfalso; omega
    case' x0 =>
      refine Run.skip ?_
      refine Run.seq ?_
      refine Run.block ?_
      (refine Run.region ?_; intro K hK)
      refine Ops.pure H (X.move rfl) rfl rfl rfl ?_
      refine Ops.pure H (X.move rfl) rfl rfl rfl ?_
      refine Ops.pure H (X.move rfl) rfl rfl rfl ?_
      refine Ops.pure H (X.indexAddr rfl rfl (by omega) rfl rfl rfl rfl) rfl rfl rfl ?_
      refine Ops.pure H (X.load1 rfl rfl rfl rfl Pick.head (by assumption)) rfl rfl rfl ?_
      refine Ops.pure H (X.conv rfl rfl rfl rfl rfl (u64_in _ (by omega))) rfl rfl rfl ?_
      refine Ops.pure H (X.xorN rfl rfl rfl rfl (by omega) (by omega)) rfl rfl rfl ?_
      refine Ops.pure H (X.arith rfl rfl rfl) rfl rfl rfl ?_
      refine Ops.pure H (X.assign rfl) rfl rfl rfl ?_
      (refine Ops.nil (hK _ _ ?_); clear hK K)
      refine Run.inBlock ?_
      (refine Run.region ?_; intro K hK)
      refine Ops.pure H (X.move rfl) rfl rfl rfl ?_
      refine Ops.pure H (X.succ rfl rfl (by omega)) rfl rfl rfl ?_
      refine Ops.pure H (X.assign rfl) rfl rfl rfl ?_
      (refine Ops.nil (hK _ _ ?_); clear hK K)
    have hstep := fnv_step xs i y hil hy
    rw [hstep]
    exact (IH (i + 1) _ (by omega) ⟨by omega, hf1.then H.fr⟩).weak (by repeat (first | exact trivial | refine ⟨rfl, ?_⟩))
  · obtain rfl : i = xs.length := by omega
    rw [List.take_length]
    have H := Holds.start w1 []
    refine Run.seq ?_
    (refine Run.seq (Run.region ?_); intro K hK)
    refine Ops.pure H (X.move rfl) rfl rfl rfl ?_
    refine Ops.pure H (X.move rfl) rfl rfl rfl ?_
    refine Ops.pure H (X.len_slice rfl rfl rfl) rfl rfl rfl ?_
    refine Ops.pure H (X.cmp rfl rfl rfl) rfl rfl rfl ?_
    (refine Ops.nil (hK _ _ ?_); clear hK K)
    refine Run.cond_dec rfl (fun h8 => ?x1) (fun h8 => ?y1)
    case' y1 =>
      refine Run.exit rfl ?_
      (refine Run.seq (Run.region ?_); intro K hK)
      refine Ops.pure H (X.move rfl) rfl rfl rfl ?_
      refine Ops.pure H (X.assign rfl) rfl rfl rfl ?_
      (refine Ops.nil (hK _ _ ?_); clear hK K)
    case' x1 => exfalso; omega
    refine Fn.ret1 HF rfl rfl ?_
    exact ⟨rfl, hf1.then H.fr⟩
theorem dbytes_any (z : World) (db size : Nat) (ids : List Int) (m : Int → Option CS) (h : RD z db size ids m) (hN : ids.length ≤ 1024) (hs1 : size ≤ 64) (hm : ∀ x ∈ ids, U64 x ∧ COk ((m x).getD cs0) ∧ ((m x).getD cs0).seqs.length ≤ 64) :
    Fn env.P 36 [.pointer (some ⟨db, 0, none⟩)] z fun v w' => Own w' z.heap.size 5 1 v (encW size ids.length m ids).length (u8s (encW size ids.length m ids)) ∧ Fr z w' [] := by
  obtain ⟨v, hd, lv, hV, hL⟩ := h
  obtain ⟨a, cap, rfl⟩ := hV.slice
  obtain ⟨_, hc1, hc2⟩ := hV.len
  have H := (Holds.start z []).add false hd (by simp) (by simp)
  have HF := Try.func36; refine Fn.enter Try.func36 Try.ntmps36 rfl rfl rfl ?_
  (refine Run.seq (Run.region ?_); intro K hK)
  refine Ops.pure H (X.assign rfl) rfl rfl rfl ?_
  (refine Ops.nil (hK _ _ ?_); clear hK K)
  refine Run.seq ?_
  (refine Run.draw H [] [0, 1, 2, 3, 4, 6, 7, 8, 9, 10, 11, 5, 12, 13] ?_; clear H; intro K hK w H)
  refine Draw.take0 rfl (X.move rfl) rfl rfl rfl (by decide +kernel) ?_
  refine Draw.take0 rfl (X.nilCheck rfl) rfl rfl rfl (by decide +kernel) ?_
  refine Draw.take0 rfl (X.fieldAddr rfl rfl rfl rfl rfl rfl) rfl rfl rfl (by decide +kernel) ?_
  refine Draw.take rfl (X.load1 rfl rfl rfl rfl Pick.head rfl) rfl rfl rfl (by decide +kernel) ?_
  refine Draw.take0 rfl (X.conv rfl rfl rfl rfl rfl (u64_in _ (by omega))) rfl rfl rfl (by decide +kernel) ?_
  refine Draw.take0 rfl (X.move rfl) rfl rfl rfl (by decide +kernel) ?_
  refine Draw.take0 rfl (X.nilCheck rfl) rfl rfl rfl (by decide +kernel) ?_
  refine Draw.take0 rfl (X.fieldAddr rfl rfl rfl rfl rfl rfl) rfl rfl rfl (by decide +kernel) ?_
  refine Draw.take rfl (X.load1 rfl rfl rfl rfl Pick.head rfl) rfl rfl rfl (by decide +kernel) ?_
  refine Draw.take0 rfl (X.len_slice rfl rfl rfl) rfl rfl rfl (by decide +kernel) ?_
  refine Draw.take0 rfl (X.conv rfl rfl rfl rfl rfl (u64_in _ (by omega))) rfl rfl rfl (by decide +kernel) ?_
  refine Draw.eff rfl rfl (by decide +kernel) (Y.call rfl rfl (by first | assumption | decide +kernel) rfl (num_any z _ _ [] size 4 Own.nil H.fr (by omega) (by omega) (by simp)) rfl ?_)
  rintro v1 w1 ⟨hO1, hf1, k1⟩
  refine ⟨Kept.up H.at_ k1 rfl, ?_⟩
  skip
  refine Draw.eff rfl rfl (by decide +kernel) (Y.call rfl rfl (by first | assumption | decide +kernel) rfl (num_any z _ _ ([] ++ beL 4 size) ids.length 4 hO1 hf1 (by omega) (by omega) (by simp [beL_len])) rfl ?_)
  rintro v2 w2 ⟨hO2, hf2, k2⟩
  refine ⟨Kept.up (Kept.up H.at_ k1 rfl) k2 rfl, ?_⟩
  clear H
  have H := Holds.start w2 []
  refine Draw.take0 rfl (X.assign rfl) rfl rfl rfl (by decide +kernel) ?_
  (refine Draw.done (by decide +kernel) (hK _ _ ?_); clear hK K)
  refine Run.seq ?_
  (refine Run.seq (Run.region ?_); intro K hK)
  refine Ops.pure H (X.assign rfl) rfl rfl rfl ?_
  (refine Ops.nil (hK _ _ ?_); clear hK K)
  refine Run.block ?_
  obtain ⟨pre, hpre⟩ : ∃ pre, pre = beL 4 size ++ beL 4 ids.length := ⟨_, rfl⟩
  have hprel : pre.length = 8 := by rw [hpre]; simp [beL_len]
  have hflat : ∀ i, i ≤ ids.length → ((ids.take i).flatMap (encC m)).length ≤ 1024 * 4195092 := fun i hi => by
    have h1 := len_flat (encC m) 4195092 (ids.take i) (fun x hx => by
      obtain ⟨_, h2, h3⟩ := hm x (List.mem_of_mem_take hx)
      have := encS_le h2 h3
      simp only [encC, List.length_append, beL_len]
      omega)
    have h2 : (ids.take i).length ≤ 1024 := by simp; omega
    exact Nat.le_trans h1 (Nat.mul_le_mul_right _ h2)
  refine Run.rounds (fun (x : Nat × Value) => [(0, .pointer (some ⟨db, 0, none⟩)), (3, x.2), (4, .int .i64 (x.1 : Nat))])
    (fun x w' => x.1 ≤ ids.length ∧ Fr z w' [] ∧ Own w' z.heap.size 5 1 x.2 (pre ++ (ids.take x.1).flatMap (encC m)).length (u8s (pre ++ (ids.take x.1).flatMap (encC m)))) (fun x => ids.length - x.1) (0, v2) (by repeat (first | exact trivial | refine ⟨rfl, ?_⟩))
    ⟨by dsimp only; omega, hf2.then H.fr, by
      have := hO2.ext H.fr
      rw [hpre]
      simpa using this⟩ ?_
  clear H
  rintro ⟨i, v⟩ w4 ⟨hil, F4, hO4⟩ IH
  dsimp only at hil hO4 IH ⊢
  have hd4 := F4.get hd (by simp)
  by_cases hi : i < ids.length
  · obtain ⟨b, off, cs, rfl, hb, hcs⟩ := hV.pos (by omega)
    have hb4 := F4.get hb (by simp)
    have hci := hcs i hi
    obtain ⟨bv, hV2, hA⟩ := hL i hi
    obtain ⟨s, hgs⟩ : ∃ s, s = gm m ids i := ⟨_, rfl⟩
    rw [← hgs] at hci hV2 hA
    obtain ⟨la, lcap, hlv⟩ := hV2.slice
    obtain ⟨_, hl1, hl2⟩ := (hlv ▸ hV2).len
    rw [hlv] at hci hV2
    have hgi : ids.getD i 0 = ids[i] := by simp [hi]
    obtain ⟨hu, hco, hle64⟩ := hm ids[i] (List.getElem_mem hi)
    have hgs' : (m ids[i]).getD cs0 = s := by rw [hgs, gm, hgi]
    rw [hgs'] at hco hle64
    obtain ⟨idn, hid⟩ : ∃ n : Nat, ids[i] = (n : Int) := ⟨ids[i].toNat, by have := hu.1; omega⟩
    have hidl : idn < 18446744073709551616 := by have := hu.2; omega
    obtain ⟨fl, hfl⟩ : ∃ n : Nat, s.floor = (n : Int) := ⟨s.floor.toNat, by have := hco.fl.1; omega⟩
    have hfll : fl < 18446744073709551616 := by have := hco.fl.2; omega
    rw [hgi, hid, hfl] at hci
    have nbd : b ≠ db := ne_of_ty hb hd (by decide)
    have hfl4 := hflat i (by omega)
    have H := ((Holds.start w4 []).add false hb4 (by simp) (by simp)).add false hd4 (by simpa using nbd.symm) (by simp)
    refine Run.seq ?_
    (refine Run.seq (Run.region ?_); intro K hK)
    refine Ops.pure H (X.move rfl) rfl rfl rfl ?_
    refine Ops.pure H (X.move rfl) rfl rfl rfl ?_
    refine Ops.pure H (X.nilCheck rfl) rfl rfl rfl ?_
    refine Ops.pure H (X.fieldAddr rfl rfl rfl rfl rfl rfl) rfl rfl rfl ?_
    refine Ops.pure H (X.load1 rfl rfl rfl rfl Pick.head rfl) rfl rfl rfl ?_
    refine Ops.pure H (X.len_slice rfl rfl rfl) rfl rfl rfl ?_
    refine Ops.pure H (X.cmp rfl rfl rfl) rfl rfl rfl ?_
    (refine Ops.nil (hK _ _ ?_); clear hK K)
    refine Run.cond_dec rfl (fun h26 => ?x2) (fun h26 => ?y2)
    case' y2 => exfalso; omega
    case' x2 =>
      refine Run.skip ?_
      refine Run.seq ?_
      refine Run.block ?_
      (refine Run.seq (Run.region ?_); intro K hK)
      refine Ops.pure H (X.move rfl) rfl rfl rfl ?_
      refine Ops.pure H (X.nilCheck rfl) rfl rfl rfl ?_
      refine Ops.pure H (X.fieldAddr rfl rfl rfl rfl rfl rfl) rfl rfl rfl ?_
      refine Ops.pure H (X.load1 rfl rfl rfl rfl Pick.head rfl) rfl rfl rfl ?_
      refine Ops.pure H (X.move rfl) rfl rfl rfl ?_
      refine Ops.pure H (X.indexAddr rfl rfl (by omega) rfl rfl rfl rfl) rfl rfl rfl ?_
      refine Ops.pure H (X.loadN rfl rfl rfl (.tail .head) (by assumption)) rfl rfl rfl ?_
      (refine Ops.eff rfl (Y.alloc rfl rfl rfl H ?_); intro b5 w H0 hb5; clear H; have H := H0; clear H0)
      (refine Ops.eff rfl (Y.storeO rfl rfl rfl rfl rfl rfl H Upd.head rfl ?_); intro w H0; clear H; have H := H0; clear H0)
      (refine Ops.nil (hK _ _ ?_); clear hK K)
    have hcp := H.pick (b := b5) (by repeat (first | exact .head | apply Pick.tail))
    have F5 := F4.then H.fr
    have hO5 := hO4.ext H.fr
    have hb5z : z.heap.size ≤ b5 := by have := F4.size; omega
    clear H hO4 hb4 hd4
    rename World => w5
    have H := (Holds.start w5 []).add false hcp (by simp) (by simp)
    refine Run.seq ?_
    (refine Run.draw H [] [0, 1, 2, 4, 5, 7, 8, 9, 10, 3, 6, 11, 12] ?_; clear H; intro K hK w H)
    refine Draw.take0 rfl (X.move rfl) rfl rfl rfl (by decide +kernel) ?_
    refine Draw.take0 rfl (X.fieldAddr rfl rfl rfl rfl rfl rfl) rfl rfl rfl (by decide +kernel) ?_
    refine Draw.take rfl (X.load1 rfl rfl rfl rfl Pick.head rfl) rfl rfl rfl (by decide +kernel) ?_
    refine Draw.take0 rfl (X.fieldAddr rfl rfl rfl rfl rfl rfl) rfl rfl rfl (by decide +kernel) ?_
    refine Draw.take rfl (X.load1 rfl rfl rfl rfl Pick.head rfl) rfl rfl rfl (by decide +kernel) ?_
    refine Draw.take0 rfl (X.fieldAddr rfl rfl rfl rfl rfl rfl) rfl rfl rfl (by decide +kernel) ?_
    refine Draw.take rfl (X.load1 rfl rfl rfl rfl Pick.head rfl) rfl rfl rfl (by decide +kernel) ?_
    refine Draw.take0 rfl (X.len_slice rfl rfl rfl) rfl rfl rfl (by decide +kernel) ?_
    refine Draw.take0 rfl (X.conv rfl rfl rfl rfl rfl (u64_in _ (by omega))) rfl rfl rfl (by decide +kernel) ?_
    obtain ⟨P0, hP0⟩ : ∃ P, P = pre ++ (ids.take i).flatMap (encC m) := ⟨_, rfl⟩
    have hP0l : P0.length ≤ 4295774216 := by rw [hP0, List.length_append]; omega
    rw [← hP0] at hO5
    refine Draw.eff rfl rfl (by decide +kernel) (Y.call rfl rfl (by first | assumption | decide +kernel) rfl (num_any z _ _ P0 idn 8 (hO5.ext H.fr) (F5.then H.fr) hidl (by omega) (by omega)) rfl ?_)
    rintro vA wA ⟨hOA, fA, kA⟩
    have hKA := Kept.up H.at_ kA rfl
    refine ⟨hKA, ?_⟩
    skip
    refine Draw.eff rfl rfl (by decide +kernel) (Y.call rfl rfl (by first | assumption | decide +kernel) rfl (num_any z _ _ (P0 ++ beL 8 idn) fl 8 hOA fA hfll (by omega) (by simp [beL_len]; omega)) rfl ?_)
    rintro vB wB ⟨hOB, fB, kB⟩
    have hKB := Kept.up hKA kB rfl
    refine ⟨hKB, ?_⟩
    skip
    refine Draw.eff rfl rfl (by decide +kernel) (Y.call rfl rfl (by first | assumption | decide +kernel) rfl (num_any z _ _ (P0 ++ beL 8 idn ++ beL 8 fl) s.seqs.length 4 hOB fB (by omega) (by omega) (by simp [beL_len]; omega)) rfl ?_)
    rintro vC wC ⟨hOC, fC, kC⟩
    have hKC := Kept.up hKB kC rfl
    refine ⟨hKC, ?_⟩
    have hcpC := hKC _ (List.mem_cons_self ..)
    clear H
    have H := (Holds.start wC []).add false hcpC (by simp) (by simp)
    refine Draw.take0 rfl (X.assign rfl) rfl rfl rfl (by decide +kernel) ?_
    (refine Draw.done (by decide +kernel) (hK _ _ ?_); clear hK K)
    (refine Run.seq (Run.region ?_); intro K hK)
    refine Ops.pure H (X.assign rfl) rfl rfl rfl ?_
    (refine Ops.nil (hK _ _ ?_); clear hK K)
    refine Run.block ?_
    obtain ⟨P1, hP1⟩ : ∃ P, P = P0 ++ beL 8 idn ++ beL 8 fl ++ beL 4 s.seqs.length := ⟨_, rfl⟩
    have hP1l : P1.length ≤ 4295774236 := by rw [hP1]; simp [beL_len]; omega
    have hP1p : 0 < P1.length := by rw [hP1]; simp [beL_len]
    rw [← hP1] at hOC
    have hfla : ∀ j, j ≤ s.seqs.length → ((s.seqs.take j).flatMap (encA s)).length ≤ 4195072 := fun j hj => by
      have h1 := len_flat (encA s) 65548 (s.seqs.take j) (fun x _ => encA_le hco x)
      have h2 : (s.seqs.take j).length ≤ 64 := by simp; omega
      omega
    refine Run.rounds (fun (x : Nat × Value) => [(0, .pointer (some ⟨db, 0, none⟩)), (3, x.2), (4, .int .i64 (i : Nat)), (5, .pointer (some ⟨b5, 0, none⟩)), (6, .int .i64 (x.1 : Nat))])
      (fun x w' => x.1 ≤ s.seqs.length ∧ Fr z w' [] ∧ Own w' z.heap.size 5 1 x.2 (P1 ++ (s.seqs.take x.1).flatMap (encA s)).length (u8s (P1 ++ (s.seqs.take x.1).flatMap (encA s))) ∧ w'.heap[b5]? = some (row [.int .u64 (idn : Nat), .int .u64 (fl : Nat), .slice la s.seqs.length lcap] 84)) (fun x => s.seqs.length - x.1) (0, vC) (by repeat (first | exact trivial | refine ⟨rfl, ?_⟩))
      ⟨by dsimp only; omega, fC.then H.fr, by simpa using hOC.ext H.fr, H.pick (b := b5) (by repeat (first | exact .head | apply Pick.tail))⟩ ?_
    clear H
    rintro ⟨j, u⟩ w6 ⟨hjl, F6, hO6, hcp6⟩ IH2
    dsimp only at hjl hO6 IH2 ⊢
    by_cases hj : j < s.seqs.length
    · obtain ⟨b2, off2, cs2, rfl, hb2, hcs2⟩ := hV2.pos (by omega)
      have hck := hcs2 j hj
      have hAk := hA j hj
      have hgj : s.seqs.getD j 0 = s.seqs[j] := by simp [hj]
      obtain ⟨sq, hsqn⟩ : ∃ n : Nat, s.seqs[j] = (n : Int) := ⟨s.seqs[j].toNat, by have := (hco.sq _ (List.getElem_mem hj)).1; omega⟩
      have hsql : sq < 18446744073709551616 := by have := (hco.sq _ (List.getElem_mem hj)).2; omega
      rw [hgj, hsqn] at hck hAk
      obtain ⟨xs, hans⟩ : ∃ xs, (s.ans (sq : Int)).getD [] = xs := ⟨_, rfl⟩
      have hxl : xs.length ≤ 65536 := by
        rw [← hans]
        cases hx : s.ans (sq : Int) with
        | none => simp
        | some a => exact (hco.an _ a hx).2
      rw [hans] at hAk
      obtain ⟨ba, bcap, hbv⟩ := hAk.slice
      rw [hbv] at hck hAk
      have c20 : cs2[off2 + j * 2 + 0]? = some (.int .u64 (sq : Nat)) := hck.get 0 _ rfl
      have c21 : cs2[off2 + j * 2 + 1]? = some (.slice ba xs.length bcap) := hck.get 1 _ rfl
      have hb26 := F6.get hb2 (by simp)
      have n2 : b2 ≠ b5 := ne_of_ty hb26 hcp6 (by decide)
      have hfl5 := hfla j hjl
      obtain ⟨P2, hP2⟩ : ∃ P, P = P1 ++ (s.seqs.take j).flatMap (encA s) := ⟨_, rfl⟩
      have hP2l : P2.length ≤ 4299969308 := by rw [hP2, List.length_append]; omega
      have hP2p : 0 < P2.length := by rw [hP2, List.length_append]; omega
      rw [← hP2] at hO6
      have H := ((Holds.start w6 []).add false hb26 (by simp) (by simp)).add false hcp6 (by simpa using n2.symm) (by simp)
      refine Run.seq ?_
      (refine Run.seq (Run.region ?_); intro K hK)
      refine Ops.pure H (X.move rfl) rfl rfl rfl ?_
      refine Ops.pure H (X.fieldAddr rfl rfl rfl rfl rfl rfl) rfl rfl rfl ?_
      refine Ops.pure H (X.load1 rfl rfl rfl rfl Pick.head rfl) rfl rfl rfl ?_
      refine Ops.pure H (X.len_slice rfl rfl rfl) rfl rfl rfl ?_
      refine Ops.pure H (X.cmp rfl rfl rfl) rfl rfl rfl ?_
      (refine Ops.nil (hK _ _ ?_); clear hK K)
      refine Run.cond_dec rfl (fun h52 => ?x3) (fun h52 => ?y3)
      case' y3 => exfalso; omega
      case' x3 =>
        refine Run.skip ?_
        refine Run.seq ?_
        refine Run.block ?_
        (refine Run.draw H [] (0 :: 1 :: 2 :: 3 :: 4 :: 5 :: 6 :: 8 :: 9 :: 10 :: 11 :: 12 :: 13 :: 14 :: 15 :: 17 :: 18 :: 19 :: 20 :: 21 :: 22 :: 7 :: 16 :: 23 :: 24 :: []) ?_; clear H; intro K hK w H)
        refine Draw.take0 rfl (X.move rfl) rfl rfl rfl (by decide +kernel) ?_
        refine Draw.take0 rfl (X.fieldAddr rfl rfl rfl rfl rfl rfl) rfl rfl rfl (by decide +kernel) ?_
        refine Draw.take rfl (X.load1 rfl rfl rfl rfl Pick.head rfl) rfl rfl rfl (by decide +kernel) ?_
        refine Draw.take0 rfl (X.move rfl) rfl rfl rfl (by decide +kernel) ?_
        refine Draw.take0 rfl (X.indexAddr rfl rfl (by omega) rfl rfl rfl rfl) rfl rfl rfl (by decide +kernel) ?_
        refine Draw.take0 rfl (X.fieldAddr rfl rfl rfl rfl rfl rfl) rfl rfl rfl (by decide +kernel) ?_
        refine Draw.take rfl (X.load1 rfl rfl rfl rfl (.tail .head) (by assumption)) rfl rfl rfl (by decide +kernel) ?_
        refine Draw.take0 rfl (X.fieldAddr rfl rfl rfl rfl rfl rfl) rfl rfl rfl (by decide +kernel) ?_
        refine Draw.take rfl (X.load1 rfl rfl rfl rfl Pick.head rfl) rfl rfl rfl (by decide +kernel) ?_
        refine Draw.take0 rfl (X.move rfl) rfl rfl rfl (by decide +kernel) ?_
        refine Draw.take0 rfl (X.indexAddr rfl rfl (by omega) rfl rfl rfl rfl) rfl rfl rfl (by decide +kernel) ?_
        refine Draw.take0 rfl (X.fieldAddr rfl rfl rfl rfl rfl rfl) rfl rfl rfl (by decide +kernel) ?_
        refine Draw.take rfl (X.load1 rfl rfl rfl rfl (.tail .head) (by assumption)) rfl rfl rfl (by decide +kernel) ?_
        refine Draw.take0 rfl (X.len_slice rfl rfl rfl) rfl rfl rfl (by decide +kernel) ?_
        refine Draw.take0 rfl (X.conv rfl rfl rfl rfl rfl (u64_in _ (by omega))) rfl rfl rfl (by decide +kernel) ?_
        refine Draw.take0 rfl (X.fieldAddr rfl rfl rfl rfl rfl rfl) rfl rfl rfl (by decide +kernel) ?_
        refine Draw.take rfl (X.load1 rfl rfl rfl rfl Pick.head rfl) rfl rfl rfl (by decide +kernel) ?_
        refine Draw.take0 rfl (X.move rfl) rfl rfl rfl (by decide +kernel) ?_
        refine Draw.take0 rfl (X.indexAddr rfl rfl (by omega) rfl rfl rfl rfl) rfl rfl rfl (by decide +kernel) ?_
        refine Draw.take0 rfl (X.fieldAddr rfl rfl rfl rfl rfl rfl) rfl rfl rfl (by decide +kernel) ?_
        refine Draw.take rfl (X.load1 rfl rfl rfl rfl (.tail .head) (by assumption)) rfl rfl rfl (by decide +kernel) ?_
      refine Draw.eff rfl rfl (by decide +kernel) (Y.call rfl rfl (by first | assumption | decide +kernel) rfl (num_any z _ _ P2 sq 8 (hO6.ext H.fr) (F6.then H.fr) hsql (by omega) (by omega)) rfl ?_)
      rintro vD wD ⟨hOD, fD, kD⟩
      have hKD := Kept.up H.at_ kD rfl
      refine ⟨hKD, ?_⟩
      skip
      refine Draw.eff rfl rfl (by decide +kernel) (Y.call rfl rfl (by first | assumption | decide +kernel) rfl (num_any z _ _ (P2 ++ beL 8 sq) xs.length 4 hOD fD (by omega) (by omega) (by simp [beL_len]; omega)) rfl ?_)
      rintro vE wE ⟨hOE, fE, kE⟩
      have hKE := Kept.up hKD kE rfl
      refine ⟨hKE, ?_⟩
      obtain ⟨ea, ecap, rfl⟩ := hOE.slice
      have hcpE := hKE _ (List.mem_cons_self ..)
      skip
      refine Draw.eff rfl rfl (by decide +kernel) (Y.appendOwnK (w0 := z) (S := []) (news := u8s xs) hOE rfl rfl rfl rfl rfl rfl fE (by simp [beL_len]; omega) (by simp [u8s]) ((hAk.bys.ext fE).src) rfl (List.all_eq_true.2 (u8s_one xs)) (by simp [beL_len]; omega) (by simp [beL_len]; omega) rfl ?_)
      intro vF wF fF kF hOF
      have hKF := Kept.up hKE kF rfl
      refine ⟨hKF, ?_⟩
      have hcpF := hKF _ (List.mem_cons_self ..)
      clear H
      have H := (Holds.start wF []).add false hcpF (by simp) (by simp)
      refine Draw.take0 rfl (X.assign rfl) rfl rfl rfl (by decide +kernel) ?_
      (refine Draw.done (by decide +kernel) (hK _ _ ?_); clear hK K)
      refine Run.inBlock ?_
      (refine Run.region ?_; intro K hK)
      refine Ops.pure H (X.move rfl) rfl rfl rfl ?_
      refine Ops.pure H (X.succ rfl rfl (by omega)) rfl rfl rfl ?_
      refine Ops.pure H (X.assign rfl) rfl rfl rfl ?_
      (refine Ops.nil (hK _ _ ?_); clear hK K)
      have hnew : P1 ++ (s.seqs.take (j + 1)).flatMap (encA s) = P2 ++ beL 8 sq ++ beL 4 xs.length ++ xs := by
        rw [take_flat _ _ _ hj, hP2, encA, hsqn, hans, Int.toNat_natCast]
        simp
      refine (IH2 (j + 1, vF) _ (by dsimp only; omega) ⟨by dsimp only; omega, fF.then H.fr, ?_, H.pick (b := b5) (by repeat (first | exact .head | apply Pick.tail))⟩).weak (by repeat (first | exact trivial | refine ⟨rfl, ?_⟩))
      dsimp only
      rw [hnew]
      exact (hOF.ext H.fr).cast (by simp; omega) (by simp [u8s])
    · obtain rfl : j = s.seqs.length := by omega
      rw [List.take_length] at hO6
      have H := (Holds.start w6 []).add false hcp6 (by simp) (by simp)
      refine Run.seq ?_
      (refine Run.seq (Run.region ?_); intro K hK)
      refine Ops.pure H (X.move rfl) rfl rfl rfl ?_
      refine Ops.pure H (X.fieldAddr rfl rfl rfl rfl rfl rfl) rfl rfl rfl ?_
      refine Ops.pure H (X.load1 rfl rfl rfl rfl Pick.head rfl) rfl rfl rfl ?_
      refine Ops.pure H (X.len_slice rfl rfl rfl) rfl rfl rfl ?_
      refine Ops.pure H (X.cmp rfl rfl rfl) rfl rfl rfl ?_
      (refine Ops.nil (hK _ _ ?_); clear hK K)
      refine Run.cond_dec rfl (fun h52 => ?x4) (fun h52 => ?y4)
      case' y4 =>
        refine Run.exit rfl ?_
        refine Run.inBlock ?_
        (refine Run.region ?_; intro K hK)
        refine Ops.pure H (X.move rfl) rfl rfl rfl ?_
        refine Ops.pure H (X.succ rfl rfl (by omega)) rfl rfl rfl ?_
        refine Ops.pure H (X.assign rfl) rfl rfl rfl ?_
        (refine Ops.nil (hK _ _ ?_); clear hK K)
      case' x4 => exfalso; omega
      have hnew : pre ++ (ids.take (i + 1)).flatMap (encC m) = P1 ++ s.seqs.flatMap (encA s) := by
        rw [take_flat _ _ _ hi, hP1, hP0, encC, hgs', encS]
        simp [hid, hfl]
      refine (IH (i + 1, u) _ (by dsimp only; omega) ⟨by dsimp only; omega, F6.then H.fr, ?_⟩).weak (by repeat (first | exact trivial | refine ⟨rfl, ?_⟩))
      dsimp only
      rw [hnew]
      exact hO6.ext H.fr
  · obtain rfl : i = ids.length := by omega
    rw [List.take_length] at hO4
    obtain ⟨P, hP⟩ : ∃ P, P = encB size ids.length m ids := ⟨_, rfl⟩
    have hPe : pre ++ ids.flatMap (encC m) = P := by rw [hP, hpre]; rfl
    have hfl4 := hflat ids.length (Nat.le_refl _)
    rw [List.take_length] at hfl4
    have hPl : P.length ≤ 4295774216 := by rw [← hPe, List.length_append]; omega
    rw [hPe] at hO4
    have H := (Holds.start w4 []).add false hd4 (by simp) (by simp)
    refine Run.seq ?_
    (refine Run.seq (Run.region ?_); intro K hK)
    refine Ops.pure H (X.move rfl) rfl rfl rfl ?_
    refine Ops.pure H (X.move rfl) rfl rfl rfl ?_
    refine Ops.pure H (X.nilCheck rfl) rfl rfl rfl ?_
    refine Ops.pure H (X.fieldAddr rfl rfl rfl rfl rfl rfl) rfl rfl rfl ?_
    refine Ops.pure H (X.load1 rfl rfl rfl rfl Pick.head rfl) rfl rfl rfl ?_
    refine Ops.pure H (X.len_slice rfl rfl rfl) rfl rfl rfl ?_
    refine Ops.pure H (X.cmp rfl rfl rfl) rfl rfl rfl ?_
    (refine Ops.nil (hK _ _ ?_); clear hK K)
    refine Run.cond_dec rfl (fun h26 => ?x5) (fun h26 => ?y5)
    case' y5 =>
      refine Run.exit rfl ?_
      (refine Run.seq (Run.region ?_); intro K hK)
      refine Ops.pure H (X.move rfl) rfl rfl rfl ?_
      refine Ops.pure H (X.move rfl) rfl rfl rfl ?_
    case' x5 => exfalso; omega
    have hbytP : Byt P := by
      rw [hP]
      exact Byt.append (Byt.append (Byt.be _ _) (Byt.be _ _)) (Byt.flat fun x hx => Byt.append (Byt.be _ _) (Byt.encS (hm x hx).2.1))
    refine Ops.eff rfl (Y.call rfl rfl (by first | assumption | decide +kernel) rfl (dhash_any _ v P ((hO4.ext H.fr).bys) hbytP) rfl ?_)
    rintro r wG ⟨rfl, fG⟩
    have FG := F4.then (H.fr.then fG)
    have hOG := hO4.ext (H.fr.then fG)
    clear H
    have H := Holds.start wG []
    skip
    refine Ops.eff rfl (Y.call rfl rfl (by first | assumption | decide +kernel) rfl (num_any z _ _ P (fnvL P) 8 (hOG.ext H.fr) (FG.then H.fr) (fnvL_lt P) (by omega) (by omega)) rfl ?_)
    rintro vH wH ⟨hOH, fH, _⟩
    clear H
    have H := Holds.start wH []
    refine Ops.pure H (X.assign rfl) rfl rfl rfl ?_
    (refine Ops.nil (hK _ _ ?_); clear hK K)
    refine Fn.ret1 HF rfl rfl ?_
    refine ⟨?_, fH.then H.fr⟩
    rw [encW, ← hP]
    exact hOH.ext H.fr
end Go.Proofs.Ytaneenahapdabaa
