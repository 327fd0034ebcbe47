/- Layer 20: Load, walked. -/
import Derived.Test.YtaneenahapdabaaSW
import Derived.Test.YtaneenahapdabaaSZ
namespace Go.Proofs.Ytaneenahapdabaa
open Go
set_option maxRecDepth 20000
set_option maxHeartbeats 2000000
attribute [local irreducible] Run Ops Fn Draw Draw2 PureOp StepZ

/-- What Load answers: the window of these bytes; or none. -/
def LoadQ (z : World) (xs : List Int) (r : Value) (w' : World) : Prop :=
  Fr z w' [] ∧ ((∃ W ids tail, r = .tuple #[.pointer (some ⟨W.wb, 0, none⟩), .int .i64 0] ∧ Wn w' W ∧ WOk W ∧ loadP xs = some (W.size.toNat, W.N, st W, tail) ∧ tail.length = 8 ∧ encW W.size.toNat W.N (st W) ids = xs ∧ (∀ b, Foot W b → z.heap.size ≤ b) ∧ (∀ x, x ∈ ids ↔ (W.m x).isSome = true) ∧ ids.Pairwise (· < ·) ∧ PV z.heap.size w' W) ∨
    (r = .tuple #[.pointer none, .int .i64 20] ∧ ∀ size n m tail ids, loadP xs = some (size, n, m, tail) → tail.length = 8 → (∀ x, x ∈ ids ↔ (m x).isSome = true) → ids.Pairwise (· < ·) → encW size n m ids ≠ xs))
theorem LoadQ.no {z w' : World} {xs : List Int} (hf : Fr z w' []) (h : loadP xs = none) : LoadQ z xs (.tuple #[.pointer none, .int .i64 20]) w' := ⟨hf, .inr ⟨rfl, fun _ _ _ _ _ h2 => by rw [h] at h2; cases h2⟩⟩

structure LPst where
  i : Nat
  last : Nat
  ys : List Int
  W : WS
theorem map_inj8 : ∀ (a b : List Int), Byt a → Byt b → a.map (fun n => UInt8.ofNat n.toNat) = b.map (fun n => UInt8.ofNat n.toNat) → a = b
  | [], [], _, _, _ => rfl
  | [], _ :: _, _, _, h => by simp at h
  | _ :: _, [], _, _, h => by simp at h
  | x :: a, y :: b, ha, hb, h => by
    simp only [List.map_cons, List.cons.injEq] at h
    have h1 := congrArg UInt8.toNat h.1
    have hx := ha x (by simp)
    have hy := hb y (by simp)
    rw [UInt8.toNat_ofNat', UInt8.toNat_ofNat', Nat.mod_eq_of_lt (by omega), Nat.mod_eq_of_lt (by omega)] at h1
    rw [map_inj8 a b (fun z hz => ha z (by simp [hz])) (fun z hz => hb z (by simp [hz])) h.2, show x = y by omega]
/-- Bytes that make the same string are the same. -/
theorem str_inj (a b : List Int) (ha : Byt a) (hb : Byt b) (h : (strOfNums a).toList = (strOfNums b).toList) : a = b := by
  rw [ByteArray.toList_eq, ByteArray.toList_eq] at h
  exact map_inj8 a b ha hb (by simpa [strOfNums] using h)
/-- Rising lists of the same members are equal. -/
theorem ids_one (a b : List Int) (ha : a.Pairwise (· < ·)) (hb : b.Pairwise (· < ·)) (h : ∀ x, x ∈ a ↔ x ∈ b) : a = b := by
  have na : a.Nodup := ha.imp (fun h e => by omega)
  have nb : b.Nodup := hb.imp (fun h e => by omega)
  exact ((List.perm_ext_iff_of_nodup na nb).2 h).eq_of_pairwise (le := (· < ·)) (fun x y _ _ h1 h2 => by omega) ha hb
theorem load_any (z : World) (b off cap : Nat) (cs : List Value) (fz : Nat × Nat) (xs : List Int) (hb : z.heap[b]? = some (.cells (List.toArray cs) 5 fz)) (hc1 : xs.length ≤ cap) (hc2 : cap ≤ 9223372036854775807) (hcs : Cs cs off xs.length (u8s xs)) (hx : Byt xs) :
    Fn env.P 10 [.slice (some ⟨b, off, none⟩) xs.length cap] z fun r w' => LoadQ z xs r w' := by
  have H := Holds.start z []
  have HF := Try.func10; refine Fn.enter Try.func10 Try.ntmps10 rfl rfl rfl ?_
  (refine Run.seq (Run.region ?_); intro K hK)
  (refine Ops.eff rfl (Y.alloc rfl rfl rfl H ?_); intro b2 w H0 hb2; clear H; have H := H0; clear H0)
  (refine Ops.eff rfl (Y.alloc rfl rfl rfl H ?_); intro b3 w H0 hb3; clear H; have H := H0; clear H0)
  (refine Ops.nil (hK _ _ ?_); clear hK K)
  have r1 := H.pick (b := b2) (by repeat (first | exact .head | apply Pick.tail))
  have r2 := H.pick (b := b3) (by repeat (first | exact .head | apply Pick.tail))
  obtain ⟨wx, hwx⟩ : ∃ x, x = b2 := ⟨_, rfl⟩
  obtain ⟨ex, hex⟩ : ∃ x, x = b3 := ⟨_, rfl⟩
  rw [← hwx] at r1 ⊢
  rw [← hex] at r2 ⊢
  have hwz : z.heap.size ≤ wx := by omega
  have hez : z.heap.size ≤ ex := by omega
  have F1 := H.fr
  rename World => w1
  clear H
  refine Run.seq ?_
  refine Run.defer2 (E := env) rfl rfl rfl ?_
  rw [show ({ target := .fn (.func 22) #[.pointer (some ⟨wx, 0, none⟩), .pointer (some ⟨ex, 0, none⟩)], args := #[] } : Deferred) = DL wx ex from rfl]
  have H := Holds.start w1 []
  (refine Run.seq (Run.region ?_); intro K hK)
  refine Ops.pure H (X.move rfl) rfl rfl rfl ?_
  refine Ops.pure H (X.buildO rfl rfl rfl rfl rfl rfl) rfl rfl rfl ?_
  (refine Ops.eff rfl (Y.box rfl rfl rfl H ?_); intro b14 w H0 hb14; clear H; have H := H0; clear H0)
  refine Ops.pure H (X.assign rfl) rfl rfl rfl ?_
  (refine Ops.nil (hK _ _ (Run.seq (Run.region ?_))); clear hK K; intro K hK)
  refine Ops.pure H (X.move rfl) rfl rfl rfl ?_
  have hr0 := H.pick (b := b14) (by repeat (first | exact .head | apply Pick.tail))
  obtain ⟨rb, hrb⟩ : ∃ x, x = b14 := ⟨_, rfl⟩
  rw [← hrb] at hr0 ⊢
  have hrz : z.heap.size ≤ rb := by have := F1.size; omega
  have hwl := lt_of_at r1
  have hel := lt_of_at r2
  have nwr : wx ≠ rb := by omega
  have ner : ex ≠ rb := by omega
  have F2 := F1.then H.fr
  have q1 := H.fr.get r1 (by simp)
  have q2 := H.fr.get r2 (by simp)
  have hR0 := (show Rd _ rb xs from ⟨cap, b, off, cs, 5, fz, hr0, hc1, hc2, F2.get hb (by simp), rfl, hcs⟩)
  clear H
  rename World => w2
  refine Ops.effP rfl (Y.callP rfl rfl (by decide +kernel) rfl (number_any _ rb 4 xs hR0 hx (by omega)) rfl (fun ch w' hp a ha => by
    obtain ⟨hno, rfl, hf⟩ := hp
    exact QK.some Try.func10 ha (load_pan rfl rfl (hf.get q1 (by simpa using nwr)) (hf.get q2 (by simpa using ner)) ha.toSt0 fun w'' hf2 => LoadQ.no ((F2.trans hf (U := []) (by simp) (fun x hx hl => by simp at hx; omega)).trans hf2 (by simp) (fun x hx hl => by simp at hx; omega)) (by rw [loadP, if_neg hno]))) ?_)
  rintro v3 w3 ⟨hl3, rfl, hR3, hf3⟩
  have F3 := F2.trans hf3 (U := []) (by simp) (fun x hx hl => by simp at hx; omega)
  have q13 := hf3.get q1 (by simpa using nwr)
  have q23 := hf3.get q2 (by simpa using ner)
  obtain ⟨xs1, hxs1⟩ : ∃ l, l = xs.drop 4 := ⟨_, rfl⟩
  obtain ⟨size, hsize⟩ : ∃ l, l = beV (xs.take 4) := ⟨_, rfl⟩
  have hb1 : Byt xs1 := by rw [hxs1]; exact hx.drop 4
  have hsl : size < 4294967296 := by rw [hsize]; exact beV4 hx hl3
  rw [← hxs1] at hR3
  rw [← hsize]
  have H := Holds.start w3 []
  refine Ops.pure H (X.move rfl) rfl rfl rfl ?_
  refine Ops.effP rfl (Y.callP rfl rfl (by decide +kernel) rfl (number_any _ rb 4 xs1 hR3 hb1 (by omega)) rfl (fun ch w' hp a ha => by
    obtain ⟨hno, rfl, hf⟩ := hp
    exact QK.some Try.func10 ha (load_pan rfl rfl (hf.get q13 (by simpa using nwr)) (hf.get q23 (by simpa using ner)) ha.toSt0 fun w'' hf2 => LoadQ.no ((F3.trans hf (U := []) (by simp) (fun x hx hl => by simp at hx; omega)).trans hf2 (by simp) (fun x hx hl => by simp at hx; omega)) (by rw [loadP, if_pos hl3, ← hxs1, if_neg hno]))) ?_)
  rintro v4 w4 ⟨hl4, rfl, hR4, hf4⟩
  have F4 := F3.trans hf4 (U := []) (by simp) (fun x hx hl => by simp at hx; omega)
  have q14 := hf4.get q13 (by simpa using nwr)
  have q24 := hf4.get q23 (by simpa using ner)
  obtain ⟨xs2, hxs2⟩ : ∃ l, l = xs1.drop 4 := ⟨_, rfl⟩
  obtain ⟨n, hn⟩ : ∃ l, l = beV (xs1.take 4) := ⟨_, rfl⟩
  have hb2 : Byt xs2 := by rw [hxs2]; exact hb1.drop 4
  have hnl : n < 4294967296 := by rw [hn]; exact beV4 hb1 hl4
  rw [← hxs2] at hR4
  rw [← hn]
  have hP : loadP xs = if size < 1 ∨ 64 < size ∨ 1024 < n then none else (clientsP size n 0 0 (fun _ => none) xs2).map fun r => (size, n, r.1, r.2) := by
    rw [loadP, if_pos hl3, ← hxs1, if_pos hl4, ← hxs2, ← hsize, ← hn]
  have nwe : wx ≠ ex := ne_of_ty q14 q24 (by decide)
  clear H
  have H := ((Holds.start w4 [wx, ex]).add true q14 (by simp) (by simp)).add true q24 (by simpa using nwe.symm) (by simp)
  refine Ops.pure H (X.assign rfl) rfl rfl rfl ?_
  refine Ops.pure H (X.assign rfl) rfl rfl rfl ?_
  (refine Ops.nil (hK _ _ ?_); clear hK K)
  by_cases hbad : size < 1 ∨ 64 < size ∨ 1024 < n
  · rw [if_pos hbad] at hP
    by_cases h1 : size < 1
    · refine Run.seq ?_
      (refine Run.seq (Run.region ?_); intro K hK)
      refine Ops.pure H (X.move rfl) rfl rfl rfl ?_
      refine Ops.pure H (X.cmp rfl rfl rfl) rfl rfl rfl ?_
      refine Ops.pure H (X.move rfl) rfl rfl rfl ?_
      refine Ops.split_dec rfl rfl (fun h22 => ?x0) (fun h22 => ?y0)
      case' y0 => exfalso; omega
      case' x0 =>
        refine Ops.pass rfl rfl rfl ?_
        refine Ops.pass rfl rfl rfl ?_
        refine Ops.pure H (X.pick_t rfl rfl) rfl rfl rfl ?_
        refine Ops.pure H (X.move rfl) rfl rfl rfl ?_
        refine Ops.pass rfl rfl rfl ?_
        refine Ops.pass rfl rfl rfl ?_
        refine Ops.pure H (X.pick_t rfl rfl) rfl rfl rfl ?_
        (refine Ops.nil (hK _ _ ?_); clear hK K)
        refine Run.cond_true rfl ?_
        (refine Run.seq (Run.region ?_); intro K hK)
        (refine Ops.eff rfl (Y.store1 rfl rfl rfl rfl rfl rfl H (.tail .head) (by repeat (first | exact SetC.zero | apply SetC.succ)) ?_); intro w H0; clear H; have H := H0; clear H0)
        (refine Ops.eff rfl (Y.store1 rfl rfl rfl rfl rfl rfl H Upd.head (by repeat (first | exact SetC.zero | apply SetC.succ)) ?_); intro w H0; clear H; have H := H0; clear H0)
        (refine Ops.nil (hK _ _ ?_); clear hK K)
      exact load_ret rfl rfl (H.pick (b := wx) (by repeat (first | exact .head | apply Pick.tail))) (H.pick (b := ex) (by repeat (first | exact .head | apply Pick.tail))) (LoadQ.no (F4.trans H.fr (by simp) (fun x hx hl => by simp at hx; omega)) hP)
    · by_cases h2 : 64 < size
      · refine Run.seq ?_
        (refine Run.seq (Run.region ?_); intro K hK)
        refine Ops.pure H (X.move rfl) rfl rfl rfl ?_
        refine Ops.pure H (X.cmp rfl rfl rfl) rfl rfl rfl ?_
        refine Ops.pure H (X.move rfl) rfl rfl rfl ?_
        refine Ops.split_dec rfl rfl (fun h22 => ?x1) (fun h22 => ?y1)
        case' y1 =>
          refine Ops.pure H (X.move rfl) rfl rfl rfl ?_
          refine Ops.pure H (X.cmp rfl rfl rfl) rfl rfl rfl ?_
          refine Ops.pure H (X.pick_f rfl rfl) rfl rfl rfl ?_
          refine Ops.pure H (X.move rfl) rfl rfl rfl ?_
          refine Ops.split_dec rfl rfl (fun h26 => ?x2) (fun h26 => ?y2)
          case' y2 => exfalso; omega
          case' x2 =>
            refine Ops.pass rfl rfl rfl ?_
            refine Ops.pass rfl rfl rfl ?_
            refine Ops.pure H (X.pick_t rfl rfl) rfl rfl rfl ?_
            (refine Ops.nil (hK _ _ ?_); clear hK K)
            refine Run.cond_true rfl ?_
            (refine Run.seq (Run.region ?_); intro K hK)
            (refine Ops.eff rfl (Y.store1 rfl rfl rfl rfl rfl rfl H (.tail .head) (by repeat (first | exact SetC.zero | apply SetC.succ)) ?_); intro w H0; clear H; have H := H0; clear H0)
            (refine Ops.eff rfl (Y.store1 rfl rfl rfl rfl rfl rfl H Upd.head (by repeat (first | exact SetC.zero | apply SetC.succ)) ?_); intro w H0; clear H; have H := H0; clear H0)
            (refine Ops.nil (hK _ _ ?_); clear hK K)
        case' x1 => exfalso; omega
        exact load_ret rfl rfl (H.pick (b := wx) (by repeat (first | exact .head | apply Pick.tail))) (H.pick (b := ex) (by repeat (first | exact .head | apply Pick.tail))) (LoadQ.no (F4.trans H.fr (by simp) (fun x hx hl => by simp at hx; omega)) hP)
      · have h3 : 1024 < n := by omega
        refine Run.seq ?_
        (refine Run.seq (Run.region ?_); intro K hK)
        refine Ops.pure H (X.move rfl) rfl rfl rfl ?_
        refine Ops.pure H (X.cmp rfl rfl rfl) rfl rfl rfl ?_
        refine Ops.pure H (X.move rfl) rfl rfl rfl ?_
        refine Ops.split_dec rfl rfl (fun h22 => ?x3) (fun h22 => ?y3)
        case' y3 =>
          refine Ops.pure H (X.move rfl) rfl rfl rfl ?_
          refine Ops.pure H (X.cmp rfl rfl rfl) rfl rfl rfl ?_
          refine Ops.pure H (X.pick_f rfl rfl) rfl rfl rfl ?_
          refine Ops.pure H (X.move rfl) rfl rfl rfl ?_
          refine Ops.split_dec rfl rfl (fun h26 => ?x4) (fun h26 => ?y4)
          case' y4 =>
            refine Ops.pure H (X.move rfl) rfl rfl rfl ?_
            refine Ops.pure H (X.cmp rfl rfl rfl) rfl rfl rfl ?_
            refine Ops.pure H (X.pick_f rfl rfl) rfl rfl rfl ?_
            (refine Ops.nil (hK _ _ ?_); clear hK K)
            refine Run.cond_dec rfl (fun h28 => ?x5) (fun h28 => ?y5)
            case' y5 => exfalso; omega
            case' x5 =>
              (refine Run.seq (Run.region ?_); intro K hK)
              (refine Ops.eff rfl (Y.store1 rfl rfl rfl rfl rfl rfl H (.tail .head) (by repeat (first | exact SetC.zero | apply SetC.succ)) ?_); intro w H0; clear H; have H := H0; clear H0)
              (refine Ops.eff rfl (Y.store1 rfl rfl rfl rfl rfl rfl H Upd.head (by repeat (first | exact SetC.zero | apply SetC.succ)) ?_); intro w H0; clear H; have H := H0; clear H0)
              (refine Ops.nil (hK _ _ ?_); clear hK K)
          case' x4 => exfalso; omega
        case' x3 => exfalso; omega
        exact load_ret rfl rfl (H.pick (b := wx) (by repeat (first | exact .head | apply Pick.tail))) (H.pick (b := ex) (by repeat (first | exact .head | apply Pick.tail))) (LoadQ.no (F4.trans H.fr (by simp) (fun x hx hl => by simp at hx; omega)) hP)
  rw [if_neg hbad] at hP
  refine Run.seq ?_
  (refine Run.seq (Run.region ?_); intro K hK)
  refine Ops.pure H (X.move rfl) rfl rfl rfl ?_
  refine Ops.pure H (X.cmp rfl rfl rfl) rfl rfl rfl ?_
  refine Ops.pure H (X.move rfl) rfl rfl rfl ?_
  refine Ops.split_dec rfl rfl (fun h22 => ?x6) (fun h22 => ?y6)
  case' y6 =>
    refine Ops.pure H (X.move rfl) rfl rfl rfl ?_
    refine Ops.pure H (X.cmp rfl rfl rfl) rfl rfl rfl ?_
    refine Ops.pure H (X.pick_f rfl rfl) rfl rfl rfl ?_
    refine Ops.pure H (X.move rfl) rfl rfl rfl ?_
    refine Ops.split_dec rfl rfl (fun h26 => ?x7) (fun h26 => ?y7)
    case' y7 =>
      refine Ops.pure H (X.move rfl) rfl rfl rfl ?_
      refine Ops.pure H (X.cmp rfl rfl rfl) rfl rfl rfl ?_
      refine Ops.pure H (X.pick_f rfl rfl) rfl rfl rfl ?_
      (refine Ops.nil (hK _ _ ?_); clear hK K)
      refine Run.cond_dec rfl (fun h28 => ?x8) (fun h28 => ?y8)
      case' y8 =>
        refine Run.skip ?_
        (refine Run.seq (Run.region ?_); intro K hK)
        refine Ops.pure H (X.move rfl) rfl rfl rfl ?_
        refine Ops.pure H (X.conv rfl rfl rfl rfl rfl (IntWalk.i64_in _ (by omega))) rfl rfl rfl ?_
      case' x8 => exfalso; omega
    case' x7 => exfalso; omega
  case' x6 => exfalso; omega
  refine Ops.eff rfl (Y.call rfl rfl (by first | assumption | decide +kernel) rfl (begun_any _ (size : Int)) rfl ?_)
  rintro v5 w5 ⟨wb, mb, rfl, hW5, hf5, hwbz, hmbz⟩
  have F5 := F4.trans (U := []) (H.fr.trans (U := [wx, ex]) hf5 (by simp) (by simp)) (by simp) (fun x hx hl => by simp at hx; omega)
  have q15 := hf5.get (H.pick (b := wx) (by repeat (first | exact .head | apply Pick.tail))) (by simp)
  have q25 := hf5.get (H.pick (b := ex) (by repeat (first | exact .head | apply Pick.tail))) (by simp)
  have hzw := H.fr.size
  have hz4 := F4.size
  have hR5 : Rd w5 rb xs2 := by
    obtain ⟨cap', b', off', cs', T', fz', e1, e2, e3, e4, e5, e6⟩ := hR4
    subst e5
    refine ⟨cap', b', off', cs', 5, fz', hf5.get (H.fr.get e1 (by simp; exact ⟨nwr.symm, ner.symm⟩)) (by simp), e2, e3, hf5.get (H.fr.get e4 ?_) (by simp), rfl, e6⟩
    simp
    constructor
    · rintro rfl
      rw [q14] at e4
      cases e4
    · rintro rfl
      rw [q24] at e4
      cases e4
  clear H
  have H := ((Holds.start w5 [wx, ex]).add true q15 (by simp) (by simp)).add true q25 (by simpa using nwe.symm) (by simp)
  (refine Ops.eff rfl (Y.store1 rfl rfl rfl rfl rfl rfl H (.tail .head) (by repeat (first | exact SetC.zero | apply SetC.succ)) ?_); intro w H0; clear H; have H := H0; clear H0)
  (refine Ops.nil (hK _ _ (Run.seq (Run.region ?_))); clear hK K; intro K hK)
  refine Ops.pure H (X.assign rfl) rfl rfl rfl ?_
  (refine Ops.nil (hK _ _ ?_); clear hK K)
  refine Run.seq ?_
  (refine Run.seq (Run.region ?_); intro K hK)
  refine Ops.pure H (X.move rfl) rfl rfl rfl ?_
  refine Ops.pure H (X.move rfl) rfl rfl rfl ?_
  (refine Ops.nil (hK _ _ ?_); clear hK K)
  refine Run.block ?_
  obtain ⟨R, hR0⟩ : ∃ R, R = clientsP size n 0 0 (fun _ => none) xs2 := ⟨_, rfl⟩
  rw [← hR0] at hP
  have F6 := F5.trans (U := []) H.fr (by simp) (fun x hx hl => by simp at hx; omega)
  have q16 := H.pick (b := wx) (by repeat (first | exact .head | apply Pick.tail))
  have q26 := H.pick (b := ex) (by repeat (first | exact .head | apply Pick.tail))
  rename World => w6
  have hW6 : Wn w6 (⟨wb, mb, (size : Int), 0, fun _ => none⟩ : WS) := hW5.keepS H.fr (fun b hb => by
    simp at hb
    rcases hb with rfl | rfl
    · exact hW5.notFoot q15 (by decide) (by decide) (by decide)
    · exact hW5.notFoot q25 (by decide) (by decide) (by decide)) (fun b hb => by
    simp at hb
    rcases hb with rfl | rfl
    · exact No5.row q15 (by decide)
    · exact No5.row q25 (by decide))
  have hR6 : Rd w6 rb xs2 := by
    obtain ⟨cap', b', off', cs', T', fz', e1, e2, e3, e4, e5, e6⟩ := hR5
    subst e5
    refine ⟨cap', b', off', cs', 5, fz', H.fr.get e1 (by simp; exact ⟨nwr.symm, ner.symm⟩), e2, e3, H.fr.get e4 ?_, rfl, e6⟩
    simp
    constructor
    · rintro rfl
      rw [q15] at e4
      cases e4
    · rintro rfl
      rw [q25] at e4
      cases e4
  have hft0 : ∀ b, Foot (⟨wb, mb, (size : Int), 0, fun _ => none⟩ : WS) b → z.heap.size ≤ b := fun b hb => by
    rcases hb with h | h | ⟨x, c, h, _⟩
    · dsimp only at h
      omega
    · dsimp only at h
      omega
    · cases h
  refine Run.rounds (fun (x : LPst) => [(0, .slice (some ⟨b, off, none⟩) xs.length cap), (2, .pointer (some ⟨wx, 0, none⟩)), (3, .pointer (some ⟨ex, 0, none⟩)), (4, .pointer (some ⟨rb, 0, none⟩)), (5, .int .u64 (size : Nat)), (7, .int .u64 (x.last : Nat)), (32, .int .u64 (n : Nat)), (33, .int .u64 (x.i : Nat))])
    (fun x w' => x.i ≤ n ∧ x.last < 18446744073709551616 ∧ Byt x.ys ∧ Rd w' rb x.ys ∧ Fr z w' [] ∧ w'.heap[wx]? = some (row [.pointer (some ⟨wb, 0, none⟩)] 33) ∧ w'.heap[ex]? = some (row [.int .i64 0] 32) ∧ Wn w' x.W ∧ x.W.wb = wb ∧ x.W.mb = mb ∧ x.W.size = (size : Int) ∧ x.W.N = x.i ∧ (∀ b, Foot x.W b → z.heap.size ≤ b) ∧ (∀ y c, x.W.m y = some c → U64 y ∧ y ≤ x.last ∧ 0 < x.i ∧ Full size c.s) ∧ PV z.heap.size w' x.W ∧ clientsP size (n - x.i) x.i x.last (st x.W) x.ys = R) (fun x => n - x.i) ⟨0, 0, xs2, ⟨wb, mb, (size : Int), 0, fun _ => none⟩⟩ (by repeat (first | exact trivial | refine ⟨rfl, ?_⟩))
    ⟨by dsimp only; omega, by dsimp only; omega, hb2, hR6, F6, q16, q26, hW6, rfl, rfl, rfl, rfl, hft0, (fun y c h => by cases h), (fun y c h => by cases h), hR0.symm⟩ ?_
  clear H
  rintro ⟨i, last, ys, W⟩ w7 ⟨hi, hlast, hby, hR7, F7, q17, q27, hW7, e1, e2, e3, e4, hft, hcl, hpv, he⟩ IH
  dsimp only at hi hlast hby hR7 q17 hW7 e1 e2 e3 e4 hft hcl he IH ⊢
  by_cases hin : i < n
  · obtain ⟨q, hq⟩ : ∃ q, n - i = q + 1 := ⟨n - i - 1, by omega⟩
    rw [hq, clientsP] at he
    have H := Holds.start w7 []
    (refine Run.seq (Run.region ?_); intro K hK)
    refine Ops.pure H (X.cmp rfl rfl rfl) rfl rfl rfl ?_
    (refine Ops.nil (hK _ _ ?_); clear hK K)
    refine Run.seq ?_
    refine Run.cond_dec rfl (fun h34 => ?x9) (fun h34 => ?y9)
    case' y9 => exfalso; omega
    case' x9 =>
      refine Run.skip ?_
      refine Run.seq ?_
      refine Run.block ?_
      (refine Run.seq (Run.region ?_); intro K hK)
      refine Ops.pure H (X.move rfl) rfl rfl rfl ?_
      refine Ops.pure H (X.assign rfl) rfl rfl rfl ?_
      (refine Ops.nil (hK _ _ (Run.seq (Run.region ?_))); clear hK K; intro K hK)
      refine Ops.pure H (X.move rfl) rfl rfl rfl ?_
      refine Ops.pure H (X.move rfl) rfl rfl rfl ?_
      refine Ops.pure H (X.conv rfl rfl rfl rfl rfl (IntWalk.i64_in _ (by omega))) rfl rfl rfl ?_
    refine Ops.effP rfl (Y.callP rfl rfl (by decide +kernel) rfl (client_any _ rb size ys (hR7.ext H.fr) hby (by omega) (by omega)) rfl (fun ch w' hp a ha => by
      obtain ⟨hno, rfl, hf⟩ := hp
      rw [hno] at he
      have hF := F7.trans (U := []) (H.fr.trans (U := [rb]) hf (by simp) (by simp)) (by simp) (fun x hx hl => by simp at hx; omega)
      exact QK.some Try.func10 ha (load_pan rfl rfl (hf.get (H.fr.get q17 (by simp)) (by simpa using nwr)) (hf.get (H.fr.get q27 (by simp)) (by simpa using ner)) ha.toSt0 fun w'' hf2 => LoadQ.no (hF.trans hf2 (by simp) (fun x hx hl => by simp at hx; omega)) (by rw [hP, ← he]; rfl))) ?_)
    rintro v8 w8 ⟨id, c, rest, hcp, rfl, hC8, hreal, z1, z2, z3, hR8, hf8, hv8⟩
    rw [hcp] at he
    dsimp only at he
    obtain ⟨hFull, hidl, hbr⟩ := clientP_full size ys rest id c.s hby hcp
    have hz8 := H.fr.size
    have hz7 := F7.size
    have F8 := F7.trans (U := []) (H.fr.trans (U := [rb]) hf8 (by simp) (by simp)) (by simp) (fun x hx hl => by simp at hx; omega)
    have q18 := hf8.get (H.fr.get q17 (by simp)) (by simpa using nwr)
    have q28 := hf8.get (H.fr.get q27 (by simp)) (by simpa using ner)
    obtain ⟨rcap, rb', roff, rcs, rT, rfz, rr1, rr2⟩ := hR7.ext H.fr
    have hW8 : Wn w8 W := (hW7.ext H.fr).keepS hf8 (fun b hb => by
      simp at hb
      subst hb
      exact (hW7.ext H.fr).notFoot rr1 (by decide) (by decide) (by decide)) (fun b hb => by
      simp at hb
      subst hb
      exact No5.row rr1 (by decide))
    have hpv8 : PV z.heap.size w8 W := (hpv.keep hW7 H.fr (by simp)).keep (hW7.ext H.fr) hf8 (fun b hb => by
      simp at hb
      subst hb
      exact (hW7.ext H.fr).notFoot rr1 (by decide) (by decide) (by decide))
    have hB : ∀ b, Foot W b → b < w7.heap.size := fun b hb => hW7.lt hb
    clear H
    have H := ((Holds.start w8 [wx, ex]).add true q18 (by simp) (by simp)).add true q28 (by simpa using nwe.symm) (by simp)
    refine Ops.pure H (X.move rfl) rfl rfl rfl ?_
    refine Ops.pure H (X.extract rfl rfl) rfl rfl rfl ?_
    refine Ops.pure H (X.extract rfl rfl) rfl rfl rfl ?_
    refine Ops.pure H (X.assign rfl) rfl rfl rfl ?_
    refine Ops.pure H (X.assign rfl) rfl rfl rfl ?_
    (refine Ops.nil (hK _ _ ?_); clear hK K)
    by_cases hbad : 0 < i ∧ id ≤ last
    · rw [if_pos hbad] at he
      obtain ⟨hb1', hb2'⟩ := hbad
      refine Run.seq ?_
      (refine Run.seq (Run.region ?_); intro K hK)
      refine Ops.pure H (X.move rfl) rfl rfl rfl ?_
      refine Ops.pure H (X.cmp rfl rfl rfl) rfl rfl rfl ?_
      refine Ops.pure H (X.move rfl) rfl rfl rfl ?_
      refine Ops.split_dec rfl rfl (fun h46 => ?x10) (fun h46 => ?y10)
      case' y10 => exfalso; omega
      case' x10 =>
        refine Ops.pure H (X.move rfl) rfl rfl rfl ?_
        refine Ops.pure H (X.move rfl) rfl rfl rfl ?_
        refine Ops.pure H (X.cmp rfl rfl rfl) rfl rfl rfl ?_
        refine Ops.pure H (X.pick_t rfl rfl) rfl rfl rfl ?_
        (refine Ops.nil (hK _ _ ?_); clear hK K)
        refine Run.cond_dec rfl (fun h49 => ?x11) (fun h49 => ?y11)
        case' y11 => exfalso; omega
        case' x11 =>
          (refine Run.seq (Run.region ?_); intro K hK)
          (refine Ops.eff rfl (Y.store1 rfl rfl rfl rfl rfl rfl H (.tail .head) (by repeat (first | exact SetC.zero | apply SetC.succ)) ?_); intro w H0; clear H; have H := H0; clear H0)
          (refine Ops.eff rfl (Y.store1 rfl rfl rfl rfl rfl rfl H Upd.head (by repeat (first | exact SetC.zero | apply SetC.succ)) ?_); intro w H0; clear H; have H := H0; clear H0)
          (refine Ops.nil (hK _ _ ?_); clear hK K)
      exact load_ret rfl rfl (H.pick (b := wx) (by repeat (first | exact .head | apply Pick.tail))) (H.pick (b := ex) (by repeat (first | exact .head | apply Pick.tail))) (LoadQ.no (F8.trans H.fr (by simp) (fun x hx hl => by simp at hx; omega)) (by rw [hP, ← he]; rfl))
    rw [if_neg hbad] at he
    refine Run.seq ?_
    refine Run.meet (fun (_ : Unit) => [(0, .slice (some ⟨b, off, none⟩) xs.length cap), (2, .pointer (some ⟨wx, 0, none⟩)), (3, .pointer (some ⟨ex, 0, none⟩)), (4, .pointer (some ⟨rb, 0, none⟩)), (5, .int .u64 (size : Nat)), (9, .int .u64 (id : Nat)), (10, .pointer (some ⟨c.cb, 0, none⟩)), (32, .int .u64 (n : Nat)), (33, .int .u64 (i : Nat))]) (fun _ w' => Fr w8 w' []) ?_ ?_
    rotate_left
    · intro kk go
      clear H
      have H := Holds.start w8 []
      by_cases h0 : i = 0
      · refine Run.seq ?_
        (refine Run.region ?_; intro K hK)
        refine Ops.pure H (X.move rfl) rfl rfl rfl ?_
        refine Ops.pure H (X.cmp rfl rfl rfl) rfl rfl rfl ?_
        refine Ops.pure H (X.move rfl) rfl rfl rfl ?_
        refine Ops.split_dec rfl rfl (fun h46 => ?x12) (fun h46 => ?y12)
        case' y12 =>
          refine Ops.pass rfl rfl rfl ?_
          refine Ops.pass rfl rfl rfl ?_
          refine Ops.pass rfl rfl rfl ?_
          refine Ops.pure H (X.pick_f rfl rfl) rfl rfl rfl ?_
          (refine Ops.nil (hK _ _ ?_); clear hK K)
          refine Run.cond_false rfl ?_
          refine Run.skip ?_
        case' x12 => exfalso; omega
        exact go () _ _ H.fr (by repeat (first | exact trivial | refine ⟨rfl, ?_⟩))
      · have h1 : last < id := by omega
        (refine Run.seq (Run.region ?_); intro K hK)
        refine Ops.pure H (X.move rfl) rfl rfl rfl ?_
        refine Ops.pure H (X.cmp rfl rfl rfl) rfl rfl rfl ?_
        refine Ops.pure H (X.move rfl) rfl rfl rfl ?_
        refine Ops.split_dec rfl rfl (fun h46 => ?x13) (fun h46 => ?y13)
        case' y13 => exfalso; omega
        case' x13 =>
          refine Ops.pure H (X.move rfl) rfl rfl rfl ?_
          refine Ops.pure H (X.move rfl) rfl rfl rfl ?_
          refine Ops.pure H (X.cmp rfl rfl rfl) rfl rfl rfl ?_
          refine Ops.pure H (X.pick_t rfl rfl) rfl rfl rfl ?_
          (refine Ops.nil (hK _ _ ?_); clear hK K)
          refine Run.cond_dec rfl (fun h49 => ?x14) (fun h49 => ?y14)
          case' y14 =>
            refine Run.skip ?_
          case' x14 => exfalso; omega
        exact go () _ _ H.fr (by repeat (first | exact trivial | refine ⟨rfl, ?_⟩))
    clear H
    rintro _ w9 hf9
    have q19 := hf9.get q18 (by simp)
    have q29 := hf9.get q28 (by simp)
    have hW9 := hW8.ext hf9
    have hpv9 := hpv8.keep hW8 hf9 (by simp)
    have hC9 := hC8.ext hf9
    obtain ⟨es, kk, f, m2, m3, m4, m5⟩ := hW9.mp
    have hwa := hW9.at_
    rw [e1, e2, e3] at hwa
    rw [e2] at m2
    have hnone : W.m (id : Int) = none := by
      cases hm : W.m (id : Int) with
      | none => rfl
      | some d => exact absurd (hcl _ d hm) (fun hh => by have := hh.2.1; have := hh.2.2.1; omega)
    have d1 : wx ≠ wb := ne_of_ty q19 hwa (by decide)
    have d2 : wx ≠ mb := fun e => by rw [e, m2] at q19; cases q19
    have d3 : wb ≠ mb := fun e => by rw [e, m2] at hwa; cases hwa
    have H := (((Holds.start w9 [mb]).add false q19 (by simp) (by simp)).add false hwa (by simpa using d1.symm) (by simp)).add true m2 (by simp; exact ⟨d3.symm, d2.symm⟩) (by simp)
    (refine Run.seq (Run.region ?_); intro K hK)
    refine Ops.pure H (X.move rfl) rfl rfl rfl ?_
    refine Ops.pure H (X.assign rfl) rfl rfl rfl ?_
    (refine Ops.nil (hK _ _ ?_); clear hK K)
    (refine Run.region ?_; intro K hK)
    refine Ops.pure H (X.load1 rfl rfl rfl rfl (.tail (.tail .head)) rfl) rfl rfl rfl ?_
    refine Ops.pure H (X.nilCheck rfl) rfl rfl rfl ?_
    refine Ops.pure H (X.fieldAddr rfl rfl rfl rfl rfl rfl) rfl rfl rfl ?_
    refine Ops.pure H (X.load1 rfl rfl rfl rfl (.tail .head) rfl) rfl rfl rfl ?_
    refine Ops.pure H (X.move rfl) rfl rfl rfl ?_
    refine Ops.pure H (X.move rfl) rfl rfl rfl ?_
    refine Ops.eff rfl (Y.mapUpdate (i := ((id : Nat) : Int)) m3 H .head rfl rfl rfl rfl rfl rfl rfl ?_)
    intro es2 k2 w10 H10 hM10 hs10 hst10
    clear H
    have H := H10
    (refine Ops.nil (hK _ _ ?_); clear hK K)
    refine Run.inBlock ?_
    (refine Run.region ?_; intro K hK)
    refine Ops.pure H (X.add_in rfl rfl (u64_in _ (by omega))) rfl rfl rfl ?_
    refine Ops.pure H (X.move rfl) rfl rfl rfl ?_
    (refine Ops.nil (hK _ _ ?_); clear hK K)
    have hFm : Fr w9 w10 [W.mb] := by rw [e2]; exact H.fr
    have hmbz : z.heap.size ≤ mb := by have := hft mb (.inr (.inl e2.symm)); exact this
    have hCl : Cl w10 c := hC9.keep H.fr (by
      simp
      intro e
      have := hB mb (.inr (.inl e2.symm))
      omega) (by
      simp
      intro e
      have := hB mb (.inr (.inl e2.symm))
      omega) (by
      simp
      intro e
      have := hB mb (.inr (.inl e2.symm))
      omega) (fun b hb => by
      simp at hb
      subst hb
      exact No5.map m2)
    have hreal9 : ∃ ds, w10.heap[c.sb]? = some (row ds 28) := by
      obtain ⟨ds, hds⟩ := hreal
      exact ⟨ds, H.fr.get (hf9.get hds (by simp)) (by
        simp
        intro e
        have := hB mb (.inr (.inl e2.symm))
        omega)⟩
    have hmm : w10.heap[W.mb]? = some (.map es2 k2) := by rw [e2]; exact H.pick (b := mb) .head
    have hsz : es2.size = W.N + 1 := by
      rw [hs10, m5, hnone]
      simp [m4]
    have hW10 : Wn w10 { W with m := updM W.m (id : Int) c, N := W.N + 1 } := Wn.more2 hW9 hnone hFm hCl hB (by omega) (by omega) (by omega) hreal9 (by have := hFull.le; omega) hmm hM10 hsz (hst10 (hW9.stp es kk (by rw [e2]; exact m2))) m5 rfl
    have hst10' : st { W with m := updM W.m (id : Int) c, N := W.N + 1 } = fun y => if y = (id : Int) then some c.s else st W y := funext fun y => by
      simp only [st, updM]
      by_cases hy : y = (id : Int)
      · rw [if_pos hy, if_pos hy]
        rfl
      · rw [if_neg hy, if_neg hy]
    refine (IH ⟨i + 1, id, rest, { W with m := updM W.m (id : Int) c, N := W.N + 1 }⟩ _ (by dsimp only; omega) ⟨by dsimp only; omega, hidl, hbr, (hR8.ext hf9).keepM H.fr m2, ?_, H.pick (b := wx) (by repeat (first | exact .head | apply Pick.tail)), H.fr.get q29 ?_, hW10, e1, e2, e3, by dsimp only; omega, ?_, ?_, ?_, ?_⟩).weak (by repeat (first | exact trivial | refine ⟨rfl, ?_⟩))
    · exact (F8.trans hf9 (U := []) (by simp) (by simp)).trans H.fr (by simp) (fun x hx hl => by simp at hx; omega)
    · simp
      intro e
      rw [e, m2] at q29
      cases q29
    · rintro b (hb | hb | ⟨x, d, hx, hd⟩)
      · exact hft b (.inl hb)
      · exact hft b (.inr (.inl hb))
      · by_cases hxi : x = (id : Int)
        · dsimp only at hx
          rw [updM, if_pos hxi] at hx
          cases hx
          simp [footC] at hd
          rcases hd with rfl | rfl | rfl <;> omega
        · dsimp only at hx
          rw [updM, if_neg hxi] at hx
          exact hft b (.inr (.inr ⟨x, d, hx, hd⟩))
    · intro y d hy
      dsimp only at hy ⊢
      by_cases hyi : y = (id : Int)
      · rw [updM, if_pos hyi] at hy
        cases hy
        exact ⟨⟨by omega, by omega⟩, by omega, by omega, hFull⟩
      · rw [updM, if_neg hyi] at hy
        obtain ⟨g1, g2, g3, g4⟩ := hcl y d hy
        exact ⟨g1, by omega, by omega, g4⟩
    · intro y d hy es' k' f' hm hM q u hu
      dsimp only at hy
      by_cases hyi : y = (id : Int)
      · rw [updM, if_pos hyi] at hy
        cases hy
        obtain ⟨_, ces0, ck0, cf0, b3, _⟩ := hC8
        rw [H.fr.get (hf9.get b3 (by simp)) (by
          simp
          intro e
          have := hB mb (.inr (.inl e2.symm))
          omega)] at hm
        cases hm
        exact (hv8 _ _ f' b3 hM q u hu).low (by omega)
      · rw [updM, if_neg hyi] at hy
        obtain ⟨_, ces0, ck0, cf0, b3, _⟩ := hW9.cl y d hy
        rw [H.fr.get b3 (by
          simp
          rw [← e2]
          exact hW9.mb y d hy)] at hm
        cases hm
        exact hpv9 y d hy _ _ f' b3 hM q u hu
    · dsimp only
      rw [hst10', show n - (i + 1) = q by omega]
      exact he
  · obtain rfl : i = n := by omega
    have hRv : R = some (st W, ys) := by rw [← he, Nat.sub_self, clientsP]
    rw [hRv] at hP
    obtain ⟨rcap, rb', roff, rcs, rT, rfz, rr1, rr2, rr3, rr4, rr5, rr6⟩ := hR7
    have hWok : WOk W := ⟨by omega, by omega, fun x c hx => ⟨(hcl x c hx).1, (hcl x c hx).2.2.2.ok⟩⟩
    have hwa7 := hW7.at_
    have H := (((Holds.start w7 [wx, ex]).add true q17 (by simp) (by simp)).add true q27 (by simpa using nwe.symm) (by simp)).add false rr1 (by simp; exact ⟨ner.symm, nwr.symm⟩) (by simp)
    have hb7 := F7.get hb (by simp)
    have hbe : b ≠ rb ∧ b ≠ ex ∧ b ≠ wx := by
      refine ⟨?_, ?_, ?_⟩
      · rintro rfl
        rw [hb7] at rr1
        cases rr1
      · rintro rfl
        rw [hb7] at q27
        cases q27
      · rintro rfl
        rw [hb7] at q17
        cases q17
    replace H := H.add false hb7 (by simpa using hbe) (by simp)
    by_cases h8 : ys.length = 8
    · refine Run.seq ?_
      (refine Run.region ?_; intro K hK)
      refine Ops.pure H (X.cmp rfl rfl rfl) rfl rfl rfl ?_
      (refine Ops.nil (hK _ _ ?_); clear hK K)
      refine Run.seq ?_
      refine Run.cond_dec rfl (fun h34 => ?x15) (fun h34 => ?y15)
      case' y15 =>
        refine Run.exit rfl ?_
        refine Run.seq ?_
        refine Run.seq ?_
        (refine Run.draw H [] [0, 1, 2, 3, 4, 5, 6, 7, 10, 11, 8, 9, 12, 13] ?_; clear H; intro K hK w H)
        refine Draw.take0 rfl (X.move rfl) rfl rfl rfl (by decide +kernel) ?_
        refine Draw.take0 rfl (X.nilCheck rfl) rfl rfl rfl (by decide +kernel) ?_
        refine Draw.take0 rfl (X.fieldAddr rfl rfl rfl rfl rfl rfl) rfl rfl rfl (by decide +kernel) ?_
        refine Draw.take rfl (X.load1 rfl rfl rfl rfl (.tail .head) rfl) rfl rfl rfl (by decide +kernel) ?_
        refine Draw.take0 rfl (X.len_slice rfl rfl rfl) rfl rfl rfl (by decide +kernel) ?_
        refine Draw.take0 rfl (X.cmp rfl rfl rfl) rfl rfl rfl (by decide +kernel) ?_
        refine Draw.take0 rfl (X.move rfl) rfl rfl rfl (by decide +kernel) ?_
        refine Draw.split_ndec rfl rfl rfl (fun h65 => ?x16) (fun h65 => ?y16)
        case' y16 =>
          refine Draw.take rfl (X.load1 rfl rfl rfl rfl (.tail (.tail (.tail .head))) rfl) rfl rfl rfl (by decide +kernel) ?_
          refine Draw.take0 rfl (X.move rfl) rfl rfl rfl (by decide +kernel) ?_
        case' x16 => exfalso; omega
      case' x15 => exfalso; omega
      refine Draw.take rfl (X.bytesStr rfl .head hcs rfl rfl rfl rfl rfl rfl rfl) rfl rfl rfl (by decide +kernel) ?_
      have hW8 : Wn _ W := (hW7.keepS H.fr (fun b hb => by
        simp at hb
        rcases hb with rfl | rfl
        · exact hW7.notFoot q17 (by decide) (by decide) (by decide)
        · exact hW7.notFoot q27 (by decide) (by decide) (by decide)) (fun b hb => by
        simp at hb
        rcases hb with rfl | rfl
        · exact No5.row q17 (by decide)
        · exact No5.row q27 (by decide)))
      have hpv8 := hpv.keep hW7 H.fr (fun b hb => by
        simp at hb
        rcases hb with rfl | rfl
        · exact hW7.notFoot q17 (by decide) (by decide) (by decide)
        · exact hW7.notFoot q27 (by decide) (by decide) (by decide))
      have hKG := H.at_
      have hfE := enc_all _ W hW8 hWok
      rw [e1] at hfE
      refine Draw.eff rfl rfl (by decide +kernel) (Y.call rfl rfl (by first | assumption | decide +kernel) rfl (hfE) rfl ?_)
      rintro v8 w8 ⟨ids, i1, i2, i3, hO8, hf8⟩
      refine ⟨fun e he => hf8.get (hKG e he) (by simp), ?_⟩
      refine Draw.eff rfl rfl (by decide +kernel) (Y.bytes hO8.bys rfl rfl rfl rfl rfl rfl rfl rfl ?_)
      refine ⟨fun e he => hf8.get (hKG e he) (by simp), ?_⟩
      refine Draw.take0 rfl (X.strNe rfl rfl) rfl rfl rfl (by decide +kernel) ?_
      have q18 := hf8.get (hKG ⟨wx, row [.pointer (some ⟨wb, 0, none⟩)] 33, true⟩ (by simp)) (by simp)
      have q28 := hf8.get (hKG ⟨ex, row [.int .i64 0] 32, true⟩ (by simp)) (by simp)
      have F8 := (F7.trans H.fr (U := []) (by simp) (fun x hx hl => by simp at hx; omega)).then hf8
      have hW9 := hW8.ext hf8
      have hpv9 := hpv8.keep hW8 hf8 (by simp)
      clear H
      have H := ((Holds.start w8 [wx, ex]).add true q18 (by simp) (by simp)).add true q28 (by simpa using nwe.symm) (by simp)
      have hsN : W.size.toNat = size := by rw [e3]; exact Int.toNat_natCast size
      refine Draw.take0 rfl (X.pick_f rfl rfl) rfl rfl rfl (by decide +kernel) ?_
      (refine Draw.done (by decide +kernel) (hK _ _ ?_); clear hK K)
      refine Run.cond_ndec rfl (fun h71 => ?x17) (fun h71 => ?y17)
      case' y17 =>
        refine Run.skip ?_
        (refine Run.seq (Run.region ?_); intro K hK)
        refine Ops.pure H (X.load1 rfl rfl rfl rfl (.tail .head) rfl) rfl rfl rfl ?_
        (refine Ops.eff rfl (Y.store1 rfl rfl rfl rfl rfl rfl H (.tail .head) (by repeat (first | exact SetC.zero | apply SetC.succ)) ?_); intro w H0; clear H; have H := H0; clear H0)
        (refine Ops.eff rfl (Y.store1 rfl rfl rfl rfl rfl rfl H Upd.head (by repeat (first | exact SetC.zero | apply SetC.succ)) ?_); intro w H0; clear H; have H := H0; clear H0)
        (refine Ops.nil (hK _ _ ?_); clear hK K)
      case' x17 =>
        (refine Run.seq (Run.region ?_); intro K hK)
        (refine Ops.eff rfl (Y.store1 rfl rfl rfl rfl rfl rfl H (.tail .head) (by repeat (first | exact SetC.zero | apply SetC.succ)) ?_); intro w H0; clear H; have H := H0; clear H0)
        (refine Ops.eff rfl (Y.store1 rfl rfl rfl rfl rfl rfl H Upd.head (by repeat (first | exact SetC.zero | apply SetC.succ)) ?_); intro w H0; clear H; have H := H0; clear H0)
        (refine Ops.nil (hK _ _ ?_); clear hK K)
      · exact load_ret rfl rfl (H.pick (b := wx) (by repeat (first | exact .head | apply Pick.tail))) (H.pick (b := ex) (by repeat (first | exact .head | apply Pick.tail))) ⟨F8.trans H.fr (by simp) (fun x hx hl => by simp at hx; omega), .inr ⟨rfl, fun s2 n2 m2 t2 ids2 hl2 ht2 hi2 hp2 hE => by
          rw [hP] at hl2
          cases hl2
          have hid : ids2 = ids := ids_one _ _ hp2 i2 (fun x => by
            rw [hi2, i1]
            simp only [st]
            cases W.m x <;> simp)
          rw [hid, ← hsN, ← e4] at hE
          exact ‹¬ (strOfNums (encW W.size.toNat W.N (st W) ids)).toList = (strOfNums xs).toList› (by rw [hE])⟩⟩
      · have heq : encW W.size.toNat W.N (st W) ids = xs := str_inj _ _ (Byt.append (Byt.encB hWok _ _ _ (fun x hx => (i1 x).1 hx)) (Byt.be _ _)) hx ‹(strOfNums (encW W.size.toNat W.N (st W) ids)).toList = (strOfNums xs).toList›
        have hW10 : Wn _ W := hW9.keepS H.fr (fun b hb => by
          simp at hb
          rcases hb with rfl | rfl
          · exact hW9.notFoot q18 (by decide) (by decide) (by decide)
          · exact hW9.notFoot q28 (by decide) (by decide) (by decide)) (fun b hb => by
          simp at hb
          rcases hb with rfl | rfl
          · exact No5.row q18 (by decide)
          · exact No5.row q28 (by decide))
        have hpv10 := hpv9.keep hW9 H.fr (fun b hb => by
          simp at hb
          rcases hb with rfl | rfl
          · exact hW9.notFoot q18 (by decide) (by decide) (by decide)
          · exact hW9.notFoot q28 (by decide) (by decide) (by decide))
        exact load_ret rfl rfl (H.pick (b := wx) (by repeat (first | exact .head | apply Pick.tail))) (H.pick (b := ex) (by repeat (first | exact .head | apply Pick.tail))) ⟨F8.trans H.fr (by simp) (fun x hx hl => by simp at hx; omega), .inl ⟨W, ids, ys, by rw [e1], hW10, hWok, by rw [hP, hsN, e4]; rfl, h8, heq, hft, i1, i2, hpv10⟩⟩
    · refine Run.seq ?_
      (refine Run.region ?_; intro K hK)
      refine Ops.pure H (X.cmp rfl rfl rfl) rfl rfl rfl ?_
      (refine Ops.nil (hK _ _ ?_); clear hK K)
      refine Run.seq ?_
      refine Run.cond_dec rfl (fun h34 => ?x18) (fun h34 => ?y18)
      case' y18 =>
        refine Run.exit rfl ?_
        refine Run.seq ?_
        refine Run.seq ?_
        (refine Run.draw H [] [0, 1, 2, 3, 4, 5, 6, 7, 10, 11, 8, 9, 12, 13] ?_; clear H; intro K hK w H)
        refine Draw.take0 rfl (X.move rfl) rfl rfl rfl (by decide +kernel) ?_
        refine Draw.take0 rfl (X.nilCheck rfl) rfl rfl rfl (by decide +kernel) ?_
        refine Draw.take0 rfl (X.fieldAddr rfl rfl rfl rfl rfl rfl) rfl rfl rfl (by decide +kernel) ?_
        refine Draw.take rfl (X.load1 rfl rfl rfl rfl (.tail .head) rfl) rfl rfl rfl (by decide +kernel) ?_
        refine Draw.take0 rfl (X.len_slice rfl rfl rfl) rfl rfl rfl (by decide +kernel) ?_
        refine Draw.take0 rfl (X.cmp rfl rfl rfl) rfl rfl rfl (by decide +kernel) ?_
        refine Draw.take0 rfl (X.move rfl) rfl rfl rfl (by decide +kernel) ?_
        refine Draw.split_ndec rfl rfl rfl (fun h65 => ?x19) (fun h65 => ?y19)
        case' y19 => exfalso; omega
        case' x19 =>
          refine Draw.pass rfl rfl rfl rfl (by decide +kernel) ?_
          refine Draw.pass rfl rfl rfl rfl (by decide +kernel) ?_
          refine Draw.pass rfl rfl rfl rfl (by decide +kernel) ?_
          refine Draw.pass rfl rfl rfl rfl (by decide +kernel) ?_
          refine Draw.pass rfl rfl rfl rfl (by decide +kernel) ?_
          refine Draw.pass rfl rfl rfl rfl (by decide +kernel) ?_
          refine Draw.take0 rfl (X.pick_t rfl rfl) rfl rfl rfl (by decide +kernel) ?_
          (refine Draw.done (by decide +kernel) (hK _ _ ?_); clear hK K)
          refine Run.cond_true rfl ?_
          (refine Run.seq (Run.region ?_); intro K hK)
          (refine Ops.eff rfl (Y.store1 rfl rfl rfl rfl rfl rfl H (.tail (.tail (.tail .head))) (by repeat (first | exact SetC.zero | apply SetC.succ)) ?_); intro w H0; clear H; have H := H0; clear H0)
          (refine Ops.eff rfl (Y.store1 rfl rfl rfl rfl rfl rfl H (.tail (.tail .head)) (by repeat (first | exact SetC.zero | apply SetC.succ)) ?_); intro w H0; clear H; have H := H0; clear H0)
          (refine Ops.nil (hK _ _ ?_); clear hK K)
      case' x18 => exfalso; omega
      exact load_ret rfl rfl (H.pick (b := wx) (by repeat (first | exact .head | apply Pick.tail))) (H.pick (b := ex) (by repeat (first | exact .head | apply Pick.tail))) ⟨F7.trans H.fr (by simp) (fun x hx hl => by simp at hx; omega), .inr ⟨rfl, fun s2 n2 m2 t2 ids2 hl2 ht2 => by
        rw [hP] at hl2
        cases hl2
        exact absurd ht2 h8⟩⟩
end Go.Proofs.Ytaneenahapdabaa
