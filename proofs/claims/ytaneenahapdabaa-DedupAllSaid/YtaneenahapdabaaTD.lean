/- Walks of layer 20: a window's Clone. -/
import Derived.Test.YtaneenahapdabaaTA
import Derived.Laws.Externs
namespace Go.Proofs.Ytaneenahapdabaa
open Go
set_option maxRecDepth 20000
set_option maxHeartbeats 2000000
attribute [local irreducible] Run Ops Fn Draw Draw2 PureOp StepZ

theorem loadP_by (xs : List Int) (s1 s2 : Option (List Int)) (h1 : s1 = nxt (some xs) 4) (h2 : s2 = nxt s1 4) :
    loadP xs = s2.bind fun ys => if beV (got (some xs) 4) < 1 ∨ 64 < beV (got (some xs) 4) ∨ 1024 < beV (got s1 4) then none else (clientsP (beV (got (some xs) 4)) (beV (got s1 4)) 0 0 (fun _ => none) ys).map fun r => (beV (got (some xs) 4), beV (got s1 4), r.1, r.2) := by
  rw [loadP]
  simp only [nxt, Option.bind_some] at h1
  by_cases a1 : 4 ≤ xs.length
  · rw [if_pos a1] at h1 ⊢
    subst h1
    simp only [nxt, Option.bind_some] at h2
    by_cases a2 : 4 ≤ (xs.drop 4).length
    · rw [if_pos a2] at h2 ⊢
      subst h2
      simp only [got, if_pos a1, if_pos a2, Option.bind_some]
    · rw [if_neg a2] at h2 ⊢
      subst h2
      rfl
  · rw [if_neg a1] at h1 ⊢
    subst h1
    subst h2
    rfl
theorem beV_got {σ : Option (List Int)} (h : SByt σ) (k : Nat) : beV (got σ k) < 256 ^ k := by
  have := beV_lt (got σ k) (h.got k) (got σ k).length (Nat.le_refl _)
  rw [List.take_length] at this
  exact Nat.lt_of_lt_of_le this (Nat.pow_le_pow_right (n := 256) (by decide) (got_le σ k))
theorem dnumber_first (z : World) (z0 rb many : Nat) (V : Value) (xs : List Int) (hV : ∃ a cap b off cs T fz, V = .slice a xs.length cap ∧ xs.length ≤ cap ∧ cap ≤ 9223372036854775807 ∧ (0 < xs.length → a = some ⟨b, off, none⟩ ∧ z.heap[b]? = some (.cells (List.toArray cs) T fz) ∧ b < z0) ∧ Cs cs off xs.length (u8s xs)) (hb : z.heap[rb]? = some (row [V, .bool false] 101)) (hz : z0 ≤ rb) (hx : Byt xs) (h0 : 0 < many) (hm : many ≤ 8) :
    Fn env.P 48 [.pointer (some ⟨rb, 0, none⟩), .int .i64 (many : Nat)] z fun v w' => v = .int .u64 (beV (got (some xs) many) : Nat) ∧ RS z0 w' rb (nxt (some xs) many) ∧ Fr z w' [rb] := by
  obtain ⟨a, cap, b, off, cs, T, fz, rfl, h1, h2, h3, h4⟩ := hV
  by_cases hle : many ≤ xs.length
  · obtain ⟨rfl, h5, h6⟩ := h3 (by omega)
    exact dnumber_any z z0 rb many (some xs) ⟨cap, b, off, cs, T, fz, hb, h1, h2, fun _ => h5, h6, h4⟩ hz hm (fun ys hy => by cases hy; exact hx)
  · refine (dnumber_short z z0 rb many xs.length cap a hb (by omega) hm).mono ?_
    rintro v w' ⟨rfl, h5, h6⟩
    simp only [got, nxt, Option.bind_some, if_neg hle]
    exact ⟨rfl, h5, h6⟩
/-- What the document's Load answers. -/
def DLoadQ (z : World) (xs : List Int) (r : Value) (w' : World) : Prop :=
  Fr z w' [] ∧ ((∃ db size ids m tail, r = .tuple #[.pointer (some ⟨db, 0, none⟩), .int .i64 0] ∧ RD w' db (size : Nat) ids m ∧ loadP xs = some (size, ids.length, m, tail) ∧ tail.length = 8 ∧ (∀ x, x ∈ ids ↔ (m x).isSome = true) ∧ ids.Pairwise (· < ·) ∧ encW size ids.length m ids = xs ∧ z.heap.size ≤ db ∧ 1 ≤ size ∧ size ≤ 64 ∧ ids.length ≤ 1024 ∧ (∀ y s, m y = some s → U64 y ∧ Full size s) ∧ RDN z.heap.size w' db (size : Nat) ids m) ∨
    (r = .tuple #[.pointer none, .int .i64 20] ∧ ∀ size n m tail ids, loadP xs = some (size, n, m, tail) → tail.length = 8 → (∀ x, x ∈ ids ↔ (m x).isSome = true) → ids.Pairwise (· < ·) → encW size n m ids ≠ xs))
theorem DLoadQ.no {z w' : World} {xs : List Int} (hf : Fr z w' []) (h : loadP xs = none) : DLoadQ z xs (.tuple #[.pointer none, .int .i64 20]) w' := ⟨hf, .inr ⟨rfl, fun _ _ _ _ _ h2 => by rw [h] at h2; cases h2⟩⟩
structure DLs where
  σ : Option (List Int)
  ids : List Int
  m : Int → Option CS
theorem dload_any (z : World) (V : Value) (xs : List Int) (hV : Bys z V xs) (hx : Byt xs) (hl : xs.length ≤ 140737488355327) :
    Fn env.P 32 [V] z fun r w' => DLoadQ z xs r w' := by
  have hV' := hV
  obtain ⟨a, cap, b, off, cs, T, fz, rfl, hc1, hc2, hc3, hc4⟩ := hV
  have H := Holds.start z []
  have HF := Try.func32; refine Fn.enter Try.func32 Try.ntmps32 rfl rfl rfl ?_
  (refine Run.seq (Run.region ?_); intro K hK)
  refine Ops.pure H (X.assign rfl) rfl rfl rfl ?_
  refine Ops.pure H (X.assign rfl) rfl rfl rfl ?_
  (refine Ops.nil (hK _ _ (Run.seq (Run.region ?_))); clear hK K; intro K hK)
  refine Ops.pure H (X.move rfl) rfl rfl rfl ?_
  refine Ops.pure H (X.buildO rfl rfl rfl rfl rfl rfl) rfl rfl rfl ?_
  (refine Ops.eff rfl (Y.box rfl rfl rfl H ?_); intro b10 w H0 hb10; clear H; have H := H0; clear H0)
  refine Ops.pure H (X.assign rfl) rfl rfl rfl ?_
  (refine Ops.nil (hK _ _ (Run.seq (Run.region ?_))); clear hK K; intro K hK)
  refine Ops.pure H (X.move rfl) rfl rfl rfl ?_
  have F0 := H.fr
  have hrb := H.pick (b := b10) (by repeat (first | exact .head | apply Pick.tail))
  have hVw : ∀ {w : World}, Fr z w [] → ∃ a' cap' b' off' cs' T' fz', Value.slice a xs.length cap = .slice a' xs.length cap' ∧ xs.length ≤ cap' ∧ cap' ≤ 9223372036854775807 ∧ (0 < xs.length → a' = some ⟨b', off', none⟩ ∧ w.heap[b']? = some (.cells (List.toArray cs') T' fz') ∧ b' < z.heap.size) ∧ Cs cs' off' xs.length (u8s xs) := fun hf =>
    ⟨a, cap, b, off, cs, T, fz, rfl, hc1, hc2, fun hp => ⟨(hc3 hp).1, hf.get (hc3 hp).2 (by simp), lt_of_at (hc3 hp).2⟩, hc4⟩
  refine Ops.eff rfl (Y.call rfl rfl (by first | assumption | decide +kernel) rfl (dnumber_first _ z.heap.size b10 4 _ xs (hVw F0) hrb (by omega) hx (by omega) (by omega)) rfl ?_)
  rintro v w1 ⟨rfl, hR1, hf1⟩
  have hb10 : z.heap.size ≤ b10 := by omega
  have F1 : Fr z w1 [] := F0.trans hf1 (U := []) (by simp) (fun x hx hl => by simp at hx; omega)
  have hb0 : SByt (some xs) := fun ys hy => by cases hy; exact hx
  obtain ⟨size, hsize⟩ : ∃ q, q = beV (got (some xs) 4) := ⟨_, rfl⟩
  obtain ⟨σ1, hσ1⟩ : ∃ q, q = nxt (some xs) 4 := ⟨_, rfl⟩
  have hsl : size < 4294967296 := by rw [hsize]; exact beV_got hb0 4
  have hb1 : SByt σ1 := by rw [hσ1]; exact hb0.nxt 4
  rw [← hσ1] at hR1
  rw [← hsize]
  clear H hrb
  have H := Holds.start w1 []
  refine Ops.pure H (X.conv rfl rfl rfl rfl rfl (IntWalk.i64_in _ (by omega))) rfl rfl rfl ?_
  refine Ops.pure H (X.buildO rfl rfl rfl rfl rfl rfl) rfl rfl rfl ?_
  (refine Ops.eff rfl (Y.box rfl rfl rfl H ?_); intro b15 w H0 hb15; clear H; have H := H0; clear H0)
  refine Ops.pure H (X.assign rfl) rfl rfl rfl ?_
  (refine Ops.nil (hK _ _ (Run.seq (Run.region ?_))); clear hK K; intro K hK)
  refine Ops.pure H (X.move rfl) rfl rfl rfl ?_
  have hbd : z.heap.size ≤ b15 := by have := F1.size; omega
  have hrl1 : b10 < w1.heap.size := by
    cases σ1 with
    | some ys => obtain ⟨_, _, _, _, _, _, h', _⟩ := hR1; exact lt_of_at h'
    | none => obtain ⟨v, h'⟩ := hR1; exact lt_of_at h'
  have hrd : b10 ≠ b15 := by omega
  have hd2 := H.pick (b := b15) (by repeat (first | exact .head | apply Pick.tail))
  have F2 := F1.then H.fr
  refine Ops.eff rfl (Y.call rfl rfl (by first | assumption | decide +kernel) rfl (dnumber_any _ z.heap.size b10 4 σ1 (hR1.ext H.fr) hb10 (by omega) hb1) rfl ?_)
  rintro v w3 ⟨rfl, hR3, hf3⟩
  have hd3 := hf3.get hd2 (by simpa using hrd.symm)
  have F3 : Fr z w3 [] := F2.trans hf3 (U := []) (by simp) (fun x hx hl => by simp at hx; omega)
  obtain ⟨n, hn⟩ : ∃ q, q = beV (got σ1 4) := ⟨_, rfl⟩
  obtain ⟨σ2, hσ2⟩ : ∃ q, q = nxt σ1 4 := ⟨_, rfl⟩
  have hnl : n < 4294967296 := by rw [hn]; exact beV_got hb1 4
  have hb2 : SByt σ2 := by rw [hσ2]; exact hb1.nxt 4
  rw [← hσ2] at hR3
  rw [← hn]
  have hP := loadP_by xs σ1 σ2 hσ1 hσ2
  rw [← hsize, ← hn] at hP
  clear H hd2
  have H := (Holds.start w3 []).add false hd3 (by simp) (by simp)
  refine Ops.pure H (X.conv rfl rfl rfl rfl rfl (IntWalk.i64_in _ (by omega))) rfl rfl rfl ?_
  refine Ops.pure H (X.assign rfl) rfl rfl rfl ?_
  (refine Ops.nil (hK _ _ ?_); clear hK K)
  have F4 := F3.then H.fr
  have hR4 := hR3.ext H.fr
  have hd4 := H.pick (b := b15) (by repeat (first | exact .head | apply Pick.tail))
  clear H hR3 hd3
  rename World => w4
  refine Run.seq ?_
  refine Run.meet (fun (_ : Option (List Int)) => [(0, .slice a xs.length cap), (4, .pointer (some ⟨b10, 0, none⟩)), (5, .pointer (some ⟨b15, 0, none⟩)), (6, .int .i64 (n : Nat))])
    (fun σ3 w' => ((size < 1 ∨ 64 < size ∨ 1024 < n) → σ3 = none) ∧ (¬ (size < 1 ∨ 64 < size ∨ 1024 < n) → σ3 = σ2) ∧ RS z.heap.size w' b10 σ3 ∧ w'.heap[b15]? = some (row [.int .i64 (size : Nat), .slice none 0 0] 80) ∧ Fr z w' []) ?_ ?_
  rotate_left
  · intro kk go
    obtain ⟨rv, rq, hrb⟩ : ∃ rv rq, w4.heap[b10]? = some (row [rv, .bool rq] 101) := by
      cases σ2 with
      | some ys => obtain ⟨cap, b, off, cs, T, fz, h', _⟩ := hR4; exact ⟨_, _, h'⟩
      | none => obtain ⟨v, h'⟩ := hR4; exact ⟨_, _, h'⟩
    have H := ((Holds.start w4 [b10]).add false hd4 (by simp) (by simp)).add true hrb (by simpa using hrd) (by simp)
    have hFw : ∀ w', Fr w4 w' [b10] → Fr z w' [] := fun w' hf => F4.trans hf (U := []) (by simp) (fun x hx hl => by simp at hx; omega)
    by_cases c1 : size < 1
    · refine Run.seq ?_
      (refine Run.region ?_; intro K hK)
      refine Ops.pure H (X.move rfl) rfl rfl rfl ?_
      refine Ops.pure H (X.nilCheck rfl) rfl rfl rfl ?_
      refine Ops.pure H (X.fieldAddr rfl rfl rfl rfl rfl rfl) rfl rfl rfl ?_
      refine Ops.pure H (X.load1 rfl rfl rfl rfl (.tail .head) rfl) rfl rfl rfl ?_
      refine Ops.pure H (X.cmp rfl rfl rfl) rfl rfl rfl ?_
      refine Ops.pure H (X.move rfl) rfl rfl rfl ?_
      refine Ops.split_dec rfl rfl (fun h25 => ?x0) (fun h25 => ?y0)
      case' y0 => exfalso; omega
      case' x0 =>
        refine Ops.pass rfl rfl rfl ?_
        refine Ops.pass rfl rfl rfl ?_
        refine Ops.pass rfl rfl rfl ?_
        refine Ops.pass rfl rfl rfl ?_
        refine Ops.pass rfl rfl rfl ?_
        refine Ops.pure H (X.pick_t rfl rfl) rfl rfl rfl ?_
        refine Ops.pure H (X.move rfl) rfl rfl rfl ?_
        refine Ops.pass rfl rfl rfl ?_
        refine Ops.pass rfl rfl rfl ?_
        refine Ops.pure H (X.pick_t rfl rfl) rfl rfl rfl ?_
        (refine Ops.nil (hK _ _ ?_); clear hK K)
        refine Run.cond_true rfl ?_
        (refine Run.region ?_; intro K hK)
        refine Ops.pure H (X.move rfl) rfl rfl rfl ?_
        refine Ops.pure H (X.nilCheck rfl) rfl rfl rfl ?_
        refine Ops.pure H (X.fieldAddr rfl rfl rfl rfl rfl rfl) rfl rfl rfl ?_
        (refine Ops.eff rfl (Y.store1 rfl rfl rfl rfl rfl rfl H Upd.head (by repeat (first | exact SetC.zero | apply SetC.succ)) ?_); intro w H0; clear H; have H := H0; clear H0)
        (refine Ops.nil (hK _ _ ?_); clear hK K)
      exact go none _ _ ⟨fun _ => rfl, fun h => absurd (.inl c1) h, ⟨_, H.pick (b := b10) (by repeat (first | exact .head | apply Pick.tail))⟩, H.pick (b := b15) (by repeat (first | exact .head | apply Pick.tail)), hFw _ H.fr⟩ (by repeat (first | exact trivial | refine ⟨rfl, ?_⟩))
    by_cases c2 : 64 < size
    · refine Run.seq ?_
      (refine Run.region ?_; intro K hK)
      refine Ops.pure H (X.move rfl) rfl rfl rfl ?_
      refine Ops.pure H (X.nilCheck rfl) rfl rfl rfl ?_
      refine Ops.pure H (X.fieldAddr rfl rfl rfl rfl rfl rfl) rfl rfl rfl ?_
      refine Ops.pure H (X.load1 rfl rfl rfl rfl (.tail .head) rfl) rfl rfl rfl ?_
      refine Ops.pure H (X.cmp rfl rfl rfl) rfl rfl rfl ?_
      refine Ops.pure H (X.move rfl) rfl rfl rfl ?_
      refine Ops.split_dec rfl rfl (fun h25 => ?x1) (fun h25 => ?y1)
      case' y1 =>
        refine Ops.pure H (X.move rfl) rfl rfl rfl ?_
        refine Ops.pure H (X.nilCheck rfl) rfl rfl rfl ?_
        refine Ops.pure H (X.fieldAddr rfl rfl rfl rfl rfl rfl) rfl rfl rfl ?_
        refine Ops.pure H (X.load1 rfl rfl rfl rfl (.tail .head) rfl) rfl rfl rfl ?_
        refine Ops.pure H (X.cmp rfl rfl rfl) rfl rfl rfl ?_
        refine Ops.pure H (X.pick_f rfl rfl) rfl rfl rfl ?_
        refine Ops.pure H (X.move rfl) rfl rfl rfl ?_
        refine Ops.split_dec rfl rfl (fun h32 => ?x2) (fun h32 => ?y2)
        case' y2 => exfalso; omega
        case' x2 =>
          refine Ops.pass rfl rfl rfl ?_
          refine Ops.pass rfl rfl rfl ?_
          refine Ops.pure H (X.pick_t rfl rfl) rfl rfl rfl ?_
          (refine Ops.nil (hK _ _ ?_); clear hK K)
          refine Run.cond_true rfl ?_
          (refine Run.region ?_; intro K hK)
          refine Ops.pure H (X.move rfl) rfl rfl rfl ?_
          refine Ops.pure H (X.nilCheck rfl) rfl rfl rfl ?_
          refine Ops.pure H (X.fieldAddr rfl rfl rfl rfl rfl rfl) rfl rfl rfl ?_
          (refine Ops.eff rfl (Y.store1 rfl rfl rfl rfl rfl rfl H Upd.head (by repeat (first | exact SetC.zero | apply SetC.succ)) ?_); intro w H0; clear H; have H := H0; clear H0)
          (refine Ops.nil (hK _ _ ?_); clear hK K)
      case' x1 => exfalso; omega
      exact go none _ _ ⟨fun _ => rfl, fun h => absurd (.inr (.inl c2)) h, ⟨_, H.pick (b := b10) (by repeat (first | exact .head | apply Pick.tail))⟩, H.pick (b := b15) (by repeat (first | exact .head | apply Pick.tail)), hFw _ H.fr⟩ (by repeat (first | exact trivial | refine ⟨rfl, ?_⟩))
    by_cases c3 : 1024 < n
    · refine Run.seq ?_
      (refine Run.region ?_; intro K hK)
      refine Ops.pure H (X.move rfl) rfl rfl rfl ?_
      refine Ops.pure H (X.nilCheck rfl) rfl rfl rfl ?_
      refine Ops.pure H (X.fieldAddr rfl rfl rfl rfl rfl rfl) rfl rfl rfl ?_
      refine Ops.pure H (X.load1 rfl rfl rfl rfl (.tail .head) rfl) rfl rfl rfl ?_
      refine Ops.pure H (X.cmp rfl rfl rfl) rfl rfl rfl ?_
      refine Ops.pure H (X.move rfl) rfl rfl rfl ?_
      refine Ops.split_dec rfl rfl (fun h25 => ?x3) (fun h25 => ?y3)
      case' y3 =>
        refine Ops.pure H (X.move rfl) rfl rfl rfl ?_
        refine Ops.pure H (X.nilCheck rfl) rfl rfl rfl ?_
        refine Ops.pure H (X.fieldAddr rfl rfl rfl rfl rfl rfl) rfl rfl rfl ?_
        refine Ops.pure H (X.load1 rfl rfl rfl rfl (.tail .head) rfl) rfl rfl rfl ?_
        refine Ops.pure H (X.cmp rfl rfl rfl) rfl rfl rfl ?_
        refine Ops.pure H (X.pick_f rfl rfl) rfl rfl rfl ?_
        refine Ops.pure H (X.move rfl) rfl rfl rfl ?_
        refine Ops.split_dec rfl rfl (fun h32 => ?x4) (fun h32 => ?y4)
        case' y4 =>
          refine Ops.pure H (X.move rfl) rfl rfl rfl ?_
          refine Ops.pure H (X.cmp rfl rfl rfl) rfl rfl rfl ?_
          refine Ops.pure H (X.pick_f rfl rfl) rfl rfl rfl ?_
          (refine Ops.nil (hK _ _ ?_); clear hK K)
          refine Run.cond_dec rfl (fun h34 => ?x5) (fun h34 => ?y5)
          case' y5 => exfalso; omega
          case' x5 =>
            (refine Run.region ?_; intro K hK)
            refine Ops.pure H (X.move rfl) rfl rfl rfl ?_
            refine Ops.pure H (X.nilCheck rfl) rfl rfl rfl ?_
            refine Ops.pure H (X.fieldAddr rfl rfl rfl rfl rfl rfl) rfl rfl rfl ?_
            (refine Ops.eff rfl (Y.store1 rfl rfl rfl rfl rfl rfl H Upd.head (by repeat (first | exact SetC.zero | apply SetC.succ)) ?_); intro w H0; clear H; have H := H0; clear H0)
            (refine Ops.nil (hK _ _ ?_); clear hK K)
        case' x4 => exfalso; omega
      case' x3 => exfalso; omega
      exact go none _ _ ⟨fun _ => rfl, fun h => absurd (.inr (.inr c3)) h, ⟨_, H.pick (b := b10) (by repeat (first | exact .head | apply Pick.tail))⟩, H.pick (b := b15) (by repeat (first | exact .head | apply Pick.tail)), hFw _ H.fr⟩ (by repeat (first | exact trivial | refine ⟨rfl, ?_⟩))
    · clear H
      have H := (Holds.start w4 []).add false hd4 (by simp) (by simp)
      (refine Run.seq (Run.region ?_); intro K hK)
      refine Ops.pure H (X.move rfl) rfl rfl rfl ?_
      refine Ops.pure H (X.nilCheck rfl) rfl rfl rfl ?_
      refine Ops.pure H (X.fieldAddr rfl rfl rfl rfl rfl rfl) rfl rfl rfl ?_
      refine Ops.pure H (X.load1 rfl rfl rfl rfl Pick.head rfl) rfl rfl rfl ?_
      refine Ops.pure H (X.cmp rfl rfl rfl) rfl rfl rfl ?_
      refine Ops.pure H (X.move rfl) rfl rfl rfl ?_
      refine Ops.split_dec rfl rfl (fun h25 => ?x6) (fun h25 => ?y6)
      case' y6 =>
        refine Ops.pure H (X.move rfl) rfl rfl rfl ?_
        refine Ops.pure H (X.nilCheck rfl) rfl rfl rfl ?_
        refine Ops.pure H (X.fieldAddr rfl rfl rfl rfl rfl rfl) rfl rfl rfl ?_
        refine Ops.pure H (X.load1 rfl rfl rfl rfl Pick.head rfl) rfl rfl rfl ?_
        refine Ops.pure H (X.cmp rfl rfl rfl) rfl rfl rfl ?_
        refine Ops.pure H (X.pick_f rfl rfl) rfl rfl rfl ?_
        refine Ops.pure H (X.move rfl) rfl rfl rfl ?_
        refine Ops.split_dec rfl rfl (fun h32 => ?x7) (fun h32 => ?y7)
        case' y7 =>
          refine Ops.pure H (X.move rfl) rfl rfl rfl ?_
          refine Ops.pure H (X.cmp rfl rfl rfl) rfl rfl rfl ?_
          refine Ops.pure H (X.pick_f rfl rfl) rfl rfl rfl ?_
          (refine Ops.nil (hK _ _ ?_); clear hK K)
          refine Run.cond_dec rfl (fun h34 => ?x8) (fun h34 => ?y8)
          case' y8 =>
            refine Run.skip ?_
          case' x8 => exfalso; omega
        case' x7 => exfalso; omega
      case' x6 => exfalso; omega
      exact go σ2 _ _ ⟨fun h => absurd h (by omega), fun _ => rfl, hR4.ext H.fr, H.pick (b := b15) (by repeat (first | exact .head | apply Pick.tail)), F4.then H.fr⟩ (by repeat (first | exact trivial | refine ⟨rfl, ?_⟩))
  clear hR4 hd4 F4
  rintro σ3 w5 ⟨hσa, hσb, hR5, hd5, F5⟩
  obtain ⟨R, hRdef⟩ : ∃ R, R = σ3.bind fun ys => clientsP size n 0 0 (fun _ => none) ys := ⟨_, rfl⟩
  have hPR : loadP xs = R.map fun r => (size, n, r.1, r.2) := by
    rw [hP, hRdef]
    by_cases hC : size < 1 ∨ 64 < size ∨ 1024 < n
    · rw [hσa hC]
      cases σ2 with
      | none => rfl
      | some ys => rw [Option.bind_some, if_pos hC]; rfl
    · rw [hσb hC]
      cases σ2 with
      | none => rfl
      | some ys => rw [Option.bind_some, Option.bind_some, if_neg hC]
  have hb3 : SByt σ3 := by
    by_cases hC : size < 1 ∨ 64 < size ∨ 1024 < n
    · rw [hσa hC]; exact fun ys hy => by cases hy
    · rw [hσb hC]; exact hb2
  have H := (Holds.start w5 []).add false hd5 (by simp) (by simp)
  refine Run.seq ?_
  (refine Run.seq (Run.region ?_); intro K hK)
  refine Ops.pure H (X.assign rfl) rfl rfl rfl ?_
  (refine Ops.nil (hK _ _ ?_); clear hK K)
  have F6 := H.fr
  clear H
  refine Run.meet (fun (_ : DLs) => [(0, .slice a xs.length cap), (4, .pointer (some ⟨b10, 0, none⟩)), (5, .pointer (some ⟨b15, 0, none⟩))])
    (fun x w' => Fr z w' [] ∧ RS z.heap.size w' b10 x.σ ∧ (x.σ = none → R = none) ∧ ∀ ys, x.σ = some ys → R = some (x.m, ys) ∧ RW z.heap.size w' b15 (size : Nat) x.ids x.m ∧ x.ids.length = n ∧ n ≤ 1024 ∧ 1 ≤ size ∧ size ≤ 64 ∧ x.ids.Pairwise (· < ·) ∧ (∀ y, y ∈ x.ids ↔ (x.m y).isSome = true) ∧ (∀ y s, x.m y = some s → U64 y ∧ Full size s)) ?_ ?_
  rotate_left
  · intro kk go
    have H := (Holds.start w5 []).add false hd5 (by simp) (by simp)
    refine Run.block ?_
    refine Run.rounds (fun (x : DLs × Nat × Nat) => [(0, .slice a xs.length cap), (4, .pointer (some ⟨b10, 0, none⟩)), (5, .pointer (some ⟨b15, 0, none⟩)), (6, .int .i64 (n : Nat)), (7, .int .i64 (x.2.1 : Nat))])
      (fun x w' => Fr z w' [] ∧ RS z.heap.size w' b10 x.1.σ ∧ SByt x.1.σ ∧ (x.1.σ = none → R = none) ∧ ∀ ys, x.1.σ = some ys → clientsP size (n - x.2.1) x.2.1 x.2.2 x.1.m ys = R ∧ x.2.1 ≤ n ∧ RW z.heap.size w' b15 (size : Nat) x.1.ids x.1.m ∧ x.1.ids.length = x.2.1 ∧ n ≤ 1024 ∧ 1 ≤ size ∧ size ≤ 64 ∧ x.1.ids.Pairwise (· < ·) ∧ (∀ y, y ∈ x.1.ids ↔ (x.1.m y).isSome = true) ∧ (∀ y s, x.1.m y = some s → U64 y ∧ Full size s) ∧ (0 < x.2.1 → x.1.ids.getLast? = some (x.2.2 : Int))) (fun x => n - x.2.1) (⟨σ3, [], fun _ => none⟩, 0, 0) (by repeat (first | exact trivial | refine ⟨rfl, ?_⟩)) ?_ ?_
    · refine ⟨F5.then H.fr, hR5.ext H.fr, hb3, fun h => by dsimp only at h; rw [hRdef, h]; rfl, fun ys hy => ?_⟩
      dsimp only at hy ⊢
      have hC : ¬ (size < 1 ∨ 64 < size ∨ 1024 < n) := fun hC => by rw [hσa hC] at hy; cases hy
      refine ⟨by rw [hRdef, hy]; rfl, by omega, ⟨_, H.pick (b := b15) (by repeat (first | exact .head | apply Pick.tail)), fun _ => undef, Own.nil, fun i hi => by simp at hi⟩, rfl, by omega, by omega, by omega, by simp, by simp, fun y s h => (by cases h), fun h => absurd h (by omega)⟩
    clear H
    rintro ⟨⟨σ, ids, m⟩, i, last⟩ w6 ⟨F6, hR6, hb6, hn6, hs6⟩ IH
    dsimp only at F6 hR6 hb6 hn6 hs6 IH ⊢
    have hout : ¬ (∃ ys, σ = some ys ∧ i < n) → ∀ ys, σ = some ys → R = some (m, ys) ∧ RW z.heap.size w6 b15 (size : Nat) ids m ∧ ids.length = n ∧ n ≤ 1024 ∧ 1 ≤ size ∧ size ≤ 64 ∧ ids.Pairwise (· < ·) ∧ (∀ y, y ∈ ids ↔ (m y).isSome = true) ∧ (∀ y s, m y = some s → U64 y ∧ Full size s) := fun hno ys hy => by
      obtain ⟨g1, g2, g3, g4, g5, g6, g7, g8, g9, g10, g11⟩ := hs6 ys hy
      have hin : i = n := by
        rcases Nat.lt_or_ge i n with h | h
        · exact absurd ⟨ys, hy, h⟩ hno
        · omega
      subst hin
      rw [Nat.sub_self, clientsP] at g1
      exact ⟨g1.symm, g3, g4, g5, g6, g7, g8, g9, g10⟩
    have hrw : ∀ w', Fr w6 w' [] → RW z.heap.size w6 b15 (size : Nat) ids m → RW z.heap.size w' b15 (size : Nat) ids m := fun w' hf h => h.keep hf (by simp) (by simp)
    by_cases hlt : i < n
    rotate_left
    · have H := Holds.start w6 []
      refine Run.seq ?_
      (refine Run.seq (Run.region ?_); intro K hK)
      refine Ops.pure H (X.move rfl) rfl rfl rfl ?_
      refine Ops.pure H (X.move rfl) rfl rfl rfl ?_
      refine Ops.pure H (X.cmp rfl rfl rfl) rfl rfl rfl ?_
      refine Ops.pure H (X.move rfl) rfl rfl rfl ?_
      refine Ops.split_dec rfl rfl (fun h42 => ?x9) (fun h42 => ?y9)
      case' y9 =>
        refine Ops.pass rfl rfl rfl ?_
        refine Ops.pass rfl rfl rfl ?_
        refine Ops.pass rfl rfl rfl ?_
        refine Ops.pass rfl rfl rfl ?_
        refine Ops.pass rfl rfl rfl ?_
        refine Ops.pure H (X.pick_f rfl rfl) rfl rfl rfl ?_
        (refine Ops.nil (hK _ _ ?_); clear hK K)
        refine Run.cond_false rfl ?_
        refine Run.exit rfl ?_
      case' x9 => exfalso; omega
      exact go ⟨σ, ids, m⟩ _ _ ⟨F6.then H.fr, hR6.ext H.fr, hn6, fun ys hy => by
        obtain ⟨g1, g2, g3⟩ := hout (by rintro ⟨_, _, h⟩; omega) ys hy
        exact ⟨g1, hrw _ H.fr g2, g3⟩⟩ (by repeat (first | exact trivial | refine ⟨rfl, ?_⟩))
    cases σ with
    | none =>
      obtain ⟨rv, hrb⟩ := hR6
      have H := (Holds.start w6 []).add false hrb (by simp) (by simp)
      refine Run.seq ?_
      (refine Run.seq (Run.region ?_); intro K hK)
      refine Ops.pure H (X.move rfl) rfl rfl rfl ?_
      refine Ops.pure H (X.move rfl) rfl rfl rfl ?_
      refine Ops.pure H (X.cmp rfl rfl rfl) rfl rfl rfl ?_
      refine Ops.pure H (X.move rfl) rfl rfl rfl ?_
      refine Ops.split_dec rfl rfl (fun h42 => ?x10) (fun h42 => ?y10)
      case' y10 => exfalso; omega
      case' x10 =>
        refine Ops.pure H (X.move rfl) rfl rfl rfl ?_
        refine Ops.pure H (X.nilCheck rfl) rfl rfl rfl ?_
        refine Ops.pure H (X.fieldAddr rfl rfl rfl rfl rfl rfl) rfl rfl rfl ?_
        refine Ops.pure H (X.load1 rfl rfl rfl rfl Pick.head rfl) rfl rfl rfl ?_
        refine Ops.pure H (X.not rfl) rfl rfl rfl ?_
        refine Ops.pure H (X.pick_t rfl rfl) rfl rfl rfl ?_
        (refine Ops.nil (hK _ _ ?_); clear hK K)
        refine Run.cond_false rfl ?_
        refine Run.exit rfl ?_
      exact go ⟨none, ids, m⟩ _ _ ⟨F6.then H.fr, RS.ext (σ := none) ⟨rv, hrb⟩ H.fr, hn6, fun ys hy => by cases hy⟩ (by repeat (first | exact trivial | refine ⟨rfl, ?_⟩))
    | some ys =>
      have hrb' := hR6
      obtain ⟨rcap, rb0, roff, rcs, rT, rfz, hrb, _⟩ := hrb'
      obtain ⟨g1, g2, g3, g4, g5, g6, g7, g8, g9, g10, g11⟩ := hs6 ys rfl
      have hby := hb6 ys rfl
      have H := (Holds.start w6 []).add false hrb (by simp) (by simp)
      refine Run.seq ?_
      (refine Run.seq (Run.region ?_); intro K hK)
      refine Ops.pure H (X.move rfl) rfl rfl rfl ?_
      refine Ops.pure H (X.move rfl) rfl rfl rfl ?_
      refine Ops.pure H (X.cmp rfl rfl rfl) rfl rfl rfl ?_
      refine Ops.pure H (X.move rfl) rfl rfl rfl ?_
      refine Ops.split_dec rfl rfl (fun h42 => ?x11) (fun h42 => ?y11)
      case' y11 => exfalso; omega
      case' x11 =>
        refine Ops.pure H (X.move rfl) rfl rfl rfl ?_
        refine Ops.pure H (X.nilCheck rfl) rfl rfl rfl ?_
        refine Ops.pure H (X.fieldAddr rfl rfl rfl rfl rfl rfl) rfl rfl rfl ?_
        refine Ops.pure H (X.load1 rfl rfl rfl rfl Pick.head rfl) rfl rfl rfl ?_
        refine Ops.pure H (X.not rfl) rfl rfl rfl ?_
        refine Ops.pure H (X.pick_t rfl rfl) rfl rfl rfl ?_
        (refine Ops.nil (hK _ _ ?_); clear hK K)
        refine Run.cond_true rfl ?_
        refine Run.skip ?_
        refine Run.seq ?_
        refine Run.block ?_
        (refine Run.region ?_; intro K hK)
        refine Ops.pure H (X.move rfl) rfl rfl rfl ?_
        refine Ops.pure H (X.move rfl) rfl rfl rfl ?_
      refine Ops.eff rfl (Y.call rfl rfl (by first | assumption | decide +kernel) rfl (dclient_any z _ b10 b15 size ids m ys (F6.then H.fr) (RS.ext (σ := some ys) hR6 H.fr) (hrw _ H.fr g3) hb10 hbd hby g6 g7 (by omega) (fun x hx => by obtain ⟨s, hs⟩ := Option.isSome_iff_exists.1 ((g9 x).1 hx); exact (g10 x s hs).1) g8) rfl ?_)
      rintro v w7 ⟨F7, hmm⟩
      obtain ⟨qq, hqq⟩ : ∃ qq, n - i = qq + 1 := ⟨n - i - 1, by omega⟩
      rw [hqq, clientsP] at g1
      have fin0 : Rx w7 b10 → R = none → Fr z w7 [] ∧ RS z.heap.size w7 b10 none ∧ SByt none ∧ ((none : Option (List Int)) = none → R = none) ∧ ∀ ys', (none : Option (List Int)) = some ys' → clientsP size (n - (i + 1)) (i + 1) 0 m ys' = R ∧ i + 1 ≤ n ∧ RW z.heap.size w7 b15 (size : Nat) ids m ∧ ids.length = i + 1 ∧ n ≤ 1024 ∧ 1 ≤ size ∧ size ≤ 64 ∧ ids.Pairwise (· < ·) ∧ (∀ y, y ∈ ids ↔ (m y).isSome = true) ∧ (∀ y s, m y = some s → U64 y ∧ Full size s) ∧ (0 < i + 1 → ids.getLast? = some ((0 : Nat) : Int)) := fun h1 h2 => ⟨F7, h1, fun ys hy => (by cases hy), fun _ => h2, fun ys' hy => (by cases hy)⟩
      clear H
      have H := Holds.start w7 []
      (refine Ops.nil (hK _ _ ?_); clear hK K)
      refine Run.inBlock ?_
      (refine Run.region ?_; intro K hK)
      refine Ops.pure H (X.move rfl) rfl rfl rfl ?_
      refine Ops.pure H (X.succ rfl rfl (by omega)) rfl rfl rfl ?_
      refine Ops.pure H (X.assign rfl) rfl rfl rfl ?_
      (refine Ops.nil (hK _ _ ?_); clear hK K)
      cases hcp : clientP size ys with
      | none =>
        rw [hcp] at hmm g1
        exact (IH (⟨none, ids, m⟩, i + 1, 0) _ (by dsimp only; omega) (fin0 hmm g1.symm)).weak (by repeat (first | exact trivial | refine ⟨rfl, ?_⟩))
      | some p =>
        obtain ⟨id, s, r⟩ := p
        rw [hcp] at hmm g1
        dsimp only at hmm g1
        obtain ⟨hFull, hidl, hbr⟩ := clientP_full size ys r id s hby hcp
        by_cases hC : ∃ q, ids.getLast? = some q ∧ (id : Int) ≤ q
        · rw [if_pos hC] at hmm
          obtain ⟨q, hq1, hq2⟩ := hC
          have hip : 0 < i := by
            rcases Nat.eq_zero_or_pos i with h | h
            · have : ids = [] := List.eq_nil_of_length_eq_zero (by omega)
              rw [this] at hq1
              cases hq1
            · exact h
          have := g11 hip
          rw [hq1] at this
          cases this
          rw [if_pos ⟨hip, by omega⟩] at g1
          exact (IH (⟨none, ids, m⟩, i + 1, 0) _ (by dsimp only; omega) (fin0 hmm g1.symm)).weak (by repeat (first | exact trivial | refine ⟨rfl, ?_⟩))
        · rw [if_neg hC] at hmm
          obtain ⟨hR7, hW7⟩ := hmm
          have hnl : ¬ (0 < i ∧ id ≤ last) := fun ⟨h1, h2⟩ => hC ⟨_, g11 h1, by omega⟩
          rw [if_neg hnl] at g1
          have hall : ∀ y ∈ ids, y < (id : Int) := fun y hy => by
            have hne : ids.length ≠ 0 := fun h => by rw [List.eq_nil_of_length_eq_zero h] at hy; cases hy
            have hl : ids.getLast? = some (ids.getD (ids.length - 1) 0) := by
              rw [List.getLast?_eq_getElem?]
              simp [show ids.length - 1 < ids.length by omega]
            have h1 : ids.getD (ids.length - 1) 0 < (id : Int) := Int.not_le.1 fun h => hC ⟨_, hl, h⟩
            obtain ⟨j, hj, rfl⟩ := List.getElem_of_mem hy
            have e : ids[j] = ids.getD j 0 := by simp [hj]
            rw [e]
            rcases Nat.lt_or_ge j (ids.length - 1) with h | h
            · have := getD_mono g8 h (by omega)
              omega
            · rw [show j = ids.length - 1 by omega]
              exact h1
          refine (IH (⟨some r, ids ++ [(id : Int)], fun y => if y = (id : Int) then some s else m y⟩, i + 1, id) _ (by dsimp only; omega) ⟨F7, hR7, fun ys hy => (by cases hy; exact hbr), fun h => (by cases h), fun ys' hy => ?_⟩).weak (by repeat (first | exact trivial | refine ⟨rfl, ?_⟩))
          dsimp only at hy ⊢
          cases hy
          refine ⟨by rw [show n - (i + 1) = qq by omega]; exact g1, by omega, hW7, by simp [g4], g5, g6, g7, ?_, fun y => ?_, fun y t hy => ?_, fun _ => by simp⟩
          · rw [List.pairwise_append]
            exact ⟨g8, by simp, fun a ha b hb => by simp at hb; rw [hb]; exact hall a ha⟩
          · rw [List.mem_append]
            by_cases e : y = (id : Int)
            · subst e; simp
            · simp [e, g9]
          · by_cases e : y = (id : Int)
            · rw [if_pos e] at hy
              cases hy
              rw [e]
              exact ⟨⟨by omega, by omega⟩, hFull⟩
            · rw [if_neg e] at hy
              exact g10 y t hy
  rintro ⟨σ, ids, m⟩ w6 ⟨F6, hR6, hn6, hs6⟩
  dsimp only at F6 hR6 hn6 hs6 ⊢
  cases σ with
  | none =>
    obtain ⟨rv, hrb⟩ := hR6
    have H := (Holds.start w6 []).add false hrb (by simp) (by simp)
    refine Run.seq ?_
    refine Run.seq ?_
    (refine Run.draw H [] [0, 1, 2, 3, 4, 5, 6, 7, 8, 9, 10, 11, 12, 13, 16, 17, 14, 15, 18, 19] ?_; clear H; intro K hK w H)
    refine Draw.take0 rfl (X.move rfl) rfl rfl rfl (by decide +kernel) ?_
    refine Draw.take0 rfl (X.nilCheck rfl) rfl rfl rfl (by decide +kernel) ?_
    refine Draw.take0 rfl (X.fieldAddr rfl rfl rfl rfl rfl rfl) rfl rfl rfl (by decide +kernel) ?_
    refine Draw.take rfl (X.load1 rfl rfl rfl rfl Pick.head rfl) rfl rfl rfl (by decide +kernel) ?_
    refine Draw.take0 rfl (X.move rfl) rfl rfl rfl (by decide +kernel) ?_
    refine Draw.pass rfl rfl rfl rfl (by decide +kernel) ?_
    refine Draw.pass rfl rfl rfl rfl (by decide +kernel) ?_
    refine Draw.pass rfl rfl rfl rfl (by decide +kernel) ?_
    refine Draw.pass rfl rfl rfl rfl (by decide +kernel) ?_
    refine Draw.pass rfl rfl rfl rfl (by decide +kernel) ?_
    refine Draw.pass rfl rfl rfl rfl (by decide +kernel) ?_
    refine Draw.take0 rfl (X.pick_t rfl rfl) rfl rfl rfl (by decide +kernel) ?_
    refine Draw.take0 rfl (X.move rfl) rfl rfl rfl (by decide +kernel) ?_
    refine Draw.pass rfl rfl rfl rfl (by decide +kernel) ?_
    refine Draw.pass rfl rfl rfl rfl (by decide +kernel) ?_
    refine Draw.pass rfl rfl rfl rfl (by decide +kernel) ?_
    refine Draw.pass rfl rfl rfl rfl (by decide +kernel) ?_
    refine Draw.pass rfl rfl rfl rfl (by decide +kernel) ?_
    refine Draw.pass rfl rfl rfl rfl (by decide +kernel) ?_
    refine Draw.take0 rfl (X.pick_t rfl rfl) rfl rfl rfl (by decide +kernel) ?_
    (refine Draw.done (by decide +kernel) (hK _ _ ?_); clear hK K)
    refine Run.cond_true rfl ?_
    (refine Run.seq (Run.region ?_); intro K hK)
    refine Ops.pure H (X.assign rfl) rfl rfl rfl ?_
    refine Ops.pure H (X.assign rfl) rfl rfl rfl ?_
    (refine Ops.nil (hK _ _ ?_); clear hK K)
    refine Fn.ret2 HF rfl rfl rfl ?_
    exact DLoadQ.no (F6.then H.fr) (by rw [hPR, hn6 rfl]; rfl)
  | some ys =>
    obtain ⟨rcap, rb0, roff, rcs, rT, rfz, hrb, _⟩ := hR6
    obtain ⟨g1, g3, g4, g5, g6, g7, g8, g9, g10⟩ := hs6 ys rfl
    rw [g1] at hPR
    dsimp only [Option.map_some] at hPR
    by_cases h8 : ys.length = 8
    rotate_left
    · have H := (Holds.start w6 []).add false hrb (by simp) (by simp)
      refine Run.seq ?_
      refine Run.seq ?_
      (refine Run.draw H [] [0, 1, 2, 3, 4, 5, 6, 7, 8, 9, 10, 11, 12, 13, 16, 17, 14, 15, 18, 19] ?_; clear H; intro K hK w H)
      refine Draw.take0 rfl (X.move rfl) rfl rfl rfl (by decide +kernel) ?_
      refine Draw.take0 rfl (X.nilCheck rfl) rfl rfl rfl (by decide +kernel) ?_
      refine Draw.take0 rfl (X.fieldAddr rfl rfl rfl rfl rfl rfl) rfl rfl rfl (by decide +kernel) ?_
      refine Draw.take rfl (X.load1 rfl rfl rfl rfl Pick.head rfl) rfl rfl rfl (by decide +kernel) ?_
      refine Draw.take0 rfl (X.move rfl) rfl rfl rfl (by decide +kernel) ?_
      refine Draw.take0 rfl (X.move rfl) rfl rfl rfl (by decide +kernel) ?_
      refine Draw.take0 rfl (X.nilCheck rfl) rfl rfl rfl (by decide +kernel) ?_
      refine Draw.take0 rfl (X.fieldAddr rfl rfl rfl rfl rfl rfl) rfl rfl rfl (by decide +kernel) ?_
      refine Draw.take rfl (X.load1 rfl rfl rfl rfl Pick.head rfl) rfl rfl rfl (by decide +kernel) ?_
      refine Draw.take0 rfl (X.len_slice rfl rfl rfl) rfl rfl rfl (by decide +kernel) ?_
      refine Draw.take0 rfl (X.cmp rfl rfl rfl) rfl rfl rfl (by decide +kernel) ?_
      refine Draw.take0 rfl (X.pick_f rfl rfl) rfl rfl rfl (by decide +kernel) ?_
      refine Draw.take0 rfl (X.move rfl) rfl rfl rfl (by decide +kernel) ?_
      refine Draw.split_ndec rfl rfl rfl (fun h66 => ?x12) (fun h66 => ?y12)
      case' y12 => exfalso; omega
      case' x12 =>
        refine Draw.pass rfl rfl rfl rfl (by decide +kernel) ?_
        refine Draw.pass rfl rfl rfl rfl (by decide +kernel) ?_
        refine Draw.pass rfl rfl rfl rfl (by decide +kernel) ?_
        refine Draw.pass rfl rfl rfl rfl (by decide +kernel) ?_
        refine Draw.pass rfl rfl rfl rfl (by decide +kernel) ?_
        refine Draw.pass rfl rfl rfl rfl (by decide +kernel) ?_
        refine Draw.take0 rfl (X.pick_t rfl rfl) rfl rfl rfl (by decide +kernel) ?_
        (refine Draw.done (by decide +kernel) (hK _ _ ?_); clear hK K)
        refine Run.cond_true rfl ?_
        (refine Run.seq (Run.region ?_); intro K hK)
        refine Ops.pure H (X.assign rfl) rfl rfl rfl ?_
        refine Ops.pure H (X.assign rfl) rfl rfl rfl ?_
        (refine Ops.nil (hK _ _ ?_); clear hK K)
      refine Fn.ret2 HF rfl rfl rfl ?_
      exact ⟨F6.then H.fr, .inr ⟨rfl, fun s2 n2 m2 t2 ids2 hl2 ht2 => by
        rw [hPR] at hl2
        cases hl2
        exact absurd ht2 h8⟩⟩
    have hxp : 0 < xs.length := by
      rcases Nat.eq_zero_or_pos xs.length with h | h
      · rw [List.eq_nil_of_length_eq_zero h] at hPR
        cases hPR
      · exact h
    obtain ⟨rfl, hbz⟩ := hc3 hxp
    have hb6 := F6.get hbz (by simp)
    have nb10 : b ≠ b10 := by have := lt_of_at hbz; omega
    have hW6 := g3.rd
    have hall : ∀ x ∈ ids, U64 x ∧ COk ((m x).getD cs0) ∧ ((m x).getD cs0).seqs.length ≤ 64 := fun x hx => by
      obtain ⟨s, hs⟩ := Option.isSome_iff_exists.1 ((g9 x).1 hx)
      obtain ⟨e1, e2⟩ := g10 x s hs
      rw [hs]
      exact ⟨e1, e2.ok, by have := e2.le; simp only [Option.getD_some]; omega⟩
    have H := ((Holds.start w6 []).add false hrb (by simp) (by simp)).add false hb6 (by simpa using nb10) (by simp)
    refine Run.seq ?_
    refine Run.seq ?_
    (refine Run.draw H [] [0, 1, 2, 3, 4, 5, 6, 7, 8, 9, 10, 11, 12, 13, 16, 17, 14, 15, 18, 19] ?_; clear H; intro K hK w H)
    refine Draw.take0 rfl (X.move rfl) rfl rfl rfl (by decide +kernel) ?_
    refine Draw.take0 rfl (X.nilCheck rfl) rfl rfl rfl (by decide +kernel) ?_
    refine Draw.take0 rfl (X.fieldAddr rfl rfl rfl rfl rfl rfl) rfl rfl rfl (by decide +kernel) ?_
    refine Draw.take rfl (X.load1 rfl rfl rfl rfl (.tail .head) rfl) rfl rfl rfl (by decide +kernel) ?_
    refine Draw.take0 rfl (X.move rfl) rfl rfl rfl (by decide +kernel) ?_
    refine Draw.take0 rfl (X.move rfl) rfl rfl rfl (by decide +kernel) ?_
    refine Draw.take0 rfl (X.nilCheck rfl) rfl rfl rfl (by decide +kernel) ?_
    refine Draw.take0 rfl (X.fieldAddr rfl rfl rfl rfl rfl rfl) rfl rfl rfl (by decide +kernel) ?_
    refine Draw.take rfl (X.load1 rfl rfl rfl rfl (.tail .head) rfl) rfl rfl rfl (by decide +kernel) ?_
    refine Draw.take0 rfl (X.len_slice rfl rfl rfl) rfl rfl rfl (by decide +kernel) ?_
    refine Draw.take0 rfl (X.cmp rfl rfl rfl) rfl rfl rfl (by decide +kernel) ?_
    refine Draw.take0 rfl (X.pick_f rfl rfl) rfl rfl rfl (by decide +kernel) ?_
    refine Draw.take0 rfl (X.move rfl) rfl rfl rfl (by decide +kernel) ?_
    refine Draw.split_ndec rfl rfl rfl (fun h66 => ?x13) (fun h66 => ?y13)
    case' y13 =>
      refine Draw.take0 rfl (X.move rfl) rfl rfl rfl (by decide +kernel) ?_
      refine Draw.take0 rfl (X.move rfl) rfl rfl rfl (by decide +kernel) ?_
    case' x13 => exfalso; omega
    refine Draw.take rfl (X.bytesStr rfl .head hc4 rfl rfl rfl rfl rfl rfl rfl) rfl rfl rfl (by decide +kernel) ?_
    have F6w := H.fr
    refine Draw.eff rfl rfl (by decide +kernel) (Y.call rfl rfl (by first | assumption | decide +kernel) rfl (dbytes_any _ b15 size ids m ((hW6.ext F6w)) (by omega) (by omega) hall) rfl ?_)
    rintro v w7 ⟨hO7, hf7⟩
    have hKG := H.at_
    replace H := H.ext hf7
    refine ⟨H.at_, ?_⟩
    refine Draw.eff rfl rfl (by decide +kernel) (Y.bytes hO7.bys rfl rfl rfl rfl rfl rfl rfl rfl ?_)
    refine ⟨H.at_, ?_⟩
    refine Draw.take0 rfl (X.strNe rfl rfl) rfl rfl rfl (by decide +kernel) ?_
    have hbE : Byt (encW size ids.length m ids) := Byt.append (Byt.append (Byt.append (Byt.be _ _) (Byt.be _ _)) (Byt.flat fun x hx => Byt.append (Byt.be _ _) (Byt.encS (hall x hx).2.1))) (Byt.be _ _)
    refine Draw.take0 rfl (X.pick_f rfl rfl) rfl rfl rfl (by decide +kernel) ?_
    (refine Draw.done (by decide +kernel) (hK _ _ ?_); clear hK K)
    refine Run.cond_ndec rfl (fun h72 => ?x14) (fun h72 => ?y14)
    case' y14 =>
      refine Run.skip ?_
      (refine Run.seq (Run.region ?_); intro K hK)
      refine Ops.pure H (X.move rfl) rfl rfl rfl ?_
      refine Ops.pure H (X.assign rfl) rfl rfl rfl ?_
      refine Ops.pure H (X.assign rfl) rfl rfl rfl ?_
      (refine Ops.nil (hK _ _ ?_); clear hK K)
    case' x14 =>
      (refine Run.seq (Run.region ?_); intro K hK)
      refine Ops.pure H (X.assign rfl) rfl rfl rfl ?_
      refine Ops.pure H (X.assign rfl) rfl rfl rfl ?_
      (refine Ops.nil (hK _ _ ?_); clear hK K)
    · refine Fn.ret2 HF rfl rfl rfl ?_
      exact ⟨F6.then H.fr, .inr ⟨rfl, fun s2 n2 m2 t2 ids2 hl2 ht2 hi2 hp2 hE => by
        rw [hPR] at hl2
        cases hl2
        have hid : ids2 = ids := ids_one _ _ hp2 g8 (fun x => by rw [hi2, g9])
        rw [hid, ← g4] at hE
        exact ‹¬ (strOfNums (encW size ids.length m ids)).toList = (strOfNums xs).toList› (by rw [hE])⟩⟩
    · refine Fn.ret2 HF rfl rfl rfl ?_
      have heq : encW size ids.length m ids = xs := str_inj _ _ hbE hx ‹(strOfNums (encW size ids.length m ids)).toList = (strOfNums xs).toList›
      exact ⟨F6.then H.fr, .inl ⟨b15, size, ids, m, ys, rfl, hW6.ext H.fr, by rw [hPR, g4], h8, g9, g8, heq, hbd, g6, g7, by omega, g10, g3.rdn.ext H.fr⟩⟩
end Go.Proofs.Ytaneenahapdabaa

namespace Go.Proofs.Ytaneenahapdabaa
open Go
theorem run_eql_mapNil {P : Program} (w : World) (t k e : TypeId) (p : Option Nat) (h : P.underlying t = some (.map k e)) : (Op.equal t (.map p) (.map none)).run P w = .ok p.isNone w := by
  show (Op.equalIn (9999 + 1) t (.map p) (.map none)).run P w = _
  generalize 9999 = m
  cases p <;> simp [Op.equalIn, run_underlying h]
theorem run_mapClone {P : Program} {w : World} {r : Nat} {es : Array MapEntry} {clock : Nat} (t : TypeId) (hb : w.heap[r]? = some (.map es clock)) :
    (Extern.MapsClone.clone #[.iface t (.map (some r))]).run P w = .ok (.iface t (.map (some w.heap.size))) (w.alloc (.map es clock)) := by
  have e : Extern.MapsClone.clone #[.iface t (.map (some r))] = (getObj r >>= fun o => match o with
      | .map entries clock => (newObj (.map entries clock) >>= fun n => pure (.iface t (.map (some n))))
      | _ => stuck "maps.clone: a map expected") := rfl
  rw [e]
  simp [run_getMap hb, Result.andThen, go_sem]
section
variable {E : Env} {n : Nat} {L : Sl} {w w0 : World} {G : List Ent} {d T : Nat} {pos : String} {e : Array Edge} {g : Option (Nat × Bool)} {x y : Operand} {QQ : Exit → Act → World → Prop} {Z : Sl → World → Prop}
theorem X.mapNil {t t' k el : Nat} {ti : TyI} {p : Option Nat} (hx : ev L x = some (.map p)) (hy : ev L y = some (.map none)) (ht : nth E.T t = some (some ti)) (hd : ti.d = .map k el) :
    PureOp E n L G ⟨some d, .binOp .eql t x y t', T, pos, e, g⟩ (.bool p.isNone) := by
  obtain ⟨hg, _⟩ := E.ok t ti ht
  rw [hd] at hg
  have hg : E.P.underlying t = some (.map k el) := hg
  intro w hG a hs
  have he := run_eql_mapNil (P := E.P) w t k el p hg
  simp [execOp, hs.eval hx, hs.eval hy, eqGuard, binOp, he]
theorem X.mkIfaceM {t k el : Nat} {ti : TyI} {p : Option Nat} (hx : ev L x = some (.map p)) (ht : nth E.T t = some (some ti)) (hd : ti.d = .map k el) : PureOp E n L G ⟨some d, .makeInterface t x, T, pos, e, g⟩ (.iface t (.map p)) := by
  obtain ⟨hg, _⟩ := E.ok t ti ht
  rw [hd] at hg
  have hg : E.P.underlying t = some (.map k el) := hg
  intro w hG a hs
  simp [execOp, hs.eval hx, Instr.makeInterface, run_underlying hg]
theorem run_assertMap {P : Program} {w : World} {t xT k el : TypeId} {v : Value} (h : P.underlying t = some (.map k el)) : (Instr.typeAssert (.iface t v) xT t false).run P w = .ok v w := by
  simp [Instr.typeAssert, run_underlying h, go_sem, Result.andThen]
theorem X.asMap {t t' k el : Nat} {ti : TyI} {v : Value} (hx : ev L x = some (.iface t v)) (ht : nth E.T t = some (some ti)) (hd : ti.d = .map k el) : PureOp E n L G ⟨some d, .typeAssert x t' t false, T, pos, e, g⟩ v := by
  obtain ⟨hg, _⟩ := E.ok t ti ht
  rw [hd] at hg
  intro w hG a hs
  have h := run_assertMap (P := E.P) (w := w) (xT := t') (v := v) hg
  simp [execOp, hs.eval hx, h]
theorem Y.lib {fo : Operand} {gi : FuncId} {args : List Operand} {ts : Array Nat} {v1 v2 vs al : List Value} {fn : Func} {ex : Array Value → Sem Value} {r : Value} {w' : World} (hf : ev L fo = some (.func (.func gi) v1.toArray v2.toArray)) (ha : evs L args = some vs) (hq : al = v1 ++ vs ++ v2)
    (h1 : E.P.funcs[gi]? = some fn) (h2 : (fn.name == "runtime.NumGoroutine") = false) (h3 : fn.body.isNone = true) (h4 : Extern.findNext fn = none) (h5 : Extern.find fn = some ex) (h6 : (ex al.toArray).run E.P w = .ok r w') (hn : Nat.blt d n = true) (next : Z ((d, r) :: L) w') :
    StepZ E QQ n ⟨some d, .call { callee := .value fo, args := args.toArray, argTypes := ts }, T, pos, e, g⟩ Z L w := by
  subst hq
  refine StepZ.val rfl hn (fun a hs => ?_) next
  have := run_callFunc_extern (P := E.P) h1 h2 h3 h4 h5 (v1 ++ vs ++ v2).toArray w
  rw [h6] at this
  simp only [Result.andThen] at this
  simp [execOp, resolve, hs.eval hf, Deferred.ofValue, invoke, hs.evals ha] at this ⊢
  simpa using this
end
set_option maxRecDepth 20000
set_option maxHeartbeats 2000000
attribute [local irreducible] Run Ops Fn Draw Draw2 PureOp StepZ

/-- How many numbers a client keeps. -/
def lenOf (W : WS) (x : Int) : Nat := ((st W x).map (fun s => s.seqs.length)).getD 0
theorem wlen_any (z : World) (W : WS) (h : Wn z W) (hN : W.N ≤ 1024) :
    Fn env.P 34 [.pointer (some ⟨W.wb, 0, none⟩)] z fun v w' => Fr z w' [] ∧ ∃ ks : List Int, ks.Nodup ∧ (∀ x, x ∈ ks ↔ (W.m x).isSome = true) ∧ v = .int .i64 ((ks.map (lenOf W)).sum : Nat) := by
  obtain ⟨es, k, f, h2, h3, h4, h5⟩ := h.mp
  have h1 := h.at_
  have hstp := h.stp es k h2
  have hne : W.wb ≠ W.mb := fun e => by rw [e, h2] at h1; cases h1
  have hg : ∀ e ∈ es.toList, ∃ x c, e.key = .int .u64 x ∧ W.m x = some c ∧ e.val = .pointer (some ⟨c.cb, 0, none⟩) := by
    intro e he
    obtain ⟨i, hi⟩ := List.getElem?_of_mem he
    obtain ⟨x, hk, hf⟩ := h3.key i e (by simpa using hi)
    rw [h5] at hf
    cases hm : W.m x with
    | none => rw [hm] at hf; cases hf
    | some c => rw [hm] at hf; exact ⟨x, c, hk, hm, by simpa using hf.symm⟩
  obtain ⟨F, hF⟩ : ∃ F : MapEntry → Nat, F = fun e => lenOf W (kI e.key) := ⟨_, rfl⟩
  have hFle : ∀ e ∈ es.toList, F e ≤ 64 := by
    intro e he
    obtain ⟨x, c, hk, hm, _⟩ := hg e he
    have := h.len x c hm
    rw [hF]
    simp [hk, kI, lenOf, st, hm]
    exact this
  have hsum : (es.toList.map F).sum ≤ 64 * es.toList.length := by
    clear hF hg
    generalize es.toList = l at hFle
    induction l with
    | nil => simp
    | cons x l ih =>
      have := hFle x (by simp)
      have := ih (fun e he => hFle e (by simp [he]))
      simp only [List.map_cons, List.sum_cons, List.length_cons]
      omega
  have hsz : es.toList.length ≤ 1024 := by simp; omega
  have H := ((Holds.start z []).add false h2 (by simp) (by simp)).add false h1 (by simpa using hne) (by simp)
  have HF := Try.func34; refine Fn.enter Try.func34 Try.ntmps34 rfl rfl rfl ?_
  (refine Run.seq (Run.region ?_); intro K hK)
  refine Ops.pure H (X.assign rfl) rfl rfl rfl ?_
  (refine Ops.nil (hK _ _ (Run.seq (Run.region ?_))); clear hK K; intro K hK)
  refine Ops.pure H (X.assign rfl) rfl rfl rfl ?_
  (refine Ops.nil (hK _ _ ?_); clear hK K)
  refine Run.seq ?_
  (refine Run.seq (Run.region ?_); intro K hK)
  refine Ops.pure H (X.move rfl) rfl rfl rfl ?_
  refine Ops.pure H (X.nilCheck rfl) rfl rfl rfl ?_
  refine Ops.pure H (X.fieldAddr rfl rfl rfl rfl rfl rfl) rfl rfl rfl ?_
  refine Ops.pure H (X.load1 rfl rfl rfl rfl Pick.head rfl) rfl rfl rfl ?_
  refine Ops.eff rfl (Y.range rfl rfl rfl (H.pick (.tail .head)) H rfl ?_)
  intro it w H hit
  (refine Ops.nil (hK _ _ ?_); clear hK K)
  refine Run.block ?_
  refine Run.rounds (fun (s : Array Nat) => [(3, .int .i64 (seenS F es.toList s : Nat)), (10, .pointer (some ⟨it, 0, none⟩))]) (fun s w' => ∃ c0, k ≤ c0 ∧ Holds z [] w' [⟨it, .mapIter (some W.mb) k s c0, true⟩, ⟨W.wb, row [.int .i64 W.size, .map (some W.mb)] 57, false⟩, ⟨W.mb, .map es k, false⟩]) (fun s => (leftOf es s).size) #[] (by rw [seenS_none]; exact (by repeat (first | exact trivial | refine ⟨rfl, ?_⟩))) ⟨k, Nat.le_refl _, H⟩ ?_
  clear H
  rintro s w1 ⟨c0, hc0, H⟩ IH
  (refine Run.seq (Run.region ?_); intro K hK)
  refine Ops.eff rfl (Y.next H .head (H.pick (.tail (.tail .head))) hstp.1 hc0 rfl rfl (fun h0 => ?_) (fun e he w2 H2 => ?_))
  · refine Ops.pure H (X.extract rfl rfl) rfl rfl rfl ?_
    (refine Ops.nil (hK _ _ ?_); clear hK K)
    refine Run.seq ?_
    refine Run.cond_false rfl ?_
    refine Run.exit rfl ?_
    (refine Run.seq (Run.region ?_); intro K hK)
    refine Ops.pure H (X.move rfl) rfl rfl rfl ?_
    refine Ops.pure H (X.assign rfl) rfl rfl rfl ?_
    (refine Ops.nil (hK _ _ ?_); clear hK K)
    refine Fn.ret1 HF rfl rfl ?_
    refine ⟨H.fr, es.toList.map fun e => kI e.key, ?_, fun x => ?_, ?_⟩
    · rw [List.nodup_iff_pairwise_ne, List.pairwise_map]
      have h6 := hstp.2.2
      rw [List.nodup_iff_pairwise_ne, List.pairwise_map] at h6
      refine h6.imp_of_mem fun {a b} ha hb hab hh => hab ?_
      obtain ⟨x, _, hk, _⟩ := hg a ha
      obtain ⟨y, _, hk', _⟩ := hg b hb
      rw [hk, hk'] at hh ⊢
      simp only [kI] at hh
      rw [hh]
    · rw [List.mem_map]
      constructor
      · rintro ⟨e, he, rfl⟩
        obtain ⟨x, c, hk, hm, _⟩ := hg e he
        rw [hk]
        simp only [kI]
        rw [hm]
        rfl
      · intro hx
        obtain ⟨c, hc⟩ := Option.isSome_iff_exists.1 hx
        obtain ⟨i, e, h6, h7, _⟩ := h3.has x (.pointer (some ⟨c.cb, 0, none⟩)) (by rw [h5, hc]; rfl)
        exact ⟨e, by simpa using List.mem_of_getElem? (by simpa using h6 : es.toList[i]? = some e), by rw [h7]; rfl⟩
    · rw [seenS_all F es s h0, List.map_map, hF]
      rfl
  · clear H
    have H := H2
    obtain ⟨hm1, hm2⟩ := mem_left he
    obtain ⟨x, c, hk, hm, hv⟩ := hg e hm1
    obtain ⟨⟨v, a1, a2⟩, _⟩ := h.cl x c hm
    obtain ⟨sa, scap, _, _, rfl, _⟩ := a2
    have hpush := seenS_push F s e hm2 es.toList hstp.2.1 hm1
    have hle := seenS_le F (s.push e.born) es.toList
    have hFe : F e = c.s.seqs.length := by rw [hF]; simp [hk, kI, lenOf, st, hm]
    have hcb := H.fr.get a1 (by simp)
    have hnit : c.cb < z.heap.size := lt_of_at a1
    have H := H.add false hcb (by
      simp
      refine ⟨by omega, ne_of_ty a1 h1 (by decide), fun e => ?_⟩
      rw [e, h2] at a1
      cases a1) (by simp)
    refine Ops.pure H (X.extract rfl rfl) rfl rfl rfl ?_
    (refine Ops.nil (hK _ _ ?_); clear hK K)
    refine Run.seq ?_
    refine Run.cond_true rfl ?_
    refine Run.skip ?_
    refine Run.block ?_
    (refine Run.seq (Run.region ?_); intro K hK)
    refine Ops.pure H (X.entry rfl (.tail .head) (.tail (.tail (.tail .head))) hm1 hstp) rfl rfl rfl ?_
    rw [hk, hv]
    refine Ops.pure H (X.extract rfl rfl) rfl rfl rfl ?_
    refine Ops.pure H (X.assign rfl) rfl rfl rfl ?_
    (refine Ops.nil (hK _ _ ?_); clear hK K)
    (refine Run.region ?_; intro K hK)
    refine Ops.pure H (X.move rfl) rfl rfl rfl ?_
    refine Ops.pure H (X.move rfl) rfl rfl rfl ?_
    refine Ops.pure H (X.nilCheck rfl) rfl rfl rfl ?_
    refine Ops.pure H (X.fieldAddr rfl rfl rfl rfl rfl rfl) rfl rfl rfl ?_
    refine Ops.pure H (X.load1 rfl rfl rfl rfl Pick.head rfl) rfl rfl rfl ?_
    refine Ops.pure H (X.len_slice rfl rfl rfl) rfl rfl rfl ?_
    refine Ops.pure H (X.addN rfl rfl rfl rfl (IntWalk.i64_in _ (by omega))) rfl rfl rfl ?_
    refine Ops.pure H (X.assign rfl) rfl rfl rfl ?_
    (refine Ops.nil (hK _ _ ?_); clear hK K)
    refine Run.inBlock ?_
    refine (IH (s.push e.born) _ (left_shrinks es s e he) ⟨k, Nat.le_refl _, H.tail⟩).weak ?_
    rw [hpush, hFe]
    exact (by repeat (first | exact trivial | refine ⟨rfl, ?_⟩))
theorem clients_any (z : World) (W : WS) (h : Wn z W) (hN : W.N ≤ 1024) : Fn env.P 33 [.pointer (some ⟨W.wb, 0, none⟩)] z fun v w' => ∃ ys : List Int, (∀ x, x ∈ ys ↔ (W.m x).isSome = true) ∧ ys.Pairwise (· < ·) ∧ ys.length = W.N ∧ Ks z.heap.size w' v ys ∧ Fr z w' [] := by
  have H := Holds.start z []
  have HF := Try.func33; refine Fn.enter Try.func33 Try.ntmps33 rfl rfl rfl ?_
  (refine Run.seq (Run.region ?_); intro K hK)
  refine Ops.pure H (X.assign rfl) rfl rfl rfl ?_
  (refine Ops.nil (hK _ _ (Run.seq (Run.region ?_))); clear hK K; intro K hK)
  refine Ops.pure H (X.move rfl) rfl rfl rfl ?_
  refine Ops.eff rfl (Y.call rfl rfl (by first | assumption | decide +kernel) rfl (known_any _ W (h.ext H.fr) (by omega)) rfl ?_)
  rintro v w1 ⟨ys, y1, y2, y3, y4, hf⟩
  have hz := H.fr.size
  replace H := H.ext hf
  have F1 := H.fr
  clear H
  have H := Holds.start w1 []
  refine Ops.pure H (X.assign rfl) rfl rfl rfl ?_
  (refine Ops.nil (hK _ _ ?_); clear hK K)
  refine Fn.ret1 HF rfl rfl ?_
  exact ⟨ys, y1, y2, y3, (y4.low hz).ext H.fr, F1.then H.fr⟩
theorem clone64_any (z : World) (v : Value) (sb : Nat) (xs : List Int) (h : Sq z v sb xs) (hl : xs.length ≤ 4096) (hp : 0 < xs.length) :
    Fn env.P 46 [v] z fun r w' => ∃ sb', Sq w' r sb' xs ∧ z.heap.size ≤ sb' ∧ (∃ ds, w'.heap[sb']? = some (row ds 28)) ∧ Fr z w' [] := by
  obtain ⟨a, cap, off, cs, rfl, hc1, hc2, hac⟩ := h
  rcases hac with ⟨rfl, rfl⟩ | ⟨rfl, hb, hfit, hC⟩
  · omega
  have H := (Holds.start z []).add false hb (by simp) (by simp)
  have HF := Try.func46; refine Fn.enter Try.func46 Try.ntmps46 rfl rfl rfl ?_
  (refine Run.seq (Run.region ?_); intro K hK)
  refine Ops.pure H (X.assign rfl) rfl rfl rfl ?_
  (refine Ops.nil (hK _ _ ?_); clear hK K)
  refine Run.seq ?_
  (refine Run.seq (Run.region ?_); intro K hK)
  refine Ops.pure H (X.move rfl) rfl rfl rfl ?_
  refine Ops.pure H (X.sliceNil rfl rfl rfl rfl rfl) rfl rfl rfl ?_
  (refine Ops.nil (hK _ _ ?_); clear hK K)
  refine Run.cond_false rfl ?_
  refine Run.skip ?_
  (refine Run.seq (Run.region ?_); intro K hK)
  (refine Ops.eff rfl (Y.buildSliceO rfl rfl rfl rfl rfl rfl rfl rfl H ?_); intro b5 w H0 hb5; clear H; have H := H0; clear H0)
  refine Ops.pure H (X.move rfl) rfl rfl rfl ?_
  refine Ops.eff rfl (Y.appendOwnC (w0 := z) (S := []) (sz := 1) (b := b5) (cap := 0) (cs := []) (olds := []) (news := u64s xs) (Nat.le_refl _) (by omega) hb5 (H.pick (b := b5) (by repeat (first | exact .head | apply Pick.tail))) rfl .nil rfl rfl rfl rfl rfl rfl H.fr (by simp) (Src.row H (.tail .head) hC) rfl (u64s_one xs) (by dsimp only; omega) (by omega) rfl ?_)
  intro b4 cap4 cs4 wC FCC uC _ _ hcap4 hcm4 hb4z hb4 hcl4 hC4
  rw [Nat.zero_add] at hcap4
  rw [Nat.zero_add xs.length] at hC4 ⊢
  rw [List.nil_append] at hC4
  clear H
  have H := (Holds.start wC []).add false hb4 (by simp) (by simp)
  refine Ops.pure H (X.assign rfl) rfl rfl rfl ?_
  (refine Ops.nil (hK _ _ ?_); clear hK K)
  refine Fn.ret1 HF rfl rfl ?_
  have hq := H.pick (b := b4) (by repeat (first | exact .head | apply Pick.tail))
  exact ⟨b4, ⟨_, cap4, 0, cs4, rfl, hcap4, hcm4, .inr ⟨rfl, hq, by omega, by simpa using hC4⟩⟩, hb4z, ⟨_, hq⟩, FCC.then H.fr⟩
theorem mapclone_any (z : World) (mb c : Nat) (es : Array MapEntry) (hb : z.heap[mb]? = some (.map es c)) : Fn env.P 47 [.map (some mb)] z fun v w' => ∃ mb', v = .map (some mb') ∧ w'.heap[mb']? = some (.map es c) ∧ z.heap.size ≤ mb' ∧ Fr z w' [] := by
  have H := Holds.start z []
  have HF := Try.func47; refine Fn.enter Try.func47 Try.ntmps47 rfl rfl rfl ?_
  (refine Run.seq (Run.region ?_); intro K hK)
  refine Ops.pure H (X.assign rfl) rfl rfl rfl ?_
  (refine Ops.nil (hK _ _ ?_); clear hK K)
  refine Run.seq ?_
  (refine Run.seq (Run.region ?_); intro K hK)
  refine Ops.pure H (X.move rfl) rfl rfl rfl ?_
  refine Ops.pure H (X.mapNil rfl rfl rfl rfl) rfl rfl rfl ?_
  (refine Ops.nil (hK _ _ ?_); clear hK K)
  refine Run.cond_false rfl ?_
  refine Run.skip ?_
  (refine Run.seq (Run.region ?_); intro K hK)
  refine Ops.pure H (X.move rfl) rfl rfl rfl ?_
  refine Ops.pure H (X.mkIfaceM rfl rfl rfl) rfl rfl rfl ?_
  skip
  refine Ops.eff rfl (Y.lib (fn := Try.f57) (ex := Extern.MapsClone.clone) rfl rfl rfl Try.func57 (by kernel_rfl) (by kernel_rfl) (by kernel_rfl) (by kernel_rfl) (run_mapClone 58 (H.fr.get hb (by simp))) rfl ?_)
  have hsz := H.fr.size
  obtain ⟨wa, hwa⟩ : ∃ wa, wa = z.alloc (.map es c) := ⟨_, rfl⟩
  have H2 := H.alloc (.map es c) true
  obtain ⟨nb, hnb⟩ : ∃ nb, nb = z.heap.size := ⟨_, rfl⟩
  rw [← hwa] at H2 ⊢
  rw [← hnb] at H2 ⊢
  clear H
  have H := H2
  skip
  refine Ops.pure H (X.asMap rfl rfl rfl) rfl rfl rfl ?_
  refine Ops.pure H (X.assign rfl) rfl rfl rfl ?_
  (refine Ops.nil (hK _ _ ?_); clear hK K)
  refine Fn.ret1 HF rfl rfl ?_
  exact ⟨nb, rfl, H.pick .head, by omega, H.fr⟩
end Go.Proofs.Ytaneenahapdabaa

namespace Go.Proofs.Ytaneenahapdabaa
open Go
set_option maxRecDepth 20000
set_option maxHeartbeats 2000000
attribute [local irreducible] Run Ops Fn Draw Draw2 PureOp StepZ

/-- Has this client been met? -/
def Met (es : Array MapEntry) (s : Array Nat) (x : Int) : Prop := ∃ e ∈ es.toList, e.key = .int .u64 x ∧ s.contains e.born = true
theorem Met.none (es : Array MapEntry) (x : Int) : ¬ Met es #[] x := by
  rintro ⟨e, _, _, h⟩
  simp at h
theorem Met.push {es : Array MapEntry} {s : Array Nat} {e : MapEntry} {x : Int} (he : e ∈ es.toList) (hk : e.key = .int .u64 x) (y : Int) (hn : (es.toList.map (·.born)).Nodup) (hkn : (es.toList.map (·.key)).Nodup) : Met es (s.push e.born) y ↔ Met es s y ∨ y = x := by
  constructor
  · rintro ⟨e', h1, h2, h3⟩
    rw [contains_push] at h3
    rcases Bool.or_eq_true _ _ ▸ h3 with h3 | h3
    · exact .inl ⟨e', h1, h2, h3⟩
    · have := nd_born hn h1 he (by simpa using h3)
      rw [this, hk] at h2
      cases h2
      exact .inr rfl
  · rintro (⟨e', h1, h2, h3⟩ | rfl)
    · exact ⟨e', h1, h2, by rw [contains_push, h3]; rfl⟩
    · exact ⟨e, he, hk, by rw [contains_push]; simp⟩
theorem nd_key {l : List MapEntry} (h : (l.map (·.key)).Nodup) {x y : MapEntry} (hx : x ∈ l) (hy : y ∈ l) (e : x.key = y.key) : x = y := by
  induction l with
  | nil => simp at hx
  | cons a l ih =>
    simp only [List.map_cons, List.nodup_cons, List.mem_map, not_exists, not_and] at h
    rcases List.mem_cons.1 hx with h1 | h1 <;> rcases List.mem_cons.1 hy with h2 | h2
    · rw [h1, h2]
    · exact absurd (by rw [← e, h1]) (h.1 _ h2)
    · exact absurd (by rw [e, h2]) (h.1 _ h1)
    · exact ih h.2 h1 h2
theorem wclone_any (z : World) (W : WS) (h : Wn z W) (hN : W.N ≤ 1024) (hl : ∀ x c, W.m x = some c → 1 ≤ c.s.seqs.length) :
    Fn env.P 30 [.pointer (some ⟨W.wb, 0, none⟩)] z fun v w' => ∃ Q : WS, v = .pointer (some ⟨Q.wb, 0, none⟩) ∧ Wn w' Q ∧ st Q = st W ∧ Q.N = W.N ∧ Q.size = W.size ∧ (∀ b, Foot Q b → z.heap.size ≤ b) ∧ Fr z w' [] := by
  obtain ⟨es, k, f, h2, h3, h4, h5⟩ := h.mp
  have h1 := h.at_
  have hstp := h.stp es k h2
  have hne : W.wb ≠ W.mb := fun e => by rw [e, h2] at h1; cases h1
  have hg : ∀ e ∈ es.toList, ∃ x c, e.key = .int .u64 x ∧ W.m x = some c ∧ e.val = .pointer (some ⟨c.cb, 0, none⟩) := by
    intro e he
    obtain ⟨i, hi⟩ := List.getElem?_of_mem he
    obtain ⟨x, hk, hf⟩ := h3.key i e (by simpa using hi)
    rw [h5] at hf
    cases hm : W.m x with
    | none => rw [hm] at hf; cases hf
    | some c => rw [hm] at hf; exact ⟨x, c, hk, hm, by simpa using hf.symm⟩
  have H := (Holds.start z []).add false h1 (by simp) (by simp)
  have HF := Try.func30; refine Fn.enter Try.func30 Try.ntmps30 rfl rfl rfl ?_
  (refine Run.seq (Run.region ?_); intro K hK)
  refine Ops.pure H (X.assign rfl) rfl rfl rfl ?_
  (refine Ops.nil (hK _ _ (Run.seq (Run.region ?_))); clear hK K; intro K hK)
  refine Ops.pure H (X.move rfl) rfl rfl rfl ?_
  refine Ops.pure H (X.nilCheck rfl) rfl rfl rfl ?_
  refine Ops.pure H (X.fieldAddr rfl rfl rfl rfl rfl rfl) rfl rfl rfl ?_
  refine Ops.pure H (X.load1 rfl rfl rfl rfl Pick.head rfl) rfl rfl rfl ?_
  refine Ops.eff rfl (Y.call rfl rfl (by first | assumption | decide +kernel) rfl (begun_any _ W.size) rfl ?_)
  rintro v w1 ⟨xb, xmb, rfl, hX1, hf1, hxb, hxmb⟩
  have F1 := H.fr.then hf1
  have hz0 := H.fr.size
  have hw1 := F1.get h1 (by simp)
  have hm1 := F1.get h2 (by simp)
  clear H
  have H := ((Holds.start w1 []).add false hm1 (by simp) (by simp)).add false hw1 (by simpa using hne) (by simp)
  refine Ops.pure H (X.assign rfl) rfl rfl rfl ?_
  (refine Ops.nil (hK _ _ ?_); clear hK K)
  refine Run.seq ?_
  (refine Run.seq (Run.region ?_); intro K hK)
  refine Ops.pure H (X.move rfl) rfl rfl rfl ?_
  refine Ops.pure H (X.nilCheck rfl) rfl rfl rfl ?_
  refine Ops.pure H (X.fieldAddr rfl rfl rfl rfl rfl rfl) rfl rfl rfl ?_
  refine Ops.pure H (X.load1 rfl rfl rfl rfl Pick.head rfl) rfl rfl rfl ?_
  refine Ops.eff rfl (Y.range rfl rfl rfl (H.pick (.tail .head)) H rfl ?_)
  intro it w H hit
  (refine Ops.nil (hK _ _ ?_); clear hK K)
  refine Run.block ?_
  refine Run.rounds (fun (x : Array Nat × WS) => [(3, .pointer (some ⟨xb, 0, none⟩)), (15, .pointer (some ⟨it, 0, none⟩))])
    (fun x w' => Fr z w' [] ∧ (∃ c0, k ≤ c0 ∧ w'.heap[it]? = some (.mapIter (some W.mb) k x.1 c0)) ∧ Wn w' x.2 ∧ x.2.wb = xb ∧ x.2.mb = xmb ∧ x.2.size = W.size ∧ (∀ b, Foot x.2 b → z.heap.size ≤ b) ∧ (∀ y, (Met es x.1 y → st x.2 y = st W y) ∧ (¬ Met es x.1 y → x.2.m y = none)) ∧ x.2.N = seenS (fun _ => 1) es.toList x.1) (fun x => (leftOf es x.1).size) (#[], ⟨xb, xmb, W.size, 0, fun _ => none⟩) (by repeat (first | exact trivial | refine ⟨rfl, ?_⟩)) ?_ ?_
  · refine ⟨F1.then H.fr, ⟨k, Nat.le_refl _, H.pick .head⟩, hX1.ext H.fr, rfl, rfl, rfl, ?_, fun y => ⟨fun hh => absurd hh (Met.none es y), fun _ => rfl⟩, by rw [seenS_none]⟩
    rintro b (rfl | rfl | ⟨x, c, hx, _⟩)
    · omega
    · omega
    · cases hx
  have hitz : z.heap.size ≤ it := by have := F1.size; omega
  clear H hX1
  rintro ⟨s, Q⟩ w2 ⟨F2, ⟨c0, hc0, hit2⟩, hX2, e1, e2, e3, hft, hmet, hcnt⟩ IH
  dsimp only at hit2 hX2 e1 e2 e3 hft hmet hcnt IH ⊢
  have hm2 := F2.get h2 (by simp)
  have H := ((Holds.start w2 [it]).add false hm2 (by simp) (by simp)).add true hit2 (by simp; have := lt_of_at h2; omega) (by simp)
  (refine Run.seq (Run.region ?_); intro K hK)
  refine Ops.eff rfl (Y.next H .head hm2 hstp.1 hc0 rfl rfl (fun h0 => ?_) (fun e he w3 H3 => ?_))
  · refine Ops.pure H (X.extract rfl rfl) rfl rfl rfl ?_
    (refine Ops.nil (hK _ _ ?_); clear hK K)
    refine Run.seq ?_
    refine Run.cond_false rfl ?_
    refine Run.exit rfl ?_
    (refine Run.seq (Run.region ?_); intro K hK)
    refine Ops.pure H (X.move rfl) rfl rfl rfl ?_
    refine Ops.pure H (X.assign rfl) rfl rfl rfl ?_
    (refine Ops.nil (hK _ _ ?_); clear hK K)
    refine Fn.ret1 HF rfl rfl ?_
    have hFw : Fr w2 _ [it] := H.fr
    have hnf : ¬ Foot Q it := fun hF => by
      rcases hX2.foot hF with ⟨_, _, h⟩ | ⟨_, h⟩ | ⟨_, h⟩ | ⟨_, h⟩ <;> rw [hit2] at h <;> cases h
    have hni5 : No5 w2 it := fun ds fz hd => by rw [hit2] at hd; cases hd
    have hall : ∀ e ∈ es.toList, s.contains e.born = true := fun e he => by
      have h2 : leftOf es s = #[] := Array.eq_empty_of_size_eq_zero h0
      unfold leftOf at h2
      rw [Array.filter_eq_empty_iff] at h2
      have h3 := h2 e (Array.mem_toList_iff.1 he)
      cases hc : s.contains e.born with
      | true => rfl
      | false => rw [hc] at h3; exact absurd rfl h3
    refine ⟨Q, by rw [e1], hX2.keepS hFw (by simpa using hnf) (by simpa using hni5), funext fun y => ?_, ?_, e3, hft, F2.trans H.fr (U := []) (by simp) (fun x hx hl => by simp at hx; omega)⟩
    · cases hy : W.m y with
      | some c =>
        obtain ⟨i, e, h6, h7, _⟩ := h3.has y (.pointer (some ⟨c.cb, 0, none⟩)) (by rw [h5, hy]; rfl)
        have he : e ∈ es.toList := by simpa using List.mem_of_getElem? (by simpa using h6 : es.toList[i]? = some e)
        exact (hmet y).1 ⟨e, he, h7, hall e he⟩
      | none =>
        have hno : ¬ Met es s y := by
          rintro ⟨e, he, hk, _⟩
          obtain ⟨x, c, hk', hm, _⟩ := hg e he
          rw [hk] at hk'
          cases hk'
          rw [hy] at hm
          cases hm
        simp [st, (hmet y).2 hno, hy]
    · rw [hcnt, seenS_all _ es s h0, ← h4]
      have : ∀ l : List MapEntry, (l.map fun _ => 1).sum = l.length := fun l => by
        induction l with
        | nil => rfl
        | cons x l ih => rw [List.map_cons, List.sum_cons, ih, List.length_cons]; omega
      rw [this]
      exact Array.length_toList
  · clear H
    have H := H3
    clear H3
    obtain ⟨hm1', hm2'⟩ := mem_left he
    obtain ⟨x, c, hk, hm, hv⟩ := hg e hm1'
    have hpush := seenS_push (fun _ => 1) s e hm2' es.toList hstp.2.1 hm1'
    obtain ⟨⟨sv, a1, a2⟩, ces, ck, cf, a3, a4, a5⟩ := h.cl x c hm
    have hlen := h.len x c hm
    have hone := hl x c hm
    have hnf : ¬ Foot Q it := fun hF => by
      rcases hX2.foot hF with ⟨_, _, h⟩ | ⟨_, h⟩ | ⟨_, h⟩ | ⟨_, h⟩ <;> rw [hit2] at h <;> cases h
    have hni5 : No5 w2 it := fun ds fz hd => by rw [hit2] at hd; cases hd
    refine Ops.pure H (X.extract rfl rfl) rfl rfl rfl ?_
    (refine Ops.nil (hK _ _ ?_); clear hK K)
    refine Run.seq ?_
    refine Run.cond_true rfl ?_
    refine Run.skip ?_
    refine Run.block ?_
    (refine Run.seq (Run.region ?_); intro K hK)
    refine Ops.pure H (X.entry rfl .head (.tail .head) hm1' hstp) rfl rfl rfl ?_
    rw [hk, hv]
    refine Ops.pure H (X.extract rfl rfl) rfl rfl rfl ?_
    refine Ops.pure H (X.extract rfl rfl) rfl rfl rfl ?_
    refine Ops.pure H (X.assign rfl) rfl rfl rfl ?_
    refine Ops.pure H (X.assign rfl) rfl rfl rfl ?_
    (refine Ops.nil (hK _ _ ?_); clear hK K)
    have F23 : Fr w2 _ [it] := H.fr
    have hX3 := hX2.keepS F23 (by simpa using hnf) (by simpa using hni5)
    have F3 := F2.trans F23 (U := []) (by simp) (fun x hx hl => by simp at hx; omega)
    have hit3 := H.pick (b := it) (by repeat (first | exact .head | apply Pick.tail))
    clear H
    rename World => w4
    have a14 := F3.get a1 (by simp)
    have a34 := F3.get a3 (by simp)
    have hxa := hX3.at_
    obtain ⟨xes, xk, xf, m1, m2, m3, m4⟩ := hX3.mp
    have hxst := hX3.stp xes xk m1
    rw [e1, e2, e3] at hxa
    rw [e2] at m1
    have d1 : c.cb ≠ xb := ne_of_ty a14 hxa (by decide)
    have d2 : xmb ≠ xb := fun e => by rw [e, hxa] at m1; cases m1
    have d3 : xmb ≠ c.cb := fun e => by rw [e, a14] at m1; cases m1
    have H := (((Holds.start w4 [xmb]).add false hxa (by simp) (by simp)).add false a14 (by simpa using d1) (by simp)).add true m1 (by simpa using ⟨d3, d2⟩) (by simp)
    (refine Run.draw H [21] [0, 1, 2, 3, 4, 5, 6, 7, 8, 9, 10, 11, 12, 14, 15, 16, 17, 13, 18, 19, 20, 21] ?_; clear H; intro K hK w H)
    refine Draw.take0 rfl (X.move rfl) rfl rfl rfl (by decide +kernel) ?_
    refine Draw.take0 rfl (X.nilCheck rfl) rfl rfl rfl (by decide +kernel) ?_
    refine Draw.take0 rfl (X.fieldAddr rfl rfl rfl rfl rfl rfl) rfl rfl rfl (by decide +kernel) ?_
    refine Draw.take rfl (X.load1 rfl rfl rfl rfl (.tail (.tail .head)) rfl) rfl rfl rfl (by decide +kernel) ?_
    refine Draw.take0 rfl (X.move rfl) rfl rfl rfl (by decide +kernel) ?_
    refine Draw.take0 rfl (X.move rfl) rfl rfl rfl (by decide +kernel) ?_
    refine Draw.take0 rfl (X.nilCheck rfl) rfl rfl rfl (by decide +kernel) ?_
    refine Draw.take0 rfl (X.fieldAddr rfl rfl rfl rfl rfl rfl) rfl rfl rfl (by decide +kernel) ?_
    refine Draw.take rfl (X.load1 rfl rfl rfl rfl (.tail .head) rfl) rfl rfl rfl (by decide +kernel) ?_
    refine Draw.take0 rfl (X.move rfl) rfl rfl rfl (by decide +kernel) ?_
    refine Draw.take0 rfl (X.nilCheck rfl) rfl rfl rfl (by decide +kernel) ?_
    refine Draw.take0 rfl (X.fieldAddr rfl rfl rfl rfl rfl rfl) rfl rfl rfl (by decide +kernel) ?_
    refine Draw.take rfl (X.load1 rfl rfl rfl rfl (.tail .head) rfl) rfl rfl rfl (by decide +kernel) ?_
    refine Draw.take0 rfl (X.move rfl) rfl rfl rfl (by decide +kernel) ?_
    refine Draw.take0 rfl (X.nilCheck rfl) rfl rfl rfl (by decide +kernel) ?_
    refine Draw.take0 rfl (X.fieldAddr rfl rfl rfl rfl rfl rfl) rfl rfl rfl (by decide +kernel) ?_
    refine Draw.take rfl (X.load1 rfl rfl rfl rfl (.tail .head) rfl) rfl rfl rfl (by decide +kernel) ?_
    refine Draw.eff rfl rfl (by decide +kernel) (Y.call rfl rfl (by first | assumption | decide +kernel) rfl (clone64_any _ sv c.sb c.s.seqs ((a2.ext F3).keep H.fr (fun hm ds hd => by simp at hm; rw [hm, m1] at hd; cases hd)) (by omega) (by omega)) rfl ?_)
    rintro v w5 ⟨sb', hq5, hsbz, hreal5, hf5⟩
    have hz5 := H.fr.size
    have hz52 := hf5.size
    replace H := H.ext hf5
    refine ⟨H.at_, ?_⟩
    skip
    have F5 := H.fr
    have hxmbz := hft xmb (.inr (.inl e2.symm))
    have nabx : c.ab ≠ xmb := by have := lt_of_at a3; omega
    have ha5 := F5.get a34 (by simpa using nabx)
    have hz45 := F5.size
    refine Draw.eff rfl rfl (by decide +kernel) (Y.call rfl rfl (by first | assumption | decide +kernel) rfl (mapclone_any _ c.ab ck ces ha5) rfl ?_)
    rintro v2 w6 ⟨ab', rfl, hab6, habz, hf6⟩
    have hz56 := hf6.size
    have hq6 := hq5.ext hf6
    have hreal6 : ∃ ds, w6.heap[sb']? = some (row ds 28) := hreal5.imp fun ds hd => hf6.get hd (by simp)
    obtain ⟨va, vcap, _, _, rfl, hvr⟩ := hq5
    replace H := H.ext hf6
    refine ⟨H.at_, ?_⟩
    have F46 := H.fr
    have t1 := H.pick (b := xmb) (by repeat (first | exact .head | apply Pick.tail))
    have t2 := H.pick (b := c.cb) (by repeat (first | exact .head | apply Pick.tail))
    have t3 := H.pick (b := xb) (by repeat (first | exact .head | apply Pick.tail))
    clear H
    have H := (((Holds.start w6 [xmb]).add false t3 (by simp) (by simp)).add false t2 (by simpa using d1) (by simp)).add true t1 (by simpa using ⟨d3, d2⟩) (by simp)
    refine Draw.take0 rfl (X.buildO rfl rfl rfl rfl rfl rfl) rfl rfl rfl (by decide +kernel) ?_
    (refine Draw.eff rfl rfl (by decide +kernel) (Y.box rfl rfl rfl H ?_); intro b41 w H0 hb41; clear H; have H := H0; clear H0; refine ⟨fun e he => H.at_ e (by simp only [List.mem_cons, List.not_mem_nil, or_false] at he ⊢; grind), ?_⟩)
    have hmf : xf x = none := by
      have : ¬ Met es s x := by
        rintro ⟨e', h1', h2', h3'⟩
        have := nd_key hstp.2.2 h1' hm1' (by rw [h2', hk])
        rw [this, hm2'] at h3'
        cases h3'
      rw [m4, (hmet x).2 this]
      rfl
    have hQn : Q.m x = none := by
      have := m4 x
      rw [hmf] at this
      cases hq : Q.m x with
      | none => rfl
      | some d => rw [hq] at this; cases this
    refine Draw.last rfl rfl (by decide +kernel) (Y.mapUpdate (i := x) m2 H (.tail .head) rfl rfl rfl rfl rfl rfl rfl ?_)
    intro es2 k2 w7 H7 hM7 hs7 hst7
    clear H
    have H := H7
    clear H7
    have F67 : Fr w6 w7 [xmb] := H.fr
    have F47 : Fr w4 w7 [xmb] := F46.trans F67 (fun _ h => h) (fun x hx _ => hx)
    have hxml := lt_of_at t1
    have nsx : sb' ≠ xmb := by
      obtain ⟨ds, hds⟩ := hreal6
      intro e
      rw [e, t1] at hds
      cases hds
    have nax : ab' ≠ xmb := by have := lt_of_at m1; omega
    have hno : ∀ b ∈ [xmb], No5 w6 b := fun b hb => by
      simp at hb
      subst hb
      exact No5.map t1
    have hB : ∀ b, Foot Q b → b < w4.heap.size := fun b hb => hX3.lt hb
    have hCl : Cl w7 ⟨b41, sb', ab', c.s⟩ := ⟨⟨_, H.pick (b := b41) (by repeat (first | exact .head | apply Pick.tail)), hq6.keep F67 (fun hm => absurd (by simpa using hm) nsx)⟩, ces, ck, cf, F67.get hab6 (by simpa using nax), a4, by
      have h := ((a5.keep F3 (by simp)).keep F46 (fun b hb => by simp at hb; subst hb; exact No5.map m1)).keep F67 hno
      exact h⟩
    have hmm : w7.heap[Q.mb]? = some (.map es2 k2) := by rw [e2]; exact H.pick (b := xmb) (by repeat (first | exact .head | apply Pick.tail))
    have hsz : es2.size = Q.N + 1 := by
      rw [hs7, hmf]
      simp [m3]
    have hX7 : Wn w7 { Q with m := updM Q.m x ⟨b41, sb', ab', c.s⟩, N := Q.N + 1 } := Wn.more2 hX3 hQn (by rw [e2]; exact F47) hCl hB (by dsimp only; omega) (by dsimp only; omega) (by dsimp only; omega) (by
      obtain ⟨ds, hds⟩ := hreal6
      exact ⟨ds, F67.get hds (by simpa using nsx)⟩) hlen hmm hM7 hsz (hst7 hxst) m4 rfl
    have hitx : it ≠ xmb := fun e => by rw [e, m1] at hit3; cases hit3
    (refine Draw2.done (by decide +kernel) (hK _ _ ?_); clear hK K)
    refine Run.inBlock ?_
    have hz34 := F3.size
    refine (IH (s.push e.born, { Q with m := updM Q.m x ⟨b41, sb', ab', c.s⟩, N := Q.N + 1 }) _ (left_shrinks es s e he) ⟨F3.trans F47 (U := []) (by simp) (fun x hx hl => by simp at hx; omega), ⟨k, Nat.le_refl _, F47.get hit3 (by simpa using hitx)⟩, hX7, e1, e2, e3, ?_, fun y => ?_, ?_⟩).weak (by repeat (first | exact trivial | refine ⟨rfl, ?_⟩))
    · rintro b (rfl | rfl | ⟨y, d, hy, hd⟩)
      · exact hft _ (.inl rfl)
      · exact hft _ (.inr (.inl rfl))
      · by_cases hyx : y = x
        · subst hyx
          rw [show ({ Q with m := updM Q.m y ⟨b41, sb', ab', c.s⟩, N := Q.N + 1 } : WS).m y = some ⟨b41, sb', ab', c.s⟩ from updM_self _ _ _] at hy
          cases hy
          simp [footC] at hd
          rcases hd with rfl | rfl | rfl <;> omega
        · rw [show ({ Q with m := updM Q.m x ⟨b41, sb', ab', c.s⟩, N := Q.N + 1 } : WS).m y = Q.m y from updM_ne hyx] at hy
          exact hft _ (.inr (.inr ⟨y, d, hy, hd⟩))
    · dsimp only
      rw [Met.push hm1' hk y hstp.2.1 hstp.2.2]
      by_cases hyx : y = x
      · subst hyx
        refine ⟨fun _ => ?_, fun hn => absurd (.inr rfl) hn⟩
        simp [st, updM, hm]
      · have e : updM Q.m x ⟨b41, sb', ab', c.s⟩ y = Q.m y := updM_ne hyx
        refine ⟨fun hh => ?_, fun hn => ?_⟩
        · have := (hmet y).1 (hh.resolve_right hyx)
          simp only [st] at this ⊢
          rw [e]
          exact this
        · rw [e]
          exact (hmet y).2 (fun hh => hn (.inl hh))
    · dsimp only
      rw [hpush, hcnt]
end Go.Proofs.Ytaneenahapdabaa
