/- Layer 20's bytes, plain: what was written is read again. No program in sight. -/
import Derived.Test.YtaneenahapdabaaSQ
import Derived.Test.YtaneenahapdabaaP8
namespace Go.Proofs.Ytaneenahapdabaa
open Go

theorem beV_foldl (l : List Int) (h : Byt l) : ∀ a : Nat, l.foldl (fun n x => n * 256 + x.toNat) a = a * 256 ^ l.length + beV l := by
  induction l with
  | nil => intro a; simp [beV]
  | cons x l ih =>
    intro a
    have ih' := ih (fun y hy => h y (by simp [hy]))
    have e : beV (x :: l) = (0 * 256 + x.toNat) * 256 ^ l.length + beV l := ih' _
    rw [List.foldl_cons, ih', e, List.length_cons, Nat.pow_succ, Nat.add_mul, Nat.zero_mul, Nat.zero_add, Nat.mul_comm (256 ^ l.length) 256, ← Nat.mul_assoc]
    omega
theorem beV_be (k n : Nat) : beV (beL k n) = n % 256 ^ k := by
  induction k with
  | zero => simp [beL, beV, Nat.mod_one]
  | succ k ih =>
    have e : beV (beL (k + 1) n) = (0 * 256 + (((n / 256 ^ k % 256 : Nat) : Int)).toNat) * 256 ^ (beL k n).length + beV (beL k n) := beV_foldl _ (Byt.be k n) _
    rw [e, ih, beL_len, Nat.zero_mul, Nat.zero_add, Int.toNat_natCast]
    have h1 : n % 256 ^ (k + 1) = 256 ^ k * (n / 256 ^ k % 256) + n % 256 ^ k := by
      rw [Nat.pow_succ, Nat.mod_mul]
      omega
    rw [h1, Nat.mul_comm]
theorem take_be (k n : Nat) (r : List Int) : (beL k n ++ r).take k = beL k n := by
  rw [List.take_append_of_le_length (by rw [beL_len]; exact Nat.le_refl _), List.take_of_length_le (by rw [beL_len]; exact Nat.le_refl _)]
theorem drop_be (k n : Nat) (r : List Int) : (beL k n ++ r).drop k = r := by
  rw [List.drop_append_of_le_length (by rw [beL_len]; exact Nat.le_refl _), List.drop_of_length_le (by rw [beL_len]; exact Nat.le_refl _)]
  rfl
theorem beV8_be (n : Nat) (h : n < 18446744073709551616) : beV (beL 8 n) = n := by rw [beV_be]; exact Nat.mod_eq_of_lt h
theorem beV4_be (n : Nat) (h : n < 4294967296) : beV (beL 4 n) = n := by rw [beV_be]; exact Nat.mod_eq_of_lt h
theorem seqsP_enc (s : CS) (hs : COk s) (r : List Int) : ∀ (l : List Int) (last : Nat) (sq : List Int) (an : Int → Option (List Int)), (∀ x ∈ l, U64 x) → l.Pairwise (· < ·) → (∀ x ∈ l, (last : Int) < x) →
    seqsP l.length last sq an (l.flatMap (encA s) ++ r) = some (sq ++ l, (fun y => if y ∈ l then some ((s.ans y).getD []) else an y), r) := by
  intro l
  induction l with
  | nil => intro last sq an _ _ _; simp [seqsP]
  | cons x l ih =>
    intro last sq an hu hp hl
    have hx := hu x (by simp)
    obtain ⟨n, rfl⟩ : ∃ n : Nat, x = (n : Int) := ⟨x.toNat, by have := hx.1; omega⟩
    have hn : n < 18446744073709551616 := by have := hx.2; omega
    have hln : last < n := by have := hl (n : Int) (by simp); omega
    obtain ⟨a, ha⟩ : ∃ a, a = (s.ans (n : Int)).getD [] := ⟨_, rfl⟩
    have hal : a.length ≤ 65536 := by
      rw [ha]
      cases hx : s.ans (n : Int) with
      | none => simp
      | some a => exact (hs.an _ a hx).2
    have e : ((n : Int) :: l).flatMap (encA s) ++ r = beL 8 n ++ (beL 4 a.length ++ (a ++ (l.flatMap (encA s) ++ r))) := by
      rw [List.flatMap_cons, encA, ← ha, Int.toNat_natCast]
      simp only [List.append_assoc]
    rw [List.pairwise_cons] at hp
    rw [e, List.length_cons, seqsP, if_pos (by rw [List.length_append, beL_len]; omega), take_be, drop_be, beV8_be n hn, if_neg (by omega), if_pos (by rw [List.length_append, beL_len]; omega), take_be, drop_be, beV4_be _ (by omega), if_neg (by omega), if_pos (by rw [List.length_append]; omega),
      List.take_left, List.drop_left, ih n _ _ (fun y hy => hu y (by simp [hy])) hp.2 (fun y hy => hp.1 y hy)]
    refine congrArg some (Prod.ext (by simp) (Prod.ext (funext fun y => ?_) rfl))
    dsimp only
    by_cases hy : y ∈ l
    · rw [if_pos hy, if_pos (by simp [hy])]
    · rw [if_neg hy]
      by_cases hyn : y = (n : Int)
      · subst hyn
        rw [if_pos (by simp), updA, if_pos rfl, ha]
      · rw [if_neg (by simp [hy, hyn]), updA, if_neg hyn]
/-- A client as a window keeps it, of so many calls. -/
structure Full (size : Nat) (s : CS) : Prop where
  ok : COk s
  ris : Ris s
  one : 1 ≤ s.seqs.length
  le : s.seqs.length ≤ size
  all : s.floor ≠ 0 → s.seqs.length = size
theorem clientP_enc (size : Nat) (s : CS) (h : Full size s) (hs : size ≤ 64) (id : Nat) (hid : id < 18446744073709551616) (r : List Int) : clientP size (beL 8 id ++ (encS s ++ r)) = some (id, s, r) := by
  obtain ⟨fl, sq, an⟩ := s
  have hf := h.ok.fl
  obtain ⟨n, hn⟩ : ∃ n : Nat, fl = (n : Int) := ⟨fl.toNat, by have := hf.1; dsimp only at this; omega⟩
  subst hn
  have hnl : n < 18446744073709551616 := by have := hf.2; dsimp only at this; omega
  have h1 := h.one
  have h2 := h.le
  have h3 := h.all
  dsimp only at h1 h2 h3
  have e : encS ⟨(n : Int), sq, an⟩ ++ r = beL 8 n ++ (beL 4 sq.length ++ (sq.flatMap (encA ⟨(n : Int), sq, an⟩) ++ r)) := by
    rw [encS]
    simp only [List.append_assoc, Int.toNat_natCast]
  rw [e, clientP, if_pos (by rw [List.length_append, beL_len]; omega), take_be, drop_be, beV8_be id hid, if_pos (by rw [List.length_append, beL_len]; omega), take_be, drop_be, beV8_be n hnl,
    if_pos (by rw [List.length_append, beL_len]; omega), take_be, drop_be, beV4_be _ (by omega), if_neg (by omega), seqsP_enc _ h.ok r sq n [] (fun _ => none) h.ok.sq h.ris.up h.ris.low]
  simp only [Option.map_some, List.nil_append]
  refine congrArg (fun f => some (id, (⟨(n : Int), sq, f⟩ : CS), r)) (funext fun y => ?_)
  have hk := h.ris.kn y
  dsimp only at hk ⊢
  cases hy : an y with
  | none =>
    rw [if_neg (fun hm => by rw [← hk, hy] at hm; cases hm)]
  | some a =>
    rw [if_pos (by rw [← hk, hy]; rfl)]
    rfl
/-- The clients, read. -/
def clientsP (size : Nat) : Nat → Nat → Nat → (Int → Option CS) → List Int → Option ((Int → Option CS) × List Int)
  | 0, _, _, m, xs => some (m, xs)
  | k + 1, i, last, m, xs =>
    match clientP size xs with
    | none => none
    | some (id, s, r) => if 0 < i ∧ id ≤ last then none else clientsP size k (i + 1) id (fun y => if y = (id : Int) then some s else m y) r
theorem clientsP_enc (size : Nat) (hs : size ≤ 64) (m0 : Int → Option CS) (r : List Int) : ∀ (ids : List Int) (i last : Nat) (m : Int → Option CS), (∀ x ∈ ids, U64 x ∧ ∃ s, m0 x = some s ∧ Full size s) → ids.Pairwise (· < ·) → (0 < i → ∀ x ∈ ids, (last : Int) < x) →
    clientsP size ids.length i last m (ids.flatMap (encC m0) ++ r) = some (fun y => if y ∈ ids then m0 y else m y, r) := by
  intro ids
  induction ids with
  | nil => intro i last m _ _ _; simp [clientsP]
  | cons x l ih =>
    intro i last m hu hp hl
    obtain ⟨hx, s, hm, hF⟩ := hu x (by simp)
    obtain ⟨n, rfl⟩ : ∃ n : Nat, x = (n : Int) := ⟨x.toNat, by have := hx.1; omega⟩
    have hn : n < 18446744073709551616 := by have := hx.2; omega
    rw [List.pairwise_cons] at hp
    have e : ((n : Int) :: l).flatMap (encC m0) ++ r = beL 8 n ++ (encS s ++ (l.flatMap (encC m0) ++ r)) := by
      rw [List.flatMap_cons, encC, hm, Int.toNat_natCast]
      simp only [List.append_assoc, Option.getD_some]
    rw [e, List.length_cons, clientsP, clientP_enc size s hF hs n hn]
    dsimp only
    rw [if_neg (fun hc => by have := hl hc.1 (n : Int) (by simp); omega), ih (i + 1) n _ (fun y hy => hu y (by simp [hy])) hp.2 (fun _ y hy => hp.1 y hy)]
    refine congrArg (fun f => some (f, r)) (funext fun y => ?_)
    by_cases hy : y ∈ l
    · rw [if_pos hy, if_pos (by simp [hy])]
    · rw [if_neg hy]
      by_cases hyn : y = (n : Int)
      · subst hyn
        rw [if_pos rfl, if_pos (by simp), hm]
      · rw [if_neg hyn, if_neg (by simp [hy, hyn])]
end Go.Proofs.Ytaneenahapdabaa
