/- Walks of layer 20: the document's reader: take, number. -/
import Derived.Test.YtaneenahapdabaaT6
namespace Go.Proofs.Ytaneenahapdabaa
open Go
set_option maxRecDepth 20000
set_option maxHeartbeats 2000000
attribute [local irreducible] Run Ops Fn Draw Draw2 PureOp StepZ

theorem dcopy_any (z : World) (db : Nat) (n : Int) (ids : List Int) (m : Int → Option CS) (h : RD z db n ids m) (hN : ids.length ≤ 1024) :
    Fn env.P 31 [.pointer (some ⟨db, 0, none⟩)] z fun v w' => ∃ d2, v = .pointer (some ⟨d2, 0, none⟩) ∧ z.heap.size ≤ d2 ∧ RD w' d2 n ids m ∧ Fr z w' [] := by
  obtain ⟨v, hd, lv, hV, hL⟩ := h
  obtain ⟨a, cap, rfl⟩ := hV.slice
  obtain ⟨_, hc1, hc2⟩ := hV.len
  obtain ⟨FC, hFC⟩ : ∃ FC : Nat → List Value, FC = fun t => [.int .u64 (ids.getD t 0), .int .u64 (gm m ids t).floor, lv t] := ⟨_, rfl⟩
  rw [← hFC] at hV
  have hFCl : ∀ t, (FC t).length = 3 := fun t => by rw [hFC]; rfl
  have hFC1 : ∀ t, t < ids.length → ∀ v ∈ FC t, v.oneCell' = true := fun t ht v hv => by
    rw [hFC] at hv
    simp at hv
    rcases hv with rfl | rfl | rfl
    · rfl
    · rfl
    · obtain ⟨_, h, _⟩ := hL t ht
      obtain ⟨_, _, e⟩ := h.slice
      rw [e]
      rfl
  have H := (Holds.start z []).add false hd (by simp) (by simp)
  have HF := Try.func31; refine Fn.enter Try.func31 Try.ntmps31 rfl rfl rfl ?_
  (refine Run.seq (Run.region ?_); intro K hK)
  refine Ops.pure H (X.assign rfl) rfl rfl rfl ?_
  (refine Ops.nil (hK _ _ ?_); clear hK K)
  refine Run.seq ?_
  (refine Run.draw H [] [0, 1, 2, 3, 5, 6, 7, 8, 4, 9, 10, 11, 12] ?_; clear H; intro K hK w H)
  refine Draw.take0 rfl (X.move rfl) rfl rfl rfl (by decide +kernel) ?_
  refine Draw.take0 rfl (X.nilCheck rfl) rfl rfl rfl (by decide +kernel) ?_
  refine Draw.take0 rfl (X.fieldAddr rfl rfl rfl rfl rfl rfl) rfl rfl rfl (by decide +kernel) ?_
  refine Draw.take rfl (X.load1 rfl rfl rfl rfl Pick.head rfl) rfl rfl rfl (by decide +kernel) ?_
  refine Draw.take0 rfl (X.move rfl) rfl rfl rfl (by decide +kernel) ?_
  refine Draw.take0 rfl (X.nilCheck rfl) rfl rfl rfl (by decide +kernel) ?_
  refine Draw.take0 rfl (X.fieldAddr rfl rfl rfl rfl rfl rfl) rfl rfl rfl (by decide +kernel) ?_
  refine Draw.take rfl (X.load1 rfl rfl rfl rfl Pick.head rfl) rfl rfl rfl (by decide +kernel) ?_
  (refine Draw.eff rfl rfl (by decide +kernel) (Y.buildSliceO rfl rfl rfl rfl rfl rfl rfl rfl H ?_); intro b7 w H0 hb7; clear H; have H := H0; clear H0; refine ⟨fun e he => H.at_ e (by simp only [List.mem_cons, List.not_mem_nil, or_false] at he ⊢; grind), ?_⟩)
  refine Draw.eff rfl rfl (by decide +kernel) (Y.appendOwnC (w0 := z) (S := []) (sz := 3) (b := b7) (cap := 0) (cs := []) (olds := []) (news := (List.range ids.length).flatMap FC) (Nat.le_refl _) (by omega) hb7 (H.pick (b := b7) (by repeat (first | exact .head | apply Pick.tail))) rfl .nil rfl rfl rfl rfl rfl rfl H.fr (flat_len hFCl _) ((hV.keep H.fr (by simp)).src hFCl (by omega)) rfl (flat_one hFC1) (by dsimp only; omega) (by omega) rfl ?_)
  intro b4 cap4 cs4 wC FCC uC _ _ hcap4 hcm4 hb4z hb4 hcl4 hC4
  rw [Nat.zero_add] at hcap4
  rw [Nat.zero_add ids.length] at hC4 ⊢
  rw [List.nil_append] at hC4
  have hz := FCC.size
  have hdC := FCC.get hd (by simp)
  clear H
  have H := ((Holds.start wC []).add false hdC (by simp) (by simp)).add false hb4 (by simpa using ne_of_ty hb4 hdC (by decide)) (by simp)
  refine ⟨fun e he => H.at_ e (List.mem_cons_of_mem _ he), ?_⟩
  refine Draw.take0 rfl (X.buildO rfl rfl rfl rfl rfl rfl) rfl rfl rfl (by decide +kernel) ?_
  (refine Draw.eff rfl rfl (by decide +kernel) (Y.box rfl rfl rfl H ?_); intro b14 w H0 hb14; clear H; have H := H0; clear H0; refine ⟨fun e he => H.at_ e (by simp only [List.mem_cons, List.not_mem_nil, or_false] at he ⊢; grind), ?_⟩)
  refine Draw.take0 rfl (X.assign rfl) rfl rfl rfl (by decide +kernel) ?_
  (refine Draw.done (by decide +kernel) (hK _ _ ?_); clear hK K)
  refine Fn.ret1 HF rfl rfl ?_
  have FZ := FCC.then H.fr
  have hVn := Vw.mk (H.pick (b := b4) (by repeat (first | exact .head | apply Pick.tail))) hC4 hFCl hcap4 hcm4
  rw [hFC] at hVn
  exact ⟨_, rfl, by omega, ⟨_, H.pick (by repeat (first | exact .head | apply Pick.tail)), lv, hVn, fun i hi => (hL i hi).ext FZ⟩, FZ⟩
end Go.Proofs.Ytaneenahapdabaa

namespace Go.Proofs.Ytaneenahapdabaa
open Go
set_option maxRecDepth 20000
set_option maxHeartbeats 2000000
attribute [local irreducible] Run Ops Fn Draw Draw2 PureOp StepZ

/-- A reader that is well: what is left stands in a block older than z0. -/
def Rr (z0 : Nat) (w : World) (rb : Nat) (xs : List Int) : Prop :=
  ∃ cap b off cs T fz, w.heap[rb]? = some (row [.slice (some ⟨b, off, none⟩) xs.length cap, .bool false] 101) ∧ xs.length ≤ cap ∧ cap ≤ 9223372036854775807 ∧ (0 < xs.length → w.heap[b]? = some (.cells (List.toArray cs) T fz)) ∧ b < z0 ∧ Cs cs off xs.length (u8s xs)
def Rx (w : World) (rb : Nat) : Prop := ∃ v, w.heap[rb]? = some (row [v, .bool true] 101)
/-- A reader: what is left; or spoilt. -/
def RS (z0 : Nat) (w : World) (rb : Nat) : Option (List Int) → Prop
  | some xs => Rr z0 w rb xs
  | none => Rx w rb
theorem RS.keep {z0 rb : Nat} {w w' : World} {S : List Nat} {σ : Option (List Int)} (h : RS z0 w rb σ) (hf : Fr w w' S) (hr : rb ∉ S) (hS : ∀ b ∈ S, z0 ≤ b) : RS z0 w' rb σ := by
  cases σ with
  | some xs =>
    obtain ⟨cap, b, off, cs, T, fz, h1, h2, h3, h4, h5, h6⟩ := h
    exact ⟨cap, b, off, cs, T, fz, hf.get h1 hr, h2, h3, fun hp => hf.get (h4 hp) (fun hm => by have := hS b hm; omega), h5, h6⟩
  | none =>
    obtain ⟨v, h⟩ := h
    exact ⟨v, hf.get h hr⟩
theorem RS.ext {z0 rb : Nat} {w w' : World} {σ : Option (List Int)} (h : RS z0 w rb σ) (hf : Fr w w' []) : RS z0 w' rb σ := h.keep hf (by simp) (by simp)
def nxt (σ : Option (List Int)) (k : Nat) : Option (List Int) := σ.bind fun xs => if k ≤ xs.length then some (xs.drop k) else none
def got (σ : Option (List Int)) (k : Nat) : List Int := match σ with
  | some xs => if k ≤ xs.length then xs.take k else []
  | none => []
theorem got_le (σ : Option (List Int)) (k : Nat) : (got σ k).length ≤ k := by
  unfold got
  split
  · split
    · simp; omega
    · simp
  · simp
def SByt (σ : Option (List Int)) : Prop := ∀ xs, σ = some xs → Byt xs
theorem SByt.nxt {σ : Option (List Int)} (h : SByt σ) (k : Nat) : SByt (nxt σ k) := fun ys hy => by
  cases σ with
  | none => cases hy
  | some xs =>
    simp only [Go.Proofs.Ytaneenahapdabaa.nxt, Option.bind_some] at hy
    split at hy
    · cases hy
      exact (h xs rfl).drop k
    · cases hy
theorem SByt.got {σ : Option (List Int)} (h : SByt σ) (k : Nat) : Byt (got σ k) := by
  unfold Go.Proofs.Ytaneenahapdabaa.got
  split
  · split
    · exact (h _ rfl).take k
    · intro x hx; cases hx
  · intro x hx; cases hx
/-- A slice that is too short. -/
theorem dtake_short (z : World) (z0 rb n len cap : Nat) (a : Option Addr) (hb : z.heap[rb]? = some (row [.slice a len cap, .bool false] 101)) (hn : len < n) (hn2 : n ≤ 9223372036854775807) :
    Fn env.P 58 [.pointer (some ⟨rb, 0, none⟩), .int .i64 (n : Nat)] z fun v w' => v = .slice none 0 0 ∧ Rx w' rb ∧ Fr z w' [rb] := by
  have H := (Holds.start z [rb]).add true hb (by simp) (by simp)
  have HF := Try.func58; refine Fn.enter Try.func58 Try.ntmps58 rfl rfl rfl ?_
  (refine Run.seq (Run.region ?_); intro K hK)
  refine Ops.pure H (X.assign rfl) rfl rfl rfl ?_
  (refine Ops.nil (hK _ _ ?_); clear hK K)
  refine Run.seq ?_
  (refine Run.seq (Run.region ?_); intro K hK)
  refine Ops.pure H (X.move rfl) rfl rfl rfl ?_
  refine Ops.pure H (X.nilCheck rfl) rfl rfl rfl ?_
  refine Ops.pure H (X.fieldAddr rfl rfl rfl rfl rfl rfl) rfl rfl rfl ?_
  refine Ops.pure H (X.load1 rfl rfl rfl rfl Pick.head rfl) rfl rfl rfl ?_
  refine Ops.pure H (X.move rfl) rfl rfl rfl ?_
  refine Ops.pure H (X.move rfl) rfl rfl rfl ?_
  refine Ops.pure H (X.move rfl) rfl rfl rfl ?_
  refine Ops.pure H (X.nilCheck rfl) rfl rfl rfl ?_
  refine Ops.pure H (X.fieldAddr rfl rfl rfl rfl rfl rfl) rfl rfl rfl ?_
  refine Ops.pure H (X.load1 rfl rfl rfl rfl Pick.head rfl) rfl rfl rfl ?_
  refine Ops.pure H (X.len_slice rfl rfl rfl) rfl rfl rfl ?_
  refine Ops.pure H (X.cmp rfl rfl rfl) rfl rfl rfl ?_
  refine Ops.pure H (X.pick_f rfl rfl) rfl rfl rfl ?_
  (refine Ops.nil (hK _ _ ?_); clear hK K)
  refine Run.cond_dec rfl (fun h18 => ?x0) (fun h18 => ?y0)
  case' y0 => exfalso; omega
  case' x0 =>
    (refine Run.seq (Run.region ?_); intro K hK)
    refine Ops.pure H (X.move rfl) rfl rfl rfl ?_
    refine Ops.pure H (X.nilCheck rfl) rfl rfl rfl ?_
    refine Ops.pure H (X.fieldAddr rfl rfl rfl rfl rfl rfl) rfl rfl rfl ?_
    (refine Ops.eff rfl (Y.store1 rfl rfl rfl rfl rfl rfl H Upd.head (by repeat (first | exact SetC.zero | apply SetC.succ)) ?_); intro w H0; clear H; have H := H0; clear H0)
    (refine Ops.nil (hK _ _ (Run.seq (Run.region ?_))); clear hK K; intro K hK)
    refine Ops.pure H (X.assign rfl) rfl rfl rfl ?_
    (refine Ops.nil (hK _ _ ?_); clear hK K)
  refine Fn.ret1 HF rfl rfl ?_
  exact ⟨rfl, ⟨_, H.pick (b := rb) (by repeat (first | exact .head | apply Pick.tail))⟩, H.fr⟩
theorem dtake_any (z : World) (z0 rb n : Nat) (σ : Option (List Int)) (h : RS z0 z rb σ) (hz : z0 ≤ rb) (hn2 : n ≤ 9223372036854775807) :
    Fn env.P 58 [.pointer (some ⟨rb, 0, none⟩), .int .i64 (n : Nat)] z fun v w' => Bys w' v (got σ n) ∧ RS z0 w' rb (nxt σ n) ∧ Fr z w' [rb] := by
  cases σ with
  | none =>
    obtain ⟨v, hb⟩ := h
    have H := (Holds.start z [rb]).add true hb (by simp) (by simp)
    have HF := Try.func58; refine Fn.enter Try.func58 Try.ntmps58 rfl rfl rfl ?_
    (refine Run.seq (Run.region ?_); intro K hK)
    refine Ops.pure H (X.assign rfl) rfl rfl rfl ?_
    (refine Ops.nil (hK _ _ ?_); clear hK K)
    refine Run.seq ?_
    (refine Run.seq (Run.region ?_); intro K hK)
    refine Ops.pure H (X.move rfl) rfl rfl rfl ?_
    refine Ops.pure H (X.nilCheck rfl) rfl rfl rfl ?_
    refine Ops.pure H (X.fieldAddr rfl rfl rfl rfl rfl rfl) rfl rfl rfl ?_
    refine Ops.pure H (X.load1 rfl rfl rfl rfl Pick.head rfl) rfl rfl rfl ?_
    refine Ops.pure H (X.move rfl) rfl rfl rfl ?_
    refine Ops.pass rfl rfl rfl ?_
    refine Ops.pass rfl rfl rfl ?_
    refine Ops.pass rfl rfl rfl ?_
    refine Ops.pass rfl rfl rfl ?_
    refine Ops.pass rfl rfl rfl ?_
    refine Ops.pass rfl rfl rfl ?_
    refine Ops.pass rfl rfl rfl ?_
    refine Ops.pure H (X.pick_t rfl rfl) rfl rfl rfl ?_
    (refine Ops.nil (hK _ _ ?_); clear hK K)
    refine Run.cond_true rfl ?_
    (refine Run.seq (Run.region ?_); intro K hK)
    refine Ops.pure H (X.move rfl) rfl rfl rfl ?_
    refine Ops.pure H (X.nilCheck rfl) rfl rfl rfl ?_
    refine Ops.pure H (X.fieldAddr rfl rfl rfl rfl rfl rfl) rfl rfl rfl ?_
    (refine Ops.eff rfl (Y.store1 rfl rfl rfl rfl rfl rfl H Upd.head (by repeat (first | exact SetC.zero | apply SetC.succ)) ?_); intro w H0; clear H; have H := H0; clear H0)
    (refine Ops.nil (hK _ _ (Run.seq (Run.region ?_))); clear hK K; intro K hK)
    refine Ops.pure H (X.assign rfl) rfl rfl rfl ?_
    (refine Ops.nil (hK _ _ ?_); clear hK K)
    refine Fn.ret1 HF rfl rfl ?_
    exact ⟨Ans.nil.bys, ⟨v, H.pick (b := rb) (by repeat (first | exact .head | apply Pick.tail))⟩, H.fr⟩
  | some xs =>
    obtain ⟨cap, b, off, cs, T, fz, hb, h1, h2, h3, hT, h4⟩ := h
    by_cases hle : n ≤ xs.length
    · have H := (Holds.start z [rb]).add true hb (by simp) (by simp)
      have HF := Try.func58; refine Fn.enter Try.func58 Try.ntmps58 rfl rfl rfl ?_
      (refine Run.seq (Run.region ?_); intro K hK)
      refine Ops.pure H (X.assign rfl) rfl rfl rfl ?_
      (refine Ops.nil (hK _ _ ?_); clear hK K)
      refine Run.seq ?_
      (refine Run.seq (Run.region ?_); intro K hK)
      refine Ops.pure H (X.move rfl) rfl rfl rfl ?_
      refine Ops.pure H (X.nilCheck rfl) rfl rfl rfl ?_
      refine Ops.pure H (X.fieldAddr rfl rfl rfl rfl rfl rfl) rfl rfl rfl ?_
      refine Ops.pure H (X.load1 rfl rfl rfl rfl Pick.head rfl) rfl rfl rfl ?_
      refine Ops.pure H (X.move rfl) rfl rfl rfl ?_
      refine Ops.pure H (X.move rfl) rfl rfl rfl ?_
      refine Ops.pure H (X.move rfl) rfl rfl rfl ?_
      refine Ops.pure H (X.nilCheck rfl) rfl rfl rfl ?_
      refine Ops.pure H (X.fieldAddr rfl rfl rfl rfl rfl rfl) rfl rfl rfl ?_
      refine Ops.pure H (X.load1 rfl rfl rfl rfl Pick.head rfl) rfl rfl rfl ?_
      refine Ops.pure H (X.len_slice rfl rfl rfl) rfl rfl rfl ?_
      refine Ops.pure H (X.cmp rfl rfl rfl) rfl rfl rfl ?_
      refine Ops.pure H (X.pick_f rfl rfl) rfl rfl rfl ?_
      (refine Ops.nil (hK _ _ ?_); clear hK K)
      refine Run.cond_dec rfl (fun h18 => ?x1) (fun h18 => ?y1)
      case' y1 =>
        refine Run.skip ?_
        (refine Run.seq (Run.region ?_); intro K hK)
        refine Ops.pure H (X.move rfl) rfl rfl rfl ?_
        refine Ops.pure H (X.nilCheck rfl) rfl rfl rfl ?_
        refine Ops.pure H (X.fieldAddr rfl rfl rfl rfl rfl rfl) rfl rfl rfl ?_
        refine Ops.pure H (X.load1 rfl rfl rfl rfl Pick.head rfl) rfl rfl rfl ?_
        refine Ops.pure H (X.move rfl) rfl rfl rfl ?_
        refine Ops.pure H (X.slice_h rfl rfl (by omega) rfl rfl rfl) rfl rfl rfl ?_
        refine Ops.pure H (X.assign rfl) rfl rfl rfl ?_
        (refine Ops.nil (hK _ _ (Run.seq (Run.region ?_))); clear hK K; intro K hK)
        refine Ops.pure H (X.move rfl) rfl rfl rfl ?_
        refine Ops.pure H (X.move rfl) rfl rfl rfl ?_
        refine Ops.pure H (X.nilCheck rfl) rfl rfl rfl ?_
        refine Ops.pure H (X.fieldAddr rfl rfl rfl rfl rfl rfl) rfl rfl rfl ?_
        refine Ops.pure H (X.load1 rfl rfl rfl rfl Pick.head rfl) rfl rfl rfl ?_
        refine Ops.pure H (X.move rfl) rfl rfl rfl ?_
        refine Ops.pure H (X.slice_l rfl rfl (by omega) rfl rfl rfl rfl) rfl rfl rfl ?_
        refine Ops.pure H (X.nilCheck rfl) rfl rfl rfl ?_
        refine Ops.pure H (X.fieldAddr rfl rfl rfl rfl rfl rfl) rfl rfl rfl ?_
        (refine Ops.eff rfl (Y.store1 rfl rfl rfl rfl rfl rfl H Upd.head (by repeat (first | exact SetC.zero | apply SetC.succ)) ?_); intro w H0; clear H; have H := H0; clear H0)
        (refine Ops.nil (hK _ _ (Run.seq (Run.region ?_))); clear hK K; intro K hK)
        refine Ops.pure H (X.move rfl) rfl rfl rfl ?_
        refine Ops.pure H (X.assign rfl) rfl rfl rfl ?_
        (refine Ops.nil (hK _ _ ?_); clear hK K)
      case' x1 => exfalso; omega
      refine Fn.ret1 HF rfl rfl ?_
      have hk : ∀ {w' : World}, Fr z w' [rb] → 0 < xs.length → w'.heap[b]? = some (.cells (List.toArray cs) T fz) := fun hf hp => hf.get (h3 hp) (by simp; omega)
      have FF := H.fr
      refine ⟨?_, ?_, FF⟩
      · simp only [got, if_pos hle]
        have h5 := h4.sub 0 n (by omega)
        exact ⟨_, cap, b, off, cs, T, fz, by simp [Nat.min_eq_left hle], by simp; omega, h2, fun hp => ⟨rfl, hk FF (by simp at hp; omega)⟩, by simpa [u8s, hle, Nat.min_eq_left hle] using h5⟩
      · simp only [nxt, Option.bind_some, if_pos hle]
        have h5 := h4.sub n (xs.length - n) (by omega)
        refine ⟨cap - n, b, (if cap = n then off else off + n * 1), cs, T, fz, ?_, by simp; omega, by omega, fun hp => hk FF (by simp at hp; omega), hT, ?_⟩
        · have h6 := H.pick (b := rb) (by repeat (first | exact .head | apply Pick.tail))
          simpa using h6
        · by_cases hc : cap = n
          · have h7 : xs.drop n = [] := List.drop_eq_nil_of_le (by omega)
            rw [if_pos hc, h7]
            exact .nil
          · rw [if_neg hc]
            have h8 : ((u8s xs).drop n).take (xs.length - n) = (u8s xs).drop n := List.take_of_length_le (by simp [u8s])
            rw [h8] at h5
            simpa [u8s] using h5
    · refine (dtake_short z z0 rb n xs.length cap _ hb (by omega) hn2).mono ?_
      rintro v w' ⟨rfl, h5, h6⟩
      simp only [got, nxt, Option.bind_some, if_neg hle]
      exact ⟨Ans.nil.bys, h5, h6⟩
/-- The loop that makes a number of bytes. -/
theorem dnumber_of (z : World) (z0 rb many : Nat) (ys : List Int) (σ' : Option (List Int)) (hy : Byt ys) (hm : many ≤ 8) (hyl : ys.length ≤ 8)
    (ht : ∀ w1, Fr z w1 [] → Fn env.P 58 [.pointer (some ⟨rb, 0, none⟩), .int .i64 (many : Nat)] w1 fun v w' => Bys w' v ys ∧ RS z0 w' rb σ' ∧ Fr w1 w' [rb]) :
    Fn env.P 48 [.pointer (some ⟨rb, 0, none⟩), .int .i64 (many : Nat)] z fun v w' => v = .int .u64 (beV ys : Nat) ∧ RS z0 w' rb σ' ∧ Fr z w' [rb] := by
  have H := Holds.start z []
  have HF := Try.func48; refine Fn.enter Try.func48 Try.ntmps48 rfl rfl rfl ?_
  (refine Run.seq (Run.region ?_); intro K hK)
  refine Ops.pure H (X.assign rfl) rfl rfl rfl ?_
  (refine Ops.nil (hK _ _ (Run.seq (Run.region ?_))); clear hK K; intro K hK)
  refine Ops.pure H (X.move rfl) rfl rfl rfl ?_
  refine Ops.pure H (X.move rfl) rfl rfl rfl ?_
  refine Ops.eff rfl (Y.call rfl rfl (by first | assumption | decide +kernel) rfl (ht _ H.fr) rfl ?_)
  rintro v w2 ⟨hB, hR, hf2⟩
  have F2 := H.fr.trans (U := [rb]) hf2 (by simp) (by simp)
  obtain ⟨a, cap, b, off, cs, T, fz, rfl, h1, h2, h3, h4⟩ := hB
  clear H
  have H := Holds.start w2 []
  refine Ops.pure H (X.assign rfl) rfl rfl rfl ?_
  (refine Ops.nil (hK _ _ (Run.seq (Run.region ?_))); clear hK K; intro K hK)
  refine Ops.pure H (X.assign rfl) rfl rfl rfl ?_
  (refine Ops.nil (hK _ _ ?_); clear hK K)
  refine Run.seq ?_
  (refine Run.seq (Run.region ?_); intro K hK)
  refine Ops.pure H (X.assign rfl) rfl rfl rfl ?_
  (refine Ops.nil (hK _ _ ?_); clear hK K)
  refine Run.block ?_
  refine Run.rounds (fun (i : Nat) => [(5, .slice a ys.length cap), (6, .int .u64 (beV (ys.take i) : Nat)), (7, .int .i64 (i : Nat))]) (fun i w' => i ≤ ys.length ∧ Fr w2 w' []) (fun i => ys.length - i) 0 (by repeat (first | exact trivial | refine ⟨rfl, ?_⟩)) ⟨by omega, H.fr⟩ ?_
  clear H
  rintro i w3 ⟨hi, hf3⟩ IH
  by_cases hil : i < ys.length
  · obtain ⟨rfl, hbz⟩ := h3 (by omega)
    obtain ⟨y, hyi⟩ : ∃ y : Nat, ys[i] = (y : Int) := ⟨ys[i].toNat, by have := hy ys[i] (List.getElem_mem hil); omega⟩
    have hy2 : y ≤ 255 := by have := hy ys[i] (List.getElem_mem hil); omega
    have c1 : cs[off + i * 1]? = some (.int .u8 ((y : Nat) : Int)) := by
      rw [Nat.mul_one, h4.toGet hil]
      simp [u8s, hil, hyi]
    have hcl : off + i < cs.length := (List.getElem?_eq_some_iff.1 (by rw [← Nat.mul_one i]; exact c1)).1
    have H := (Holds.start w3 []).add false (hf3.get hbz (by simp)) (by simp) (by simp)
    refine Run.seq ?_
    (refine Run.seq (Run.region ?_); intro K hK)
    refine Ops.pure H (X.move rfl) rfl rfl rfl ?_
    refine Ops.pure H (X.move rfl) rfl rfl rfl ?_
    refine Ops.pure H (X.len_slice rfl rfl rfl) rfl rfl rfl ?_
    refine Ops.pure H (X.cmp rfl rfl rfl) rfl rfl rfl ?_
    (refine Ops.nil (hK _ _ ?_); clear hK K)
    refine Run.cond_dec rfl (fun h14 => ?x2) (fun h14 => ?y2)
    case' y2 => exfalso; omega
    case' x2 =>
      refine Run.skip ?_
      refine Run.seq ?_
      refine Run.block ?_
      (refine Run.region ?_; intro K hK)
      refine Ops.pure H (X.move rfl) rfl rfl rfl ?_
      refine Ops.pure H (X.shlN (s := 8) rfl rfl rfl rfl (by decide)) rfl rfl rfl ?_
      refine Ops.pure H (X.move rfl) rfl rfl rfl ?_
      refine Ops.pure H (X.move rfl) rfl rfl rfl ?_
      refine Ops.pure H (X.indexAddr rfl rfl (by omega) rfl rfl rfl rfl) rfl rfl rfl ?_
      refine Ops.pure H (X.load1 rfl rfl rfl rfl Pick.head (by assumption)) rfl rfl rfl ?_
      refine Ops.pure H (X.conv rfl rfl rfl rfl rfl (u64_in _ (by omega))) rfl rfl rfl ?_
      refine Ops.pure H (X.orN rfl rfl rfl rfl (by omega) (by omega)) rfl rfl rfl ?_
      refine Ops.pure H (X.assign rfl) rfl rfl rfl ?_
      (refine Ops.nil (hK _ _ ?_); clear hK K)
      refine Run.inBlock ?_
      (refine Run.region ?_; intro K hK)
      refine Ops.pure H (X.move rfl) rfl rfl rfl ?_
      refine Ops.pure H (X.succ rfl rfl (by omega)) rfl rfl rfl ?_
      refine Ops.pure H (X.assign rfl) rfl rfl rfl ?_
      (refine Ops.nil (hK _ _ ?_); clear hK K)
    have hlt : beV (ys.take i) < 72057594037927936 := Nat.lt_of_lt_of_le (beV_lt ys hy i (by omega)) (Nat.pow_le_pow_right (n := 256) (j := 7) (by decide) (by omega))
    rw [or_step _ _ hlt hy2]
    refine (IH (i + 1) _ (by omega) ⟨by omega, hf3.then H.fr⟩).weak ?_
    rw [beV_succ ys i hil, hyi, Int.toNat_natCast]
    exact (by repeat (first | exact trivial | refine ⟨rfl, ?_⟩))
  · obtain rfl : i = ys.length := by omega
    rw [List.take_length]
    have H := Holds.start w3 []
    refine Run.seq ?_
    (refine Run.seq (Run.region ?_); intro K hK)
    refine Ops.pure H (X.move rfl) rfl rfl rfl ?_
    refine Ops.pure H (X.move rfl) rfl rfl rfl ?_
    refine Ops.pure H (X.len_slice rfl rfl rfl) rfl rfl rfl ?_
    refine Ops.pure H (X.cmp rfl rfl rfl) rfl rfl rfl ?_
    (refine Ops.nil (hK _ _ ?_); clear hK K)
    refine Run.cond_dec rfl (fun h14 => ?x3) (fun h14 => ?y3)
    case' y3 =>
      refine Run.exit rfl ?_
      (refine Run.seq (Run.region ?_); intro K hK)
      refine Ops.pure H (X.move rfl) rfl rfl rfl ?_
      refine Ops.pure H (X.assign rfl) rfl rfl rfl ?_
      (refine Ops.nil (hK _ _ ?_); clear hK K)
    case' x3 => exfalso; omega
    refine Fn.ret1 HF rfl rfl ?_
    exact ⟨rfl, hR.ext (hf3.then H.fr), F2.trans (hf3.then H.fr) (by simp) (by simp)⟩
theorem dnumber_any (z : World) (z0 rb many : Nat) (σ : Option (List Int)) (h : RS z0 z rb σ) (hz : z0 ≤ rb) (hm : many ≤ 8) (hb : SByt σ) :
    Fn env.P 48 [.pointer (some ⟨rb, 0, none⟩), .int .i64 (many : Nat)] z fun v w' => v = .int .u64 (beV (got σ many) : Nat) ∧ RS z0 w' rb (nxt σ many) ∧ Fr z w' [rb] :=
  dnumber_of z z0 rb many _ _ (hb.got many) hm (Nat.le_trans (got_le σ many) hm) fun w1 hf => dtake_any w1 z0 rb many σ (h.ext hf) hz (by omega)
theorem dnumber_short (z : World) (z0 rb many len cap : Nat) (a : Option Addr) (hb : z.heap[rb]? = some (row [.slice a len cap, .bool false] 101)) (hn : len < many) (hm : many ≤ 8) :
    Fn env.P 48 [.pointer (some ⟨rb, 0, none⟩), .int .i64 (many : Nat)] z fun v w' => v = .int .u64 0 ∧ Rx w' rb ∧ Fr z w' [rb] :=
  (dnumber_of z z0 rb many [] none (fun x hx => by cases hx) hm (by simp) fun w1 hf => (dtake_short w1 z0 rb many len cap a (hf.get hb (by simp)) hn (by omega)).mono (by
    rintro v w' ⟨rfl, h1, h2⟩
    exact ⟨Ans.nil.bys, h1, h2⟩)).mono (by
    rintro v w' ⟨rfl, h1, h2⟩
    exact ⟨rfl, h1, h2⟩)
end Go.Proofs.Ytaneenahapdabaa
