/- Walks of layer 20: the document's first example. -/
import Derived.Test.YtaneenahapdabaaP5
namespace Go.Proofs.Ytaneenahapdabaa
open Go
set_option maxRecDepth 20000
set_option maxHeartbeats 2000000
attribute [local irreducible] Run Ops Fn Draw Draw2 PureOp StepZ

theorem PutPost.foot {z : World} {W : WS} {id : Int} {m' : Int → Option CL} {N' : Nat} (hy : ∀ y, y ≠ id → m' y = W.m y) (hc : ∀ c, m' id = some c → ∀ b ∈ footC c, b ∈ footP W id ∨ z.heap.size ≤ b) {b : Nat} (hb : Foot { W with m := m', N := N' } b) : Foot W b ∨ z.heap.size ≤ b := by
  rcases hb with e | e | ⟨x, c, hx, hbc⟩
  · exact .inl (.inl e)
  · exact .inl (.inr (.inl e))
  · by_cases e : x = id
    · subst e
      rcases hc c hx b hbc with h | h
      · exact .inl (footP_foot h)
      · exact .inr h
    · exact .inl (.inr (.inr ⟨x, c, by rw [← hy x e]; exact hx, hbc⟩))
theorem st_len {W : WS} {id : Int} {s : Option CS} {n : Int} (h : st W id = s) (hs : ∀ c, s = some c → (c.seqs.length : Int) ≤ n) : ∀ c, W.m id = some c → (c.s.seqs.length : Int) ≤ n := by
  intro c hc
  exact hs c.s (by rw [← h, st, hc]; rfl)
section
variable {E : Env} {n : Nat} {L : Sl} {w : World} {d T : Nat} {pos : String} {e : Array Edge} {g : Option (Nat × Bool)} {x : Operand} {QQ : Exit → Act → World → Prop} {Z : Sl → World → Prop}
theorem Y.bytes {t t2 el : Nat} {v : Value} {xs : List Int} {ti t2i te : TyI} (hB : Bys w v xs) (hx : ev L x = some v) (ht : nth E.T t = some (some ti)) (hd : ti.d = .slice el) (hte : nth E.T el = some (some te)) (hde : te.d = .int .u8) (ht2 : nth E.T t2 = some (some t2i)) (hd2 : t2i.d = .str) (hn : Nat.blt d n = true)
    (next : Z ((d, .string (strOfNums xs)) :: L) w) : StepZ E QQ n ⟨some d, .convert t t2 x, T, pos, e, g⟩ Z L w := by
  obtain ⟨h1, _⟩ := E.ok t ti ht
  rw [hd] at h1
  obtain ⟨h2, _⟩ := E.ok el te hte
  rw [hde] at h2
  obtain ⟨h3, _⟩ := E.ok t2 t2i ht2
  rw [hd2] at h3
  obtain ⟨a, cap, b, off, cs, T', fz, rfl, k2, k3, k4, k5⟩ := hB
  refine StepZ.val rfl hn (fun c hs => ?_) next
  cases a with
  | none =>
    have h0 : xs = [] := by
      cases xs with
      | nil => rfl
      | cons y r => have := (k4 (by simp)).1; cases this
    subst h0
    have := run_convert_bytes_nil (P := E.P) w t el h1 h2 0 cap t2 h3
    simp only [List.length_nil] at hx
    simp [execOp, hs.eval hx, this]
    rfl
  | some a =>
    by_cases hp : 0 < xs.length
    · obtain ⟨e1, e2⟩ := k4 hp
      cases e1
      have := run_convert_bytes_arg (P := E.P) w t el h1 h2 b off xs.length cap xs rfl (fun i hi => by
        rw [cell_cells e2, k5.toGet hi]
        simp [List.getD_eq_getElem?_getD, hi]) t2 h3
      simp [execOp, hs.eval hx, this]
    · have h0 : xs = [] := List.eq_nil_of_length_eq_zero (by omega)
      subst h0
      obtain ⟨ab, ao, asp⟩ := a
      have h4 : (convert t t2 (.slice (some ⟨ab, ao, asp⟩) 0 cap)).run E.P w = .ok (.string (strOfNums [])) w := by
        rw [run_convert_bytes_string w t t2 el _ 0 cap h1 h2 h3, run_bytesToString w _ 0 cap [] (by simp [loadCells, loadCellsFrom])]
        rfl
      simp only [List.length_nil] at hx
      simp [execOp, hs.eval hx, h4]
end
abbrev s1 : CS := insC 2 cs0 1 [97]
abbrev s2 : CS := insC 2 s1 2 [98]
abbrev s3 : CS := insC 2 s2 5 [99]
theorem put_step (z0 z : World) (W : WS) (id seq : Int) (V : Value) (bs : List Int) (s : Option CS) (N : Nat) (n : Int) (hW : Wn z W) (hV : Ans z V bs) (hs : st W id = s) (hN : W.N = N) (hn : W.size = n) (hn1 : 1 ≤ n) (hn2 : n ≤ 64) (hl : ∀ c, s = some c → (c.seqs.length : Int) ≤ n) (hT : Fr z0 z []) (hG : ∀ b, Foot W b → z0.heap.size ≤ b) :
    Fn env.P 7 [.pointer (some ⟨W.wb, 0, none⟩), .int .u64 id, .int .u64 seq, V] z fun v w' => v = .int .i64 (putE N s seq bs) ∧ ∃ W', W'.wb = W.wb ∧ Wn w' W' ∧ st W' id = putS n N s seq bs ∧ W'.N = putN N s seq bs ∧ W'.size = n ∧ Fr z0 w' [] ∧ ∀ b, Foot W' b → z0.heap.size ≤ b := by
  subst hs hN hn
  refine (put_any z W id seq V bs hW hV hn1 hn2 (st_len rfl hl)).mono ?_
  rintro v w' ⟨h1, h2, m', h3, h4, h5, h6⟩
  exact ⟨h1, { W with m := m', N := putN W.N (st W id) seq bs }, rfl, h3, h5, rfl, rfl, hT.grow h2 (fun b hb => hG b (footP_foot hb)), fun b hb => (PutPost.foot h4 h6 hb).elim (hG b) (fun h => Nat.le_trans hT.size h)⟩
theorem lives_any (z : World) : Fn env.P 5 [] z fun v w' => v = .bool true ∧ Fr z w' [] := by
  have H := Holds.start z []
  have HF := Try.func5; refine Fn.enter Try.func5 Try.ntmps5 rfl rfl rfl ?_
  refine Run.seq ?_
  (refine Run.region ?_; intro K hK)
  refine Ops.pure H (X.assign rfl) rfl rfl rfl ?_
  (refine Ops.nil (hK _ _ ?_); clear hK K)
  refine Run.seq ?_
  (refine Run.region ?_; intro K hK)
  refine Ops.eff rfl (Y.call rfl rfl (by first | assumption | decide +kernel) rfl (new_yes _ 2 (by omega) (by omega)) rfl ?_)
  rintro v w1 ⟨wb, mb, rfl, hW1, hf1, hwb, hmb⟩
  have hz1 := hf1.size
  replace H := H.ext hf1
  have hT1 := H.fr
  have hG1 : ∀ b, Foot ⟨wb, mb, 2, 0, fun _ => none⟩ b → z.heap.size ≤ b := by
    rintro b (rfl | rfl | ⟨x, c, hx, _⟩)
    · exact hwb
    · exact hmb
    · cases hx
  replace H := H.anew (S' := []) (G' := []) (by repeat constructor) (by simp)
  refine Ops.pure H (X.move rfl) rfl rfl rfl ?_
  refine Ops.pure H (X.extract rfl rfl) rfl rfl rfl ?_
  refine Ops.pure H (X.extract rfl rfl) rfl rfl rfl ?_
  refine Ops.pure H (X.assign rfl) rfl rfl rfl ?_
  refine Ops.pure H (X.assign rfl) rfl rfl rfl ?_
  (refine Ops.nil (hK _ _ ?_); clear hK K)
  refine Run.seq ?_
  refine Run.seq ?_
  (refine Run.region ?_; intro K hK)
  refine Ops.pure H (X.move rfl) rfl rfl rfl ?_
  refine Ops.pure H (X.cmp rfl rfl rfl) rfl rfl rfl ?_
  refine Ops.pure H (X.move rfl) rfl rfl rfl ?_
  refine Ops.pure H (X.move rfl) rfl rfl rfl ?_
  refine Ops.pure H (X.ptrNil rfl rfl rfl rfl rfl) rfl rfl rfl ?_
  refine Ops.pure H (X.pick_f rfl rfl) rfl rfl rfl ?_
  refine Ops.pure H (X.move rfl) rfl rfl rfl ?_
  refine Ops.pure H (X.move rfl) rfl rfl rfl ?_
  (refine Ops.eff rfl (Y.buildSliceO rfl rfl rfl rfl rfl rfl rfl rfl H ?_); intro b24 w H0 hb24; clear H; have H := H0; clear H0)
  refine Ops.eff rfl (Y.mark H .head rfl rfl rfl rfl rfl rfl ?_)
  intro w H
  skip
  refine Ops.eff rfl (Y.call rfl rfl (by first | assumption | decide +kernel) rfl (put_step z _ ⟨wb, mb, 2, 0, fun _ => none⟩ 1 1 _ [97] none 0 2 (hW1.ext H.fr) ⟨_, 1, _, _, _, rfl, by simp, by omega, fun _ => ⟨rfl, H.pick .head⟩, Cs.take rfl⟩ rfl rfl rfl (by omega) (by omega) (by simp) (hT1.then H.fr) hG1) rfl ?_)
  rintro v w2 ⟨rfl, W2, hw2, hW2, hst2, hN2, hn2, hT2, hG2⟩
  rw [show putE 0 none 1 [97] = 0 from rfl]
  replace hst2 : st W2 1 = some s1 := hst2
  replace hN2 : W2.N = 1 := hN2
  clear H hW1 hf1 hwb hmb hG1
  dsimp only at hw2
  subst hw2
  have H := Holds.start w2 []
  refine Ops.pure H (X.cmp rfl rfl rfl) rfl rfl rfl ?_
  refine Ops.pure H (X.pick_f rfl rfl) rfl rfl rfl ?_
  refine Ops.pure H (X.move rfl) rfl rfl rfl ?_
  refine Ops.pure H (X.move rfl) rfl rfl rfl ?_
  (refine Ops.eff rfl (Y.buildSliceO rfl rfl rfl rfl rfl rfl rfl rfl H ?_); intro b31 w H0 hb31; clear H; have H := H0; clear H0)
  refine Ops.split_ndec rfl rfl (fun h32 => ?x0) (fun h32 => ?y0)
  case' y0 => skip
  case' x0 => exfalso; omega
  refine Ops.eff rfl (Y.mark H .head rfl rfl rfl rfl rfl rfl ?_)
  intro w H
  skip
  refine Ops.eff rfl (Y.call rfl rfl (by first | assumption | decide +kernel) rfl (put_step z _ W2 1 2 _ [98] (some s1) 1 2 (hW2.ext H.fr) ⟨_, 1, _, _, _, rfl, by simp, by omega, fun _ => ⟨rfl, H.pick .head⟩, Cs.take rfl⟩ hst2 hN2 hn2 (by omega) (by omega) (by intro c hc; cases hc; decide) (hT2.then H.fr) hG2) rfl ?_)
  rintro v w3 ⟨rfl, W3, hw3, hW3, hst3, hN3, hn3, hT3, hG3⟩
  rw [show putE 1 (some s1) 2 [98] = 0 from rfl, ← hw3]
  replace hst3 : st W3 1 = some s2 := hst3
  replace hN3 : W3.N = 1 := hN3
  clear H hW2 hG2 hT2
  have H := Holds.start w3 []
  refine Ops.pure H (X.cmp rfl rfl rfl) rfl rfl rfl ?_
  refine Ops.pure H (X.pick_f rfl rfl) rfl rfl rfl ?_
  refine Ops.pure H (X.move rfl) rfl rfl rfl ?_
  refine Ops.pure H (X.move rfl) rfl rfl rfl ?_
  (refine Ops.eff rfl (Y.buildSliceO rfl rfl rfl rfl rfl rfl rfl rfl H ?_); intro b38 w H0 hb38; clear H; have H := H0; clear H0)
  refine Ops.split_ndec rfl rfl (fun h39 => ?x1) (fun h39 => ?y1)
  case' y1 => skip
  case' x1 => exfalso; omega
  refine Ops.eff rfl (Y.mark H .head rfl rfl rfl rfl rfl rfl ?_)
  intro w H
  skip
  refine Ops.eff rfl (Y.call rfl rfl (by first | assumption | decide +kernel) rfl (put_step z _ W3 1 5 _ [99] (some s2) 1 2 (hW3.ext H.fr) ⟨_, 1, _, _, _, rfl, by simp, by omega, fun _ => ⟨rfl, H.pick .head⟩, Cs.take rfl⟩ hst3 hN3 hn3 (by omega) (by omega) (by intro c hc; cases hc; decide) (hT3.then H.fr) hG3) rfl ?_)
  rintro v w4 ⟨rfl, W4, hw4, hW4, hst4, hN4, hn4, hT4, hG4⟩
  rw [show putE 1 (some s2) 5 [99] = 0 from rfl, ← hw4]
  replace hst4 : st W4 1 = some s3 := hst4
  clear H hW3 hG3 hT3
  have H := Holds.start w4 []
  refine Ops.pure H (X.cmp rfl rfl rfl) rfl rfl rfl ?_
  refine Ops.pure H (X.pick_f rfl rfl) rfl rfl rfl ?_
  (refine Ops.nil (hK _ _ ?_); clear hK K)
  refine Run.cond_false rfl ?_
  refine Run.skip ?_
  refine Run.seq ?_
  (refine Run.region ?_; intro K hK)
  refine Ops.pure H (X.move rfl) rfl rfl rfl ?_
  refine Ops.eff rfl (Y.call rfl rfl (by first | assumption | decide +kernel) rfl (Ask_any _ W4 1 1 (hW4.ext H.fr) (by rw [hst4]; decide)) rfl ?_)
  rintro v w5 ⟨hf5, b5, rfl, _⟩
  rw [hst4, show (if (1 : Int) = 0 then (0 : Int) else askK (some s3) 1) = 3 from by decide, show (if (1 : Int) = 0 then (1 : Int) else 0) = 0 from by decide]
  replace H := H.ext hf5
  refine Ops.pure H (X.move rfl) rfl rfl rfl ?_
  refine Ops.pure H (X.extract rfl rfl) rfl rfl rfl ?_
  refine Ops.pure H (X.extract rfl rfl) rfl rfl rfl ?_
  refine Ops.pure H (X.extract rfl rfl) rfl rfl rfl ?_
  refine Ops.pure H (X.assign rfl) rfl rfl rfl ?_
  refine Ops.pure H (X.assign rfl) rfl rfl rfl ?_
  refine Ops.pure H (X.assign rfl) rfl rfl rfl ?_
  (refine Ops.nil (hK _ _ ?_); clear hK K)
  refine Run.seq ?_
  (refine Run.region ?_; intro K hK)
  refine Ops.pure H (X.move rfl) rfl rfl rfl ?_
  refine Ops.eff rfl (Y.call rfl rfl (by first | assumption | decide +kernel) rfl (Ask_any _ W4 1 3 (hW4.ext H.fr) (by rw [hst4]; decide)) rfl ?_)
  rintro v w6 ⟨hf6, b6, rfl, _⟩
  rw [hst4, show (if (3 : Int) = 0 then (0 : Int) else askK (some s3) 3) = 1 from by decide, show (if (3 : Int) = 0 then (1 : Int) else 0) = 0 from by decide]
  replace H := H.ext hf6
  refine Ops.pure H (X.move rfl) rfl rfl rfl ?_
  refine Ops.pure H (X.extract rfl rfl) rfl rfl rfl ?_
  refine Ops.pure H (X.extract rfl rfl) rfl rfl rfl ?_
  refine Ops.pure H (X.extract rfl rfl) rfl rfl rfl ?_
  refine Ops.pure H (X.assign rfl) rfl rfl rfl ?_
  refine Ops.pure H (X.assign rfl) rfl rfl rfl ?_
  refine Ops.pure H (X.assign rfl) rfl rfl rfl ?_
  (refine Ops.nil (hK _ _ ?_); clear hK K)
  refine Run.seq ?_
  (refine Run.region ?_; intro K hK)
  refine Ops.pure H (X.move rfl) rfl rfl rfl ?_
  refine Ops.eff rfl (Y.call rfl rfl (by first | assumption | decide +kernel) rfl (Ask_any _ W4 1 5 (hW4.ext H.fr) (by rw [hst4]; decide)) rfl ?_)
  rintro v w7 ⟨hf7, b7, rfl, hA7⟩
  rw [hst4] at hA7 ⊢
  rw [show (if (5 : Int) = 0 then (0 : Int) else askK (some s3) 5) = 2 from by decide, show (if (5 : Int) = 0 then (1 : Int) else 0) = 0 from by decide]
  replace hA7 : Ans w7 b7 [99] := hA7
  replace H := H.ext hf7
  refine Ops.pure H (X.move rfl) rfl rfl rfl ?_
  refine Ops.pure H (X.extract rfl rfl) rfl rfl rfl ?_
  refine Ops.pure H (X.extract rfl rfl) rfl rfl rfl ?_
  refine Ops.pure H (X.extract rfl rfl) rfl rfl rfl ?_
  refine Ops.pure H (X.assign rfl) rfl rfl rfl ?_
  refine Ops.pure H (X.assign rfl) rfl rfl rfl ?_
  refine Ops.pure H (X.assign rfl) rfl rfl rfl ?_
  (refine Ops.nil (hK _ _ ?_); clear hK K)
  refine Run.seq ?_
  (refine Run.region ?_; intro K hK)
  refine Ops.pure H (X.move rfl) rfl rfl rfl ?_
  refine Ops.eff rfl (Y.call rfl rfl (by first | assumption | decide +kernel) rfl (floor_any _ W4 1 (hW4.ext H.fr)) rfl ?_)
  rintro v w8 ⟨rfl, hf8⟩
  rw [hst4, show floorC (some s3) = 1 from by decide]
  replace H := H.ext hf8
  have hT8 := hT4.then H.fr
  replace hA7 := hA7.keep hf8 (by simp)
  replace H := H.anew (S' := []) (G' := []) (by repeat constructor) (by simp)
  refine Ops.pure H (X.cmp rfl rfl rfl) rfl rfl rfl ?_
  refine Ops.pure H (X.move rfl) rfl rfl rfl ?_
  refine Ops.pure H (X.move rfl) rfl rfl rfl ?_
  refine Ops.pure H (X.cmp rfl rfl rfl) rfl rfl rfl ?_
  refine Ops.pure H (X.pick_t rfl rfl) rfl rfl rfl ?_
  refine Ops.pure H (X.move rfl) rfl rfl rfl ?_
  refine Ops.pure H (X.move rfl) rfl rfl rfl ?_
  refine Ops.pure H (X.cmp rfl rfl rfl) rfl rfl rfl ?_
  refine Ops.pure H (X.pick_t rfl rfl) rfl rfl rfl ?_
  refine Ops.pure H (X.move rfl) rfl rfl rfl ?_
  refine Ops.pure H (X.move rfl) rfl rfl rfl ?_
  refine Ops.pure H (X.cmp rfl rfl rfl) rfl rfl rfl ?_
  refine Ops.pure H (X.pick_t rfl rfl) rfl rfl rfl ?_
  refine Ops.pure H (X.move rfl) rfl rfl rfl ?_
  refine Ops.pure H (X.move rfl) rfl rfl rfl ?_
  refine Ops.pure H (X.cmp rfl rfl rfl) rfl rfl rfl ?_
  refine Ops.pure H (X.pick_t rfl rfl) rfl rfl rfl ?_
  refine Ops.pure H (X.move rfl) rfl rfl rfl ?_
  refine Ops.pure H (X.move rfl) rfl rfl rfl ?_
  refine Ops.pure H (X.cmp rfl rfl rfl) rfl rfl rfl ?_
  refine Ops.pure H (X.pick_t rfl rfl) rfl rfl rfl ?_
  refine Ops.pure H (X.move rfl) rfl rfl rfl ?_
  refine Ops.pure H (X.move rfl) rfl rfl rfl ?_
  refine Ops.split_dec rfl rfl (fun h86 => ?x2) (fun h86 => ?y2)
  case' y2 => exfalso; omega
  case' x2 => skip
  refine Ops.eff rfl (Y.bytes (hA7.keep H.fr (by simp)).bys rfl rfl rfl rfl rfl rfl rfl rfl ?_)
  refine Ops.pure H (X.strEq rfl rfl) rfl rfl rfl ?_
  refine Ops.pure H (X.pick_t rfl rfl) rfl rfl rfl ?_
  refine Ops.pure H (X.move rfl) rfl rfl rfl ?_
  refine Ops.split_dec rfl rfl (fun h90 => ?x3) (fun h90 => ?y3)
  case' y3 =>
    refine Ops.pass rfl rfl rfl ?_
    refine Ops.pass rfl rfl rfl ?_
    refine Ops.pure H (X.pick_f rfl rfl) rfl rfl rfl ?_
    refine Ops.pure H (X.assign rfl) rfl rfl rfl ?_
    (refine Ops.nil (hK _ _ ?_); clear hK K)
  case' x3 =>
    refine Ops.pure H (X.move rfl) rfl rfl rfl ?_
    refine Ops.pure H (X.cmp rfl rfl rfl) rfl rfl rfl ?_
    refine Ops.pure H (X.pick_t rfl rfl) rfl rfl rfl ?_
    refine Ops.pure H (X.assign rfl) rfl rfl rfl ?_
    (refine Ops.nil (hK _ _ ?_); clear hK K)
  all_goals (first | refine Fn.ret1 HF rfl rfl ?_ | refine Fn.ret2 HF rfl rfl rfl ?_ | refine Fn.ret3 HF rfl rfl rfl rfl ?_ | refine Fn.ret0 HF rfl ?_ | refine Fn.fin0 HF rfl ?_ | refine Fn.retG (E := env) HF rfl H (by first | exact RVs.cellN rfl rfl rfl (by first | exact .head | exact .tail .head | exact .tail (.tail .head) | exact .tail (.tail (.tail .head)) | exact .tail (.tail (.tail (.tail .head))) | exact .tail (.tail (.tail (.tail (.tail .head)))) | exact .tail (.tail (.tail (.tail (.tail (.tail .head)))))) (by first | assumption | exact Cs.take rfl) RVs.nil | exact RVs.cellN rfl rfl rfl (by first | exact .head | exact .tail .head | exact .tail (.tail .head) | exact .tail (.tail (.tail .head)) | exact .tail (.tail (.tail (.tail .head))) | exact .tail (.tail (.tail (.tail (.tail .head)))) | exact .tail (.tail (.tail (.tail (.tail (.tail .head)))))) (by first | assumption | exact Cs.take rfl) (RVs.tmp rfl RVs.nil) | exact RVs.cellN rfl rfl rfl (by first | exact .head | exact .tail .head | exact .tail (.tail .head) | exact .tail (.tail (.tail .head)) | exact .tail (.tail (.tail (.tail .head))) | exact .tail (.tail (.tail (.tail (.tail .head)))) | exact .tail (.tail (.tail (.tail (.tail (.tail .head)))))) (by first | assumption | exact Cs.take rfl) (RVs.tmp rfl (RVs.tmp rfl RVs.nil))) rfl ?_)
  · exact ⟨by simp, hT8.then H.fr⟩
  · exact absurd (congrArg ByteArray.toList (rfl : strOfNums [99] = ⟨#[99]⟩)) h90
end Go.Proofs.Ytaneenahapdabaa
