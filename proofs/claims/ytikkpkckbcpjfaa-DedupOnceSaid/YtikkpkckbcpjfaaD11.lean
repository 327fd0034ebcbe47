/- Walks: DedupOnce. -/
import Derived.Test.YtikkpkckbcpjfaaD10
namespace Go.Proofs.Ytikkpkckbcpjfaa
open Go
set_option maxRecDepth 20000
set_option maxHeartbeats 2000000
section
variable {E : Env} {n : Nat} {L : Sl} {G : List Ent} {d T : Nat} {pos : String} {e : Array Edge} {g : Option (Nat × Bool)} {x : Operand}
theorem X.bytesG {t t2 el : Nat} {v : Value} {xs : List Int} {ti t2i te : TyI} (hB : ∀ w : World, (∀ e ∈ G, w.heap[e.b]? = some e.o) → Bys w v xs) (hx : ev L x = some v) (ht : nth E.T t = some (some ti)) (hd : ti.d = .slice el) (hte : nth E.T el = some (some te)) (hde : te.d = .int .u8) (ht2 : nth E.T t2 = some (some t2i)) (hd2 : t2i.d = .str) :
    PureOp E n L G ⟨some d, .convert t t2 x, T, pos, e, g⟩ (.string (strOfNums xs)) := by
  obtain ⟨h1, _⟩ := E.ok t ti ht
  rw [hd] at h1
  obtain ⟨h2, _⟩ := E.ok el te hte
  rw [hde] at h2
  obtain ⟨h3, _⟩ := E.ok t2 t2i ht2
  rw [hd2] at h3
  intro w hG c hs
  obtain ⟨a, cap, b, off, cs, T', fz, rfl, k2, k3, k4, k5⟩ := hB w hG
  cases a with
  | none =>
    have h0 : xs = [] := by
      cases xs with
      | nil => rfl
      | cons y r => have := (k4 (by simp)).1; cases this
    subst h0
    have := run_convert_bytes_nil (P := E.P) w t el h1 h2 0 cap t2 h3
    simp only [List.length_nil] at hx
    simp [execOp, hs.eval hx, this]
    rfl
  | some a =>
    by_cases hp : 0 < xs.length
    · obtain ⟨e1, e2⟩ := k4 hp
      cases e1
      have := run_convert_bytes_arg (P := E.P) w t el h1 h2 b off xs.length cap xs rfl (fun i hi => by
        rw [cell_cells e2, k5.toGet hi]
        simp [List.getD_eq_getElem?_getD, hi]) t2 h3
      simp [execOp, hs.eval hx, this]
    · have h0 : xs = [] := List.eq_nil_of_length_eq_zero (by omega)
      subst h0
      obtain ⟨ab, ao, asp⟩ := a
      have h4 : (convert t t2 (.slice (some ⟨ab, ao, asp⟩) 0 cap)).run E.P w = .ok (.string (strOfNums [])) w := by
        rw [run_convert_bytes_string w t t2 el _ 0 cap h1 h2 h3, run_bytesToString w _ 0 cap [] (by simp [loadCells, loadCellsFrom])]
        rfl
      simp only [List.length_nil] at hx
      simp [execOp, hs.eval hx, h4]
end
attribute [local irreducible] Run Ops Fn Draw Draw2 PureOp StepZ

theorem askK_cases (s : Option CS) (seq : Int) : askK s seq = 1 ∨ askK s seq = 2 ∨ askK s seq = 3 := by
  unfold askK
  cases s with
  | none => exact .inl rfl
  | some c =>
    dsimp only
    split
    · exact .inr (.inr rfl)
    · split
      · exact .inr (.inl rfl)
      · exact .inl rfl
theorem ask_two {s : Option CS} {seq : Int} (h : askK s seq = 2) : ∃ c bs, s = some c ∧ ¬ seq ≤ c.floor ∧ c.ans seq = some bs ∧ askB s seq = bs := by
  unfold askK at h
  cases s with
  | none => cases h
  | some c =>
    dsimp only at h
    split at h
    · cases h
    · rename_i hf
      cases ha : c.ans seq with
      | none => rw [ha] at h; cases h
      | some bs => exact ⟨c, bs, rfl, hf, ha, by simp [askB, hf, ha]⟩
theorem ask_three {c : CS} {seq : Int} (h : seq ≤ c.floor) : askK (some c) seq = 3 := by simp [askK, h]
theorem ask_known {c : CS} {seq : Int} (h : seq ≤ c.floor ∨ (c.ans seq).isSome = true) : askK (some c) seq ≠ 1 := by
  unfold askK
  dsimp only
  rcases h with h | h
  · rw [if_pos h]; decide
  · rw [if_pos h]
    split <;> decide
theorem ask_past {c : CS} {seq : Int} (h : askK (some c) seq = 3) : seq ≤ c.floor := by
  unfold askK at h
  dsimp only at h
  split at h
  · assumption
  · split at h <;> cases h
theorem Md.past {w' : World} {v : Value} {q i : Nat} {M : List MD} {cs : List Value} {a : Option Addr} {cap : Nat} (hi : i < M.length) (hv : v = .slice a M.length cap) (h2 : M.length ≤ cap) (h3 : cap ≤ 9223372036854775807) (ha : a = some ⟨q, 0, none⟩) (hl : cs.length = cap * 4) (h5 : ∀ j, j < M.length → Cs cs (0 + j * 4) 4 (mdC (M.getD j md0)))
    (hq : w'.heap[q]? = some (row (cs.set (0 + i * 4 + 3) (.bool true)) 41)) : Md w' v q (setPast M i) := by
  refine ⟨a, cap, _, by rw [setPast_len]; exact hv, by rw [setPast_len]; exact h2, h3, .inr ⟨ha, hq, by simpa using hl⟩, fun j hj => ?_⟩
  rw [setPast_len] at hj
  rw [setPast_get hi]
  have hC := h5 j hj
  refine Cs.ofGet _ _ _ rfl fun r hr => ?_
  by_cases e : j = i
  · subst e
    rw [if_pos rfl]
    by_cases e3 : r = 3
    · subst e3
      rw [List.getElem?_set_self (by omega)]
      rfl
    · rw [List.getElem?_set_ne (by omega), hC.toGet hr]
      have : r = 0 ∨ r = 1 ∨ r = 2 := by omega
      rcases this with rfl | rfl | rfl <;> rfl
  · rw [if_neg e, List.getElem?_set_ne (by omega), hC.toGet hr]
/-- What is no block of a window may be written. -/
theorem Wn.keepS {w w' : World} {W : WS} {S : List Nat} (h : Wn w W) (hf : Fr w w' S) (hS : ∀ b ∈ S, ¬ Foot W b) (h5 : ∀ b ∈ S, No5 w b) : Wn w' W := by
  have k : ∀ b, Foot W b → b ∉ S := fun b hb hm => hS b hm hb
  obtain ⟨es, q, f, a1, a2⟩ := h.mp
  have kc : ∀ x c, W.m x = some c → c.cb ∉ S ∧ c.sb ∉ S ∧ c.ab ∉ S := fun x c hx =>
    ⟨k _ (.inr (.inr ⟨x, c, hx, by simp [footC]⟩)), k _ (.inr (.inr ⟨x, c, hx, by simp [footC]⟩)), k _ (.inr (.inr ⟨x, c, hx, by simp [footC]⟩))⟩
  exact ⟨hf.get h.at_ (k _ (.inl rfl)), ⟨es, q, f, hf.get a1 (k _ (.inr (.inl rfl))), a2⟩, fun x c hx => (h.cl x c hx).keep hf (kc x c hx).1 (kc x c hx).2.1 (kc x c hx).2.2 h5,
    fun x c hx => (h.real x c hx).imp (fun e => e) (fun ⟨ds, hd⟩ => ⟨ds, hf.get hd (kc x c hx).2.1⟩), h.ne, h.mb, h.len, fun es' k' h' => by rw [hf.get a1 (k _ (.inr (.inl rfl)))] at h'; cases h'; exact h.stp es q a1⟩
theorem Wn.notFoot {w : World} {W : WS} (h : Wn w W) {b t : Nat} {ds : List Value} (hb : w.heap[b]? = some (row ds t)) (h1 : t ≠ 54) (h2 : t ≠ 23) (h3 : t ≠ 50) : ¬ Foot W b := fun hf => by
  rcases h.foot hf with ⟨_, _, e⟩ | ⟨_, e⟩ | ⟨_, e⟩ | ⟨_, e⟩
  · rw [e] at hb; cases hb
  · exact ne_of_ty hb e h1 rfl
  · exact ne_of_ty hb e h2 rfl
  · exact ne_of_ty hb e h3 rfl
theorem once_no (z : World) (n : Int) (V : Value) (hn : ¬ (1 ≤ n ∧ n ≤ 64)) :
    Fn env.P 4 [.int .i64 n, V] z fun v w' => v = .bool true ∧ Fr z w' [] := by
  have H := Holds.start z []
  have HF := Try.func4; refine Fn.enter Try.func4 Try.ntmps4 rfl rfl rfl ?_
  refine Run.seq ?_
  (refine Run.region ?_; intro K hK)
  refine Ops.pure H (X.assign rfl) rfl rfl rfl ?_
  (refine Ops.nil (hK _ _ ?_); clear hK K)
  refine Run.seq ?_
  refine Run.seq ?_
  (refine Run.region ?_; intro K hK)
  refine Ops.eff rfl (Y.call rfl rfl (by first | assumption | decide +kernel) rfl (lives_any _) rfl ?_)
  rintro v w1 ⟨rfl, hf1⟩
  replace H := H.ext hf1
  refine Ops.pure H (X.not rfl) rfl rfl rfl ?_
  (refine Ops.nil (hK _ _ ?_); clear hK K)
  refine Run.cond_false rfl ?_
  refine Run.skip ?_
  refine Run.seq ?_
  (refine Run.region ?_; intro K hK)
  refine Ops.pure H (X.move rfl) rfl rfl rfl ?_
  refine Ops.eff rfl (Y.call rfl rfl (by first | assumption | decide +kernel) rfl (new_no _ n hn) rfl ?_)
  rintro v w2 ⟨rfl, hf2⟩
  replace H := H.ext hf2
  refine Ops.pure H (X.move rfl) rfl rfl rfl ?_
  refine Ops.pure H (X.extract rfl rfl) rfl rfl rfl ?_
  refine Ops.pure H (X.extract rfl rfl) rfl rfl rfl ?_
  refine Ops.pure H (X.assign rfl) rfl rfl rfl ?_
  refine Ops.pure H (X.assign rfl) rfl rfl rfl ?_
  (refine Ops.nil (hK _ _ ?_); clear hK K)
  refine Run.seq ?_
  refine Run.seq ?_
  (refine Run.region ?_; intro K hK)
  refine Ops.pure H (X.move rfl) rfl rfl rfl ?_
  refine Ops.pure H (X.cmp rfl rfl rfl) rfl rfl rfl ?_
  refine Ops.pure H (X.move rfl) rfl rfl rfl ?_
  refine Ops.pass rfl rfl rfl ?_
  refine Ops.pass rfl rfl rfl ?_
  refine Ops.pure H (X.pick_t rfl rfl) rfl rfl rfl ?_
  (refine Ops.nil (hK _ _ ?_); clear hK K)
  refine Run.cond_true rfl ?_
  refine Run.seq ?_
  (refine Run.region ?_; intro K hK)
  refine Ops.pure H (X.move rfl) rfl rfl rfl ?_
  refine Ops.pure H (X.cmp rfl rfl rfl) rfl rfl rfl ?_
  refine Ops.pure H (X.move rfl) rfl rfl rfl ?_
  refine Ops.pure H (X.move rfl) rfl rfl rfl ?_
  refine Ops.pure H (X.ptrNil rfl rfl rfl rfl rfl) rfl rfl rfl ?_
  refine Ops.pure H (X.pick_t rfl rfl) rfl rfl rfl ?_
  refine Ops.pure H (X.assign rfl) rfl rfl rfl ?_
  (refine Ops.nil (hK _ _ ?_); clear hK K)
  (first | refine Fn.ret1 HF rfl rfl ?_ | refine Fn.ret2 HF rfl rfl rfl ?_ | refine Fn.ret3 HF rfl rfl rfl rfl ?_ | refine Fn.ret0 HF rfl ?_ | refine Fn.fin0 HF rfl ?_ | refine Fn.retG (E := env) HF rfl H (by first | exact RVs.cellN rfl rfl rfl (by first | exact .head | exact .tail .head | exact .tail (.tail .head) | exact .tail (.tail (.tail .head)) | exact .tail (.tail (.tail (.tail .head))) | exact .tail (.tail (.tail (.tail (.tail .head)))) | exact .tail (.tail (.tail (.tail (.tail (.tail .head)))))) (by first | assumption | exact Cs.take rfl) RVs.nil | exact RVs.cellN rfl rfl rfl (by first | exact .head | exact .tail .head | exact .tail (.tail .head) | exact .tail (.tail (.tail .head)) | exact .tail (.tail (.tail (.tail .head))) | exact .tail (.tail (.tail (.tail (.tail .head)))) | exact .tail (.tail (.tail (.tail (.tail (.tail .head)))))) (by first | assumption | exact Cs.take rfl) (RVs.tmp rfl RVs.nil)) rfl ?_)
  exact ⟨by simp, H.fr⟩
theorem once_yes (z : World) (n : Int) (aa : Option Addr) (an acap ab aoff : Nat) (acs : List Value) (aT : TypeId) (afz : Nat × Nat) (A : Nat → DA) (hA : DActs z aa an ab aoff acs aT afz A) (hS : ∀ j, j < an → 0 ≤ (A j).seq) (hB : an * 48 ≤ 140737488355327) (h1 : 1 ≤ n) (h2 : n ≤ 64) :
    Fn env.P 4 [.int .i64 n, .slice aa an acap] z fun v w' => v = .bool true ∧ Fr z w' [] := by
  have H := Holds.start z []
  have HF := Try.func4; refine Fn.enter Try.func4 Try.ntmps4 rfl rfl rfl ?_
  refine Run.seq ?_
  (refine Run.region ?_; intro K hK)
  refine Ops.pure H (X.assign rfl) rfl rfl rfl ?_
  (refine Ops.nil (hK _ _ ?_); clear hK K)
  refine Run.seq ?_
  refine Run.seq ?_
  (refine Run.region ?_; intro K hK)
  refine Ops.eff rfl (Y.call rfl rfl (by first | assumption | decide +kernel) rfl (lives_any _) rfl ?_)
  rintro v w1 ⟨rfl, hf1⟩
  replace H := H.ext hf1
  refine Ops.pure H (X.not rfl) rfl rfl rfl ?_
  (refine Ops.nil (hK _ _ ?_); clear hK K)
  refine Run.cond_false rfl ?_
  refine Run.skip ?_
  refine Run.seq ?_
  (refine Run.region ?_; intro K hK)
  refine Ops.pure H (X.move rfl) rfl rfl rfl ?_
  refine Ops.eff rfl (Y.call rfl rfl (by first | assumption | decide +kernel) rfl (new_yes _ n h1 h2) rfl ?_)
  rintro v w2 ⟨wb, mb, rfl, hW2, hf2, hwb, hmb⟩
  have hz1 := H.fr.size
  replace H := H.ext hf2
  have hF2 := H.fr
  have hO : Onc z w2 n ⟨wb, mb, n, 0, fun _ => none⟩ [] (.slice none 0 0) z.heap.size := by
    refine ⟨hF2, hW2, ?_, rfl, by simp, (fun id c hc => by cases hc), ⟨none, 0, [], rfl, by simp, by omega, .inl ⟨rfl, rfl⟩, fun i hi => by simp at hi⟩, Nat.le_refl _, Say.nil _ (fun _ => rfl)⟩
    rintro b (rfl | rfl | ⟨x, c, hx, _⟩)
    · exact Nat.le_trans hz1 hwb
    · exact Nat.le_trans hz1 hmb
    · cases hx
  clear H
  have H := Holds.start w2 []
  refine Ops.pure H (X.move rfl) rfl rfl rfl ?_
  refine Ops.pure H (X.extract rfl rfl) rfl rfl rfl ?_
  refine Ops.pure H (X.extract rfl rfl) rfl rfl rfl ?_
  refine Ops.pure H (X.assign rfl) rfl rfl rfl ?_
  refine Ops.pure H (X.assign rfl) rfl rfl rfl ?_
  (refine Ops.nil (hK _ _ ?_); clear hK K)
  refine Run.seq ?_
  refine Run.seq ?_
  (refine Run.region ?_; intro K hK)
  refine Ops.pure H (X.move rfl) rfl rfl rfl ?_
  refine Ops.pure H (X.cmp rfl rfl rfl) rfl rfl rfl ?_
  refine Ops.pure H (X.move rfl) rfl rfl rfl ?_
  refine Ops.pure H (X.move rfl) rfl rfl rfl ?_
  refine Ops.pure H (X.ptrNil rfl rfl rfl rfl rfl) rfl rfl rfl ?_
  refine Ops.pure H (X.pick_f rfl rfl) rfl rfl rfl ?_
  (refine Ops.nil (hK _ _ ?_); clear hK K)
  refine Run.cond_false rfl ?_
  refine Run.skip ?_
  refine Run.seq ?_
  (refine Run.region ?_; intro K hK)
  refine Ops.pure H (X.assign rfl) rfl rfl rfl ?_
  (refine Ops.nil (hK _ _ ?_); clear hK K)
  refine Run.seq ?_
  refine Run.seq ?_
  (refine Run.region ?_; intro K hK)
  refine Ops.pure H (X.assign rfl) rfl rfl rfl ?_
  (refine Ops.nil (hK _ _ ?_); clear hK K)
  refine Run.block ?_
  refine Run.rounds (fun (s : Nat × WS × List MD × Value × Nat) => [(1, .slice aa an acap), (5, .pointer (some ⟨s.2.1.wb, 0, none⟩)), (7, s.2.2.2.1), (8, .int .i64 (s.1 : Nat))])
    (fun s w' => s.1 ≤ an ∧ s.2.2.1.length ≤ s.1 ∧ Onc z w' n s.2.1 s.2.2.1 s.2.2.2.1 s.2.2.2.2)
    (fun s => an - s.1) (0, _, [], _, z.heap.size) (by repeat (first | exact trivial | refine ⟨rfl, ?_⟩)) ⟨by dsimp only; omega, by simp, hO.ext H.fr⟩ ?_
  clear H hO hW2 hF2 hwb hmb hf1 hf2 hz1
  rintro ⟨i, W, M, mv, q⟩ w3 ⟨hi, hMi, hO⟩ IH
  dsimp only at hi hMi hO IH ⊢
  have hmd := hO.md
  obtain ⟨ma, mcap, mcs, rfl, m2, m3, m4, m5⟩ := hmd
  by_cases hlt : i < an
  · obtain ⟨hcs, hxs, hxl⟩ := hA.2.2 i hlt
    have hs0 := hS i hlt
    obtain ⟨rfl, hab⟩ := hA.2.1 (by omega)
    generalize A i = ai at hcs hxs hxl hs0
    obtain ⟨kind, cid, seq, av, xs⟩ := ai
    dsimp only at hcs hxs hxl hs0
    obtain ⟨xa, xcap, rfl⟩ : ∃ a c, av = .slice a xs.length c := by
      obtain ⟨a, c, _, _, _, _, _, e, _⟩ := hxs
      exact ⟨a, c, e⟩
    simp only [daC] at hcs
    have H := (Holds.start w3 []).add false (hO.fr.get hab (by simp)) (by simp) (by simp)
    refine Run.seq ?_
    refine Run.seq ?_
    (refine Run.region ?_; intro K hK)
    refine Ops.pure H (X.move rfl) rfl rfl rfl ?_
    refine Ops.pure H (X.move rfl) rfl rfl rfl ?_
    refine Ops.pure H (X.len_slice rfl rfl rfl) rfl rfl rfl ?_
    refine Ops.pure H (X.cmp rfl rfl rfl) rfl rfl rfl ?_
    (refine Ops.nil (hK _ _ ?_); clear hK K)
    refine Run.cond_dec rfl (fun h37 => ?x0) (fun h37 => ?y0)
    case' y0 => exfalso; omega
    case' x0 =>
      refine Run.skip ?_
      refine Run.seq ?_
      refine Run.block ?_
      refine Run.seq ?_
      (refine Run.region ?_; intro K hK)
      refine Ops.pure H (X.move rfl) rfl rfl rfl ?_
      refine Ops.pure H (X.move rfl) rfl rfl rfl ?_
      refine Ops.pure H (X.indexAddr rfl rfl (by omega) rfl rfl rfl rfl) rfl rfl rfl ?_
      refine Ops.pure H (X.loadN rfl rfl rfl Pick.head (by assumption)) rfl rfl rfl ?_
      (refine Ops.eff rfl (Y.alloc rfl rfl rfl H ?_); intro b9 w H0 hb9; clear H; have H := H0; clear H0)
      (refine Ops.eff rfl (Y.storeO rfl rfl rfl rfl rfl rfl H Upd.head rfl ?_); intro w H0; clear H; have H := H0; clear H0)
      (refine Ops.nil (hK _ _ ?_); clear hK K)
      refine Run.seq ?_
      (refine Run.region ?_; intro K hK)
      refine Ops.pure H (X.move rfl) rfl rfl rfl ?_
      refine Ops.pure H (X.fieldAddr rfl rfl rfl rfl rfl rfl) rfl rfl rfl ?_
      refine Ops.pure H (X.load1 rfl rfl rfl rfl Pick.head rfl) rfl rfl rfl ?_
      refine Ops.pure H (X.fieldAddr rfl rfl rfl rfl rfl rfl) rfl rfl rfl ?_
      refine Ops.pure H (X.load1 rfl rfl rfl rfl Pick.head rfl) rfl rfl rfl ?_
    refine Ops.eff rfl (Y.call rfl rfl (by first | assumption | decide +kernel) rfl (Ask_any _ W cid seq (hO.pw.ext H.fr) (askB_short (hO.sw cid))) rfl ?_)
    rintro v w4 ⟨hf4, b, rfl, hA4⟩
    replace H := H.ext hf4
    by_cases hq0 : seq = 0
    · rw [if_pos hq0, if_pos hq0]
      refine Ops.pure H (X.move rfl) rfl rfl rfl ?_
      refine Ops.pure H (X.extract rfl rfl) rfl rfl rfl ?_
      refine Ops.pure H (X.extract rfl rfl) rfl rfl rfl ?_
      refine Ops.pure H (X.extract rfl rfl) rfl rfl rfl ?_
      refine Ops.pure H (X.assign rfl) rfl rfl rfl ?_
      refine Ops.pure H (X.assign rfl) rfl rfl rfl ?_
      refine Ops.pure H (X.assign rfl) rfl rfl rfl ?_
      (refine Ops.nil (hK _ _ ?_); clear hK K)
      refine Run.seq ?_
      refine Run.seq ?_
      (refine Run.region ?_; intro K hK)
      refine Ops.pure H (X.move rfl) rfl rfl rfl ?_
      refine Ops.pure H (X.cmp rfl rfl rfl) rfl rfl rfl ?_
      (refine Ops.nil (hK _ _ ?_); clear hK K)
      refine Run.cond_true rfl ?_
      refine Run.seq ?_
      refine Run.seq ?_
      (refine Run.region ?_; intro K hK)
      refine Ops.pure H (X.fieldAddr rfl rfl rfl rfl rfl rfl) rfl rfl rfl ?_
      refine Ops.pure H (X.load1 rfl rfl rfl rfl Pick.head rfl) rfl rfl rfl ?_
      refine Ops.pure H (X.cmp rfl rfl rfl) rfl rfl rfl ?_
      refine Ops.pure H (X.move rfl) rfl rfl rfl ?_
      refine Ops.split_ndec rfl rfl (fun h60 => ?x1) (fun h60 => ?y1)
      case' y1 =>
        refine Ops.pure H (X.move rfl) rfl rfl rfl ?_
        refine Ops.pure H (X.cmp rfl rfl rfl) rfl rfl rfl ?_
        refine Ops.pure H (X.pick_f rfl rfl) rfl rfl rfl ?_
        (refine Ops.nil (hK _ _ ?_); clear hK K)
        refine Run.cond_false rfl ?_
        refine Run.skip ?_
        refine Run.exit rfl ?_
        (refine Run.region ?_; intro K hK)
        refine Ops.pure H (X.move rfl) rfl rfl rfl ?_
        refine Ops.pure H (X.succ rfl rfl (by omega)) rfl rfl rfl ?_
        refine Ops.pure H (X.assign rfl) rfl rfl rfl ?_
        (refine Ops.nil (hK _ _ ?_); clear hK K)
      case' x1 => exfalso; omega
      exact (IH (i + 1, W, M, _, q) _ (by dsimp only; omega) ⟨by dsimp only; omega, by dsimp only; omega, hO.ext H.fr⟩).weak (by repeat (first | exact trivial | refine ⟨rfl, ?_⟩))
    rw [if_neg hq0, if_neg hq0]
    rw [if_neg hq0] at hA4
    replace hO := hO.ext H.fr
    replace H := H.anew (S' := []) (G' := [⟨_, _, false⟩, ⟨_, _, false⟩]) (by repeat constructor) (by simp)
    refine Ops.pure H (X.move rfl) rfl rfl rfl ?_
    refine Ops.pure H (X.extract rfl rfl) rfl rfl rfl ?_
    refine Ops.pure H (X.extract rfl rfl) rfl rfl rfl ?_
    refine Ops.pure H (X.extract rfl rfl) rfl rfl rfl ?_
    refine Ops.pure H (X.assign rfl) rfl rfl rfl ?_
    refine Ops.pure H (X.assign rfl) rfl rfl rfl ?_
    refine Ops.pure H (X.assign rfl) rfl rfl rfl ?_
    (refine Ops.nil (hK _ _ ?_); clear hK K)
    refine Run.seq ?_
    refine Run.seq ?_
    (refine Run.region ?_; intro K hK)
    refine Ops.pure H (X.move rfl) rfl rfl rfl ?_
    refine Ops.pure H (X.cmp rfl rfl rfl) rfl rfl rfl ?_
    (refine Ops.nil (hK _ _ ?_); clear hK K)
    refine Run.cond_false rfl ?_
    refine Run.skip ?_
    refine Run.seq ?_
    (refine Run.region ?_; intro K hK)
    refine Ops.pure H (X.move rfl) rfl rfl rfl ?_
    refine Ops.pure H (X.fieldAddr rfl rfl rfl rfl rfl rfl) rfl rfl rfl ?_
    refine Ops.pure H (X.load1 rfl rfl rfl rfl Pick.head rfl) rfl rfl rfl ?_
    refine Ops.pure H (X.fieldAddr rfl rfl rfl rfl rfl rfl) rfl rfl rfl ?_
    refine Ops.pure H (X.load1 rfl rfl rfl rfl Pick.head rfl) rfl rfl rfl ?_
    refine Ops.eff rfl (Y.call rfl rfl (by first | assumption | decide +kernel) rfl (find_any _ _ q M cid seq (hO.md.ext H.fr)) rfl ?_)
    rintro v w5 ⟨hf5, hr⟩
    replace H := H.ext hf5
    replace hA4 := hA4.keep H.fr (by simp)
    replace hO := hO.ext H.fr
    replace H := H.anew (S' := []) (G' := [⟨_, _, false⟩, ⟨_, _, false⟩]) (by repeat constructor) (by simp)
    obtain ⟨k, hk⟩ : ∃ k, k = askK (st W cid) seq := ⟨_, rfl⟩
    have hk3 := askK_cases (st W cid) seq
    rw [← hk] at hk3 ⊢
    have hb9 := H.pick .head
    refine Ops.pure H (X.assign rfl) rfl rfl rfl ?_
    (refine Ops.nil (hK _ _ ?_); clear hK K)
    refine Run.seq ?_
    refine Run.meet (fun (_ : List MD) => [(1, .slice (some ⟨ab, aoff, none⟩) an acap), (5, .pointer (some ⟨W.wb, 0, none⟩)), (7, .slice ma M.length mcap), (8, .int .i64 (i : Nat)), (9, .pointer (some ⟨b9, 0, none⟩)), (10, .int .i64 k)])
      (fun M' w' => M'.length = M.length ∧ Onc z w' n W M' (.slice ma M.length mcap) q ∧ w'.heap[b9]? = some (row [.int .i64 kind, .int .u64 cid, .int .u64 seq, .slice xa xs.length xcap] 31)) ?_ ?_
    · clear hO hb9 m2 m3 m4 m5 hr H hA4
      rintro M' w6 ⟨hM', hO, hb9⟩
      have H := (Holds.start w6 []).add false hb9 (by simp) (by simp)
      obtain ⟨e, he⟩ : ∃ e, e = putE W.N (st W cid) seq xs := ⟨_, rfl⟩
      refine Run.seq ?_
      refine Run.seq ?_
      (refine Run.region ?_; intro K hK)
      refine Ops.pure H (X.fieldAddr rfl rfl rfl rfl rfl rfl) rfl rfl rfl ?_
      refine Ops.pure H (X.load1 rfl rfl rfl rfl Pick.head rfl) rfl rfl rfl ?_
      refine Ops.pure H (X.cmp rfl rfl rfl) rfl rfl rfl ?_
      (refine Ops.nil (hK _ _ ?_); clear hK K)
      refine Run.cond_dec rfl (fun h118 => ?x2) (fun h118 => ?y2)
      case' y2 =>
        refine Run.skip ?_
        refine Run.seq ?_
        (refine Run.draw H [] [0, 1, 2, 3, 4, 5, 6, 7, 8, 9] ?_; clear H; intro K hK w H)
        refine Draw.take0 rfl (X.move rfl) rfl rfl rfl (by decide +kernel) ?_
        refine Draw.take0 rfl (X.fieldAddr rfl rfl rfl rfl rfl rfl) rfl rfl rfl (by decide +kernel) ?_
        refine Draw.take rfl (X.load1 rfl rfl rfl rfl Pick.head rfl) rfl rfl rfl (by decide +kernel) ?_
        refine Draw.take0 rfl (X.fieldAddr rfl rfl rfl rfl rfl rfl) rfl rfl rfl (by decide +kernel) ?_
        refine Draw.take rfl (X.load1 rfl rfl rfl rfl Pick.head rfl) rfl rfl rfl (by decide +kernel) ?_
        refine Draw.take0 rfl (X.fieldAddr rfl rfl rfl rfl rfl rfl) rfl rfl rfl (by decide +kernel) ?_
        refine Draw.take rfl (X.load1 rfl rfl rfl rfl Pick.head rfl) rfl rfl rfl (by decide +kernel) ?_
      case' x2 =>
        refine Run.exit rfl ?_
        (refine Run.region ?_; intro K hK)
        refine Ops.pure H (X.move rfl) rfl rfl rfl ?_
        refine Ops.pure H (X.succ rfl rfl (by omega)) rfl rfl rfl ?_
        refine Ops.pure H (X.assign rfl) rfl rfl rfl ?_
        (refine Ops.nil (hK _ _ ?_); clear hK K)
      · exact (IH (i + 1, W, M', _, q) _ (by dsimp only; omega) ⟨by dsimp only; omega, by dsimp only; omega, hO.ext H.fr⟩).weak (by repeat (first | exact trivial | refine ⟨rfl, ?_⟩))
      refine Draw.eff rfl rfl (by decide +kernel) (Y.call rfl rfl (by first | assumption | decide +kernel) rfl (own_any _ _ xs (hxs.ext (hO.fr.then H.fr)) hxl) rfl ?_)
      rintro v w7 ⟨hA7, hf7⟩
      obtain ⟨va, vcap, rfl⟩ := hA7.slice
      replace H := H.ext hf7
      refine ⟨H.at_, ?_⟩
      replace hO := hO.ext H.fr
      skip
      refine Draw.eff rfl rfl (by decide +kernel) (Y.call rfl rfl (by first | assumption | decide +kernel) rfl (put_any _ W cid seq _ xs hO.pw hA7 (by rw [hO.nw]; exact h1) (by rw [hO.nw]; exact h2) (st_len rfl (fun c hc => by rw [hO.nw]; exact (hO.sw cid c hc).1))) rfl ?_)
      rintro v w8 ⟨rfl, hf8, m', hW8, hy8, hs8, hc8⟩
      rw [← he]
      have hb7 := H.pick .head
      have hb8 := hf8.get hb7 (fun hm => hO.pw.notFoot hb7 (by decide) (by decide) (by decide) (footP_foot hm))
      have hft : ∀ {b : Nat}, Foot { W with m := m', N := putN W.N (st W cid) seq xs } b → Foot W b ∨ w7.heap.size ≤ b := fun hb => PutPost.foot hy8 hc8 hb
      have hst8 : ∀ y, y ≠ cid → st { W with m := m', N := putN W.N (st W cid) seq xs } y = st W y := fun y hy => by
        show (m' y).map _ = (W.m y).map _
        rw [hy8 y hy]
      have hst8' : st { W with m := m', N := putN W.N (st W cid) seq xs } cid = putS n W.N (st W cid) seq xs := by rw [← hO.nw]; exact hs8
      have hN8 : putN W.N (st W cid) seq xs ≤ 1024 := by
        unfold putN
        split
        · rename_i hh
          have h0 := hh.1
          unfold putE at h0
          split at h0
          · omega
          · split at h0
            · omega
            · split at h0
              · omega
              · split at h0
                · omega
                · rename_i hn
                  have : ¬ 1024 ≤ W.N := fun h => hn ⟨hh.2, h⟩
                  omega
        · exact hO.nn
      have hq8 : q ∈ footP W cid → ∀ ds, w7.heap[q]? ≠ some (row ds 41) := fun hm ds hd => hO.pw.notFoot hd (by decide) (by decide) (by decide) (footP_foot hm)
      obtain ⟨W', hW'⟩ : ∃ W', W' = { W with m := m', N := putN W.N (st W cid) seq xs } := ⟨_, rfl⟩
      have hwb' : W'.wb = W.wb := by rw [hW']
      rw [← hW'] at hW8 hst8 hst8'
      have hgw : ∀ b, Foot W' b → z.heap.size ≤ b := fun b hb => by
        rw [hW'] at hb
        rcases hft hb with hb | hb
        · exact hO.gw b hb
        · exact Nat.le_trans hO.fr.size hb
      have hnw : W'.size = n := by rw [hW']; exact hO.nw
      have hnn : W'.N ≤ 1024 := by rw [hW']; exact hN8
      have hsw : ∀ y, Short n (st W' y) := fun y => by
        by_cases e : y = cid
        · subst e; rw [hst8']; exact putS_short h1 (hO.sw y)
        · rw [hst8 y e]; exact hO.sw y
      have hF8 := hO.fr.grow hf8 (fun b hb => hO.gw b (footP_foot hb))
      have hmd8 : Md w8 (.slice ma M.length mcap) q M' := hO.md.keep hf8 hq8
      have hE : (65536 < xs.length ∧ e = 2) ∨ (xs.length ≤ 65536 ∧ k ≠ 1 ∧ e = 50) ∨ (xs.length ≤ 65536 ∧ k = 1 ∧ e = 200) ∨ (xs.length ≤ 65536 ∧ k = 1 ∧ e = 0) := by
        rw [he, hk]
        unfold putE
        rw [if_neg hq0]
        by_cases g1 : 65536 < xs.length
        · rw [if_pos g1]; exact .inl ⟨g1, rfl⟩
        · rw [if_neg g1]
          by_cases g2 : askK (st W cid) seq = 1
          · rw [if_neg (fun h => h g2)]
            split
            · exact .inr (.inr (.inl ⟨by omega, g2, rfl⟩))
            · exact .inr (.inr (.inr ⟨by omega, g2, rfl⟩))
          · rw [if_pos g2]; exact .inr (.inl ⟨by omega, g2, rfl⟩)
      have hsame : e ≠ 0 → Onc z w8 n W' M' (.slice ma M.length mcap) q := fun h0 => by
        have hst : ∀ y, st W' y = st W y := fun y => by
          by_cases e' : y = cid
          · subst e'
            rw [hst8']
            unfold putS
            rw [← he, if_neg h0]
          · exact hst8 y e'
        have hl : lenOf W' = lenOf W := by funext y; unfold lenOf; rw [hst]
        refine ⟨hF8, hW8, hgw, hnw, hnn, hsw, hmd8, hO.gq, ⟨fun id s hs => hO.say.ris id s (by rw [← hst]; exact hs), hO.say.uniq, fun id s sq b hs => hO.say.kn id s sq b (by rw [← hst]; exact hs), fun j hj => ?_, fun ks hks => by rw [hl]; exact hO.say.tot ks hks⟩⟩
        obtain ⟨s, g1, g2⟩ := hO.say.pa j hj
        exact ⟨s, by rw [hst]; exact g1, g2⟩
      clear H
      have H := (Holds.start w8 []).add false hb8 (by simp) (by simp)
      refine ⟨H.at_, ?_⟩
      rw [← hwb']
      rcases hE with ⟨g1, rfl⟩ | ⟨g1, g2, rfl⟩ | ⟨g1, g2, rfl⟩ | ⟨g1, g2, rfl⟩
      · by_cases hk1 : k = 1
        · subst hk1
          refine Draw.take0 rfl (X.assign rfl) rfl rfl rfl (by decide +kernel) ?_
          (refine Draw.done (by decide +kernel) (hK _ _ ?_); clear hK K)
          refine Run.seq ?_
          refine Run.seq ?_
          (refine Run.region ?_; intro K hK)
          refine Ops.pure H (X.move rfl) rfl rfl rfl ?_
          refine Ops.pure H (X.cmp rfl rfl rfl) rfl rfl rfl ?_
          refine Ops.pure H (X.move rfl) rfl rfl rfl ?_
          refine Ops.pure H (X.cmp rfl rfl rfl) rfl rfl rfl ?_
          refine Ops.pure H (X.move rfl) rfl rfl rfl ?_
          refine Ops.pass rfl rfl rfl ?_
          refine Ops.pass rfl rfl rfl ?_
          refine Ops.pass rfl rfl rfl ?_
          refine Ops.pass rfl rfl rfl ?_
          refine Ops.pure H (X.pick_f rfl rfl) rfl rfl rfl ?_
          refine Ops.pure H (X.boolEq rfl rfl rfl rfl rfl) rfl rfl rfl ?_
          (refine Ops.nil (hK _ _ ?_); clear hK K)
          refine Run.cond_false rfl ?_
          refine Run.skip ?_
          refine Run.seq ?_
          (refine Run.region ?_; intro K hK)
          refine Ops.pure H (X.move rfl) rfl rfl rfl ?_
          refine Ops.pure H (X.cmp rfl rfl rfl) rfl rfl rfl ?_
          (refine Ops.nil (hK _ _ ?_); clear hK K)
          refine Run.cond_false rfl ?_
          refine Run.skip ?_
          refine Run.inBlock ?_
          (refine Run.region ?_; intro K hK)
          refine Ops.pure H (X.move rfl) rfl rfl rfl ?_
          refine Ops.pure H (X.succ rfl rfl (by omega)) rfl rfl rfl ?_
          refine Ops.pure H (X.assign rfl) rfl rfl rfl ?_
          (refine Ops.nil (hK _ _ ?_); clear hK K)
          exact (IH (i + 1, W', M', _, q) _ (by dsimp only; omega) ⟨by dsimp only; omega, by dsimp only; omega, (hsame (by decide)).ext H.fr⟩).weak (by repeat (first | exact trivial | refine ⟨rfl, ?_⟩))
        · refine Draw.take0 rfl (X.assign rfl) rfl rfl rfl (by decide +kernel) ?_
          (refine Draw.done (by decide +kernel) (hK _ _ ?_); clear hK K)
          refine Run.seq ?_
          refine Run.seq ?_
          (refine Run.region ?_; intro K hK)
          refine Ops.pure H (X.move rfl) rfl rfl rfl ?_
          refine Ops.pure H (X.cmp rfl rfl rfl) rfl rfl rfl ?_
          refine Ops.pure H (X.move rfl) rfl rfl rfl ?_
          refine Ops.pure H (X.cmp rfl rfl rfl) rfl rfl rfl ?_
          refine Ops.pure H (X.move rfl) rfl rfl rfl ?_
          refine Ops.split_ndec rfl rfl (fun h133 => ?x3) (fun h133 => ?y3)
          case' y3 => exfalso; omega
          case' x3 =>
            refine Ops.pure H (X.fieldAddr rfl rfl rfl rfl rfl rfl) rfl rfl rfl ?_
            refine Ops.pure H (X.load1 rfl rfl rfl rfl Pick.head rfl) rfl rfl rfl ?_
            refine Ops.pure H (X.len_slice rfl rfl rfl) rfl rfl rfl ?_
            refine Ops.pure H (X.cmp rfl rfl rfl) rfl rfl rfl ?_
            refine Ops.pure H (X.pick_t rfl rfl) rfl rfl rfl ?_
            refine Ops.pure H (X.boolEq rfl rfl rfl rfl rfl) rfl rfl rfl ?_
            (refine Ops.nil (hK _ _ ?_); clear hK K)
            refine Run.cond_ndec rfl (fun h138 => ?x4) (fun h138 => ?y4)
            case' y4 =>
              refine Run.skip ?_
              refine Run.seq ?_
              (refine Run.region ?_; intro K hK)
              refine Ops.pure H (X.move rfl) rfl rfl rfl ?_
              refine Ops.pure H (X.cmp rfl rfl rfl) rfl rfl rfl ?_
              (refine Ops.nil (hK _ _ ?_); clear hK K)
              refine Run.cond_false rfl ?_
              refine Run.skip ?_
              refine Run.inBlock ?_
              (refine Run.region ?_; intro K hK)
              refine Ops.pure H (X.move rfl) rfl rfl rfl ?_
              refine Ops.pure H (X.succ rfl rfl (by omega)) rfl rfl rfl ?_
              refine Ops.pure H (X.assign rfl) rfl rfl rfl ?_
              (refine Ops.nil (hK _ _ ?_); clear hK K)
            case' x4 =>
              refine Run.seq ?_
              (refine Run.region ?_; intro K hK)
              refine Ops.pure H (X.assign rfl) rfl rfl rfl ?_
              (refine Ops.nil (hK _ _ ?_); clear hK K)
          · exact absurd (by simp; omega) h138
          · exact (IH (i + 1, W', M', _, q) _ (by dsimp only; omega) ⟨by dsimp only; omega, by dsimp only; omega, (hsame (by decide)).ext H.fr⟩).weak (by repeat (first | exact trivial | refine ⟨rfl, ?_⟩))
      · refine Draw.take0 rfl (X.assign rfl) rfl rfl rfl (by decide +kernel) ?_
        (refine Draw.done (by decide +kernel) (hK _ _ ?_); clear hK K)
        refine Run.seq ?_
        refine Run.seq ?_
        (refine Run.region ?_; intro K hK)
        refine Ops.pure H (X.move rfl) rfl rfl rfl ?_
        refine Ops.pure H (X.cmp rfl rfl rfl) rfl rfl rfl ?_
        refine Ops.pure H (X.move rfl) rfl rfl rfl ?_
        refine Ops.pure H (X.cmp rfl rfl rfl) rfl rfl rfl ?_
        refine Ops.pure H (X.move rfl) rfl rfl rfl ?_
        refine Ops.split_ndec rfl rfl (fun h133 => ?x5) (fun h133 => ?y5)
        case' y5 => exfalso; omega
        case' x5 =>
          refine Ops.pure H (X.fieldAddr rfl rfl rfl rfl rfl rfl) rfl rfl rfl ?_
          refine Ops.pure H (X.load1 rfl rfl rfl rfl Pick.head rfl) rfl rfl rfl ?_
          refine Ops.pure H (X.len_slice rfl rfl rfl) rfl rfl rfl ?_
          refine Ops.pure H (X.cmp rfl rfl rfl) rfl rfl rfl ?_
          refine Ops.pure H (X.pick_t rfl rfl) rfl rfl rfl ?_
          refine Ops.pure H (X.boolEq rfl rfl rfl rfl rfl) rfl rfl rfl ?_
          (refine Ops.nil (hK _ _ ?_); clear hK K)
          refine Run.cond_ndec rfl (fun h138 => ?x6) (fun h138 => ?y6)
          case' y6 =>
            refine Run.skip ?_
            refine Run.seq ?_
            (refine Run.region ?_; intro K hK)
            refine Ops.pure H (X.move rfl) rfl rfl rfl ?_
            refine Ops.pure H (X.cmp rfl rfl rfl) rfl rfl rfl ?_
            (refine Ops.nil (hK _ _ ?_); clear hK K)
            refine Run.cond_false rfl ?_
            refine Run.skip ?_
            refine Run.inBlock ?_
            (refine Run.region ?_; intro K hK)
            refine Ops.pure H (X.move rfl) rfl rfl rfl ?_
            refine Ops.pure H (X.succ rfl rfl (by omega)) rfl rfl rfl ?_
            refine Ops.pure H (X.assign rfl) rfl rfl rfl ?_
            (refine Ops.nil (hK _ _ ?_); clear hK K)
          case' x6 =>
            refine Run.seq ?_
            (refine Run.region ?_; intro K hK)
            refine Ops.pure H (X.assign rfl) rfl rfl rfl ?_
            (refine Ops.nil (hK _ _ ?_); clear hK K)
        · exact absurd (by simp; omega) h138
        · exact (IH (i + 1, W', M', _, q) _ (by dsimp only; omega) ⟨by dsimp only; omega, by dsimp only; omega, (hsame (by decide)).ext H.fr⟩).weak (by repeat (first | exact trivial | refine ⟨rfl, ?_⟩))
      · subst g2
        refine Draw.take0 rfl (X.assign rfl) rfl rfl rfl (by decide +kernel) ?_
        (refine Draw.done (by decide +kernel) (hK _ _ ?_); clear hK K)
        refine Run.seq ?_
        refine Run.seq ?_
        (refine Run.region ?_; intro K hK)
        refine Ops.pure H (X.move rfl) rfl rfl rfl ?_
        refine Ops.pure H (X.cmp rfl rfl rfl) rfl rfl rfl ?_
        refine Ops.pure H (X.move rfl) rfl rfl rfl ?_
        refine Ops.pure H (X.cmp rfl rfl rfl) rfl rfl rfl ?_
        refine Ops.pure H (X.move rfl) rfl rfl rfl ?_
        refine Ops.pass rfl rfl rfl ?_
        refine Ops.pass rfl rfl rfl ?_
        refine Ops.pass rfl rfl rfl ?_
        refine Ops.pass rfl rfl rfl ?_
        refine Ops.pure H (X.pick_f rfl rfl) rfl rfl rfl ?_
        refine Ops.pure H (X.boolEq rfl rfl rfl rfl rfl) rfl rfl rfl ?_
        (refine Ops.nil (hK _ _ ?_); clear hK K)
        refine Run.cond_false rfl ?_
        refine Run.skip ?_
        refine Run.seq ?_
        (refine Run.region ?_; intro K hK)
        refine Ops.pure H (X.move rfl) rfl rfl rfl ?_
        refine Ops.pure H (X.cmp rfl rfl rfl) rfl rfl rfl ?_
        (refine Ops.nil (hK _ _ ?_); clear hK K)
        refine Run.cond_false rfl ?_
        refine Run.skip ?_
        refine Run.inBlock ?_
        (refine Run.region ?_; intro K hK)
        refine Ops.pure H (X.move rfl) rfl rfl rfl ?_
        refine Ops.pure H (X.succ rfl rfl (by omega)) rfl rfl rfl ?_
        refine Ops.pure H (X.assign rfl) rfl rfl rfl ?_
        (refine Ops.nil (hK _ _ ?_); clear hK K)
        exact (IH (i + 1, W', M', _, q) _ (by dsimp only; omega) ⟨by dsimp only; omega, by dsimp only; omega, (hsame (by decide)).ext H.fr⟩).weak (by repeat (first | exact trivial | refine ⟨rfl, ?_⟩))
      · subst g2
        have hsay : Say W' (M' ++ [⟨cid, seq, xs, false⟩]) := hO.say.put hk.symm (by omega) (n := n) (by rw [hst8']; unfold putS; rw [if_pos he.symm]) hst8
        refine Draw.take0 rfl (X.assign rfl) rfl rfl rfl (by decide +kernel) ?_
        (refine Draw.done (by decide +kernel) (hK _ _ ?_); clear hK K)
        refine Run.seq ?_
        refine Run.seq ?_
        (refine Run.region ?_; intro K hK)
        refine Ops.pure H (X.move rfl) rfl rfl rfl ?_
        refine Ops.pure H (X.cmp rfl rfl rfl) rfl rfl rfl ?_
        refine Ops.pure H (X.move rfl) rfl rfl rfl ?_
        refine Ops.pure H (X.cmp rfl rfl rfl) rfl rfl rfl ?_
        refine Ops.pure H (X.move rfl) rfl rfl rfl ?_
        refine Ops.pass rfl rfl rfl ?_
        refine Ops.pass rfl rfl rfl ?_
        refine Ops.pass rfl rfl rfl ?_
        refine Ops.pass rfl rfl rfl ?_
        refine Ops.pure H (X.pick_f rfl rfl) rfl rfl rfl ?_
        refine Ops.pure H (X.boolEq rfl rfl rfl rfl rfl) rfl rfl rfl ?_
        (refine Ops.nil (hK _ _ ?_); clear hK K)
        refine Run.cond_false rfl ?_
        refine Run.skip ?_
        refine Run.seq ?_
        (refine Run.region ?_; intro K hK)
        refine Ops.pure H (X.move rfl) rfl rfl rfl ?_
        refine Ops.pure H (X.cmp rfl rfl rfl) rfl rfl rfl ?_
        (refine Ops.nil (hK _ _ ?_); clear hK K)
        refine Run.cond_true rfl ?_
        (refine Run.region ?_; intro K hK)
        refine Ops.pure H (X.move rfl) rfl rfl rfl ?_
        refine Ops.pure H (X.fieldAddr rfl rfl rfl rfl rfl rfl) rfl rfl rfl ?_
        refine Ops.pure H (X.load1 rfl rfl rfl rfl Pick.head rfl) rfl rfl rfl ?_
        refine Ops.pure H (X.fieldAddr rfl rfl rfl rfl rfl rfl) rfl rfl rfl ?_
        refine Ops.pure H (X.load1 rfl rfl rfl rfl Pick.head rfl) rfl rfl rfl ?_
        refine Ops.pure H (X.fieldAddr rfl rfl rfl rfl rfl rfl) rfl rfl rfl ?_
        refine Ops.pure H (X.load1 rfl rfl rfl rfl Pick.head rfl) rfl rfl rfl ?_
        refine Ops.eff rfl (Y.bytes (hxs.ext (hF8.then H.fr)) rfl rfl rfl rfl rfl rfl rfl rfl ?_)
        refine Ops.pure H (X.buildO rfl rfl rfl rfl rfl rfl) rfl rfl rfl ?_
        (refine Ops.eff rfl (Y.buildSliceO rfl rfl rfl rfl rfl rfl rfl rfl H ?_); intro b150 w H0 hb150; clear H; have H := H0; clear H0)
        have hml : M'.length + 1 ≤ an := by omega
        have hMi' : M'.length ≤ i := by omega
        have hmd9 := hmd8.ext H.fr
        obtain ⟨_, _, mcs, em, p2, p3, p4, p5⟩ := hmd9
        simp only [Value.slice.injEq] at em
        obtain ⟨rfl, _, rfl⟩ := em
        rw [← hM'] at *
        have hF9 := hF8.then H.fr
        have hgb := H.fr.size
        have hnews : ∀ v ∈ mdC ⟨cid, seq, xs, false⟩, v.oneCell' = true := by intro u hu; simp [mdC] at hu; rcases hu with rfl | rfl | rfl | rfl <;> rfl
        rcases p4 with ⟨rfl, rfl⟩ | ⟨rfl, pq, pl⟩
        · have hM0 : M' = [] := List.eq_nil_of_length_eq_zero (by omega)
          subst hM0
          refine Ops.eff rfl (Y.append_grow (olds := []) (news := mdC ⟨cid, seq, xs, false⟩) rfl rfl rfl rfl rfl H (by simp) Src.nil rfl rfl (Src.row (m := 4) H .head (Cs.take rfl)) rfl (by simp) (by simp) rfl ?_)
          intro b7 cap7 sp w9 H9 hb7 hc7 hm7 hsp
          clear H
          have H := H9
          clear H9
          refine Ops.pure H (X.assign rfl) rfl rfl rfl ?_
          (refine Ops.nil (hK _ _ ?_); clear hK K)
          refine Run.inBlock ?_
          (refine Run.region ?_; intro K hK)
          refine Ops.pure H (X.move rfl) rfl rfl rfl ?_
          refine Ops.pure H (X.succ rfl rfl (by omega)) rfl rfl rfl ?_
          refine Ops.pure H (X.assign rfl) rfl rfl rfl ?_
          (refine Ops.nil (hK _ _ ?_); clear hK K)
          refine (IH (i + 1, W', [] ++ [⟨cid, seq, xs, false⟩], .slice (some ⟨b7, 0, none⟩) (0 + 1) cap7, b7) _ (by dsimp only; omega) ⟨by dsimp only; omega, by simp <;> omega, hF8.then H.fr, hW8.ext H.fr, hgw, hnw, hnn, hsw, ?_, Nat.le_trans hF8.size hb7, hsay⟩).weak (by repeat (first | exact trivial | refine ⟨rfl, ?_⟩))
          refine ⟨_, cap7, _, rfl, by simpa using hc7, hm7, .inr ⟨rfl, H.pick (by first | exact .head | exact .tail .head | exact .tail (.tail .head) | exact .tail (.tail (.tail .head)) | exact .tail (.tail (.tail (.tail .head))) | exact .tail (.tail (.tail (.tail (.tail .head)))) | exact .tail (.tail (.tail (.tail (.tail (.tail .head)))))), ?_⟩, fun j hj => ?_⟩
          · simp [mdC] at hsp ⊢; omega
          · have hj0 : j = 0 := by simpa using hj
            subst hj0
            exact (Cs.mid [] (mdC ⟨cid, seq, xs, false⟩) sp).cast rfl rfl rfl
        · have hC : Cs mcs 0 (M'.length * 4) (mcs.take (M'.length * 4)) := Cs.ofGet _ _ _ (by simp; omega) (fun j hj => by simp [hj])
          have hCl := hC.length
          refine Ops.eff rfl (Y.appendB (olds := mcs.take (M'.length * 4)) (news := mdC ⟨cid, seq, xs, false⟩) (m := 1) 4 p2 p3 pq pl hC rfl rfl rfl rfl rfl rfl rfl (Src.row (m := 4) H .head (Cs.take rfl)) rfl hnews (by dsimp only; omega) (by omega) rfl ?_)
          intro b7 cap7 cs7 w9 hf9 hb7 hc7 hm7 hA7' hl7 hC7
          have hWw := hW8.ext H.fr
          have hq41 : ¬ Foot W' q := hWw.notFoot pq (by decide) (by decide) (by decide)
          have hW9 := hWw.keepS hf9 (by simpa using hq41) (by simpa using No5.row pq (by decide))
          have hF10 := hF9.grow hf9 (by simpa using hO.gq)
          have hgw9 := hF9.size
          clear H
          have H := Holds.start w9 []
          refine Ops.pure H (X.assign rfl) rfl rfl rfl ?_
          (refine Ops.nil (hK _ _ ?_); clear hK K)
          refine Run.inBlock ?_
          (refine Run.region ?_; intro K hK)
          refine Ops.pure H (X.move rfl) rfl rfl rfl ?_
          refine Ops.pure H (X.succ rfl rfl (by omega)) rfl rfl rfl ?_
          refine Ops.pure H (X.assign rfl) rfl rfl rfl ?_
          (refine Ops.nil (hK _ _ ?_); clear hK K)
          refine (IH (i + 1, W', M' ++ [⟨cid, seq, xs, false⟩], .slice (some ⟨b7, 0, none⟩) (M'.length + 1) cap7, b7) _ (by dsimp only; omega) ⟨by dsimp only; omega, (by have := hMi'; simp; omega), hF10.then H.fr, hW9.ext H.fr, hgw, hnw, hnn, hsw, ?_, ?_, hsay⟩).weak (by repeat (first | exact trivial | refine ⟨rfl, ?_⟩))
          · refine ⟨_, cap7, cs7, by simp, by simpa using hc7, hm7, .inr ⟨rfl, H.fr.get hA7' (by simp), hl7⟩, fun j hj => ?_⟩
            have hj' : j < M'.length + 1 := by simpa using hj
            rw [mget_app]
            refine Cs.ofGet _ _ _ rfl fun r hr => ?_
            have e1 := hC7.toGet (j := j * 4 + r) (by omega)
            rw [Nat.zero_add] at e1 ⊢
            by_cases h : j < M'.length
            · rw [if_pos h, e1, List.getElem?_append_left (by omega), List.getElem?_take, if_pos (by omega)]
              have := (p5 j h).toGet (j := r) (by simpa using hr)
              rwa [Nat.zero_add] at this
            · have hjl : j = M'.length := by omega
              subst hjl
              rw [if_neg (by omega), if_pos rfl, e1, List.getElem?_append_right (by omega)]
              congr 1
              omega
          · rcases hb7 with h | h
            · rw [h]; exact hO.gq
            · exact Nat.le_trans hgw9 h
    · intro kk go
      rcases hr with ⟨rfl, hno⟩ | ⟨p, rfl, hp, hpm⟩
      · have hk2 : ¬ k = 2 := fun h => by
          obtain ⟨c, bs, e1, e2, e3, e4⟩ := ask_two (hk.symm.trans h)
          obtain ⟨j, hj, hjm, _⟩ := hO.say.kn cid c seq bs e1 e3
          exact hno j hj hjm
        refine Run.block ?_
        refine Run.seq ?_
        refine Run.seq ?_
        (refine Run.region ?_; intro K hK)
        refine Ops.pure H (X.move rfl) rfl rfl rfl ?_
        refine Ops.pure H (X.cmp rfl rfl rfl) rfl rfl rfl ?_
        refine Ops.pure H (X.move rfl) rfl rfl rfl ?_
        refine Ops.pass rfl rfl rfl ?_
        refine Ops.pass rfl rfl rfl ?_
        refine Ops.pure H (X.pick_f rfl rfl) rfl rfl rfl ?_
        refine Ops.pure H (X.assign rfl) rfl rfl rfl ?_
        (refine Ops.nil (hK _ _ ?_); clear hK K)
        refine Run.cond_false rfl ?_
        refine Run.seq ?_
        (refine Run.region ?_; intro K hK)
        refine Ops.pure H (X.move rfl) rfl rfl rfl ?_
        refine Ops.pure H (X.cmp rfl rfl rfl) rfl rfl rfl ?_
        refine Ops.pure H (X.move rfl) rfl rfl rfl ?_
        refine Ops.pass rfl rfl rfl ?_
        refine Ops.pass rfl rfl rfl ?_
        refine Ops.pass rfl rfl rfl ?_
        refine Ops.pass rfl rfl rfl ?_
        refine Ops.pass rfl rfl rfl ?_
        refine Ops.pure H (X.pick_f rfl rfl) rfl rfl rfl ?_
        refine Ops.pure H (X.move rfl) rfl rfl rfl ?_
        refine Ops.pass rfl rfl rfl ?_
        refine Ops.pass rfl rfl rfl ?_
        refine Ops.pure H (X.pick_f rfl rfl) rfl rfl rfl ?_
        refine Ops.pure H (X.assign rfl) rfl rfl rfl ?_
        (refine Ops.nil (hK _ _ ?_); clear hK K)
        refine Run.cond_false rfl ?_
        (refine Run.draw H [] [0, 1, 2, 3, 4, 5, 6, 7, 8, 9, 10, 11, 12, 13, 14, 15, 16] ?_; clear H; intro K hK w H)
        refine Draw.take0 rfl (X.move rfl) rfl rfl rfl (by decide +kernel) ?_
        refine Draw.take0 rfl (X.cmp rfl rfl rfl) rfl rfl rfl (by decide +kernel) ?_
        refine Draw.take0 rfl (X.move rfl) rfl rfl rfl (by decide +kernel) ?_
        refine Draw.split_dec rfl rfl rfl (fun h92 => ?x7) (fun h92 => ?y7)
        case' y7 =>
          refine Draw.pass rfl rfl rfl rfl (by decide +kernel) ?_
          refine Draw.pass rfl rfl rfl rfl (by decide +kernel) ?_
          refine Draw.pass rfl rfl rfl rfl (by decide +kernel) ?_
          refine Draw.pass rfl rfl rfl rfl (by decide +kernel) ?_
          refine Draw.pass rfl rfl rfl rfl (by decide +kernel) ?_
          refine Draw.pass rfl rfl rfl rfl (by decide +kernel) ?_
          refine Draw.pass rfl rfl rfl rfl (by decide +kernel) ?_
          refine Draw.pass rfl rfl rfl rfl (by decide +kernel) ?_
          refine Draw.pass rfl rfl rfl rfl (by decide +kernel) ?_
          refine Draw.pass rfl rfl rfl rfl (by decide +kernel) ?_
          refine Draw.pass rfl rfl rfl rfl (by decide +kernel) ?_
          refine Draw.pass rfl rfl rfl rfl (by decide +kernel) ?_
          refine Draw.take0 rfl (X.pick_f rfl rfl) rfl rfl rfl (by decide +kernel) ?_
          refine Draw.take0 rfl (X.assign rfl) rfl rfl rfl (by decide +kernel) ?_
          (refine Draw.done (by decide +kernel) (hK _ _ ?_); clear hK K)
          refine Run.cond_false rfl ?_
          refine Run.seq ?_
          (refine Run.region ?_; intro K hK)
          refine Ops.pure H (X.move rfl) rfl rfl rfl ?_
          refine Ops.pure H (X.cmp rfl rfl rfl) rfl rfl rfl ?_
          refine Ops.pure H (X.move rfl) rfl rfl rfl ?_
          refine Ops.pass rfl rfl rfl ?_
          refine Ops.pass rfl rfl rfl ?_
          refine Ops.pure H (X.pick_f rfl rfl) rfl rfl rfl ?_
          refine Ops.pure H (X.assign rfl) rfl rfl rfl ?_
          (refine Ops.nil (hK _ _ ?_); clear hK K)
          refine Run.cond_false rfl ?_
          refine Run.skip ?_
          refine Run.inBlock ?_
        case' x7 => exfalso; omega
        exact go M _ _ ⟨rfl, hO.ext H.fr, H.pick .head⟩ (by repeat (first | exact trivial | refine ⟨rfl, ?_⟩))
      · clear m2 m3 m4 m5 H
        obtain ⟨_, _, mcs, e, m2, m3, m4, m5⟩ := hO.md
        cases e
        rcases m4 with ⟨_, rfl⟩ | ⟨rfl, mq, ml⟩
        · omega
        have hC := m5 p hp
        have c2 : mcs[0 + p * 4 + 2]? = some (.string (strOfNums (M.getD p md0).b)) := hC.get 2 _ rfl
        have c3 : mcs[0 + p * 4 + 3]? = some (.bool (M.getD p md0).past) := hC.get 3 _ rfl
        obtain ⟨s, hs1, hs2, hs3⟩ := hO.say.pa p hp
        rw [hpm.1] at hs1
        rw [hpm.2] at hs2 hs3
        rw [hs1] at hk hA4
        have hk1 : k ≠ 1 := by rw [hk]; exact ask_known (hs2.imp (fun h => h) (fun h => by rw [h]; rfl))
        have hnq : q ≠ b9 := ne_of_ty mq hb9 (by decide)
        rcases hk3 with rfl | rfl | rfl
        · exact absurd rfl hk1
        · obtain ⟨c, bs, e1, e2, e3, e4⟩ := ask_two hk.symm
          cases e1
          have hpf : (M.getD p md0).past = false := by
            cases h : (M.getD p md0).past with
            | false => rfl
            | true => exact absurd (hs3 h) e2
          rw [hpf] at c3
          have hbs : askB (some s) seq = (M.getD p md0).b := by
            rw [e4]
            rcases hs2 with h | h
            · exact absurd h e2
            · rw [h] at e3; cases e3; rfl
          rw [hbs] at hA4
          generalize (M.getD p md0).b = pb at c2 hA4
          obtain ⟨ba, bcap, bb, bcs, bfz, rfl, b2, b3, b4, b5⟩ := hA4
          by_cases hpos : 0 < pb.length
          · obtain ⟨rfl, hbb⟩ := b4 hpos
            have hn1 : bb ≠ b9 := fun e => by rw [e, hb9] at hbb; cases hbb
            have hn2 : bb ≠ q := fun e => by rw [e, mq] at hbb; cases hbb
            have H := (((Holds.start w5 []).add false hb9 (by simp) (by simp)).add false mq (by simpa using hnq) (by simp)).add false hbb (by simpa using ⟨hn2, hn1⟩) (by simp)
            refine Run.block ?_
            refine Run.seq ?_
            refine Run.seq ?_
            (refine Run.region ?_; intro K hK)
            refine Ops.pure H (X.move rfl) rfl rfl rfl ?_
            refine Ops.pure H (X.cmp rfl rfl rfl) rfl rfl rfl ?_
            refine Ops.pure H (X.move rfl) rfl rfl rfl ?_
            refine Ops.pure H (X.move rfl) rfl rfl rfl ?_
            refine Ops.pure H (X.cmp rfl rfl rfl) rfl rfl rfl ?_
            refine Ops.pure H (X.pick_t rfl rfl) rfl rfl rfl ?_
            refine Ops.pure H (X.assign rfl) rfl rfl rfl ?_
            (refine Ops.nil (hK _ _ ?_); clear hK K)
            refine Run.cond_false rfl ?_
            refine Run.seq ?_
            (refine Run.region ?_; intro K hK)
            refine Ops.pure H (X.move rfl) rfl rfl rfl ?_
            refine Ops.pure H (X.cmp rfl rfl rfl) rfl rfl rfl ?_
            refine Ops.pure H (X.move rfl) rfl rfl rfl ?_
            refine Ops.pure H (X.move rfl) rfl rfl rfl ?_
            refine Ops.pure H (X.move rfl) rfl rfl rfl ?_
            refine Ops.pure H (X.indexAddr rfl rfl (by omega) rfl rfl rfl rfl) rfl rfl rfl ?_
            refine Ops.pure H (X.fieldAddr rfl rfl rfl rfl rfl rfl) rfl rfl rfl ?_
            refine Ops.pure H (X.load1 rfl rfl rfl rfl (.tail .head) (by assumption)) rfl rfl rfl ?_
            refine Ops.pure H (X.pick_t rfl rfl) rfl rfl rfl ?_
            refine Ops.pure H (X.move rfl) rfl rfl rfl ?_
            refine Ops.pass rfl rfl rfl ?_
            refine Ops.pass rfl rfl rfl ?_
            refine Ops.pure H (X.pick_f rfl rfl) rfl rfl rfl ?_
            refine Ops.pure H (X.assign rfl) rfl rfl rfl ?_
            (refine Ops.nil (hK _ _ ?_); clear hK K)
            refine Run.cond_false rfl ?_
            (refine Run.draw H [] [0, 1, 2, 3, 4, 5, 6, 7, 8, 9, 10, 11, 12, 13, 14, 15, 16] ?_; clear H; intro K hK w H)
            refine Draw.take0 rfl (X.move rfl) rfl rfl rfl (by decide +kernel) ?_
            refine Draw.take0 rfl (X.cmp rfl rfl rfl) rfl rfl rfl (by decide +kernel) ?_
            refine Draw.take0 rfl (X.move rfl) rfl rfl rfl (by decide +kernel) ?_
            refine Draw.take0 rfl (X.move rfl) rfl rfl rfl (by decide +kernel) ?_
            refine Draw.take0 rfl (X.cmp rfl rfl rfl) rfl rfl rfl (by decide +kernel) ?_
            refine Draw.take0 rfl (X.move rfl) rfl rfl rfl (by decide +kernel) ?_
            refine Draw.take0 rfl (X.move rfl) rfl rfl rfl (by decide +kernel) ?_
            refine Draw.take0 rfl (X.move rfl) rfl rfl rfl (by decide +kernel) ?_
            refine Draw.take0 rfl (X.indexAddr rfl rfl (by omega) rfl rfl rfl rfl) rfl rfl rfl (by decide +kernel) ?_
            refine Draw.take0 rfl (X.fieldAddr rfl rfl rfl rfl rfl rfl) rfl rfl rfl (by decide +kernel) ?_
            refine Draw.take rfl (X.load1 rfl rfl rfl rfl (.tail .head) (by assumption)) rfl rfl rfl (by decide +kernel) ?_
            refine Draw.take0 rfl (X.move rfl) rfl rfl rfl (by decide +kernel) ?_
            refine Draw.split_dec rfl rfl rfl (fun h101 => ?x8) (fun h101 => ?y8)
            case' x8 => exfalso; omega
            refine Draw.take rfl (X.bytesG (xs := pb) (fun w hw => ⟨_, bcap, bb, 0, bcs, 5, bfz, rfl, b2, b3, fun _ => ⟨rfl, hw _ (List.mem_cons_self ..)⟩, b5⟩) rfl rfl rfl rfl rfl rfl rfl) rfl rfl rfl (by decide +kernel) ?_
            refine Draw.take0 rfl (X.strNe rfl rfl) rfl rfl rfl (by decide +kernel) ?_
            refine Draw.take0 rfl (X.pick_f rfl rfl) rfl rfl rfl (by decide +kernel) ?_
            refine Draw.take0 rfl (X.pick_t rfl rfl) rfl rfl rfl (by decide +kernel) ?_
            refine Draw.take0 rfl (X.assign rfl) rfl rfl rfl (by decide +kernel) ?_
            (refine Draw.done (by decide +kernel) (hK _ _ ?_); clear hK K)
            refine Run.cond_ndec rfl (fun h69 => ?x9) (fun h69 => ?y9)
            case' y9 =>
              refine Run.seq ?_
              (refine Run.region ?_; intro K hK)
              refine Ops.pure H (X.move rfl) rfl rfl rfl ?_
              refine Ops.pure H (X.cmp rfl rfl rfl) rfl rfl rfl ?_
              refine Ops.pure H (X.move rfl) rfl rfl rfl ?_
              refine Ops.pure H (X.move rfl) rfl rfl rfl ?_
              refine Ops.pure H (X.cmp rfl rfl rfl) rfl rfl rfl ?_
              refine Ops.pure H (X.pick_t rfl rfl) rfl rfl rfl ?_
              refine Ops.pure H (X.assign rfl) rfl rfl rfl ?_
              (refine Ops.nil (hK _ _ ?_); clear hK K)
              refine Run.cond_false rfl ?_
              refine Run.skip ?_
              refine Run.inBlock ?_
            case' x9 =>
              refine Run.seq ?_
              (refine Run.region ?_; intro K hK)
              refine Ops.pure H (X.assign rfl) rfl rfl rfl ?_
              (refine Ops.nil (hK _ _ ?_); clear hK K)
            · exact absurd rfl h69
            · exact go M _ _ ⟨rfl, hO.ext H.fr, H.pick (by first | exact .head | exact .tail .head | exact .tail (.tail .head) | exact .tail (.tail (.tail .head)) | exact .tail (.tail (.tail (.tail .head))) | exact .tail (.tail (.tail (.tail (.tail .head)))) | exact .tail (.tail (.tail (.tail (.tail (.tail .head))))))⟩ (by repeat (first | exact trivial | refine ⟨rfl, ?_⟩))
          · have H := ((Holds.start w5 []).add false hb9 (by simp) (by simp)).add false mq (by simpa using hnq) (by simp)
            refine Run.block ?_
            refine Run.seq ?_
            refine Run.seq ?_
            (refine Run.region ?_; intro K hK)
            refine Ops.pure H (X.move rfl) rfl rfl rfl ?_
            refine Ops.pure H (X.cmp rfl rfl rfl) rfl rfl rfl ?_
            refine Ops.pure H (X.move rfl) rfl rfl rfl ?_
            refine Ops.pure H (X.move rfl) rfl rfl rfl ?_
            refine Ops.pure H (X.cmp rfl rfl rfl) rfl rfl rfl ?_
            refine Ops.pure H (X.pick_t rfl rfl) rfl rfl rfl ?_
            refine Ops.pure H (X.assign rfl) rfl rfl rfl ?_
            (refine Ops.nil (hK _ _ ?_); clear hK K)
            refine Run.cond_false rfl ?_
            refine Run.seq ?_
            (refine Run.region ?_; intro K hK)
            refine Ops.pure H (X.move rfl) rfl rfl rfl ?_
            refine Ops.pure H (X.cmp rfl rfl rfl) rfl rfl rfl ?_
            refine Ops.pure H (X.move rfl) rfl rfl rfl ?_
            refine Ops.pure H (X.move rfl) rfl rfl rfl ?_
            refine Ops.pure H (X.move rfl) rfl rfl rfl ?_
            refine Ops.pure H (X.indexAddr rfl rfl (by omega) rfl rfl rfl rfl) rfl rfl rfl ?_
            refine Ops.pure H (X.fieldAddr rfl rfl rfl rfl rfl rfl) rfl rfl rfl ?_
            refine Ops.pure H (X.load1 rfl rfl rfl rfl Pick.head (by assumption)) rfl rfl rfl ?_
            refine Ops.pure H (X.pick_t rfl rfl) rfl rfl rfl ?_
            refine Ops.pure H (X.move rfl) rfl rfl rfl ?_
            refine Ops.pass rfl rfl rfl ?_
            refine Ops.pass rfl rfl rfl ?_
            refine Ops.pure H (X.pick_f rfl rfl) rfl rfl rfl ?_
            refine Ops.pure H (X.assign rfl) rfl rfl rfl ?_
            (refine Ops.nil (hK _ _ ?_); clear hK K)
            refine Run.cond_false rfl ?_
            (refine Run.draw H [] [0, 1, 2, 3, 4, 5, 6, 7, 8, 9, 10, 11, 12, 13, 14, 15, 16] ?_; clear H; intro K hK w H)
            refine Draw.take0 rfl (X.move rfl) rfl rfl rfl (by decide +kernel) ?_
            refine Draw.take0 rfl (X.cmp rfl rfl rfl) rfl rfl rfl (by decide +kernel) ?_
            refine Draw.take0 rfl (X.move rfl) rfl rfl rfl (by decide +kernel) ?_
            refine Draw.take0 rfl (X.move rfl) rfl rfl rfl (by decide +kernel) ?_
            refine Draw.take0 rfl (X.cmp rfl rfl rfl) rfl rfl rfl (by decide +kernel) ?_
            refine Draw.take0 rfl (X.move rfl) rfl rfl rfl (by decide +kernel) ?_
            refine Draw.take0 rfl (X.move rfl) rfl rfl rfl (by decide +kernel) ?_
            refine Draw.take0 rfl (X.move rfl) rfl rfl rfl (by decide +kernel) ?_
            refine Draw.take0 rfl (X.indexAddr rfl rfl (by omega) rfl rfl rfl rfl) rfl rfl rfl (by decide +kernel) ?_
            refine Draw.take0 rfl (X.fieldAddr rfl rfl rfl rfl rfl rfl) rfl rfl rfl (by decide +kernel) ?_
            refine Draw.take rfl (X.load1 rfl rfl rfl rfl Pick.head (by assumption)) rfl rfl rfl (by decide +kernel) ?_
            refine Draw.take0 rfl (X.move rfl) rfl rfl rfl (by decide +kernel) ?_
            refine Draw.split_dec rfl rfl rfl (fun h101 => ?x10) (fun h101 => ?y10)
            case' x10 => exfalso; omega
            refine Draw.take rfl (X.bytesG (xs := pb) (fun w hw => ⟨_, bcap, 0, 0, bcs, 5, bfz, rfl, b2, b3, fun h => absurd h hpos, b5⟩) rfl rfl rfl rfl rfl rfl rfl) rfl rfl rfl (by decide +kernel) ?_
            refine Draw.take0 rfl (X.strNe rfl rfl) rfl rfl rfl (by decide +kernel) ?_
            refine Draw.take0 rfl (X.pick_f rfl rfl) rfl rfl rfl (by decide +kernel) ?_
            refine Draw.take0 rfl (X.pick_t rfl rfl) rfl rfl rfl (by decide +kernel) ?_
            refine Draw.take0 rfl (X.assign rfl) rfl rfl rfl (by decide +kernel) ?_
            (refine Draw.done (by decide +kernel) (hK _ _ ?_); clear hK K)
            refine Run.cond_ndec rfl (fun h69 => ?x11) (fun h69 => ?y11)
            case' y11 =>
              refine Run.seq ?_
              (refine Run.region ?_; intro K hK)
              refine Ops.pure H (X.move rfl) rfl rfl rfl ?_
              refine Ops.pure H (X.cmp rfl rfl rfl) rfl rfl rfl ?_
              refine Ops.pure H (X.move rfl) rfl rfl rfl ?_
              refine Ops.pure H (X.move rfl) rfl rfl rfl ?_
              refine Ops.pure H (X.cmp rfl rfl rfl) rfl rfl rfl ?_
              refine Ops.pure H (X.pick_t rfl rfl) rfl rfl rfl ?_
              refine Ops.pure H (X.assign rfl) rfl rfl rfl ?_
              (refine Ops.nil (hK _ _ ?_); clear hK K)
              refine Run.cond_false rfl ?_
              refine Run.skip ?_
              refine Run.inBlock ?_
            case' x11 =>
              refine Run.seq ?_
              (refine Run.region ?_; intro K hK)
              refine Ops.pure H (X.assign rfl) rfl rfl rfl ?_
              (refine Ops.nil (hK _ _ ?_); clear hK K)
            · exact absurd rfl h69
            · exact go M _ _ ⟨rfl, hO.ext H.fr, H.pick (by first | exact .head | exact .tail .head | exact .tail (.tail .head) | exact .tail (.tail (.tail .head)) | exact .tail (.tail (.tail (.tail .head))) | exact .tail (.tail (.tail (.tail (.tail .head)))) | exact .tail (.tail (.tail (.tail (.tail (.tail .head))))))⟩ (by repeat (first | exact trivial | refine ⟨rfl, ?_⟩))
        · have hfl := ask_past hk.symm
          have hq41 : ¬ Foot W q := hO.pw.notFoot mq (by decide) (by decide) (by decide)
          have H := ((Holds.start w5 [q]).add false hb9 (by simp) (by simp)).add true mq (by simpa using hnq) (by simp)
          cases hpp : (M.getD p md0).past with
          | false =>
            rw [hpp] at c3
            refine Run.block ?_
            refine Run.seq ?_
            refine Run.seq ?_
            (refine Run.region ?_; intro K hK)
            refine Ops.pure H (X.move rfl) rfl rfl rfl ?_
            refine Ops.pure H (X.cmp rfl rfl rfl) rfl rfl rfl ?_
            refine Ops.pure H (X.move rfl) rfl rfl rfl ?_
            refine Ops.pure H (X.move rfl) rfl rfl rfl ?_
            refine Ops.pure H (X.cmp rfl rfl rfl) rfl rfl rfl ?_
            refine Ops.pure H (X.pick_t rfl rfl) rfl rfl rfl ?_
            refine Ops.pure H (X.assign rfl) rfl rfl rfl ?_
            (refine Ops.nil (hK _ _ ?_); clear hK K)
            refine Run.cond_false rfl ?_
            refine Run.seq ?_
            (refine Run.region ?_; intro K hK)
            refine Ops.pure H (X.move rfl) rfl rfl rfl ?_
            refine Ops.pure H (X.cmp rfl rfl rfl) rfl rfl rfl ?_
            refine Ops.pure H (X.move rfl) rfl rfl rfl ?_
            refine Ops.pure H (X.move rfl) rfl rfl rfl ?_
            refine Ops.pure H (X.move rfl) rfl rfl rfl ?_
            refine Ops.pure H (X.indexAddr rfl rfl (by omega) rfl rfl rfl rfl) rfl rfl rfl ?_
            refine Ops.pure H (X.fieldAddr rfl rfl rfl rfl rfl rfl) rfl rfl rfl ?_
            refine Ops.pure H (X.load1 rfl rfl rfl rfl Pick.head (by assumption)) rfl rfl rfl ?_
            refine Ops.pure H (X.pick_t rfl rfl) rfl rfl rfl ?_
            refine Ops.pure H (X.move rfl) rfl rfl rfl ?_
            refine Ops.pass rfl rfl rfl ?_
            refine Ops.pass rfl rfl rfl ?_
            refine Ops.pure H (X.pick_f rfl rfl) rfl rfl rfl ?_
            refine Ops.pure H (X.assign rfl) rfl rfl rfl ?_
            (refine Ops.nil (hK _ _ ?_); clear hK K)
            refine Run.cond_false rfl ?_
            (refine Run.draw H [] [0, 1, 2, 3, 4, 5, 6, 7, 8, 9, 10, 11, 12, 13, 14, 15, 16] ?_; clear H; intro K hK w H)
            refine Draw.take0 rfl (X.move rfl) rfl rfl rfl (by decide +kernel) ?_
            refine Draw.take0 rfl (X.cmp rfl rfl rfl) rfl rfl rfl (by decide +kernel) ?_
            refine Draw.take0 rfl (X.move rfl) rfl rfl rfl (by decide +kernel) ?_
            refine Draw.pass rfl rfl rfl rfl (by decide +kernel) ?_
            refine Draw.pass rfl rfl rfl rfl (by decide +kernel) ?_
            refine Draw.pass rfl rfl rfl rfl (by decide +kernel) ?_
            refine Draw.pass rfl rfl rfl rfl (by decide +kernel) ?_
            refine Draw.pass rfl rfl rfl rfl (by decide +kernel) ?_
            refine Draw.pass rfl rfl rfl rfl (by decide +kernel) ?_
            refine Draw.pass rfl rfl rfl rfl (by decide +kernel) ?_
            refine Draw.pass rfl rfl rfl rfl (by decide +kernel) ?_
            refine Draw.pass rfl rfl rfl rfl (by decide +kernel) ?_
            refine Draw.pass rfl rfl rfl rfl (by decide +kernel) ?_
            refine Draw.pass rfl rfl rfl rfl (by decide +kernel) ?_
            refine Draw.pass rfl rfl rfl rfl (by decide +kernel) ?_
            refine Draw.take0 rfl (X.pick_f rfl rfl) rfl rfl rfl (by decide +kernel) ?_
            refine Draw.take0 rfl (X.assign rfl) rfl rfl rfl (by decide +kernel) ?_
            (refine Draw.done (by decide +kernel) (hK _ _ ?_); clear hK K)
            refine Run.cond_false rfl ?_
            refine Run.seq ?_
            (refine Run.region ?_; intro K hK)
            refine Ops.pure H (X.move rfl) rfl rfl rfl ?_
            refine Ops.pure H (X.cmp rfl rfl rfl) rfl rfl rfl ?_
            refine Ops.pure H (X.move rfl) rfl rfl rfl ?_
            refine Ops.pure H (X.move rfl) rfl rfl rfl ?_
            refine Ops.pure H (X.cmp rfl rfl rfl) rfl rfl rfl ?_
            refine Ops.pure H (X.pick_t rfl rfl) rfl rfl rfl ?_
            refine Ops.pure H (X.assign rfl) rfl rfl rfl ?_
            (refine Ops.nil (hK _ _ ?_); clear hK K)
            refine Run.cond_true rfl ?_
            (refine Run.region ?_; intro K hK)
            refine Ops.pure H (X.move rfl) rfl rfl rfl ?_
            refine Ops.pure H (X.move rfl) rfl rfl rfl ?_
            refine Ops.pure H (X.indexAddr rfl rfl (by omega) rfl rfl rfl rfl) rfl rfl rfl ?_
            refine Ops.pure H (X.fieldAddr rfl rfl rfl rfl rfl rfl) rfl rfl rfl ?_
            (refine Ops.eff rfl (Y.storeI rfl rfl rfl rfl rfl rfl H Upd.head (by omega) ?_); intro w H0; clear H; have H := H0; clear H0)
            (refine Ops.nil (hK _ _ ?_); clear hK K)
            refine Run.inBlock ?_
            exact go (setPast M p) _ _ ⟨setPast_len _ _, ⟨hO.fr.grow H.fr (by simpa using hO.gq), hO.pw.keepS H.fr (by simpa using hq41) (by simpa using No5.row mq (by decide)), hO.gw, hO.nw, hO.nn, hO.sw, Md.past hp rfl m2 m3 rfl ml m5 (H.pick (by first | exact .head | exact .tail .head | exact .tail (.tail .head) | exact .tail (.tail (.tail .head)) | exact .tail (.tail (.tail (.tail .head))) | exact .tail (.tail (.tail (.tail (.tail .head)))) | exact .tail (.tail (.tail (.tail (.tail (.tail .head))))))), hO.gq, hO.say.past hp (fun s' h' => by rw [hpm.1, hs1] at h'; cases h'; rw [hpm.2]; exact hfl)⟩, H.pick (by first | exact .head | exact .tail .head | exact .tail (.tail .head) | exact .tail (.tail (.tail .head)) | exact .tail (.tail (.tail (.tail .head))) | exact .tail (.tail (.tail (.tail (.tail .head)))) | exact .tail (.tail (.tail (.tail (.tail (.tail .head))))))⟩ (by repeat (first | exact trivial | refine ⟨rfl, ?_⟩))
          | true =>
            rw [hpp] at c3
            refine Run.block ?_
            refine Run.seq ?_
            refine Run.seq ?_
            (refine Run.region ?_; intro K hK)
            refine Ops.pure H (X.move rfl) rfl rfl rfl ?_
            refine Ops.pure H (X.cmp rfl rfl rfl) rfl rfl rfl ?_
            refine Ops.pure H (X.move rfl) rfl rfl rfl ?_
            refine Ops.pure H (X.move rfl) rfl rfl rfl ?_
            refine Ops.pure H (X.cmp rfl rfl rfl) rfl rfl rfl ?_
            refine Ops.pure H (X.pick_t rfl rfl) rfl rfl rfl ?_
            refine Ops.pure H (X.assign rfl) rfl rfl rfl ?_
            (refine Ops.nil (hK _ _ ?_); clear hK K)
            refine Run.cond_false rfl ?_
            refine Run.seq ?_
            (refine Run.region ?_; intro K hK)
            refine Ops.pure H (X.move rfl) rfl rfl rfl ?_
            refine Ops.pure H (X.cmp rfl rfl rfl) rfl rfl rfl ?_
            refine Ops.pure H (X.move rfl) rfl rfl rfl ?_
            refine Ops.pure H (X.move rfl) rfl rfl rfl ?_
            refine Ops.pure H (X.move rfl) rfl rfl rfl ?_
            refine Ops.pure H (X.indexAddr rfl rfl (by omega) rfl rfl rfl rfl) rfl rfl rfl ?_
            refine Ops.pure H (X.fieldAddr rfl rfl rfl rfl rfl rfl) rfl rfl rfl ?_
            refine Ops.pure H (X.load1 rfl rfl rfl rfl Pick.head (by assumption)) rfl rfl rfl ?_
            refine Ops.pure H (X.pick_t rfl rfl) rfl rfl rfl ?_
            refine Ops.pure H (X.move rfl) rfl rfl rfl ?_
            refine Ops.pure H (X.move rfl) rfl rfl rfl ?_
            refine Ops.pure H (X.cmp rfl rfl rfl) rfl rfl rfl ?_
            refine Ops.pure H (X.pick_t rfl rfl) rfl rfl rfl ?_
            refine Ops.pure H (X.assign rfl) rfl rfl rfl ?_
            (refine Ops.nil (hK _ _ ?_); clear hK K)
            refine Run.cond_false rfl ?_
            (refine Run.draw H [] [0, 1, 2, 3, 4, 5, 6, 7, 8, 9, 10, 11, 12, 13, 14, 15, 16] ?_; clear H; intro K hK w H)
            refine Draw.take0 rfl (X.move rfl) rfl rfl rfl (by decide +kernel) ?_
            refine Draw.take0 rfl (X.cmp rfl rfl rfl) rfl rfl rfl (by decide +kernel) ?_
            refine Draw.take0 rfl (X.move rfl) rfl rfl rfl (by decide +kernel) ?_
            refine Draw.pass rfl rfl rfl rfl (by decide +kernel) ?_
            refine Draw.pass rfl rfl rfl rfl (by decide +kernel) ?_
            refine Draw.pass rfl rfl rfl rfl (by decide +kernel) ?_
            refine Draw.pass rfl rfl rfl rfl (by decide +kernel) ?_
            refine Draw.pass rfl rfl rfl rfl (by decide +kernel) ?_
            refine Draw.pass rfl rfl rfl rfl (by decide +kernel) ?_
            refine Draw.pass rfl rfl rfl rfl (by decide +kernel) ?_
            refine Draw.pass rfl rfl rfl rfl (by decide +kernel) ?_
            refine Draw.pass rfl rfl rfl rfl (by decide +kernel) ?_
            refine Draw.pass rfl rfl rfl rfl (by decide +kernel) ?_
            refine Draw.pass rfl rfl rfl rfl (by decide +kernel) ?_
            refine Draw.pass rfl rfl rfl rfl (by decide +kernel) ?_
            refine Draw.take0 rfl (X.pick_f rfl rfl) rfl rfl rfl (by decide +kernel) ?_
            refine Draw.take0 rfl (X.assign rfl) rfl rfl rfl (by decide +kernel) ?_
            (refine Draw.done (by decide +kernel) (hK _ _ ?_); clear hK K)
            refine Run.cond_false rfl ?_
            refine Run.seq ?_
            (refine Run.region ?_; intro K hK)
            refine Ops.pure H (X.move rfl) rfl rfl rfl ?_
            refine Ops.pure H (X.cmp rfl rfl rfl) rfl rfl rfl ?_
            refine Ops.pure H (X.move rfl) rfl rfl rfl ?_
            refine Ops.pure H (X.move rfl) rfl rfl rfl ?_
            refine Ops.pure H (X.cmp rfl rfl rfl) rfl rfl rfl ?_
            refine Ops.pure H (X.pick_t rfl rfl) rfl rfl rfl ?_
            refine Ops.pure H (X.assign rfl) rfl rfl rfl ?_
            (refine Ops.nil (hK _ _ ?_); clear hK K)
            refine Run.cond_true rfl ?_
            (refine Run.region ?_; intro K hK)
            refine Ops.pure H (X.move rfl) rfl rfl rfl ?_
            refine Ops.pure H (X.move rfl) rfl rfl rfl ?_
            refine Ops.pure H (X.indexAddr rfl rfl (by omega) rfl rfl rfl rfl) rfl rfl rfl ?_
            refine Ops.pure H (X.fieldAddr rfl rfl rfl rfl rfl rfl) rfl rfl rfl ?_
            (refine Ops.eff rfl (Y.storeI rfl rfl rfl rfl rfl rfl H Upd.head (by omega) ?_); intro w H0; clear H; have H := H0; clear H0)
            (refine Ops.nil (hK _ _ ?_); clear hK K)
            refine Run.inBlock ?_
            exact go (setPast M p) _ _ ⟨setPast_len _ _, ⟨hO.fr.grow H.fr (by simpa using hO.gq), hO.pw.keepS H.fr (by simpa using hq41) (by simpa using No5.row mq (by decide)), hO.gw, hO.nw, hO.nn, hO.sw, Md.past hp rfl m2 m3 rfl ml m5 (H.pick (by first | exact .head | exact .tail .head | exact .tail (.tail .head) | exact .tail (.tail (.tail .head)) | exact .tail (.tail (.tail (.tail .head))) | exact .tail (.tail (.tail (.tail (.tail .head)))) | exact .tail (.tail (.tail (.tail (.tail (.tail .head))))))), hO.gq, hO.say.past hp (fun s' h' => by rw [hpm.1, hs1] at h'; cases h'; rw [hpm.2]; exact hfl)⟩, H.pick (by first | exact .head | exact .tail .head | exact .tail (.tail .head) | exact .tail (.tail (.tail .head)) | exact .tail (.tail (.tail (.tail .head))) | exact .tail (.tail (.tail (.tail (.tail .head)))) | exact .tail (.tail (.tail (.tail (.tail (.tail .head))))))⟩ (by repeat (first | exact trivial | refine ⟨rfl, ?_⟩))
  · have H := Holds.start w3 []
    refine Run.seq ?_
    refine Run.seq ?_
    (refine Run.region ?_; intro K hK)
    refine Ops.pure H (X.move rfl) rfl rfl rfl ?_
    refine Ops.pure H (X.move rfl) rfl rfl rfl ?_
    refine Ops.pure H (X.len_slice rfl rfl rfl) rfl rfl rfl ?_
    refine Ops.pure H (X.cmp rfl rfl rfl) rfl rfl rfl ?_
    (refine Ops.nil (hK _ _ ?_); clear hK K)
    refine Run.cond_dec rfl (fun h37 => ?x12) (fun h37 => ?y12)
    case' y12 =>
      refine Run.exit rfl ?_
      refine Run.seq ?_
      (refine Run.region ?_; intro K hK)
      refine Ops.pure H (X.move rfl) rfl rfl rfl ?_
    case' x12 => exfalso; omega
    refine Ops.eff rfl (Y.call rfl rfl (by first | assumption | decide +kernel) rfl (len_any _ W (hO.pw.ext H.fr) hO.nn) rfl ?_)
    rintro v w4 ⟨hf4, ks, hn, _, rfl⟩
    replace H := H.ext hf4
    have ht := hO.say.tot ks hn
    refine Ops.pure H (X.move rfl) rfl rfl rfl ?_
    refine Ops.pure H (X.len_slice rfl rfl rfl) rfl rfl rfl ?_
    refine Ops.pure H (X.cmp rfl rfl rfl) rfl rfl rfl ?_
    refine Ops.pure H (X.assign rfl) rfl rfl rfl ?_
    (refine Ops.nil (hK _ _ ?_); clear hK K)
    (first | refine Fn.ret1 HF rfl rfl ?_ | refine Fn.ret2 HF rfl rfl rfl ?_ | refine Fn.ret3 HF rfl rfl rfl rfl ?_ | refine Fn.ret0 HF rfl ?_ | refine Fn.fin0 HF rfl ?_ | refine Fn.retG (E := env) HF rfl H (by first | exact RVs.cellN rfl rfl rfl (by first | exact .head | exact .tail .head | exact .tail (.tail .head) | exact .tail (.tail (.tail .head)) | exact .tail (.tail (.tail (.tail .head))) | exact .tail (.tail (.tail (.tail (.tail .head)))) | exact .tail (.tail (.tail (.tail (.tail (.tail .head)))))) (by first | assumption | exact Cs.take rfl) RVs.nil | exact RVs.cellN rfl rfl rfl (by first | exact .head | exact .tail .head | exact .tail (.tail .head) | exact .tail (.tail (.tail .head)) | exact .tail (.tail (.tail (.tail .head))) | exact .tail (.tail (.tail (.tail (.tail .head)))) | exact .tail (.tail (.tail (.tail (.tail (.tail .head)))))) (by first | assumption | exact Cs.take rfl) (RVs.tmp rfl RVs.nil)) rfl ?_)
    exact ⟨by rw [decide_eq_true (by omega)], hO.fr.then H.fr⟩
end Go.Proofs.Ytikkpkckbcpjfaa
