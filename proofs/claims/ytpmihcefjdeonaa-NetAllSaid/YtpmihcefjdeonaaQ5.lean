/- Walks of layer 6: the document's take, Lose. -/
import Derived.Test.YtpmihcefjdeonaaQ4
namespace Go.Proofs.Ytpmihcefjdeonaa
open Go
set_option maxRecDepth 20000
set_option maxHeartbeats 2000000
attribute [local irreducible] Run Ops Fn Draw Draw2 PureOp StepZ
section
variable {E : Env} {n : Nat} {L : Sl} {w w0 : World} {S : List Nat} {G G0 G1 : List Ent} {d T : Nat} {pos : String} {e : Array Edge} {g : Option (Nat × Bool)} {x y s : Operand} {QQ : Exit → Act → World → Prop} {Z : Sl → World → Prop}
/-- What is appended to a list that has a block, be it nothing. -/
theorem Y.pushS {t el sz len m xc b : Nat} {v : Value} {xa : Option Addr} {ti te : TyI} {olds news : List Value} (hL : Lst w v (some b) el sz len olds) (hs : ev L s = some v) (hx : ev L x = some (.slice xa m xc))
    (ht : nth E.T t = some (some ti)) (hd : ti.d = .slice el) (hte : nth E.T el = some (some te)) (hsz : te.size = sz) (H : Holds w0 S w G) (hG : ∀ e ∈ G, b ≠ e.b)
    (hl : news.length = m * te.size) (hsrc : Src w xa news) (hz : (cellsL te.zero).length = te.size) (h1 : ∀ v ∈ news, v.oneCell' = true)
    (hb : (len + m) * te.bytes ≤ 140737488355328) (h63 : len + m ≤ 9223372036854775807) (hn : Nat.blt d n = true)
    (next : ∀ b' off' cap' cs' w', Holds w0 (b :: S) w' (⟨b', row cs' el, true⟩ :: G) → len + m ≤ cap' → cap' ≤ 9223372036854775807 → off' + cap' * sz ≤ cs'.length → Cs cs' off' ((len + m) * sz) (olds ++ news) → (b = b' ∨ w.heap.size ≤ b') → Z ((d, .slice (some ⟨b', off', none⟩) (len + m) cap') :: L) w') :
    StepZ E QQ n ⟨some d, .call { callee := .builtin .append, args := #[s, x], argTypes := #[t, t] }, T, pos, e, g⟩ Z L w := by
  subst hsz
  have hol := hL.len
  have hlt := H.ltG
  obtain ⟨off, cap, cs, rfl, h2, h3, h4, h5, h6⟩ := hL
  by_cases hr : len + m ≤ cap
  · have H2 := (Holds.start w [b]).add true h4 (by simp) (by simp)
    have hfit : off + len * te.size + news.length ≤ cs.length := by
      rw [hl, Nat.add_assoc, ← Nat.add_mul]
      exact Nat.le_trans (Nat.add_le_add_left (Nat.mul_le_mul_right _ hr) _) h5
    refine Y.append_room hs hx ht hd hte H2 .head hr h5 hl hsrc h1 hn ?_
    intro w' H'
    have H3 : Holds w0 (b :: S) w' G := ⟨H.fr.trans H'.fr (fun _ h => by simp [h]) (fun c hc _ => by simpa using .inl (by simpa using hc)), fun e he => H'.fr.get (H.at_ e he) (by simpa using fun h => hG e he h.symm), H.nd, fun e he hm => (H.wr e he hm).imp (fun h => by simp [h]) (fun h => h)⟩
    refine next b off cap _ w' (H3.add true (H'.at_ _ (List.mem_cons_self ..)) hG (fun _ => .inl (by simp))) hr h3 (by rw [putC_length]; exact h5) ?_ (.inl rfl)
    have e1 := h6.apart (us := news) (k := off + len * te.size) hfit (.inl (Nat.le_refl _))
    have e2 := Cs.put hfit
    rw [hl] at e2
    rw [Nat.add_mul]
    exact e1.append e2
  · have H2 := (Holds.start w []).add false h4 (by simp) (by simp)
    refine Y.append_grow hs hx ht hd hte H2 (by omega) (Src.row H2 .head h6) hol hl hsrc hz hb h63 hn ?_
    intro b' cap' sp w' H' hbw hc hmx hsp
    have H1 := H.ext H'.fr
    have H3 : Holds w0 (b :: S) w' G := ⟨H1.fr.mono (fun x hx _ => List.mem_cons_of_mem _ hx), H1.at_, H1.nd, fun e he hm => (H1.wr e he hm).imp (fun h => List.mem_cons_of_mem _ h) (fun h => h)⟩
    refine next b' 0 cap' _ w' (H3.add true (H'.at_ _ (List.mem_cons_self ..)) (fun e he => by have := hlt e he; omega) (fun _ => .inr (Nat.le_trans H.fr.size hbw))) hc hmx ?_ ?_ (.inr hbw)
    · simp only [List.length_append, hl, hsp, hol, Nat.zero_add]
      rw [← Nat.add_mul, ← Nat.add_mul, show len + m + (cap' - (len + m)) = cap' by omega]
      exact Nat.le_refl _
    · have := Cs.mid [] (olds ++ news) sp
      simpa [hl, hol, Nat.add_mul] using this
end
theorem rtake_any (z : World) (g : RG) (i : Int) {rb : Nat} (hrb : g.rb = rb) (h : RN z g) (hfl : g.air.length ≤ 4096) : Fn env.P 58 [.pointer (some ⟨rb, 0, none⟩), .int .i64 i] z fun v w' =>
    (¬ (0 ≤ i ∧ i < g.air.length) ∧ v = .tuple #[.agg (pkC (pk0, .slice none 0 0)).toArray, .int .i64 61] ∧ Fr z w' []) ∨
    ∃ k pk pa pc g', i = (k : Nat) ∧ k < g.air.length ∧ g.abs.fly.getD k pk0 = pk ∧ pk ∈ g.abs.fly ∧ v = .tuple #[.agg (pkC (pk, .slice pa pk.b.length pc)).toArray, .int .i64 0] ∧ RStep z g w' g' ∧ g'.abs = { g.abs with fly := g.abs.fly.eraseIdx k } ∧ Bts w' (.slice pa pk.b.length pc) pk.b ∧ (∀ b, blkV (.slice pa pk.b.length pc) = some b → RB g b) := by
  subst hrb
  obtain ⟨tv, yv, xv, av, a1, a2, a3, a4, a5⟩ := h.net
  by_cases hr : 0 ≤ i ∧ i < g.air.length
  · obtain ⟨k, rfl⟩ : ∃ k : Nat, i = k := ⟨i.toNat, by omega⟩
    have hk : k < g.air.length := by omega
    obtain ⟨b, off, cap, cs, pk, pa, pc, hab, rfl, f3, hpi, hpm, hBp, hpg, hpf, hcell, f1, f2, f4, f5⟩ := air_cell h.airb a5 hk
    have hbr : b ≠ g.rb := ne_of_ty f3 a1 (by decide)
    have hrl := lt_of_at a1
    have hfb := lt_of_at f3
    have hsA : Cs cs off (k * 6) ((g.air.take k).flatMap pkC) := (f5.sub 0 (k * 6) (by omega)).cast rfl rfl (by
      have hsp := pk_split hk
      rw [hsp, List.drop_zero, List.append_assoc, List.take_append_of_le_length (by rw [pk_len]; simp; omega), List.take_of_length_le (by rw [pk_len]; simp; omega)])
    have hlA : ((g.air.take k).flatMap pkC).length = k * 6 := by rw [pk_len]; simp; omega
    have hlB : ((g.air.drop (k + 1)).flatMap pkC).length = (g.air.length - (k + 1)) * 6 := by rw [pk_len]; simp
    have hsB : Cs cs (off + (k + 1) * 6) ((g.air.length - (k + 1)) * 6) ((g.air.drop (k + 1)).flatMap pkC) := (f5.sub ((k + 1) * 6) ((g.air.length - (k + 1)) * 6) (by omega)).cast rfl rfl (by
      have hsp := pk_split hk
      have hAP : ((g.air.take k).flatMap pkC ++ pkC g.air[k]).length = (k + 1) * 6 := by rw [List.length_append, hlA]; simp [pkC]; omega
      rw [hsp, List.drop_append_of_le_length (by omega), List.drop_of_length_le (by omega), List.nil_append, List.take_of_length_le (by omega)])
    have hoB : ∀ v ∈ (g.air.drop (k + 1)).flatMap pkC, v.oneCell' = true := pk_one fun p hp => h.airb p (List.mem_of_mem_drop hp)
    have H := ((Holds.start z []).add false f3 (by simp) (by simp)).add false a1 (by simpa using hbr.symm) (by simp)
    have HF := Try.func58; refine Fn.enter Try.func58 Try.ntmps58 rfl rfl rfl ?_
    refine Run.seq ?_
    (refine Run.region ?_; intro K hK)
    (refine Ops.eff rfl (Y.alloc rfl rfl rfl H ?_); intro b4 w H0 hb4; clear H; have H := H0; clear H0)
    refine Ops.pure H (X.assign rfl) rfl rfl rfl ?_
    (refine Ops.nil (hK _ _ ?_); clear hK K)
    refine Run.seq ?_
    refine Run.seq ?_
    (refine Run.region ?_; intro K hK)
    refine Ops.pure H (X.move rfl) rfl rfl rfl ?_
    refine Ops.pure H (X.cmp rfl rfl rfl) rfl rfl rfl ?_
    refine Ops.pure H (X.move rfl) rfl rfl rfl ?_
    refine Ops.pure H (X.move rfl) rfl rfl rfl ?_
    refine Ops.pure H (X.move rfl) rfl rfl rfl ?_
    refine Ops.pure H (X.nilCheck rfl) rfl rfl rfl ?_
    refine Ops.pure H (X.fieldAddr rfl rfl rfl rfl rfl rfl) rfl rfl rfl ?_
    refine Ops.pure H (X.load1 rfl rfl rfl rfl (.tail .head) rfl) rfl rfl rfl ?_
    refine Ops.pure H (X.len_slice rfl rfl rfl) rfl rfl rfl ?_
    refine Ops.pure H (X.cmp rfl rfl rfl) rfl rfl rfl ?_
    refine Ops.pure H (X.pick_f rfl rfl) rfl rfl rfl ?_
    (refine Ops.nil (hK _ _ ?_); clear hK K)
    refine Run.cond_dec rfl (fun h18 => ?x0) (fun h18 => ?y0)
    case' y0 =>
      refine Run.skip ?_
      refine Run.seq ?_
      (refine Run.region ?_; intro K hK)
      refine Ops.pure H (X.move rfl) rfl rfl rfl ?_
      refine Ops.pure H (X.nilCheck rfl) rfl rfl rfl ?_
      refine Ops.pure H (X.fieldAddr rfl rfl rfl rfl rfl rfl) rfl rfl rfl ?_
      refine Ops.pure H (X.load1 rfl rfl rfl rfl (.tail .head) rfl) rfl rfl rfl ?_
      refine Ops.pure H (X.move rfl) rfl rfl rfl ?_
      refine Ops.pure H (X.indexAddr rfl rfl (by omega) rfl rfl rfl rfl) rfl rfl rfl ?_
      refine Ops.pure H (X.loadN rfl rfl rfl (.tail (.tail .head)) (by assumption)) rfl rfl rfl ?_
      (refine Ops.eff rfl (Y.alloc rfl rfl rfl H ?_); intro b6 w H0 hb6; clear H; have H := H0; clear H0)
      (refine Ops.eff rfl (Y.storeO rfl rfl rfl rfl rfl rfl H Upd.head rfl ?_); intro w H0; clear H; have H := H0; clear H0)
      (refine Ops.nil (hK _ _ ?_); clear hK K)
      refine Run.seq ?_
      (refine Run.region ?_; intro K hK)
      (refine Ops.eff rfl (Y.buildSliceO rfl rfl rfl rfl rfl rfl rfl rfl H ?_); intro b27 w H0 hb27; clear H; have H := H0; clear H0)
      refine Ops.pure H (X.move rfl) rfl rfl rfl ?_
      refine Ops.pure H (X.nilCheck rfl) rfl rfl rfl ?_
      refine Ops.pure H (X.fieldAddr rfl rfl rfl rfl rfl rfl) rfl rfl rfl ?_
      refine Ops.pure H (X.load1 rfl rfl rfl rfl (.tail (.tail (.tail .head))) rfl) rfl rfl rfl ?_
      refine Ops.pure H (X.move rfl) rfl rfl rfl ?_
      refine Ops.pure H (X.slice_h rfl rfl (by omega) rfl rfl rfl) rfl rfl rfl ?_
    case' x0 => exfalso; omega
    have hltG := H.ltG
    have hnd := H.nd
    simp at hnd
    refine Ops.eff rfl (Y.copyOf2 (sz := 6) (news := (g.air.take k).flatMap pkC) rfl rfl rfl rfl rfl rfl H .head (by assumption) hlA (Src.row H (.tail (.tail (.tail (.tail .head)))) hsA) rfl (by dsimp only; omega) (by omega) rfl ?_)
    intro v34 c34 w H hf L34 z34 e34
    have hc34 := L34.lt rfl
    have hcn : c34 ≠ b6 ∧ c34 ≠ b4 ∧ c34 ≠ g.rb ∧ c34 ≠ b := by
      have q1 := hltG ⟨b6, _, true⟩ (List.mem_cons_of_mem _ (List.mem_cons_self ..))
      have q2 := hltG ⟨b4, _, true⟩ (List.mem_cons_of_mem _ (List.mem_cons_of_mem _ (List.mem_cons_self ..)))
      dsimp only at q1 q2
      rcases e34 with e | e <;> omega
    obtain ⟨a34, cc34, rfl, _⟩ := L34.slice
    have hFk := H.fr
    have b4k := H.pick (b := b4) (by first | exact .head | exact .tail .head | exact .tail (.tail .head) | exact .tail (.tail (.tail .head)) | exact .tail (.tail (.tail (.tail .head))) | exact .tail (.tail (.tail (.tail (.tail .head)))) | exact .tail (.tail (.tail (.tail (.tail (.tail .head))))))
    have b6k := H.pick (b := b6) (by first | exact .head | exact .tail .head | exact .tail (.tail .head) | exact .tail (.tail (.tail .head)) | exact .tail (.tail (.tail (.tail .head))) | exact .tail (.tail (.tail (.tail (.tail .head)))) | exact .tail (.tail (.tail (.tail (.tail (.tail .head))))))
    have rbk := H.pick (b := g.rb) (by first | exact .head | exact .tail .head | exact .tail (.tail .head) | exact .tail (.tail (.tail .head)) | exact .tail (.tail (.tail (.tail .head))) | exact .tail (.tail (.tail (.tail (.tail .head)))) | exact .tail (.tail (.tail (.tail (.tail (.tail .head))))))
    have fbk := H.pick (b := b) (by first | exact .head | exact .tail .head | exact .tail (.tail .head) | exact .tail (.tail (.tail .head)) | exact .tail (.tail (.tail (.tail .head))) | exact .tail (.tail (.tail (.tail (.tail .head)))) | exact .tail (.tail (.tail (.tail (.tail (.tail .head))))))
    have hne : b6 ≠ b4 ∧ b6 ≠ g.rb ∧ b6 ≠ b ∧ b4 ≠ g.rb ∧ b4 ≠ b := by
      have q := H.nd
      simp at q
      omega
    replace H := (((Holds.start w [g.rb, b4]).add false fbk (by simp) (by simp)).add true rbk (by simpa using hbr.symm) (by simp)).add true b4k (by simp; omega) (by simp)
    replace H := H.add false b6k (by simp; omega) (by simp)
    refine Ops.pure H (X.assign rfl) rfl rfl rfl ?_
    (refine Ops.nil (hK _ _ ?_); clear hK K)
    refine Run.seq ?_
    (refine Run.region ?_; intro K hK)
    refine Ops.pure H (X.move rfl) rfl rfl rfl ?_
    refine Ops.pure H (X.move rfl) rfl rfl rfl ?_
    refine Ops.pure H (X.move rfl) rfl rfl rfl ?_
    refine Ops.pure H (X.nilCheck rfl) rfl rfl rfl ?_
    refine Ops.pure H (X.fieldAddr rfl rfl rfl rfl rfl rfl) rfl rfl rfl ?_
    refine Ops.pure H (X.load1 rfl rfl rfl rfl (.tail (.tail .head)) rfl) rfl rfl rfl ?_
    refine Ops.pure H (X.move rfl) rfl rfl rfl ?_
    refine Ops.pure H (X.succ rfl rfl (by omega)) rfl rfl rfl ?_
    refine Ops.pure H (X.slice_l rfl rfl (by omega) rfl rfl rfl rfl) rfl rfl rfl ?_
    refine Ops.eff rfl (Y.pushS (sz := 6) (news := (g.air.drop (k + 1)).flatMap pkC) L34 rfl rfl rfl rfl rfl rfl H (fun e he => ?_) hlB ?_ rfl hoB (by dsimp only; omega) (by omega) rfl ?_)
    · simp at he
      rcases he with rfl | rfl | rfl | rfl <;> dsimp only <;> omega
    · by_cases hm : cap = k + 1
      · have h0 : g.air.drop (k + 1) = [] := List.eq_nil_of_length_eq_zero (by simp; omega)
        rw [h0]
        exact Src.nil
      · rw [if_neg hm]
        exact Src.row H (by first | exact .head | exact .tail .head | exact .tail (.tail .head) | exact .tail (.tail (.tail .head)) | exact .tail (.tail (.tail (.tail .head))) | exact .tail (.tail (.tail (.tail (.tail .head)))) | exact .tail (.tail (.tail (.tail (.tail (.tail .head)))))) hsB
    intro fb' foff fcap fcs w H hc1 hc2 hc3 hc4 hob
    refine Ops.pure H (X.nilCheck rfl) rfl rfl rfl ?_
    refine Ops.pure H (X.fieldAddr rfl rfl rfl rfl rfl rfl) rfl rfl rfl ?_
    (refine Ops.eff rfl (Y.store1 rfl rfl rfl rfl rfl rfl H (.tail (.tail (.tail .head))) (by repeat (first | exact SetC.zero | apply SetC.succ)) ?_); intro w H0; clear H; have H := H0; clear H0)
    (refine Ops.nil (hK _ _ ?_); clear hK K)
    refine Run.seq ?_
    (refine Run.region ?_; intro K hK)
    refine Ops.pure H (X.loadN rfl rfl rfl (.tail .head) (Cs.take rfl)) rfl rfl rfl ?_
    (refine Ops.eff rfl (Y.storeO rfl rfl rfl rfl rfl rfl H (.tail (.tail .head)) rfl ?_); intro w H0; clear H; have H := H0; clear H0)
    refine Ops.pure H (X.assign rfl) rfl rfl rfl ?_
    (refine Ops.nil (hK _ _ ?_); clear hK K)
    (first | refine Fn.ret1 HF rfl rfl ?_ | refine Fn.ret2 HF rfl rfl rfl ?_ | refine Fn.ret3 HF rfl rfl rfl rfl ?_ | refine Fn.ret0 HF rfl ?_ | refine Fn.fin0 HF rfl ?_ | refine Fn.retG (E := env) HF rfl H (by first | exact RVs.cellN rfl rfl rfl (by first | exact .head | exact .tail .head | exact .tail (.tail .head) | exact .tail (.tail (.tail .head)) | exact .tail (.tail (.tail (.tail .head))) | exact .tail (.tail (.tail (.tail (.tail .head)))) | exact .tail (.tail (.tail (.tail (.tail (.tail .head)))))) (by first | assumption | exact Cs.take rfl) RVs.nil | exact RVs.cellN rfl rfl rfl (by first | exact .head | exact .tail .head | exact .tail (.tail .head) | exact .tail (.tail (.tail .head)) | exact .tail (.tail (.tail (.tail .head))) | exact .tail (.tail (.tail (.tail (.tail .head)))) | exact .tail (.tail (.tail (.tail (.tail (.tail .head)))))) (by first | assumption | exact Cs.take rfl) (RVs.tmp rfl RVs.nil) | exact RVs.cellN rfl rfl rfl (by first | exact .head | exact .tail .head | exact .tail (.tail .head) | exact .tail (.tail (.tail .head)) | exact .tail (.tail (.tail (.tail .head))) | exact .tail (.tail (.tail (.tail (.tail .head)))) | exact .tail (.tail (.tail (.tail (.tail (.tail .head)))))) (by first | assumption | exact Cs.take rfl) (RVs.tmp rfl (RVs.tmp rfl RVs.nil))) rfl ?_)
    have hT := hFk.trans (U := [g.rb]) H.fr (by simp) (fun x hx hl => by simp at hx ⊢; omega)
    have hlE : (g.air.eraseIdx k).length = k + (g.air.length - (k + 1)) := by rw [List.length_eraseIdx, if_pos hk]; omega
    have st := h.setAir (ps' := g.air.eraseIdx k) (ob' := some fb') hT ⟨_, a1⟩ (H.pick (b := g.rb) (by first | exact .head | exact .tail .head | exact .tail (.tail .head) | exact .tail (.tail (.tail .head)) | exact .tail (.tail (.tail (.tail .head))) | exact .tail (.tail (.tail (.tail (.tail .head)))) | exact .tail (.tail (.tail (.tail (.tail (.tail .head))))))) ⟨foff, fcap, fcs, by rw [hlE], by omega, hc2, H.pick (b := fb') (by first | exact .head | exact .tail .head | exact .tail (.tail .head) | exact .tail (.tail (.tail .head)) | exact .tail (.tail (.tail (.tail .head))) | exact .tail (.tail (.tail (.tail (.tail .head)))) | exact .tail (.tail (.tail (.tail (.tail (.tail .head)))))), hc3, hc4.cast rfl (by rw [hlE]) (by rw [List.eraseIdx_eq_take_drop_succ, List.flatMap_append])⟩ (fun q hq => by
      have hq' := List.mem_of_mem_eraseIdx hq
      exact ⟨(h.airb q hq').keepT hT (fun b hb => by simp at hb; subst hb; exact not5 a1 (by decide)), fun b hb => .inl (.inl ⟨q, hq', hb⟩)⟩) (fun b hb => by
      cases hb
      refine .inr ?_
      have := hFk.size
      rcases hob with e | e <;> omega)
    refine .inr ⟨k, pk, pa, pc, _, rfl, hk, hpg, hpf, rfl, st, ?_, hBp.keepT hT (fun b hb => by simp at hb; subst hb; exact not5 a1 (by decide)), fun b hb => .inl ⟨_, hpm, hb⟩⟩
    unfold RG.abs
    simp [List.eraseIdx_eq_take_drop_succ]
  · obtain ⟨fa, fc, rfl, _⟩ := a5.slice
    have H := (Holds.start z []).add false a1 (by simp) (by simp)
    have HF := Try.func58; refine Fn.enter Try.func58 Try.ntmps58 rfl rfl rfl ?_
    by_cases h0 : i < 0
    · refine Run.seq ?_
      (refine Run.region ?_; intro K hK)
      (refine Ops.eff rfl (Y.alloc rfl rfl rfl H ?_); intro b4 w H0 hb4; clear H; have H := H0; clear H0)
      refine Ops.pure H (X.assign rfl) rfl rfl rfl ?_
      (refine Ops.nil (hK _ _ ?_); clear hK K)
      refine Run.seq ?_
      refine Run.seq ?_
      (refine Run.region ?_; intro K hK)
      refine Ops.pure H (X.move rfl) rfl rfl rfl ?_
      refine Ops.pure H (X.cmp rfl rfl rfl) rfl rfl rfl ?_
      refine Ops.pure H (X.move rfl) rfl rfl rfl ?_
      refine Ops.split_dec rfl rfl (fun h11 => ?x1) (fun h11 => ?y1)
      case' y1 => exfalso; omega
      case' x1 =>
        refine Ops.pass rfl rfl rfl ?_
        refine Ops.pass rfl rfl rfl ?_
        refine Ops.pass rfl rfl rfl ?_
        refine Ops.pass rfl rfl rfl ?_
        refine Ops.pass rfl rfl rfl ?_
        refine Ops.pass rfl rfl rfl ?_
        refine Ops.pass rfl rfl rfl ?_
        refine Ops.pure H (X.pick_t rfl rfl) rfl rfl rfl ?_
        (refine Ops.nil (hK _ _ ?_); clear hK K)
        refine Run.cond_true rfl ?_
        refine Run.seq ?_
        (refine Run.region ?_; intro K hK)
        refine Ops.pure H (X.buildO rfl rfl rfl rfl rfl rfl) rfl rfl rfl ?_
        (refine Ops.eff rfl (Y.storeO rfl rfl rfl rfl rfl rfl H Upd.head rfl ?_); intro w H0; clear H; have H := H0; clear H0)
        refine Ops.pure H (X.assign rfl) rfl rfl rfl ?_
        (refine Ops.nil (hK _ _ ?_); clear hK K)
      (first | refine Fn.ret1 HF rfl rfl ?_ | refine Fn.ret2 HF rfl rfl rfl ?_ | refine Fn.ret3 HF rfl rfl rfl rfl ?_ | refine Fn.ret0 HF rfl ?_ | refine Fn.fin0 HF rfl ?_ | refine Fn.retG (E := env) HF rfl H (by first | exact RVs.cellN rfl rfl rfl (by first | exact .head | exact .tail .head | exact .tail (.tail .head) | exact .tail (.tail (.tail .head)) | exact .tail (.tail (.tail (.tail .head))) | exact .tail (.tail (.tail (.tail (.tail .head)))) | exact .tail (.tail (.tail (.tail (.tail (.tail .head)))))) (by first | assumption | exact Cs.take rfl) RVs.nil | exact RVs.cellN rfl rfl rfl (by first | exact .head | exact .tail .head | exact .tail (.tail .head) | exact .tail (.tail (.tail .head)) | exact .tail (.tail (.tail (.tail .head))) | exact .tail (.tail (.tail (.tail (.tail .head)))) | exact .tail (.tail (.tail (.tail (.tail (.tail .head)))))) (by first | assumption | exact Cs.take rfl) (RVs.tmp rfl RVs.nil) | exact RVs.cellN rfl rfl rfl (by first | exact .head | exact .tail .head | exact .tail (.tail .head) | exact .tail (.tail (.tail .head)) | exact .tail (.tail (.tail (.tail .head))) | exact .tail (.tail (.tail (.tail (.tail .head)))) | exact .tail (.tail (.tail (.tail (.tail (.tail .head)))))) (by first | assumption | exact Cs.take rfl) (RVs.tmp rfl (RVs.tmp rfl RVs.nil))) rfl ?_)
      exact .inl ⟨hr, rfl, H.fr⟩
    · refine Run.seq ?_
      (refine Run.region ?_; intro K hK)
      (refine Ops.eff rfl (Y.alloc rfl rfl rfl H ?_); intro b4 w H0 hb4; clear H; have H := H0; clear H0)
      refine Ops.pure H (X.assign rfl) rfl rfl rfl ?_
      (refine Ops.nil (hK _ _ ?_); clear hK K)
      refine Run.seq ?_
      refine Run.seq ?_
      (refine Run.region ?_; intro K hK)
      refine Ops.pure H (X.move rfl) rfl rfl rfl ?_
      refine Ops.pure H (X.cmp rfl rfl rfl) rfl rfl rfl ?_
      refine Ops.pure H (X.move rfl) rfl rfl rfl ?_
      refine Ops.split_dec rfl rfl (fun h11 => ?x2) (fun h11 => ?y2)
      case' y2 =>
        refine Ops.pure H (X.move rfl) rfl rfl rfl ?_
        refine Ops.pure H (X.move rfl) rfl rfl rfl ?_
        refine Ops.pure H (X.nilCheck rfl) rfl rfl rfl ?_
        refine Ops.pure H (X.fieldAddr rfl rfl rfl rfl rfl rfl) rfl rfl rfl ?_
        refine Ops.pure H (X.load1 rfl rfl rfl rfl (.tail .head) rfl) rfl rfl rfl ?_
        refine Ops.pure H (X.len_slice rfl rfl rfl) rfl rfl rfl ?_
        refine Ops.pure H (X.cmp rfl rfl rfl) rfl rfl rfl ?_
        refine Ops.pure H (X.pick_f rfl rfl) rfl rfl rfl ?_
        (refine Ops.nil (hK _ _ ?_); clear hK K)
        refine Run.cond_dec rfl (fun h18 => ?x3) (fun h18 => ?y3)
        case' y3 => exfalso; omega
        case' x3 =>
          refine Run.seq ?_
          (refine Run.region ?_; intro K hK)
          refine Ops.pure H (X.buildO rfl rfl rfl rfl rfl rfl) rfl rfl rfl ?_
          (refine Ops.eff rfl (Y.storeO rfl rfl rfl rfl rfl rfl H Upd.head rfl ?_); intro w H0; clear H; have H := H0; clear H0)
          refine Ops.pure H (X.assign rfl) rfl rfl rfl ?_
          (refine Ops.nil (hK _ _ ?_); clear hK K)
      case' x2 => exfalso; omega
      (first | refine Fn.ret1 HF rfl rfl ?_ | refine Fn.ret2 HF rfl rfl rfl ?_ | refine Fn.ret3 HF rfl rfl rfl rfl ?_ | refine Fn.ret0 HF rfl ?_ | refine Fn.fin0 HF rfl ?_ | refine Fn.retG (E := env) HF rfl H (by first | exact RVs.cellN rfl rfl rfl (by first | exact .head | exact .tail .head | exact .tail (.tail .head) | exact .tail (.tail (.tail .head)) | exact .tail (.tail (.tail (.tail .head))) | exact .tail (.tail (.tail (.tail (.tail .head)))) | exact .tail (.tail (.tail (.tail (.tail (.tail .head)))))) (by first | assumption | exact Cs.take rfl) RVs.nil | exact RVs.cellN rfl rfl rfl (by first | exact .head | exact .tail .head | exact .tail (.tail .head) | exact .tail (.tail (.tail .head)) | exact .tail (.tail (.tail (.tail .head))) | exact .tail (.tail (.tail (.tail (.tail .head)))) | exact .tail (.tail (.tail (.tail (.tail (.tail .head)))))) (by first | assumption | exact Cs.take rfl) (RVs.tmp rfl RVs.nil) | exact RVs.cellN rfl rfl rfl (by first | exact .head | exact .tail .head | exact .tail (.tail .head) | exact .tail (.tail (.tail .head)) | exact .tail (.tail (.tail (.tail .head))) | exact .tail (.tail (.tail (.tail (.tail .head)))) | exact .tail (.tail (.tail (.tail (.tail (.tail .head)))))) (by first | assumption | exact Cs.take rfl) (RVs.tmp rfl (RVs.tmp rfl RVs.nil))) rfl ?_)
      exact .inl ⟨hr, rfl, H.fr⟩
theorem rlose_any (z : World) (g : RG) (i : Int) (k : Nat) {rb : Nat} (hrb : g.rb = rb) (h : RN z g) (hok : g.abs.Ok k) : Fn env.P 31 [.pointer (some ⟨rb, 0, none⟩), .int .i64 i] z (ROp z g (g.abs.flE i) (g.abs.lose i)) := by
  subst hrb
  have hfl : g.air.length ≤ 4096 := by rw [← rfly_len]; exact hok.fly.1
  have H := Holds.start z []
  have HF := Try.func31; refine Fn.enter Try.func31 Try.ntmps31 rfl rfl rfl ?_
  refine Run.seq ?_
  (refine Run.region ?_; intro K hK)
  refine Ops.pure H (X.assign rfl) rfl rfl rfl ?_
  (refine Ops.nil (hK _ _ ?_); clear hK K)
  refine Run.seq ?_
  (refine Run.region ?_; intro K hK)
  refine Ops.pure H (X.move rfl) rfl rfl rfl ?_
  refine Ops.pure H (X.move rfl) rfl rfl rfl ?_
  refine Ops.eff rfl (Y.call rfl rfl (by first | assumption | decide +kernel) rfl (rtake_any _ g i rfl (h.ext H.fr) hfl) rfl ?_)
  rintro v w2 (⟨hno, rfl, hf⟩ | ⟨k, pk, pa, pc, g', rfl, hk, _, _, rfl, st, hab, _⟩)
  · replace H := H.ext hf
    unfold pkC pk0
    have hin : g.abs.inF i = false := by simp only [Ns.inF, rfly_len]; exact decide_eq_false hno
    refine Ops.pure H (X.move rfl) rfl rfl rfl ?_
    refine Ops.pure H (X.extract rfl rfl) rfl rfl rfl ?_
    refine Ops.pure H (X.extract rfl rfl) rfl rfl rfl ?_
    (refine Ops.eff rfl (Y.alloc rfl rfl rfl H ?_); intro b5 w H0 hb5; clear H; have H := H0; clear H0)
    (refine Ops.eff rfl (Y.storeO rfl rfl rfl rfl rfl rfl H Upd.head rfl ?_); intro w H0; clear H; have H := H0; clear H0)
    refine Ops.pure H (X.assign rfl) rfl rfl rfl ?_
    (refine Ops.nil (hK _ _ ?_); clear hK K)
    refine Run.seq ?_
    (refine Run.region ?_; intro K hK)
    refine Ops.pure H (X.move rfl) rfl rfl rfl ?_
    refine Ops.pure H (X.assign rfl) rfl rfl rfl ?_
    (refine Ops.nil (hK _ _ ?_); clear hK K)
    (first | refine Fn.ret1 HF rfl rfl ?_ | refine Fn.ret2 HF rfl rfl rfl ?_ | refine Fn.ret3 HF rfl rfl rfl rfl ?_ | refine Fn.ret0 HF rfl ?_ | refine Fn.fin0 HF rfl ?_ | refine Fn.retG (E := env) HF rfl H (by first | exact RVs.cellN rfl rfl rfl (by first | exact .head | exact .tail .head | exact .tail (.tail .head) | exact .tail (.tail (.tail .head)) | exact .tail (.tail (.tail (.tail .head))) | exact .tail (.tail (.tail (.tail (.tail .head)))) | exact .tail (.tail (.tail (.tail (.tail (.tail .head)))))) (by first | assumption | exact Cs.take rfl) RVs.nil | exact RVs.cellN rfl rfl rfl (by first | exact .head | exact .tail .head | exact .tail (.tail .head) | exact .tail (.tail (.tail .head)) | exact .tail (.tail (.tail (.tail .head))) | exact .tail (.tail (.tail (.tail (.tail .head)))) | exact .tail (.tail (.tail (.tail (.tail (.tail .head)))))) (by first | assumption | exact Cs.take rfl) (RVs.tmp rfl RVs.nil) | exact RVs.cellN rfl rfl rfl (by first | exact .head | exact .tail .head | exact .tail (.tail .head) | exact .tail (.tail (.tail .head)) | exact .tail (.tail (.tail (.tail .head))) | exact .tail (.tail (.tail (.tail (.tail .head)))) | exact .tail (.tail (.tail (.tail (.tail (.tail .head)))))) (by first | assumption | exact Cs.take rfl) (RVs.tmp rfl (RVs.tmp rfl RVs.nil))) rfl ?_)
    exact ⟨by simp [Ns.flE, hin], g, .rfl' h H.fr, by simp [Ns.lose, hin]⟩
  · replace st := st.pre h H.fr
    have hin : g.abs.inF (k : Nat) = true := by simp only [Ns.inF, rfly_len]; exact decide_eq_true (by omega)
    unfold pkC
    clear H
    have H := Holds.start w2 []
    refine Ops.pure H (X.move rfl) rfl rfl rfl ?_
    refine Ops.pure H (X.extract rfl rfl) rfl rfl rfl ?_
    refine Ops.pure H (X.extract rfl rfl) rfl rfl rfl ?_
    (refine Ops.eff rfl (Y.alloc rfl rfl rfl H ?_); intro b5 w H0 hb5; clear H; have H := H0; clear H0)
    (refine Ops.eff rfl (Y.storeO rfl rfl rfl rfl rfl rfl H Upd.head rfl ?_); intro w H0; clear H; have H := H0; clear H0)
    refine Ops.pure H (X.assign rfl) rfl rfl rfl ?_
    (refine Ops.nil (hK _ _ ?_); clear hK K)
    refine Run.seq ?_
    (refine Run.region ?_; intro K hK)
    refine Ops.pure H (X.move rfl) rfl rfl rfl ?_
    refine Ops.pure H (X.assign rfl) rfl rfl rfl ?_
    (refine Ops.nil (hK _ _ ?_); clear hK K)
    (first | refine Fn.ret1 HF rfl rfl ?_ | refine Fn.ret2 HF rfl rfl rfl ?_ | refine Fn.ret3 HF rfl rfl rfl rfl ?_ | refine Fn.ret0 HF rfl ?_ | refine Fn.fin0 HF rfl ?_ | refine Fn.retG (E := env) HF rfl H (by first | exact RVs.cellN rfl rfl rfl (by first | exact .head | exact .tail .head | exact .tail (.tail .head) | exact .tail (.tail (.tail .head)) | exact .tail (.tail (.tail (.tail .head))) | exact .tail (.tail (.tail (.tail (.tail .head)))) | exact .tail (.tail (.tail (.tail (.tail (.tail .head)))))) (by first | assumption | exact Cs.take rfl) RVs.nil | exact RVs.cellN rfl rfl rfl (by first | exact .head | exact .tail .head | exact .tail (.tail .head) | exact .tail (.tail (.tail .head)) | exact .tail (.tail (.tail (.tail .head))) | exact .tail (.tail (.tail (.tail (.tail .head)))) | exact .tail (.tail (.tail (.tail (.tail (.tail .head)))))) (by first | assumption | exact Cs.take rfl) (RVs.tmp rfl RVs.nil) | exact RVs.cellN rfl rfl rfl (by first | exact .head | exact .tail .head | exact .tail (.tail .head) | exact .tail (.tail (.tail .head)) | exact .tail (.tail (.tail (.tail .head))) | exact .tail (.tail (.tail (.tail (.tail .head)))) | exact .tail (.tail (.tail (.tail (.tail (.tail .head)))))) (by first | assumption | exact Cs.take rfl) (RVs.tmp rfl (RVs.tmp rfl RVs.nil))) rfl ?_)
    exact ⟨by simp [Ns.flE, hin], g', st.ext H.fr, by simp [Ns.lose, hin, hab]⟩
end Go.Proofs.Ytpmihcefjdeonaa
