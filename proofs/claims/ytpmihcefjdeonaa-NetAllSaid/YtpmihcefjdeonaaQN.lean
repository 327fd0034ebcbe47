/- Walks of layer 6: Clone. -/
import Derived.Laws.Externs
import Derived.Test.YtpmihcefjdeonaaQG
namespace Go.Proofs.Ytpmihcefjdeonaa
open Go
theorem run_eql_mapNil {P : Program} (w : World) (t k e : TypeId) (p : Option Nat) (h : P.underlying t = some (.map k e)) : (Op.equal t (.map p) (.map none)).run P w = .ok p.isNone w := by
  show (Op.equalIn (9999 + 1) t (.map p) (.map none)).run P w = _
  generalize 9999 = m
  cases p <;> simp [Op.equalIn, run_underlying h]
theorem run_mapClone {P : Program} {w : World} {r : Nat} {es : Array MapEntry} {clock : Nat} (t : TypeId) (hb : w.heap[r]? = some (.map es clock)) :
    (Extern.MapsClone.clone #[.iface t (.map (some r))]).run P w = .ok (.iface t (.map (some w.heap.size))) (w.alloc (.map es clock)) := by
  have e : Extern.MapsClone.clone #[.iface t (.map (some r))] = (getObj r >>= fun o => match o with
      | .map entries clock => (newObj (.map entries clock) >>= fun n => pure (.iface t (.map (some n))))
      | _ => stuck "maps.clone: a map expected") := rfl
  rw [e]
  simp [run_getMap hb, Result.andThen, go_sem]
section
variable {E : Env} {n : Nat} {L : Sl} {w w0 : World} {G : List Ent} {d T : Nat} {pos : String} {e : Array Edge} {g : Option (Nat × Bool)} {x y : Operand} {QQ : Exit → Act → World → Prop} {Z : Sl → World → Prop}
theorem X.mapNil {t t' k el : Nat} {ti : TyI} {p : Option Nat} (hx : ev L x = some (.map p)) (hy : ev L y = some (.map none)) (ht : nth E.T t = some (some ti)) (hd : ti.d = .map k el) :
    PureOp E n L G ⟨some d, .binOp .eql t x y t', T, pos, e, g⟩ (.bool p.isNone) := by
  obtain ⟨hg, _⟩ := E.ok t ti ht
  rw [hd] at hg
  have hg : E.P.underlying t = some (.map k el) := hg
  intro w hG a hs
  have he := run_eql_mapNil (P := E.P) w t k el p hg
  simp [execOp, hs.eval hx, hs.eval hy, eqGuard, binOp, he]
theorem X.mkIface {t k el : Nat} {ti : TyI} {p : Option Nat} (hx : ev L x = some (.map p)) (ht : nth E.T t = some (some ti)) (hd : ti.d = .map k el) : PureOp E n L G ⟨some d, .makeInterface t x, T, pos, e, g⟩ (.iface t (.map p)) := by
  obtain ⟨hg, _⟩ := E.ok t ti ht
  rw [hd] at hg
  have hg : E.P.underlying t = some (.map k el) := hg
  intro w hG a hs
  simp [execOp, hs.eval hx, Instr.makeInterface, run_underlying hg]
theorem run_assertMap {P : Program} {w : World} {t xT k el : TypeId} {v : Value} (h : P.underlying t = some (.map k el)) : (Instr.typeAssert (.iface t v) xT t false).run P w = .ok v w := by
  simp [Instr.typeAssert, run_underlying h, go_sem, Result.andThen]
theorem X.asMap {t t' k el : Nat} {ti : TyI} {v : Value} (hx : ev L x = some (.iface t v)) (ht : nth E.T t = some (some ti)) (hd : ti.d = .map k el) : PureOp E n L G ⟨some d, .typeAssert x t' t false, T, pos, e, g⟩ v := by
  obtain ⟨hg, _⟩ := E.ok t ti ht
  rw [hd] at hg
  intro w hG a hs
  have h := run_assertMap (P := E.P) (w := w) (xT := t') (v := v) hg
  simp [execOp, hs.eval hx, h]
theorem Y.lib {fo : Operand} {gi : FuncId} {args : List Operand} {ts : Array Nat} {v1 v2 vs al : List Value} {fn : Func} {ex : Array Value → Sem Value} {r : Value} {w' : World} (hf : ev L fo = some (.func (.func gi) v1.toArray v2.toArray)) (ha : evs L args = some vs) (hq : al = v1 ++ vs ++ v2)
    (h1 : E.P.funcs[gi]? = some fn) (h2 : (fn.name == "runtime.NumGoroutine") = false) (h3 : fn.body.isNone = true) (h4 : Extern.findNext fn = none) (h5 : Extern.find fn = some ex) (h6 : (ex al.toArray).run E.P w = .ok r w') (hn : Nat.blt d n = true) (next : Z ((d, r) :: L) w') :
    StepZ E QQ n ⟨some d, .call { callee := .value fo, args := args.toArray, argTypes := ts }, T, pos, e, g⟩ Z L w := by
  subst hq
  refine StepZ.val rfl hn (fun a hs => ?_) next
  have := run_callFunc_extern (P := E.P) h1 h2 h3 h4 h5 (v1 ++ vs ++ v2).toArray w
  rw [h6] at this
  simp only [Result.andThen] at this
  simp [execOp, resolve, hs.eval hf, Deferred.ofValue, invoke, hs.evals ha] at this ⊢
  simpa using this
end
set_option maxRecDepth 20000
set_option maxHeartbeats 2000000
attribute [local irreducible] Run Ops Fn Draw Draw2 PureOp StepZ

theorem mapclone_any (z : World) (mb c : Nat) (es : Array MapEntry) (hb : z.heap[mb]? = some (.map es c)) : Fn env.P 52 [.map (some mb)] z fun v w' => ∃ mb', v = .map (some mb') ∧ w'.heap[mb']? = some (.map es c) ∧ z.heap.size ≤ mb' ∧ Fr z w' [] := by
  have H := Holds.start z []
  have HF := Try.func52; refine Fn.enter Try.func52 Try.ntmps52 rfl rfl rfl ?_
  refine Run.seq ?_
  (refine Run.region ?_; intro K hK)
  refine Ops.pure H (X.assign rfl) rfl rfl rfl ?_
  (refine Ops.nil (hK _ _ ?_); clear hK K)
  refine Run.seq ?_
  refine Run.seq ?_
  (refine Run.region ?_; intro K hK)
  refine Ops.pure H (X.move rfl) rfl rfl rfl ?_
  refine Ops.pure H (X.mapNil rfl rfl rfl rfl) rfl rfl rfl ?_
  (refine Ops.nil (hK _ _ ?_); clear hK K)
  refine Run.cond_false rfl ?_
  refine Run.skip ?_
  refine Run.seq ?_
  (refine Run.region ?_; intro K hK)
  refine Ops.pure H (X.move rfl) rfl rfl rfl ?_
  refine Ops.pure H (X.mkIface rfl rfl rfl) rfl rfl rfl ?_
  skip
  refine Ops.eff rfl (Y.lib (fn := Try.f61) (ex := Extern.MapsClone.clone) rfl rfl rfl Try.func61 (by kernel_rfl) (by kernel_rfl) (by kernel_rfl) (by kernel_rfl) (run_mapClone 82 (H.fr.get hb (by simp))) rfl ?_)
  have hsz := H.fr.size
  obtain ⟨wa, hwa⟩ : ∃ wa, wa = z.alloc (.map es c) := ⟨_, rfl⟩
  have H2 := H.alloc (.map es c) true
  obtain ⟨nb, hnb⟩ : ∃ nb, nb = z.heap.size := ⟨_, rfl⟩
  rw [← hwa] at H2 ⊢
  rw [← hnb] at H2 ⊢
  clear H
  have H := H2
  skip
  refine Ops.pure H (X.asMap rfl rfl rfl) rfl rfl rfl ?_
  refine Ops.pure H (X.assign rfl) rfl rfl rfl ?_
  (refine Ops.nil (hK _ _ ?_); clear hK K)
  (first | refine Fn.ret1 HF rfl rfl ?_ | refine Fn.ret2 HF rfl rfl rfl ?_ | refine Fn.ret3 HF rfl rfl rfl rfl ?_ | refine Fn.ret0 HF rfl ?_ | refine Fn.fin0 HF rfl ?_ | refine Fn.retG (E := env) HF rfl H (by first | exact RVs.cellN rfl rfl rfl (by first | exact .head | exact .tail .head | exact .tail (.tail .head) | exact .tail (.tail (.tail .head)) | exact .tail (.tail (.tail (.tail .head))) | exact .tail (.tail (.tail (.tail (.tail .head)))) | exact .tail (.tail (.tail (.tail (.tail (.tail .head)))))) (by first | assumption | exact Cs.take rfl) RVs.nil | exact RVs.cellN rfl rfl rfl (by first | exact .head | exact .tail .head | exact .tail (.tail .head) | exact .tail (.tail (.tail .head)) | exact .tail (.tail (.tail (.tail .head))) | exact .tail (.tail (.tail (.tail (.tail .head)))) | exact .tail (.tail (.tail (.tail (.tail (.tail .head)))))) (by first | assumption | exact Cs.take rfl) (RVs.tmp rfl RVs.nil) | exact RVs.cellN rfl rfl rfl (by first | exact .head | exact .tail .head | exact .tail (.tail .head) | exact .tail (.tail (.tail .head)) | exact .tail (.tail (.tail (.tail .head))) | exact .tail (.tail (.tail (.tail (.tail .head)))) | exact .tail (.tail (.tail (.tail (.tail (.tail .head)))))) (by first | assumption | exact Cs.take rfl) (RVs.tmp rfl (RVs.tmp rfl RVs.nil))) rfl ?_)
  exact ⟨nb, rfl, H.pick .head, by omega, H.fr⟩
end Go.Proofs.Ytpmihcefjdeonaa

namespace Go.Proofs.Ytpmihcefjdeonaa
open Go
section
variable {κ : Type} [DecidableEq κ] {ky : κ → Value} {f : κ → Option Value} {E : Env} {n : Nat} {L : Sl} {w w0 : World} {S : List Nat} {G G0 G1 : List Ent} {d T : Nat} {pos : String} {e : Array Edge} {g : Option (Nat × Bool)} {x y z m : Operand} {QQ : Exit → Act → World → Prop} {Z : Sl → World → Prop}
theorem run_updateK2 {P : Program} {w : World} {t kt el : TypeId} {i : κ} {r c : Nat} {es : Array MapEntry} {v u : Value} (K : KOk P kt ky) (hm : P.underlying t = some (.map kt el)) (hb : w.heap[r]? = some (.map es c)) (hM : Mk ky es f) (hf : f i = some u) :
    ∃ es', (Instr.mapUpdate t (.map (some r)) (ky i) v).run P w = .ok () { w with heap := w.heap.setIfInBounds r (.map es' c) } ∧ Mk ky es' (updk f i (some v)) ∧ (MapKept.Stamped es c → MapKept.Stamped es' c) ∧ (es'.toList.map fun e => (e.key, e.born)) = es.toList.map fun e => (e.key, e.born) := by
  obtain ⟨j, e, h1, h2, h3, h4⟩ := hM.hit K (w := w) hf
  refine ⟨es.modify j fun e => { e with key := ky i, val := v }, ?_, hM.modify K.inj h2 h3 v, fun hs => MapKept.stamped_modify hs j _ (fun _ _ => rfl) (fun x _ hx => by rw [h2] at hx; cases hx; exact h3.symm), ?_⟩
  · simp [Instr.mapUpdate, run_underlying hm, run_getMap hb, K.chk, h1, h2, h3, Instr.keyThatStays, K.same, run_setMap hb]
  · apply List.ext_getElem?
    intro q
    simp only [List.getElem?_map, Array.getElem?_toList, Array.getElem?_modify]
    by_cases hq : j = q
    · subst hq
      rw [h2]
      simp [h3]
    · simp [hq]
theorem Y.mapUpdateK2 {t kt el r c : Nat} {i : κ} {es : Array MapEntry} {ti : TyI} {v u : Value} (K : KOk E.P kt ky) (hM : Mk ky es f) (H : Holds w0 S w G) (hp : Pick G r (.map es c) true G0) (hx : ev L x = some (.map (some r))) (hy : ev L y = some (ky i)) (hv : ev L z = some v)
    (ht : nth E.T t = some (some ti)) (hd : ti.d = .map kt el) (hf : f i = some u)
    (next : ∀ es' w', Holds w0 S w' (⟨r, .map es' c, true⟩ :: G0) → Mk ky es' (updk f i (some v)) → (MapKept.Stamped es c → MapKept.Stamped es' c) → (es'.toList.map fun e => (e.key, e.born)) = (es.toList.map fun e => (e.key, e.born)) → Z L w') :
    StepZ E QQ n ⟨none, .mapUpdate t x y z, T, pos, e, g⟩ Z L w := by
  obtain ⟨hg, _⟩ := E.ok t ti ht
  rw [hd] at hg
  have HP := H.perm hp.perm
  have hb := HP.at_ _ (List.mem_cons_self ..)
  obtain ⟨es', h1, h2, h4, h5⟩ := run_updateK2 (P := E.P) (i := i) (v := v) K hg hb hM hf
  obtain ⟨k1, k2, k3⟩ := heapSet (o' := .map es' c) hb
  refine StepZ.skipN (w' := { w with heap := w.heap.setIfInBounds r (.map es' c) }) rfl (fun a hs => ?_) (next es' _ (HP.put rfl rfl rfl k3 k1 k2) h2 h4 h5)
  simp [execOp, hs.eval hx, hs.eval hy, hs.eval hv, h1]
end
set_option maxRecDepth 20000
set_option maxHeartbeats 2000000
attribute [local irreducible] Run Ops Fn Draw Draw2 PureOp StepZ

theorem uclone_src (z : World) (b n cap : Nat) (vs cs : List Value) (hb : z.heap[b]? = some (row cs 4)) (hc : Cs cs 0 n vs) (hl : n * 1 ≤ 140737488355328) (hcap : n ≤ cap) (hn : 0 < n) :
    Fn env.P 51 [.slice (some ⟨b, 0, none⟩) n cap] z fun r w' => Fr z w' [] ∧ ∃ ub cp us, r = .slice (some ⟨ub, 0, none⟩) n cp ∧ n ≤ cp ∧ cp ≤ 9223372036854775807 ∧ w'.heap[ub]? = some (row us 4) ∧ n ≤ us.length ∧ (∀ i, i < n → us[i]? = vs[i]?) ∧ z.heap.size ≤ ub := by
  have H := (Holds.start z []).add false hb (by simp) (by simp)
  have hcl := hc.length
  have HF := Try.func51; refine Fn.enter Try.func51 Try.ntmps51 rfl rfl rfl ?_
  refine Run.seq ?_
  (refine Run.region ?_; intro K hK)
  refine Ops.pure H (X.assign rfl) rfl rfl rfl ?_
  (refine Ops.nil (hK _ _ ?_); clear hK K)
  refine Run.seq ?_
  refine Run.seq ?_
  (refine Run.region ?_; intro K hK)
  refine Ops.pure H (X.move rfl) rfl rfl rfl ?_
  refine Ops.pure H (X.sliceNil rfl rfl rfl rfl rfl) rfl rfl rfl ?_
  (refine Ops.nil (hK _ _ ?_); clear hK K)
  refine Run.cond_false rfl ?_
  refine Run.skip ?_
  refine Run.seq ?_
  (refine Run.region ?_; intro K hK)
  (refine Ops.eff rfl (Y.buildSliceO rfl rfl rfl rfl rfl rfl rfl rfl H ?_); intro b5 w H0 hb5; clear H; have H := H0; clear H0)
  refine Ops.pure H (X.move rfl) rfl rfl rfl ?_
  refine Ops.eff rfl (Y.append_grow (olds := []) (news := vs) rfl rfl rfl rfl rfl H (by omega) Src.nil (by simp) (by dsimp only; omega) (Src.row H (by first | exact .head | exact .tail .head | exact .tail (.tail .head) | exact .tail (.tail (.tail .head)) | exact .tail (.tail (.tail (.tail .head))) | exact .tail (.tail (.tail (.tail (.tail .head)))) | exact .tail (.tail (.tail (.tail (.tail (.tail .head)))))) hc) rfl (by dsimp only; omega) (by omega) rfl ?_)
  intro b' cap' sp w H hb' hcp hmx hsp
  refine Ops.pure H (X.assign rfl) rfl rfl rfl ?_
  (refine Ops.nil (hK _ _ ?_); clear hK K)
  (first | refine Fn.ret1 HF rfl rfl ?_ | refine Fn.ret2 HF rfl rfl rfl ?_ | refine Fn.ret3 HF rfl rfl rfl rfl ?_ | refine Fn.ret0 HF rfl ?_ | refine Fn.fin0 HF rfl ?_ | refine Fn.retG (E := env) HF rfl H (by first | exact RVs.cellN rfl rfl rfl (by first | exact .head | exact .tail .head | exact .tail (.tail .head) | exact .tail (.tail (.tail .head)) | exact .tail (.tail (.tail (.tail .head))) | exact .tail (.tail (.tail (.tail (.tail .head)))) | exact .tail (.tail (.tail (.tail (.tail (.tail .head)))))) (by first | assumption | exact Cs.take rfl) RVs.nil | exact RVs.cellN rfl rfl rfl (by first | exact .head | exact .tail .head | exact .tail (.tail .head) | exact .tail (.tail (.tail .head)) | exact .tail (.tail (.tail (.tail .head))) | exact .tail (.tail (.tail (.tail (.tail .head)))) | exact .tail (.tail (.tail (.tail (.tail (.tail .head)))))) (by first | assumption | exact Cs.take rfl) (RVs.tmp rfl RVs.nil) | exact RVs.cellN rfl rfl rfl (by first | exact .head | exact .tail .head | exact .tail (.tail .head) | exact .tail (.tail (.tail .head)) | exact .tail (.tail (.tail (.tail .head))) | exact .tail (.tail (.tail (.tail (.tail .head)))) | exact .tail (.tail (.tail (.tail (.tail (.tail .head)))))) (by first | assumption | exact Cs.take rfl) (RVs.tmp rfl (RVs.tmp rfl RVs.nil))) rfl ?_)
  refine ⟨H.fr, b', cap', _, by rw [Nat.zero_add], by omega, hmx, H.pick .head, by simp; omega, fun i hi => ?_, hb'⟩
  rw [List.nil_append, List.getElem?_append_left (by omega)]
def wptr (c : WG) : Value := .pointer (some ⟨c.wb, 0, none⟩)
/-- A clone under way: which ways are there already. -/
structure Cl (z : World) (g : PG) (es0 : Array MapEntry) (w : World) (seen : Array Nat) (es : Array MapEntry) (cur : Nat × Nat → Option WG) : Prop where
  same : ∀ a c, g.way a = some c → ∃ d, cur a = some d ∧ d.ep = c.ep ∧ d.ss = c.ss ∧ d.told = c.told ∧ d.came = c.came
  no : ∀ a, g.way a = none → cur a = none
  wayr : ∀ a d, cur a = some d → WayAt w d
  kb : (es.toList.map fun e => (e.key, e.born)) = es0.toList.map fun e => (e.key, e.born)
  new : ∀ e ∈ es0.toList, seen.contains e.born = true → ∀ a d, e.key = lk a → cur a = some d → z.heap.size ≤ d.wb ∧ ∀ q, d.sb = some q → z.heap.size ≤ q
  dw : ∀ a b d e, a ≠ b → cur a = some d → cur b = some e → d.wb ≠ e.wb ∧ ∀ q, d.sb = some q → e.sb ≠ some q
theorem clone_any (z : World) (g : PG) (k : Nat) {nb : Nat} (hnb : g.nb = nb) (h : PN z g) (hok : g.abs.Ok k) (hk : k ≤ 4398046511000) : Fn env.P 21 [.pointer (some ⟨nb, 0, none⟩)] z fun v w' => ∃ g', v = .pointer (some ⟨g'.nb, 0, none⟩) ∧ PN w' g' ∧ Fr z w' [] ∧ (∀ b, PS g' b → z.heap.size ≤ b) ∧ g'.box = g.box ∧ (∀ b, PI g' b → PI g b) ∧ g'.abs = g.abs := by
  subst hnb
  obtain ⟨cu, cx, fv, a1, a2, a3, a4, a5, a6⟩ := h.net
  obtain ⟨us, u1, u2, u3⟩ := h.upr
  obtain ⟨xs, x1, x2, x3⟩ := h.boxr
  obtain ⟨es, ck, f, m1, m2, m3, m4⟩ := h.mp
  have hn64 := h.n64
  have hfl := hok.fly.1
  rw [fly_len] at hfl
  obtain ⟨fa, fc, rfl, _⟩ := a6.slice
  have H := (Holds.start z []).add false a1 (by simp) (by simp)
  have HF := Try.func21; refine Fn.enter Try.func21 Try.ntmps21 rfl rfl rfl ?_
  refine Run.seq ?_
  (refine Run.region ?_; intro K hK)
  refine Ops.pure H (X.assign rfl) rfl rfl rfl ?_
  (refine Ops.nil (hK _ _ ?_); clear hK K)
  refine Run.seq ?_
  (refine Run.draw H [] [0, 1, 2, 3, 5, 6, 7, 8, 10, 11, 12, 13, 4, 9, 14, 15, 16, 17] ?_; clear H; intro K hK w H)
  refine Draw.take0 rfl (X.move rfl) rfl rfl rfl (by decide +kernel) ?_
  refine Draw.take0 rfl (X.nilCheck rfl) rfl rfl rfl (by decide +kernel) ?_
  refine Draw.take0 rfl (X.fieldAddr rfl rfl rfl rfl rfl rfl) rfl rfl rfl (by decide +kernel) ?_
  refine Draw.take rfl (X.load1 rfl rfl rfl rfl Pick.head rfl) rfl rfl rfl (by decide +kernel) ?_
  refine Draw.take0 rfl (X.move rfl) rfl rfl rfl (by decide +kernel) ?_
  refine Draw.take0 rfl (X.nilCheck rfl) rfl rfl rfl (by decide +kernel) ?_
  refine Draw.take0 rfl (X.fieldAddr rfl rfl rfl rfl rfl rfl) rfl rfl rfl (by decide +kernel) ?_
  refine Draw.take rfl (X.load1 rfl rfl rfl rfl Pick.head rfl) rfl rfl rfl (by decide +kernel) ?_
  refine Draw.take0 rfl (X.move rfl) rfl rfl rfl (by decide +kernel) ?_
  refine Draw.take0 rfl (X.nilCheck rfl) rfl rfl rfl (by decide +kernel) ?_
  refine Draw.take0 rfl (X.fieldAddr rfl rfl rfl rfl rfl rfl) rfl rfl rfl (by decide +kernel) ?_
  refine Draw.take rfl (X.load1 rfl rfl rfl rfl Pick.head rfl) rfl rfl rfl (by decide +kernel) ?_
  have hcu : Cs us 0 g.n ((List.range g.n).map fun i => .bool (g.up i)) := Cs.ofGet _ _ _ (by simp) (fun j hj => by rw [Nat.zero_add, u3 j hj]; simp [hj])
  have hsA := H.fr.size
  refine Draw.eff rfl rfl (by decide +kernel) (Y.call rfl rfl (by first | assumption | decide +kernel) rfl (uclone_src _ g.ub g.n cu _ us (H.fr.get u1 (by simp)) hcu (by omega) a2 (by omega)) rfl ?_)
  rintro v w1 ⟨hf1, ub1, uc, ucs, rfl, hu1, hu2, hL1, hu3, hu4, hz1⟩
  replace H := H.ext hf1
  refine ⟨H.at_, ?_⟩
  refine Draw.eff rfl rfl (by decide +kernel) (Y.call rfl rfl (by first | assumption | decide +kernel) rfl (mapclone_any _ g.mb ck es (H.fr.get m1 (by simp))) rfl ?_)
  rintro v w2 ⟨mb1, rfl, hm1, hzm, hf2⟩
  replace H := H.ext hf2
  refine ⟨H.at_, ?_⟩
  refine Draw.eff rfl rfl (by decide +kernel) (Y.call rfl rfl (by first | assumption | decide +kernel) rfl (pclone_any _ _ g.fb _ _ (a6.ext H.fr) (by omega)) rfl ?_)
  rintro v w3 ⟨hf3, fb1, hL3, hz3⟩
  replace H := H.ext hf3
  refine ⟨H.at_, ?_⟩
  have hsz0 := H.fr.size
  have hm3 := hf3.get hm1 (by simp)
  have hL1' := hf3.get (hf2.get hL1 (by simp)) (by simp)
  obtain ⟨fa1, fc1, rfl, _⟩ := hL3.slice
  have hs1 := hf1.size
  have hs2 := hf2.size
  have hs3 := hf3.size
  have hzub : z.heap.size ≤ ub1 := by omega
  have hzfb : ∀ b, fb1 = some b → z.heap.size ≤ b := fun b hb => by have := hz3 b hb; omega
  have hzmb : z.heap.size ≤ mb1 := by omega
  have hmn : mb1 ≠ g.nb := (ne_of_map (H.pick (b := g.nb) (by first | exact .head | exact .tail .head | exact .tail (.tail .head) | exact .tail (.tail (.tail .head)) | exact .tail (.tail (.tail (.tail .head))) | exact .tail (.tail (.tail (.tail (.tail .head)))) | exact .tail (.tail (.tail (.tail (.tail (.tail .head))))))) hm3).symm
  have hfz3 := H.fr
  have hkn3 := H.pick (b := g.nb) (by first | exact .head | exact .tail .head | exact .tail (.tail .head) | exact .tail (.tail (.tail .head)) | exact .tail (.tail (.tail (.tail .head))) | exact .tail (.tail (.tail (.tail (.tail .head)))) | exact .tail (.tail (.tail (.tail (.tail (.tail .head))))))
  clear H
  have H := ((Holds.start w3 []).add false hkn3 (by simp) (by simp)).add false hm3 (by simpa using hmn) (by simp)
  refine Draw.take0 rfl (X.buildO rfl rfl rfl rfl rfl rfl) rfl rfl rfl (by decide +kernel) ?_
  (refine Draw.eff rfl rfl (by decide +kernel) (Y.box rfl rfl rfl H ?_); intro b24 w H0 hb24; clear H; have H := H0; clear H0; refine ⟨fun e he => H.at_ e (by simp only [List.mem_cons, List.not_mem_nil, or_false] at he ⊢; grind), ?_⟩)
  refine Draw.take0 rfl (X.assign rfl) rfl rfl rfl (by decide +kernel) ?_
  (refine Draw.done (by decide +kernel) (hK _ _ ?_); clear hK K)
  refine Run.seq ?_
  refine Run.seq ?_
  (refine Run.region ?_; intro K hK)
  refine Ops.pure H (X.move rfl) rfl rfl rfl ?_
  refine Ops.pure H (X.nilCheck rfl) rfl rfl rfl ?_
  refine Ops.pure H (X.fieldAddr rfl rfl rfl rfl rfl rfl) rfl rfl rfl ?_
  refine Ops.pure H (X.load1 rfl rfl rfl rfl Pick.head rfl) rfl rfl rfl ?_
  refine Ops.eff rfl (Y.range rfl rfl rfl (H.pick (b := mb1) (by first | exact .head | exact .tail .head | exact .tail (.tail .head) | exact .tail (.tail (.tail .head)) | exact .tail (.tail (.tail (.tail .head))) | exact .tail (.tail (.tail (.tail (.tail .head)))) | exact .tail (.tail (.tail (.tail (.tail (.tail .head))))))) H rfl ?_)
  intro it w H hit
  (refine Ops.nil (hK _ _ ?_); clear hK K)
  refine Run.block ?_
  obtain ⟨nb1, hnb1⟩ : ∃ nb1, nb1 = b24 := ⟨_, rfl⟩
  subst hnb1
  have hck : ∀ x ∈ es.toList, x.born < ck := m3.1
  have hmk0 : Mk lk es fun a => (g.way a).map wptr := by
    have e : f = fun a => (g.way a).map wptr := funext m4
    rw [← e]; exact m2
  have hfr : Fr z w [] := hfz3.then H.fr
  have hL1w := H.fr.get hL1' (by simp)
  have hL3w := hL3.ext H.fr
  refine Run.rounds (fun (x : Array Nat × Array MapEntry × Nat × (Nat × Nat → Option WG)) => [(0, .pointer (some ⟨g.nb, 0, none⟩)), (3, .pointer (some ⟨nb1, 0, none⟩)), (29, .pointer (some ⟨it, 0, none⟩))])
    (fun x w' => ck ≤ x.2.2.1 ∧ Fr z w' [] ∧ w'.heap[it]? = some (.mapIter (some mb1) ck x.1 x.2.2.1) ∧ w'.heap[nb1]? = some (row [.slice (some ⟨ub1, 0, none⟩) g.n uc, .map (some mb1), .slice fa1 g.fly.length fc1, .slice none 0 0] 84) ∧ w'.heap[mb1]? = some (.map x.2.1 ck) ∧ Mk lk x.2.1 (fun a => (x.2.2.2 a).map wptr) ∧ MapKept.Stamped x.2.1 ck ∧ Cl z g es w' x.1 x.2.1 x.2.2.2 ∧ w'.heap[ub1]? = some (row ucs 4) ∧ Lst w' (.slice fa1 g.fly.length fc1) fb1 81 6 g.fly.length (g.fly.flatMap pkC))
    (fun x => (leftOf es x.1).size) (#[], es, ck, g.way) (by repeat (first | exact trivial | refine ⟨rfl, ?_⟩)) ⟨Nat.le_refl _, hfr, H.pick (b := it) (by first | exact .head | exact .tail .head | exact .tail (.tail .head) | exact .tail (.tail (.tail .head)) | exact .tail (.tail (.tail (.tail .head))) | exact .tail (.tail (.tail (.tail (.tail .head)))) | exact .tail (.tail (.tail (.tail (.tail (.tail .head)))))), H.pick (b := nb1) (by first | exact .head | exact .tail .head | exact .tail (.tail .head) | exact .tail (.tail (.tail .head)) | exact .tail (.tail (.tail (.tail .head))) | exact .tail (.tail (.tail (.tail (.tail .head)))) | exact .tail (.tail (.tail (.tail (.tail (.tail .head)))))), H.pick (b := mb1) (by first | exact .head | exact .tail .head | exact .tail (.tail .head) | exact .tail (.tail (.tail .head)) | exact .tail (.tail (.tail (.tail .head))) | exact .tail (.tail (.tail (.tail (.tail .head)))) | exact .tail (.tail (.tail (.tail (.tail (.tail .head)))))), hmk0, m3, ⟨fun a c hc => ⟨c, hc, rfl, rfl, rfl, rfl⟩, fun a ha => ha, fun a d hd => (h.wayr a d hd).keep hfr (by simp) (by simp), rfl, by simp, h.dw⟩, hL1w, hL3w⟩ ?_
  have hzit : z.heap.size ≤ it := by omega
  have hznb : z.heap.size ≤ nb1 := by omega
  clear H hL1w hL3w hL1' hL3 hL1 hz1 hz3 hzm hs1 hs2 hs3 hsz0 hit hb24 hf1 hf2 hf3 hfr hmk0 hm1 hm3 hcu
  rintro ⟨seen, es', c0, cur⟩ w4 ⟨hc0, hfr, hkit, hknb, hkmb, hmk, hst, hcl, hLu, hLf⟩ IH
  dsimp only at hc0 hkit hknb hkmb hmk hst hcl IH ⊢
  have nim : it ≠ mb1 := fun e => by rw [e, hkmb] at hkit; cases hkit
  have nin : it ≠ nb1 := fun e => by rw [e, hknb] at hkit; cases hkit
  have nmn : nb1 ≠ mb1 := ne_of_map hknb hkmb
  have H := (((Holds.start w4 [it, mb1]).add false hknb (by simp) (by simp)).add true hkmb (by simpa using nmn.symm) (by simp)).add true hkit (by simpa using ⟨nim, nin⟩) (by simp)
  refine Run.seq ?_
  (refine Run.region ?_; intro K hK)
  refine Ops.eff rfl (Y.next H .head (H.pick (b := mb1) (by first | exact .head | exact .tail .head | exact .tail (.tail .head) | exact .tail (.tail (.tail .head)) | exact .tail (.tail (.tail (.tail .head))) | exact .tail (.tail (.tail (.tail (.tail .head)))) | exact .tail (.tail (.tail (.tail (.tail (.tail .head))))))) hst.1 hc0 rfl rfl (fun h0 => ?_) (fun e he w5 H2 => ?_))
  · have hall : ∀ a d, cur a = some d → z.heap.size ≤ d.wb ∧ ∀ q, d.sb = some q → z.heap.size ≤ q := by
      intro a d hd
      obtain ⟨i, e, h1, h2, _⟩ := hmk.has a (wptr d) (by rw [hd]; rfl)
      have hm := List.mem_of_getElem? (by simpa using h1 : es'.toList[i]? = some e)
      have hk : (e.key, e.born) ∈ es.toList.map fun e => (e.key, e.born) := by rw [← hcl.kb]; exact List.mem_map.2 ⟨e, hm, rfl⟩
      obtain ⟨e0, h3, h4⟩ := List.mem_map.1 hk
      have hs := all_seen es' seen h0 e hm
      refine hcl.new e0 h3 (by rw [(Prod.mk.inj h4).2]; exact hs) a d (by rw [(Prod.mk.inj h4).1]; exact h2) hd
    clear IH H
    have hza := lt_of_at a1
    have hzx := lt_of_at x1
    have a1w := hfr.get a1 (by simp)
    have x1w := hfr.get x1 (by simp)
    have nbn : nb1 ≠ g.nb := by omega
    have nbx : nb1 ≠ g.xb := by omega
    have hzw := hfr.size
    have H := ((Holds.start w4 []).add false hknb (by simp) (by simp)).add false a1w (by simpa using nbn.symm) (by simp)
    refine Ops.pure H (X.extract rfl rfl) rfl rfl rfl ?_
    (refine Ops.nil (hK _ _ ?_); clear hK K)
    refine Run.seq ?_
    refine Run.cond_false rfl ?_
    refine Run.exit rfl ?_
    refine Run.seq ?_
    refine Run.seq ?_
    (refine Run.region ?_; intro K hK)
    refine Ops.pure H (X.move rfl) rfl rfl rfl ?_
    refine Ops.pure H (X.nilCheck rfl) rfl rfl rfl ?_
    refine Ops.pure H (X.fieldAddr rfl rfl rfl rfl rfl rfl) rfl rfl rfl ?_
    refine Ops.pure H (X.load1 rfl rfl rfl rfl Pick.head rfl) rfl rfl rfl ?_
    refine Ops.pure H (X.len_slice rfl rfl rfl) rfl rfl rfl ?_
    refine Ops.pure H (X.move rfl) rfl rfl rfl ?_
    (refine Ops.nil (hK _ _ ?_); clear hK K)
    refine Run.block ?_
    refine Run.rounds (fun (x : Nat) => [(3, .pointer (some ⟨nb1, 0, none⟩)), (62, .slice (some ⟨g.xb, 0, none⟩) g.n cx), (63, .int .i64 (g.n : Nat)), (64, .int .i64 (x : Nat))])
      (fun x w' => x ≤ g.n ∧ Fr w4 w' [nb1] ∧ ∃ (bv : Value) (nv : Nat → Value) (nx : Nat → Option Nat), w'.heap[nb1]? = some (row [.slice (some ⟨ub1, 0, none⟩) g.n uc, .map (some mb1), .slice fa1 g.fly.length fc1, bv] 84) ∧ Own w' w4.heap.size 72 1 bv x ((List.range x).flatMap fun i => [nv i]) ∧ (∀ i, i < x → Lst w' (nv i) (nx i) 52 2 (g.box i).length ((g.box i).flatMap msC) ∧ ∀ q, nx i = some q → w4.heap.size ≤ q) ∧ ∀ i j q, i < x → j < x → i ≠ j → nx i = some q → nx j ≠ some q)
      (fun x => g.n - x) 0 (by repeat (first | exact trivial | refine ⟨rfl, ?_⟩)) ⟨by omega, H.fr.mono (by simp), .slice none 0 0, fun _ => undef, fun _ => none, H.pick (b := nb1) (by first | exact .head | exact .tail .head | exact .tail (.tail .head) | exact .tail (.tail (.tail .head)) | exact .tail (.tail (.tail (.tail .head))) | exact .tail (.tail (.tail (.tail (.tail .head)))) | exact .tail (.tail (.tail (.tail (.tail (.tail .head)))))), Own.nil, fun i hi => by omega, fun i j q hi => by omega⟩ ?_
    clear H
    rintro x w5 ⟨hx, hF5, bv, nv, nx, hk5, hO, hnv, hnx⟩ IH
    obtain ⟨ba, bc, rfl⟩ := hO.slice
    have hx5 := hF5.get x1w (by simpa using nbx.symm)
    by_cases hlt : x < g.n
    · obtain ⟨v, hxc, hLx⟩ := x3 x hlt
      have hLx5 := (hLx.ext hfr).keep hF5 (fun b hb hm => by have := hLx.lt hb; simp at hm; omega)
      obtain ⟨va, vc, rfl, _⟩ := hLx.slice
      have hxc' : xs[0 + x * 1]? = some (.slice va (g.box x).length vc) := by rw [Nat.zero_add, Nat.mul_one]; exact hxc
      have hbk := (hok.box x).1
      rw [abs_box, List.length_map] at hbk
      have H := ((Holds.start w5 [nb1]).add true hk5 (by simp) (by simp)).add false hx5 (by simpa using nbx.symm) (by simp)
      refine Run.seq ?_
      (refine Run.region ?_; intro K hK)
      refine Ops.pure H (X.cmp rfl rfl rfl) rfl rfl rfl ?_
      (refine Ops.nil (hK _ _ ?_); clear hK K)
      refine Run.seq ?_
      refine Run.cond_dec rfl (fun h65 => ?x0) (fun h65 => ?y0)
      case' y0 => exfalso; omega
      case' x0 =>
        refine Run.skip ?_
        refine Run.seq ?_
        refine Run.block ?_
        refine Run.seq ?_
        (refine Run.region ?_; intro K hK)
        refine Ops.pure H (X.indexAddr rfl rfl (by omega) rfl rfl rfl rfl) rfl rfl rfl ?_
        refine Ops.pure H (X.load1 rfl rfl rfl rfl Pick.head (by assumption)) rfl rfl rfl ?_
        refine Ops.pure H (X.assign rfl) rfl rfl rfl ?_
        (refine Ops.nil (hK _ _ ?_); clear hK K)
        (refine Run.draw H [8, 11] [0, 1, 2, 3, 4, 5, 6, 7, 8, 9, 10, 11] ?_; clear H; intro K hK w H)
        refine Draw.take0 rfl (X.move rfl) rfl rfl rfl (by decide +kernel) ?_
        refine Draw.take0 rfl (X.move rfl) rfl rfl rfl (by decide +kernel) ?_
        refine Draw.take0 rfl (X.nilCheck rfl) rfl rfl rfl (by decide +kernel) ?_
        refine Draw.take0 rfl (X.fieldAddr rfl rfl rfl rfl rfl rfl) rfl rfl rfl (by decide +kernel) ?_
        refine Draw.take rfl (X.load1 rfl rfl rfl rfl (.tail .head) rfl) rfl rfl rfl (by decide +kernel) ?_
        refine Draw.take0 rfl (X.move rfl) rfl rfl rfl (by decide +kernel) ?_
      refine Draw.eff rfl rfl (by decide +kernel) (Y.call rfl rfl (by first | assumption | decide +kernel) rfl (mclone_any _ _ (g.bx x) _ _ (hLx5.keep H.fr (fun b hb hm => by have := hLx.lt hb; simp at hm; omega)) (by omega)) rfl ?_)
      rintro v w6 ⟨hf6, nb2, hL6, hz6⟩
      have hwsz := H.fr.size
      replace H := H.ext hf6
      refine ⟨H.at_, ?_⟩
      have hF6 := H.fr
      have kx6 := H.pick (b := g.xb) (by first | exact .head | exact .tail .head | exact .tail (.tail .head) | exact .tail (.tail (.tail .head)) | exact .tail (.tail (.tail (.tail .head))) | exact .tail (.tail (.tail (.tail (.tail .head)))) | exact .tail (.tail (.tail (.tail (.tail (.tail .head))))))
      have kn6 := H.pick (b := nb1) (by first | exact .head | exact .tail .head | exact .tail (.tail .head) | exact .tail (.tail (.tail .head)) | exact .tail (.tail (.tail (.tail .head))) | exact .tail (.tail (.tail (.tail (.tail .head)))) | exact .tail (.tail (.tail (.tail (.tail (.tail .head))))))
      obtain ⟨ma, mc, rfl, _⟩ := hL6.slice
      clear H
      have H := ((Holds.start w6 [nb1]).add true kn6 (by simp) (by simp)).add false kx6 (by simpa using nbx.symm) (by simp)
      (refine Draw.eff rfl rfl (by decide +kernel) (Y.buildSliceO rfl rfl rfl rfl rfl rfl rfl rfl H ?_); intro b75 w H0 hb75; clear H; have H := H0; clear H0; refine ⟨fun e he => H.at_ e (by simp only [List.mem_cons, List.not_mem_nil, or_false] at he ⊢; grind), ?_⟩)
      have hn4 := lt_of_at hknb
      refine Draw.last rfl rfl (by decide +kernel) (Y.appendOwnS (w0 := w4) (S := [nb1]) (news := [.slice ma (g.box x).length mc]) ((hO.keepS hF6 (by simp; omega)).keepS H.fr (by simp; omega)) rfl rfl rfl rfl rfl rfl ((hF5.trans hF6 (fun _ h => h) (fun _ h _ => h)).trans H.fr (fun _ h => h) (fun _ h _ => h)) (by omega) rfl (Src.row (m := 1) H .head (Cs.take rfl)) rfl rfl (by dsimp only; omega) (by omega) rfl ?_)
      intro v7 w7 hF7 hK7 hlow7 hO7
      have hFA := H.fr
      have kn7 := hK7.row (H.pick (b := nb1) (by first | exact .head | exact .tail .head | exact .tail (.tail .head) | exact .tail (.tail (.tail .head)) | exact .tail (.tail (.tail (.tail .head))) | exact .tail (.tail (.tail (.tail (.tail .head)))) | exact .tail (.tail (.tail (.tail (.tail (.tail .head))))))) (by decide)
      obtain ⟨va7, vc7, rfl⟩ := hO7.slice
      clear H
      have H := (Holds.start w7 [nb1]).add true kn7 (by simp) (by simp)
      refine Draw2.take rfl (X.nilCheck rfl) rfl rfl rfl (by decide +kernel) ?_
      refine Draw2.take rfl (X.fieldAddr rfl rfl rfl rfl rfl rfl) rfl rfl rfl (by decide +kernel) ?_
      (refine Draw2.eff rfl rfl (by decide +kernel) (Y.store1 rfl rfl rfl rfl rfl rfl H Upd.head (by repeat (first | exact SetC.zero | apply SetC.succ)) ?_); intro w H0; clear H; have H := H0; clear H0)
      (refine Draw2.done (by decide +kernel) (hK _ _ ?_); clear hK K)
      refine Run.inBlock ?_
      (refine Run.region ?_; intro K hK)
      refine Ops.pure H (X.succ rfl rfl (by omega)) rfl rfl rfl ?_
      refine Ops.pure H (X.move rfl) rfl rfl rfl ?_
      (refine Ops.nil (hK _ _ ?_); clear hK K)
      have hlt6 : ∀ i q, i < x → nx i = some q → q < w5.heap.size := fun i q hi hq => (hnv i hi).1.lt hq
      have hwf := hF6.size
      have hw5 := hF5.size
      refine (IH (x + 1) _ (by omega) ⟨by omega, hF7.trans H.fr (fun _ h => h) (fun _ h _ => h), .slice va7 (x + 1) vc7, updb nv x (.slice ma (g.box x).length mc), updb nx x nb2, H.pick (b := nb1) (by first | exact .head | exact .tail .head | exact .tail (.tail .head) | exact .tail (.tail (.tail .head)) | exact .tail (.tail (.tail (.tail .head))) | exact .tail (.tail (.tail (.tail (.tail .head)))) | exact .tail (.tail (.tail (.tail (.tail (.tail .head)))))), ?_, fun i hi => ?_, fun i j q hi hj hij hq => ?_⟩).weak (by repeat (first | exact trivial | refine ⟨rfl, ?_⟩))
      · rw [flat_succ, updb_self, flat_congr (g := fun i => [nv i]) (fun i hi => by rw [updb_ne (by omega)])]
        exact hO7.keepS H.fr (by simp; omega)
      · by_cases e : i = x
        · subst e
          rw [updb_self, updb_self]
          refine ⟨((hL6.keep hFA (fun b hb hm => ?_)).kt1 hK7 (by decide)).keep H.fr (fun b hb hm => ?_), fun q hq => by have := hz6 q hq; omega⟩
          · simp at hm
            have := hz6 b hb
            omega
          · simp at hm
            have := hz6 b hb
            omega
        · rw [updb_ne e, updb_ne e]
          obtain ⟨l1, l2⟩ := hnv i (by omega)
          have hne : ∀ b, nx i = some b → b ≠ nb1 := fun b hb => by have := l2 b hb; omega
          exact ⟨(((l1.keep hF6 (fun b hb hm => hne b hb (by simpa using hm))).keep hFA (fun b hb hm => hne b hb (by simpa using hm))).kt1 hK7 (by decide)).keep H.fr (fun b hb hm => hne b hb (by simpa using hm)), l2⟩
      · by_cases e : i = x
        · subst e
          rw [updb_self] at hq
          rw [updb_ne (fun e => hij e.symm)]
          intro hq'
          have := hlt6 j q (by omega) hq'
          have := hz6 q hq
          omega
        · rw [updb_ne e] at hq
          by_cases e' : j = x
          · subst e'
            rw [updb_self]
            intro hq'
            have := hlt6 i q (by omega) hq
            have := hz6 q hq'
            omega
          · rw [updb_ne e']
            exact hnx i j q (by omega) (by omega) hij hq
    · obtain rfl : x = g.n := by omega
      have H := Holds.start w5 []
      refine Run.seq ?_
      (refine Run.region ?_; intro K hK)
      refine Ops.pure H (X.cmp rfl rfl rfl) rfl rfl rfl ?_
      (refine Ops.nil (hK _ _ ?_); clear hK K)
      refine Run.seq ?_
      refine Run.cond_dec rfl (fun h65 => ?x1) (fun h65 => ?y1)
      case' y1 =>
        refine Run.exit rfl ?_
        refine Run.seq ?_
        (refine Run.region ?_; intro K hK)
        refine Ops.pure H (X.move rfl) rfl rfl rfl ?_
        refine Ops.pure H (X.assign rfl) rfl rfl rfl ?_
        (refine Ops.nil (hK _ _ ?_); clear hK K)
      case' x1 => exfalso; omega
      (first | refine Fn.ret1 HF rfl rfl ?_ | refine Fn.ret2 HF rfl rfl rfl ?_ | refine Fn.ret3 HF rfl rfl rfl rfl ?_ | refine Fn.ret0 HF rfl ?_ | refine Fn.fin0 HF rfl ?_ | refine Fn.retG (E := env) HF rfl H (by first | exact RVs.cellN rfl rfl rfl (by first | exact .head | exact .tail .head | exact .tail (.tail .head) | exact .tail (.tail (.tail .head)) | exact .tail (.tail (.tail (.tail .head))) | exact .tail (.tail (.tail (.tail (.tail .head)))) | exact .tail (.tail (.tail (.tail (.tail (.tail .head)))))) (by first | assumption | exact Cs.take rfl) RVs.nil | exact RVs.cellN rfl rfl rfl (by first | exact .head | exact .tail .head | exact .tail (.tail .head) | exact .tail (.tail (.tail .head)) | exact .tail (.tail (.tail (.tail .head))) | exact .tail (.tail (.tail (.tail (.tail .head)))) | exact .tail (.tail (.tail (.tail (.tail (.tail .head)))))) (by first | assumption | exact Cs.take rfl) (RVs.tmp rfl RVs.nil) | exact RVs.cellN rfl rfl rfl (by first | exact .head | exact .tail .head | exact .tail (.tail .head) | exact .tail (.tail (.tail .head)) | exact .tail (.tail (.tail (.tail .head))) | exact .tail (.tail (.tail (.tail (.tail .head)))) | exact .tail (.tail (.tail (.tail (.tail (.tail .head)))))) (by first | assumption | exact Cs.take rfl) (RVs.tmp rfl (RVs.tmp rfl RVs.nil))) rfl ?_)
      have F := hF5.trans (U := [nb1]) H.fr (fun _ h => h) (by simp)
      have Z := hfr.trans (U := []) F (by simp) (fun x hx hl => by simp at hx; omega)
      obtain ⟨xbb, cxx, xcs, hxe, hx1, hx2, hx3, hx4, hx5, hx6⟩ := (hO.ext H.fr).get (by omega)
      cases hxe
      have hori : ∀ a c, cur a = some c → ∃ c0, g.way a = some c0 ∧ c.ep = c0.ep ∧ c.ss = c0.ss ∧ c.told = c0.told ∧ c.came = c0.came := by
        intro a c hc
        cases hq : g.way a with
        | none => rw [hcl.no a hq] at hc; cases hc
        | some c0 =>
          obtain ⟨d, hd, e1, e2, e3, e4⟩ := hcl.same a c0 hq
          rw [hc] at hd
          cases hd
          exact ⟨c0, rfl, e1, e2, e3, e4⟩
      have hPI : ∀ b, PI ⟨g.n, nb1, ub1, mb1, xbb, fb1, g.up, cur, g.fly, nx, g.box⟩ b → PI g b := by
        rintro b (hb | ⟨a, c, p, hc, hp, hb⟩)
        · exact .inl hb
        · obtain ⟨c0, hc0, _, e2, _⟩ := hori a c hc
          exact .inr ⟨a, c0, p, hc0, by rw [← e2]; exact hp, hb⟩
      refine ⟨⟨g.n, nb1, ub1, mb1, xbb, fb1, g.up, cur, g.fly, nx, g.box⟩, rfl, ?_, Z, ?_, rfl, hPI, ?_⟩
      · refine ⟨⟨uc, bc, _, H.fr.get hk5 (by simp), hu1, hx1, hu2, hx2, hLf.keep F (fun b hb hm => ?_)⟩, fun p hp => (h.flyb p hp).ext Z, ⟨ucs, F.get hLu (by simpa using ne_of_ty hLu hknb (by decide)), hu3, fun i hi => by rw [hu4 i hi]; have hi : i < g.n := hi; simp [hi]⟩, ⟨xcs, hx4, by dsimp only; omega, fun i hi => ⟨nv i, ?_, (hnv i hi).1.ext H.fr⟩⟩, fun i hi p hp => (h.boxb i hi p hp).ext Z, ⟨es', ck, _, F.get hkmb (by simpa using nmn.symm), hmk, hst, fun a => rfl⟩, fun a c hc => ?_, fun a c hc p hp => ?_, fun a c hc => ?_, hn64, hcl.dw, hnx, h.dm, fun b hb hi => h.di b hb (hPI b hi)⟩
        · rw [hb] at hLf
          obtain ⟨cs, hcs⟩ := hLf.ty
          simp at hm
          exact ne_of_ty hcs hknb (by decide) hm
        · have := (Cs.flat (sz := 1) (f := fun i => [nv i]) (fun _ => rfl) hx6 hi).get 0 _ rfl
          simpa using this
        · obtain ⟨sv, r1, r2⟩ := hcl.wayr a c hc
          refine WayAt.keep ⟨sv, r1, r2⟩ F (by simpa using ne_of_ty r1 hknb (by decide)) (fun q hq => ?_)
          rw [hq] at r2
          obtain ⟨cs, hcs⟩ := r2.ty
          simpa using ne_of_ty hcs hknb (by decide)
        · obtain ⟨c0, hc0, _, e2, _⟩ := hori a c hc
          exact (h.wayb a c0 hc0 p (by rw [← e2]; exact hp)).ext Z
        · obtain ⟨c0, hc0, _⟩ := hori a c hc
          exact h.rng a c0 hc0
      · rintro b (e | e | e | e | e | ⟨i, hi, e⟩ | ⟨a, c, hc, e | e⟩)
        · rw [e]; exact hznb
        · rw [e]; exact hzub
        · rw [e]; exact hzmb
        · rw [e]; exact Nat.le_trans hzw hx3
        · exact hzfb b e
        · exact Nat.le_trans hzw ((hnv i hi).2 b e)
        · rw [e]; exact (hall a c hc).1
        · exact (hall a c hc).2 b e
      · unfold PG.abs
        refine congrArg (fun q => (⟨g.n, g.up, q, g.fly.map (·.1), fun i => (g.box i).map (·.1)⟩ : Ns)) (funext fun a => ?_)
        dsimp only
        cases hq : g.way a with
        | none => rw [hcl.no a hq]
        | some c0 =>
          obtain ⟨d, hd, e1, e2, e3, e4⟩ := hcl.same a c0 hq
          rw [hd]
          simp only [absW]
          rw [e1, e2, e3, e4]
  · clear H
    have H := H2
    obtain ⟨hm1, hm2⟩ := mem_left he
    obtain ⟨j, hj⟩ := List.getElem?_of_mem hm1
    obtain ⟨a, hka, hfa⟩ := hmk.key j e (by simpa using hj)
    obtain ⟨d, hcd, hvd⟩ : ∃ d, cur a = some d ∧ e.val = wptr d := by
      cases hq : cur a with
      | none => rw [hq] at hfa; cases hfa
      | some d => rw [hq] at hfa; exact ⟨d, rfl, by simpa using hfa.symm⟩
    obtain ⟨sv, d1, d2⟩ := hcl.wayr a d hcd
    obtain ⟨sa, sc, rfl, _⟩ := d2.slice
    have ndi : d.wb ≠ it := fun e => by rw [e, hkit] at d1; cases d1
    have ndm : d.wb ≠ mb1 := ne_of_map d1 hkmb
    have ndn : d.wb ≠ nb1 := ne_of_ty d1 hknb (by decide)
    replace H := H.add false (H.fr.get d1 (by simpa using ⟨ndi, ndm⟩)) (by simpa using ⟨ndi, ndm, ndn⟩) (by simp)
    refine Ops.pure H (X.extract rfl rfl) rfl rfl rfl ?_
    (refine Ops.nil (hK _ _ ?_); clear hK K)
    refine Run.seq ?_
    refine Run.cond_true rfl ?_
    refine Run.skip ?_
    refine Run.block ?_
    refine Run.seq ?_
    (refine Run.region ?_; intro K hK)
    refine Ops.pure H (X.entry rfl (by first | exact .head | exact .tail .head | exact .tail (.tail .head) | exact .tail (.tail (.tail .head)) | exact .tail (.tail (.tail (.tail .head))) | exact .tail (.tail (.tail (.tail (.tail .head)))) | exact .tail (.tail (.tail (.tail (.tail (.tail .head)))))) (by first | exact .head | exact .tail .head | exact .tail (.tail .head) | exact .tail (.tail (.tail .head)) | exact .tail (.tail (.tail (.tail .head))) | exact .tail (.tail (.tail (.tail (.tail .head)))) | exact .tail (.tail (.tail (.tail (.tail (.tail .head)))))) hm1 hst) rfl rfl rfl ?_
    rw [hka, hvd]
    unfold lk wptr
    refine Ops.pure H (X.extract rfl rfl) rfl rfl rfl ?_
    refine Ops.pure H (X.extract rfl rfl) rfl rfl rfl ?_
    (refine Ops.eff rfl (Y.alloc rfl rfl rfl H ?_); intro b4 w H0 hb4; clear H; have H := H0; clear H0)
    (refine Ops.eff rfl (Y.storeO rfl rfl rfl rfl rfl rfl H Upd.head rfl ?_); intro w H0; clear H; have H := H0; clear H0)
    refine Ops.pure H (X.assign rfl) rfl rfl rfl ?_
    (refine Ops.nil (hK _ _ ?_); clear hK K)
    (refine Run.draw H [24] (0 :: 1 :: 2 :: 3 :: 4 :: 5 :: 6 :: 7 :: 8 :: 9 :: 10 :: 11 :: 12 :: 14 :: 15 :: 16 :: 17 :: 18 :: 19 :: 20 :: 21 :: 13 :: 22 :: 23 :: 24 :: []) ?_; clear H; intro K hK w H)
    refine Draw.take0 rfl (X.move rfl) rfl rfl rfl (by decide +kernel) ?_
    refine Draw.take0 rfl (X.nilCheck rfl) rfl rfl rfl (by decide +kernel) ?_
    refine Draw.take0 rfl (X.fieldAddr rfl rfl rfl rfl rfl rfl) rfl rfl rfl (by decide +kernel) ?_
    refine Draw.take rfl (X.load1 rfl rfl rfl rfl (.tail (.tail (.tail (.tail .head)))) rfl) rfl rfl rfl (by decide +kernel) ?_
    refine Draw.take rfl (X.loadN rfl rfl rfl Pick.head (Cs.take rfl)) rfl rfl rfl (by decide +kernel) ?_
    refine Draw.take0 rfl (X.move rfl) rfl rfl rfl (by decide +kernel) ?_
    refine Draw.take0 rfl (X.nilCheck rfl) rfl rfl rfl (by decide +kernel) ?_
    refine Draw.take0 rfl (X.fieldAddr rfl rfl rfl rfl rfl rfl) rfl rfl rfl (by decide +kernel) ?_
    refine Draw.take rfl (X.load1 rfl rfl rfl rfl (.tail .head) rfl) rfl rfl rfl (by decide +kernel) ?_
    refine Draw.take0 rfl (X.move rfl) rfl rfl rfl (by decide +kernel) ?_
    refine Draw.take0 rfl (X.nilCheck rfl) rfl rfl rfl (by decide +kernel) ?_
    refine Draw.take0 rfl (X.fieldAddr rfl rfl rfl rfl rfl rfl) rfl rfl rfl (by decide +kernel) ?_
    refine Draw.take rfl (X.load1 rfl rfl rfl rfl (.tail .head) rfl) rfl rfl rfl (by decide +kernel) ?_
    refine Draw.take0 rfl (X.move rfl) rfl rfl rfl (by decide +kernel) ?_
    refine Draw.take0 rfl (X.nilCheck rfl) rfl rfl rfl (by decide +kernel) ?_
    refine Draw.take0 rfl (X.fieldAddr rfl rfl rfl rfl rfl rfl) rfl rfl rfl (by decide +kernel) ?_
    refine Draw.take rfl (X.load1 rfl rfl rfl rfl (.tail .head) rfl) rfl rfl rfl (by decide +kernel) ?_
    refine Draw.take0 rfl (X.move rfl) rfl rfl rfl (by decide +kernel) ?_
    refine Draw.take0 rfl (X.nilCheck rfl) rfl rfl rfl (by decide +kernel) ?_
    refine Draw.take0 rfl (X.fieldAddr rfl rfl rfl rfl rfl rfl) rfl rfl rfl (by decide +kernel) ?_
    refine Draw.take rfl (X.load1 rfl rfl rfl rfl (.tail .head) rfl) rfl rfl rfl (by decide +kernel) ?_
    have hga : ∃ c, g.way a = some c := by
      cases hq : g.way a with
      | none => rw [hcl.no a hq] at hcd; cases hcd
      | some c => exact ⟨c, rfl⟩
    obtain ⟨c, hga⟩ := hga
    obtain ⟨d', hd', he1, he2, he3, he4⟩ := hcl.same a c hga
    rw [hcd] at hd'
    cases hd'
    have hssk : d.ss.length ≤ k := by
      have := (hok.way a).2.1
      rw [abs_way, hga] at this
      rw [he2]
      simpa [absW] using this
    have hsbn : ∀ q, d.sb = some q → q ≠ it ∧ q ≠ mb1 := fun q hq => by
      rw [hq] at d2
      obtain ⟨cs, hcs⟩ := d2.ty
      exact ⟨fun e => (by rw [e, hkit] at hcs; cases hcs), ne_of_map hcs hkmb⟩
    refine Draw.eff rfl rfl (by decide +kernel) (Y.call rfl rfl (by first | assumption | decide +kernel) rfl (sclone_any _ _ d.sb _ _ (d2.keep H.fr (fun b hb => by simpa using hsbn b hb)) (by omega)) rfl ?_)
    rintro v w6 ⟨hf6, sb1, hL6, hz6⟩
    have hFw := H.fr
    replace H := H.ext hf6
    refine ⟨H.at_, ?_⟩
    obtain ⟨na, nc, rfl, _⟩ := hL6.slice
    have hFw6 := H.fr
    have q1 := H.pick (b := b4) (by first | exact .head | exact .tail .head | exact .tail (.tail .head) | exact .tail (.tail (.tail .head)) | exact .tail (.tail (.tail (.tail .head))) | exact .tail (.tail (.tail (.tail (.tail .head)))) | exact .tail (.tail (.tail (.tail (.tail (.tail .head))))))
    have q2 := H.pick (b := d.wb) (by first | exact .head | exact .tail .head | exact .tail (.tail .head) | exact .tail (.tail (.tail .head)) | exact .tail (.tail (.tail (.tail .head))) | exact .tail (.tail (.tail (.tail (.tail .head)))) | exact .tail (.tail (.tail (.tail (.tail (.tail .head))))))
    have q3 := H.pick (b := mb1) (by first | exact .head | exact .tail .head | exact .tail (.tail .head) | exact .tail (.tail (.tail .head)) | exact .tail (.tail (.tail (.tail .head))) | exact .tail (.tail (.tail (.tail (.tail .head)))) | exact .tail (.tail (.tail (.tail (.tail (.tail .head))))))
    have q4 := H.pick (b := it) (by first | exact .head | exact .tail .head | exact .tail (.tail .head) | exact .tail (.tail (.tail .head)) | exact .tail (.tail (.tail (.tail .head))) | exact .tail (.tail (.tail (.tail (.tail .head)))) | exact .tail (.tail (.tail (.tail (.tail (.tail .head))))))
    have hw6 := hf6.size
    have hw4 := hFw.size
    clear H2
    replace H := H.anew (S' := [b4, it, mb1]) (G' := [⟨_, _, true⟩, ⟨_, _, false⟩, ⟨_, _, true⟩, ⟨_, _, true⟩, ⟨_, _, false⟩]) (by repeat constructor) (by simp)
    refine Draw.take0 rfl (X.buildO rfl rfl rfl rfl rfl rfl) rfl rfl rfl (by decide +kernel) ?_
    (refine Draw.eff rfl rfl (by decide +kernel) (Y.box rfl rfl rfl H ?_); intro b58 w H0 hb58; clear H; have H := H0; clear H0; refine ⟨fun e he => H.at_ e (by simp only [List.mem_cons, List.not_mem_nil, or_false] at he ⊢; grind), ?_⟩)
    refine Draw.last rfl rfl (by decide +kernel) (Y.mapUpdateK2 (i := a) (u := wptr d) lkOk hmk H (by first | exact .head | exact .tail .head | exact .tail (.tail .head) | exact .tail (.tail (.tail .head)) | exact .tail (.tail (.tail (.tail .head))) | exact .tail (.tail (.tail (.tail (.tail .head)))) | exact .tail (.tail (.tail (.tail (.tail (.tail .head)))))) rfl rfl rfl rfl rfl (by show Option.map wptr (cur a) = some _; rw [hcd]; rfl) ?_)
    intro es2 w H hM2 hst2 hkb2
    (refine Draw2.done (by decide +kernel) (hK _ _ ?_); clear hK K)
    refine Run.inBlock ?_
    have hT := hFw6.trans (U := [it, mb1]) H.fr (fun _ h => h) (fun x hx hl => by simp at hx ⊢; rcases hx with e | e | e; omega; exact .inl e; exact .inr e)
    have hTz := hfr.trans (U := []) hT (by simp) (fun x hx hl => by simp at hx; omega)
    have hLn := hL6.keep H.fr (fun b hb hm => by
      simp at hm
      rw [hb] at hL6
      obtain ⟨cs, hcs⟩ := hL6.ty
      rcases hm with e | e | e
      · exact ne_of_ty hcs q1 (by decide) e
      · rw [e, q4] at hcs; cases hcs
      · exact ne_of_map hcs q3 e)
    obtain ⟨nw, hnw⟩ : ∃ nw : WG, nw = ⟨b58, sb1, d.ep, d.ss, d.told, d.came⟩ := ⟨_, rfl⟩
    have hWn : WayAt w nw := by rw [hnw]; exact ⟨.slice na d.ss.length nc, H.pick (b := b58) (by first | exact .head | exact .tail .head | exact .tail (.tail .head) | exact .tail (.tail (.tail .head)) | exact .tail (.tail (.tail (.tail .head))) | exact .tail (.tail (.tail (.tail (.tail .head)))) | exact .tail (.tail (.tail (.tail (.tail (.tail .head)))))), hLn⟩
    have hkeys : ∃ e0 ∈ es.toList, e0.key = e.key ∧ e0.born = e.born := by
      have : (e.key, e.born) ∈ es.toList.map fun e => (e.key, e.born) := by rw [← hcl.kb]; exact List.mem_map.2 ⟨e, hm1, rfl⟩
      obtain ⟨e0, h1, h2⟩ := List.mem_map.1 this
      exact ⟨e0, h1, (Prod.mk.inj h2).1, (Prod.mk.inj h2).2⟩
    obtain ⟨e0, he0, hk0, hb0⟩ := hkeys
    have hleft : e0 ∈ (leftOf es seen).toList := by
      unfold leftOf
      simp only [Array.toList_filter, List.mem_filter]
      exact ⟨he0, by rw [hb0, hm2]; rfl⟩
    have hmeas := left_shrinks es seen e0 hleft
    rw [hb0] at hmeas
    have hnewb : z.heap.size ≤ nw.wb ∧ ∀ q, nw.sb = some q → z.heap.size ≤ q := by
      have := hfr.size
      rw [hnw]
      exact ⟨by dsimp only; omega, fun q hq => by have := hz6 q hq; omega⟩
    have hltw : ∀ b e, cur b = some e → e.wb < w4.heap.size ∧ ∀ q, e.sb = some q → q < w4.heap.size := fun b e hb => by
      obtain ⟨sv, r1, r2⟩ := hcl.wayr b e hb
      exact ⟨lt_of_at r1, fun q hq => r2.lt hq⟩
    have hnwf : w4.heap.size ≤ nw.wb ∧ ∀ q, nw.sb = some q → w4.heap.size ≤ q := by
      rw [hnw]
      exact ⟨by dsimp only; omega, fun q hq => by have := hz6 q hq; omega⟩
    refine (IH (seen.push e.born, es2, ck, updw cur a nw) _ hmeas ⟨Nat.le_refl _, hTz, H.pick (b := it) (by first | exact .head | exact .tail .head | exact .tail (.tail .head) | exact .tail (.tail (.tail .head)) | exact .tail (.tail (.tail (.tail .head))) | exact .tail (.tail (.tail (.tail (.tail .head)))) | exact .tail (.tail (.tail (.tail (.tail (.tail .head)))))), hT.get hknb (by simpa using ⟨fun e => nin e.symm, nmn⟩), H.pick (b := mb1) (by first | exact .head | exact .tail .head | exact .tail (.tail .head) | exact .tail (.tail (.tail .head)) | exact .tail (.tail (.tail (.tail .head))) | exact .tail (.tail (.tail (.tail (.tail .head)))) | exact .tail (.tail (.tail (.tail (.tail (.tail .head)))))), ?_, hst2 hst, ⟨fun b c' hb => ?_, fun b hb => ?_, fun b e' hb => ?_, hkb2.trans hcl.kb, fun x hx hs b e' hkx hb => ?_, fun b b' e1 e2 hbb h1 h2 => ?_⟩, hT.get hLu ?_, hLf.keep hT ?_⟩).weak (by repeat (first | exact trivial | refine ⟨rfl, ?_⟩))
    · have e1 : updk (fun a => Option.map wptr (cur a)) a (some (wptr nw)) = fun b => Option.map wptr (updw cur a nw b) := by
        funext b
        unfold updk updw
        by_cases hba : b = a
        · rw [if_pos hba, if_pos hba]; rfl
        · rw [if_neg hba, if_neg hba]
      rw [← e1, hnw]
      exact hM2
    · dsimp only
      by_cases hba : b = a
      · subst hba
        rw [updw_self]
        rw [hga] at hb
        cases hb
        rw [hnw]
        exact ⟨_, rfl, he1, he2, he3, he4⟩
      · rw [updw_ne hba]
        exact hcl.same b c' hb
    · have hba : b ≠ a := fun e => by rw [e, hga] at hb; cases hb
      dsimp only
      rw [updw_ne hba]
      exact hcl.no b hb
    · rcases updw_cases hb with ⟨_, rfl⟩ | ⟨hba, hb⟩
      · exact hWn
      · have hW := hcl.wayr b e' hb
        obtain ⟨sv, r1, r2⟩ := hW
        refine WayAt.keep ⟨sv, r1, r2⟩ hT (by simpa using ⟨fun e => (by rw [e, hkit] at r1; cases r1), ne_of_map r1 hkmb⟩) (fun q hq => ?_)
        rw [hq] at r2
        obtain ⟨cs, hcs⟩ := r2.ty
        simpa using ⟨fun e => (by rw [e, hkit] at hcs; cases hcs), ne_of_map hcs hkmb⟩
    · rcases updw_cases hb with ⟨_, rfl⟩ | ⟨hba, hb⟩
      · exact hnewb
      · rw [Array.contains_push] at hs
        simp only [Bool.or_eq_true, beq_iff_eq] at hs
        rcases hs with hs | hs
        · exact hcl.new x hx hs b e' hkx hb
        · exfalso
          have hnd := m3.2.1
          have hxe : x = e0 := by
            have f1 := find_born x es.toList hnd hx
            have f2 := find_born e0 es.toList hnd he0
            rw [hs] at f1
            rw [hb0, f1] at f2
            cases f2
            rfl
          rw [hxe, hk0, hka] at hkx
          exact hba (lkOk.inj _ _ hkx).symm
    · dsimp only at h1 h2
      rcases updw_cases h1 with ⟨c1, c2⟩ | ⟨hba, h1⟩
      · rcases updw_cases h2 with ⟨c3, c4⟩ | ⟨hba', h2⟩
        · exact absurd (c1.trans c3.symm) hbb
        · obtain ⟨l1, l2⟩ := hltw _ _ h2
          rw [c2]
          exact ⟨by omega, fun q hq hq' => by have := hnwf.2 q hq; have := l2 q hq'; omega⟩
      · rcases updw_cases h2 with ⟨c3, c4⟩ | ⟨hba', h2⟩
        · obtain ⟨l1, l2⟩ := hltw _ _ h1
          rw [c4]
          exact ⟨by omega, fun q hq hq' => by have := hnwf.2 q hq'; have := l2 q hq; omega⟩
        · exact hcl.dw b b' e1 e2 hbb h1 h2
    · simpa using ⟨fun e => (by rw [e, hkit] at hLu; cases hLu), ne_of_map hLu hkmb⟩
    · intro b hb
      rw [hb] at hLf
      obtain ⟨cs, hcs⟩ := hLf.ty
      simpa using ⟨fun e => (by rw [e, hkit] at hcs; cases hcs), ne_of_map hcs hkmb⟩
end Go.Proofs.Ytpmihcefjdeonaa
