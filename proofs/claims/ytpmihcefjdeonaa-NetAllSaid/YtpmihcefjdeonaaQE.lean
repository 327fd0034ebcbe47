/- Two networks side by side, apart in memory; begins. No statement of the seat is proved here. -/
import Derived.Test.YtpmihcefjdeonaaQD
namespace Go.Proofs.Ytpmihcefjdeonaa
open Go
set_option maxRecDepth 20000
set_option maxHeartbeats 2000000
attribute [local irreducible] Run Ops Fn Draw Draw2 PureOp StepZ

structure Apart (w : World) (g : PG) (h : RG) : Prop where
  p : PN w g
  d : RN w h
  ds : ∀ c, RD h c → ¬ PF g c ∧ ¬ PI g c
theorem RN.ltD {w : World} {h : RG} (H : RN w h) {b : Nat} (hb : RD h b) : b < w.heap.size := H.lt hb
/-- What a call makes of both. -/
structure Both (w : World) (g : PG) (h : RG) (w' : World) (g' : PG) (h' : RG) : Prop where
  ap : Apart w' g' h'
  fr : ∃ S, Fr w w' S ∧ ∀ b ∈ S, PF g b ∨ RS h b
  ownP : ∀ b, PF g' b → PF g b ∨ w.heap.size ≤ b
  immP : ∀ b, PI g' b → PI g b ∨ w.heap.size ≤ b
  ownR : ∀ b, RD h' b → RD h b ∨ w.heap.size ≤ b
  ownS : ∀ b, RS h' b → RS h b ∨ w.heap.size ≤ b
  nb : g'.nb = g.nb
  rb : h'.rb = h.rb
theorem Both.rfl' {w w' : World} {g : PG} {h : RG} (A : Apart w g h) (hf : Fr w w' []) : Both w g h w' g h :=
  ⟨⟨A.p.ext hf, A.d.ext hf, A.ds⟩, ⟨[], hf, by simp⟩, fun _ h => .inl h, fun _ h => .inl h, fun _ h => .inl h, fun _ h => .inl h, rfl, rfl⟩
theorem Both.size {w w' : World} {g g' : PG} {h h' : RG} (B : Both w g h w' g' h') : w.heap.size ≤ w'.heap.size := by obtain ⟨S, hf, _⟩ := B.fr; exact hf.size
theorem Both.trans {w w1 w2 : World} {g g1 g2 : PG} {h h1 h2 : RG} (B : Both w g h w1 g1 h1) (C : Both w1 g1 h1 w2 g2 h2) : Both w g h w2 g2 h2 := by
  obtain ⟨S, hS, hS'⟩ := B.fr
  obtain ⟨U, hU, hU'⟩ := C.fr
  have hsz := hS.size
  refine ⟨C.ap, ⟨S ++ U.filter (· < w.heap.size), hS.trans hU (fun x hx => List.mem_append_left _ hx) (fun x hx hl => List.mem_append_right _ (List.mem_filter.2 ⟨hx, by simpa using hl⟩)), fun b hb => ?_⟩, fun b hb => ?_, fun b hb => ?_, fun b hb => ?_, fun b hb => ?_, C.nb.trans B.nb, C.rb.trans B.rb⟩
  · rcases List.mem_append.1 hb with hb | hb
    · exact hS' b hb
    · obtain ⟨k1, k2⟩ := List.mem_filter.1 hb
      simp at k2
      rcases hU' b k1 with k3 | k3
      · rcases B.ownP b k3 with k4 | k4
        · exact .inl k4
        · omega
      · rcases B.ownS b k3 with k4 | k4
        · exact .inr k4
        · omega
  · rcases C.ownP b hb with k | k
    · exact B.ownP b k
    · exact .inr (by omega)
  · rcases C.immP b hb with k | k
    · exact B.immP b k
    · exact .inr (by omega)
  · rcases C.ownR b hb with k | k
    · exact B.ownR b k
    · exact .inr (by omega)
  · rcases C.ownS b hb with k | k
    · exact B.ownS b k
    · exact .inr (by omega)
theorem Both.ext {w w1 w2 : World} {g g1 : PG} {h h1 : RG} (B : Both w g h w1 g1 h1) (hf : Fr w1 w2 []) : Both w g h w2 g1 h1 := B.trans (.rfl' B.ap hf)
theorem Both.ofP {w w' : World} {g g' : PG} {h : RG} (A : Apart w g h) (st : PStep w g w' g') : Both w g h w' g' h := by
  obtain ⟨S, hS, hS'⟩ := st.fr
  refine ⟨⟨st.ok, A.d.keep hS (fun b hb hd => (A.ds b hd).1 (hS' b hb)), fun c hc => ⟨fun hp => ?_, fun hp => ?_⟩⟩, ⟨S, hS, fun b hb => .inl (hS' b hb)⟩, st.own, st.imm, fun _ h => .inl h, fun _ h => .inl h, st.nb, rfl⟩
  · rcases st.own c hp with k | k
    · exact (A.ds c hc).1 k
    · have := A.d.lt hc; omega
  · rcases st.imm c hp with k | k
    · exact (A.ds c hc).2 k
    · have := A.d.lt hc; omega
theorem Both.ofR {w w' : World} {g : PG} {h h' : RG} (A : Apart w g h) (st : RStep w h w' h') : Both w g h w' g h' := by
  obtain ⟨S, hS, hS'⟩ := st.fr
  have hpp : ∀ b, PF g b ∨ PI g b → b < w.heap.size := fun b hb => hb.elim A.p.lt A.p.ltI
  refine ⟨⟨A.p.keep hS (fun b hb => A.ds b (.inl (hS' b hb))), st.ok, fun c hc => ?_⟩, ⟨S, hS, fun b hb => .inr (hS' b hb)⟩, fun _ h => .inl h, fun _ h => .inl h, st.own, fun b hb => st.ownS hb, rfl, st.rb⟩
  rcases st.own c hc with k | k
  · exact A.ds c k
  · exact ⟨fun hp => by have := hpp c (.inl hp); omega, fun hp => by have := hpp c (.inr hp); omega⟩
/-- Blocks of none of them are written over. -/
theorem Both.other {w w1 w2 : World} {g g1 : PG} {h h1 : RG} {S : List Nat} (B : Both w g h w1 g1 h1) (hf : Fr w1 w2 S) (hS : ∀ b ∈ S, (PF g b ∨ RS h b ∨ w.heap.size ≤ b) ∧ ¬ PF g1 b ∧ ¬ PI g1 b ∧ ¬ RD h1 b) : Both w g h w2 g1 h1 := by
  obtain ⟨U, hU, hU'⟩ := B.fr
  have hsz := hU.size
  refine ⟨⟨B.ap.p.keep hf (fun b hb => ⟨(hS b hb).2.1, (hS b hb).2.2.1⟩), B.ap.d.keep hf (fun b hb => (hS b hb).2.2.2), B.ap.ds⟩, ⟨U ++ S.filter (· < w.heap.size), hU.trans hf (fun x hx => List.mem_append_left _ hx) (fun x hx hl => List.mem_append_right _ (List.mem_filter.2 ⟨hx, by simpa using hl⟩)), fun b hb => ?_⟩, B.ownP, B.immP, B.ownR, B.ownS, B.nb, B.rb⟩
  rcases List.mem_append.1 hb with hb | hb
  · exact hU' b hb
  · obtain ⟨k1, k2⟩ := List.mem_filter.1 hb
    simp at k2
    rcases (hS b k1).1 with k | k | k
    · exact .inl k
    · exact .inr k
    · omega
theorem Both.get {w w' : World} {g g' : PG} {h h' : RG} (B : Both w g h w' g' h') {b : Nat} {o : Obj} (hb : w.heap[b]? = some o) (hp : ¬ PF g b) (hr : ¬ RS h b) : w'.heap[b]? = some o := by
  obtain ⟨S, hf, hS⟩ := B.fr
  exact hf.get hb (fun hm => (hS b hm).elim hp hr)
/-- Two networks begin, or none. -/
theorem begins_no (z : World) (n : Int) (h : ¬ (1 ≤ n ∧ n ≤ 64)) : Fn env.P 7 [.int .i64 n] z fun v w' => v = .tuple #[.pointer none, .bool true] ∧ w' = z := by
  have H := Holds.start z []
  have HF := Try.func7; refine Fn.enter Try.func7 Try.ntmps7 rfl rfl rfl ?_
  refine Run.seq ?_
  (refine Run.region ?_; intro K hK)
  refine Ops.pure H (X.assign rfl) rfl rfl rfl ?_
  refine Ops.pure H (X.assign rfl) rfl rfl rfl ?_
  (refine Ops.nil (hK _ _ ?_); clear hK K)
  refine Run.seq ?_
  (refine Run.region ?_; intro K hK)
  refine Ops.pure H (X.move rfl) rfl rfl rfl ?_
  refine Ops.eff rfl (Y.call rfl rfl (by first | assumption | decide +kernel) rfl (new_no _ n h) rfl ?_)
  rintro v w1 ⟨rfl, rfl⟩
  refine Ops.pure H (X.move rfl) rfl rfl rfl ?_
  refine Ops.pure H (X.extract rfl rfl) rfl rfl rfl ?_
  refine Ops.pure H (X.extract rfl rfl) rfl rfl rfl ?_
  refine Ops.pure H (X.assign rfl) rfl rfl rfl ?_
  refine Ops.pure H (X.assign rfl) rfl rfl rfl ?_
  (refine Ops.nil (hK _ _ ?_); clear hK K)
  refine Run.seq ?_
  (refine Run.region ?_; intro K hK)
  refine Ops.pure H (X.move rfl) rfl rfl rfl ?_
  refine Ops.eff rfl (Y.call rfl rfl (by first | assumption | decide +kernel) rfl (rnew_no _ n h) rfl ?_)
  rintro v w2 ⟨rfl, rfl⟩
  refine Ops.pure H (X.move rfl) rfl rfl rfl ?_
  refine Ops.pure H (X.extract rfl rfl) rfl rfl rfl ?_
  refine Ops.pure H (X.extract rfl rfl) rfl rfl rfl ?_
  refine Ops.pure H (X.assign rfl) rfl rfl rfl ?_
  refine Ops.pure H (X.assign rfl) rfl rfl rfl ?_
  (refine Ops.nil (hK _ _ ?_); clear hK K)
  refine Run.seq ?_
  refine Run.seq ?_
  (refine Run.region ?_; intro K hK)
  refine Ops.pure H (X.move rfl) rfl rfl rfl ?_
  refine Ops.pure H (X.move rfl) rfl rfl rfl ?_
  refine Ops.pure H (X.cmp rfl rfl rfl) rfl rfl rfl ?_
  refine Ops.pure H (X.move rfl) rfl rfl rfl ?_
  refine Ops.pure H (X.move rfl) rfl rfl rfl ?_
  refine Ops.pure H (X.ptrNil rfl rfl rfl rfl rfl) rfl rfl rfl ?_
  refine Ops.pure H (X.move rfl) rfl rfl rfl ?_
  refine Ops.pure H (X.ptrNil rfl rfl rfl rfl rfl) rfl rfl rfl ?_
  refine Ops.pure H (X.boolEq rfl rfl rfl rfl rfl) rfl rfl rfl ?_
  refine Ops.pure H (X.pick_f rfl rfl) rfl rfl rfl ?_
  (refine Ops.nil (hK _ _ ?_); clear hK K)
  refine Run.cond_false rfl ?_
  refine Run.skip ?_
  refine Run.seq ?_
  refine Run.seq ?_
  (refine Run.region ?_; intro K hK)
  refine Ops.pure H (X.move rfl) rfl rfl rfl ?_
  refine Ops.pure H (X.ptrNil rfl rfl rfl rfl rfl) rfl rfl rfl ?_
  (refine Ops.nil (hK _ _ ?_); clear hK K)
  refine Run.cond_true rfl ?_
  refine Run.seq ?_
  (refine Run.region ?_; intro K hK)
  refine Ops.pure H (X.assign rfl) rfl rfl rfl ?_
  refine Ops.pure H (X.assign rfl) rfl rfl rfl ?_
  (refine Ops.nil (hK _ _ ?_); clear hK K)
  (first | refine Fn.ret1 HF rfl rfl ?_ | refine Fn.ret2 HF rfl rfl rfl ?_ | refine Fn.ret3 HF rfl rfl rfl rfl ?_ | refine Fn.ret0 HF rfl ?_ | refine Fn.fin0 HF rfl ?_ | refine Fn.retG (E := env) HF rfl H (by first | exact RVs.cellN rfl rfl rfl (by first | exact .head | exact .tail .head | exact .tail (.tail .head) | exact .tail (.tail (.tail .head)) | exact .tail (.tail (.tail (.tail .head))) | exact .tail (.tail (.tail (.tail (.tail .head)))) | exact .tail (.tail (.tail (.tail (.tail (.tail .head)))))) (by first | assumption | exact Cs.take rfl) RVs.nil | exact RVs.cellN rfl rfl rfl (by first | exact .head | exact .tail .head | exact .tail (.tail .head) | exact .tail (.tail (.tail .head)) | exact .tail (.tail (.tail (.tail .head))) | exact .tail (.tail (.tail (.tail (.tail .head)))) | exact .tail (.tail (.tail (.tail (.tail (.tail .head)))))) (by first | assumption | exact Cs.take rfl) (RVs.tmp rfl RVs.nil) | exact RVs.cellN rfl rfl rfl (by first | exact .head | exact .tail .head | exact .tail (.tail .head) | exact .tail (.tail (.tail .head)) | exact .tail (.tail (.tail (.tail .head))) | exact .tail (.tail (.tail (.tail (.tail .head)))) | exact .tail (.tail (.tail (.tail (.tail (.tail .head)))))) (by first | assumption | exact Cs.take rfl) (RVs.tmp rfl (RVs.tmp rfl RVs.nil))) rfl ?_)
  exact ⟨rfl, rfl⟩
theorem begins_yes (z : World) (n : Nat) (h1 : 1 ≤ n) (h2 : n ≤ 64) : Fn env.P 7 [.int .i64 (n : Nat)] z fun v w' => ∃ pb g h, v = .tuple #[.pointer (some ⟨pb, 0, none⟩), .bool true] ∧ w'.heap[pb]? = some (row [.pointer (some ⟨g.nb, 0, none⟩), .pointer (some ⟨h.rb, 0, none⟩)] 34) ∧ Apart w' g h ∧ g.abs = ns0 n ∧ h.abs = ns0 n ∧ Fr z w' [] ∧ z.heap.size ≤ pb ∧ (¬ PF g pb ∧ ¬ PI g pb ∧ ¬ RD h pb) ∧ (∀ c, PF g c → z.heap.size ≤ c) ∧ (∀ c, ¬ PI g c) ∧ (∀ c, RD h c → z.heap.size ≤ c) := by
  have H := Holds.start z []
  have HF := Try.func7; refine Fn.enter Try.func7 Try.ntmps7 rfl rfl rfl ?_
  refine Run.seq ?_
  (refine Run.region ?_; intro K hK)
  refine Ops.pure H (X.assign rfl) rfl rfl rfl ?_
  refine Ops.pure H (X.assign rfl) rfl rfl rfl ?_
  (refine Ops.nil (hK _ _ ?_); clear hK K)
  refine Run.seq ?_
  (refine Run.region ?_; intro K hK)
  refine Ops.pure H (X.move rfl) rfl rfl rfl ?_
  refine Ops.eff rfl (Y.call rfl rfl (by first | assumption | decide +kernel) rfl (new_yes _ n h1 h2) rfl ?_)
  rintro v w1 ⟨g, rfl, hp, hab, hf1, hpf, hpi⟩
  have H := Holds.start w1 []
  refine Ops.pure H (X.move rfl) rfl rfl rfl ?_
  refine Ops.pure H (X.extract rfl rfl) rfl rfl rfl ?_
  refine Ops.pure H (X.extract rfl rfl) rfl rfl rfl ?_
  refine Ops.pure H (X.assign rfl) rfl rfl rfl ?_
  refine Ops.pure H (X.assign rfl) rfl rfl rfl ?_
  (refine Ops.nil (hK _ _ ?_); clear hK K)
  refine Run.seq ?_
  (refine Run.region ?_; intro K hK)
  refine Ops.pure H (X.move rfl) rfl rfl rfl ?_
  refine Ops.eff rfl (Y.call rfl rfl (by first | assumption | decide +kernel) rfl (rnew_yes _ n h1 h2) rfl ?_)
  rintro v w2 ⟨h, rfl, hd, hab2, hf2, hrd⟩
  have H := Holds.start w2 []
  refine Ops.pure H (X.move rfl) rfl rfl rfl ?_
  refine Ops.pure H (X.extract rfl rfl) rfl rfl rfl ?_
  refine Ops.pure H (X.extract rfl rfl) rfl rfl rfl ?_
  refine Ops.pure H (X.assign rfl) rfl rfl rfl ?_
  refine Ops.pure H (X.assign rfl) rfl rfl rfl ?_
  (refine Ops.nil (hK _ _ ?_); clear hK K)
  refine Run.seq ?_
  refine Run.seq ?_
  (refine Run.region ?_; intro K hK)
  refine Ops.pure H (X.move rfl) rfl rfl rfl ?_
  refine Ops.pure H (X.move rfl) rfl rfl rfl ?_
  refine Ops.pure H (X.cmp rfl rfl rfl) rfl rfl rfl ?_
  refine Ops.pure H (X.move rfl) rfl rfl rfl ?_
  refine Ops.pure H (X.move rfl) rfl rfl rfl ?_
  refine Ops.pure H (X.ptrNil rfl rfl rfl rfl rfl) rfl rfl rfl ?_
  refine Ops.pure H (X.move rfl) rfl rfl rfl ?_
  refine Ops.pure H (X.ptrNil rfl rfl rfl rfl rfl) rfl rfl rfl ?_
  refine Ops.pure H (X.boolEq rfl rfl rfl rfl rfl) rfl rfl rfl ?_
  refine Ops.pure H (X.pick_f rfl rfl) rfl rfl rfl ?_
  (refine Ops.nil (hK _ _ ?_); clear hK K)
  refine Run.cond_false rfl ?_
  refine Run.skip ?_
  refine Run.seq ?_
  refine Run.seq ?_
  (refine Run.region ?_; intro K hK)
  refine Ops.pure H (X.move rfl) rfl rfl rfl ?_
  refine Ops.pure H (X.ptrNil rfl rfl rfl rfl rfl) rfl rfl rfl ?_
  (refine Ops.nil (hK _ _ ?_); clear hK K)
  refine Run.cond_false rfl ?_
  refine Run.skip ?_
  refine Run.seq ?_
  (refine Run.region ?_; intro K hK)
  refine Ops.pure H (X.move rfl) rfl rfl rfl ?_
  refine Ops.pure H (X.move rfl) rfl rfl rfl ?_
  refine Ops.pure H (X.buildO rfl rfl rfl rfl rfl rfl) rfl rfl rfl ?_
  (refine Ops.eff rfl (Y.box rfl rfl rfl H ?_); intro b33 w H0 hb33; clear H; have H := H0; clear H0)
  refine Ops.pure H (X.assign rfl) rfl rfl rfl ?_
  refine Ops.pure H (X.assign rfl) rfl rfl rfl ?_
  (refine Ops.nil (hK _ _ ?_); clear hK K)
  (first | refine Fn.ret1 HF rfl rfl ?_ | refine Fn.ret2 HF rfl rfl rfl ?_ | refine Fn.ret3 HF rfl rfl rfl rfl ?_ | refine Fn.ret0 HF rfl ?_ | refine Fn.fin0 HF rfl ?_ | refine Fn.retG (E := env) HF rfl H (by first | exact RVs.cellN rfl rfl rfl (by first | exact .head | exact .tail .head | exact .tail (.tail .head) | exact .tail (.tail (.tail .head)) | exact .tail (.tail (.tail (.tail .head))) | exact .tail (.tail (.tail (.tail (.tail .head)))) | exact .tail (.tail (.tail (.tail (.tail (.tail .head)))))) (by first | assumption | exact Cs.take rfl) RVs.nil | exact RVs.cellN rfl rfl rfl (by first | exact .head | exact .tail .head | exact .tail (.tail .head) | exact .tail (.tail (.tail .head)) | exact .tail (.tail (.tail (.tail .head))) | exact .tail (.tail (.tail (.tail (.tail .head)))) | exact .tail (.tail (.tail (.tail (.tail (.tail .head)))))) (by first | assumption | exact Cs.take rfl) (RVs.tmp rfl RVs.nil) | exact RVs.cellN rfl rfl rfl (by first | exact .head | exact .tail .head | exact .tail (.tail .head) | exact .tail (.tail (.tail .head)) | exact .tail (.tail (.tail (.tail .head))) | exact .tail (.tail (.tail (.tail (.tail .head)))) | exact .tail (.tail (.tail (.tail (.tail (.tail .head)))))) (by first | assumption | exact Cs.take rfl) (RVs.tmp rfl (RVs.tmp rfl RVs.nil))) rfl ?_)
  refine ⟨b33, g, h, rfl, H.pick .head, ⟨(hp.ext hf2).ext H.fr, hd.ext H.fr, fun c hc => ⟨fun hm => ?_, hpi c⟩⟩, hab, hab2, (hf1.then hf2).then H.fr, ?_, ⟨fun hm => ?_, hpi _, fun hm => ?_⟩, hpf, hpi, fun c hc => ?_⟩
  · have := hp.lt hm
    have := hrd c hc
    omega
  · have := hf1.size; have := hf2.size; omega
  · have := hp.lt hm; have := hf2.size; omega
  · have := hd.lt hm; omega
  · have := hf1.size; have := hrd c hc; omega
def acC (c : AC) (bv : Value) : List Value := [.int .i64 c.kind, .int .i64 c.a, .int .i64 c.to, .int .i64 c.i, bv, .bool c.how]
theorem run_bytesV {P : Program} {w : World} {src e dst : TypeId} {v : Value} {xs : List Int} (hs : P.underlying src = some (.slice e)) (he : P.underlying e = some (.int .u8)) (hd : P.underlying dst = some .string) (hB : Bys w v xs) : (convert src dst v).run P w = .ok (.string (strOfNums xs)) w := by
  obtain ⟨a, cap, b, off, cs, T, fz, rfl, h2, h3, h4, h5⟩ := hB
  by_cases hp : 0 < xs.length
  · obtain ⟨rfl, hb⟩ := h4 hp
    refine run_convert_bytes_arg (P := P) w src e hs he b off xs.length cap xs rfl (fun i hi => ?_) dst hd
    rw [cell_cells hb, h5.toGet hi]
    simp [List.getD_eq_getElem?_getD, hi]
  · have hx : xs = [] := List.eq_nil_of_length_eq_zero (by omega)
    subst hx
    cases a with
    | none => exact run_convert_bytes_nil (P := P) w src e hs he 0 cap dst hd
    | some a =>
      have hl := run_loadCells_list (P := P) w a [] (fun j v hj => by simp at hj)
      show (convert src dst (.slice (some a) 0 cap)).run P w = _
      rw [run_convert_bytes_string w src dst e _ 0 cap hs he hd, run_bytesToString w a 0 cap [] (by simpa using hl)]
      rfl
section
variable {E : Env} {n : Nat} {L : Sl} {w w0 : World} {d T : Nat} {pos : String} {e : Array Edge} {g : Option (Nat × Bool)} {x : Operand} {QQ : Exit → Act → World → Prop} {Z : Sl → World → Prop}
theorem Y.bytesV {t t2 el : Nat} {v : Value} {xs : List Int} {ti t2i te : TyI} (hx : ev L x = some v) (hB : Bys w v xs) (ht : nth E.T t = some (some ti)) (hd : ti.d = .slice el) (hte : nth E.T el = some (some te)) (hde : te.d = .int .u8) (ht2 : nth E.T t2 = some (some t2i)) (hd2 : t2i.d = .str) (hn : Nat.blt d n = true)
    (next : Z ((d, .string (strOfNums xs)) :: L) w) : StepZ E QQ n ⟨some d, .convert t t2 x, T, pos, e, g⟩ Z L w := by
  obtain ⟨h1, _⟩ := E.ok t ti ht
  rw [hd] at h1
  obtain ⟨h2, _⟩ := E.ok el te hte
  rw [hde] at h2
  obtain ⟨h3, _⟩ := E.ok t2 t2i ht2
  rw [hd2] at h3
  refine StepZ.val rfl hn (fun a ha => ?_) next
  have := run_bytesV (P := E.P) h1 h2 h3 hB
  simp [execOp, ha.eval hx, this]
end
def Ns.mess (s : Ns) (i : Int) : Nat × List Int := (s.head i).getD (0, [])
theorem recv_one (z : World) (g : PG) (i : Int) (h : PN z g) : Fn env.P 17 [.pointer (some ⟨g.nb, 0, none⟩), .int .i64 i] z fun v w' => ∃ g' mv, v = .tuple #[.agg #[.int .i64 ((g.abs.mess i).1 : Nat), mv], .bool (g.abs.head i).isSome, .int .i64 (g.abs.recvE i)] ∧ PStep z g w' g' ∧ g'.abs = g.abs.recv i ∧ Bts w' mv (g.abs.mess i).2 ∧ ∀ b, blkV mv = some b → PM g b ∧ ¬ PF g' b ∧ ¬ PI g' b := by
  refine (recv_any z g i h).mono ?_
  rintro v w' (⟨h0, rfl, hf, hrec⟩ | ⟨m, mv, g', hm, hE, rfl, st, hab, hB, hbl⟩)
  · exact ⟨g, .slice none 0 0, by rw [h0]; simp [Ns.mess, h0, msC], .rfl' h hf, hrec.symm, by simp [Ns.mess, h0]; exact Bts.nil, by simp [blkV]⟩
  · exact ⟨g', mv, by rw [hm, hE]; simp [Ns.mess, hm, msC], st, hab, by simp [Ns.mess, hm]; exact hB, hbl⟩
theorem rrecv_one (z : World) (g : RG) (i : Int) {rb : Nat} (k : Nat) (hrb : g.rb = rb) (h : RN z g) (hok : g.abs.Ok k) (hk : k ≤ 4398046511000) : Fn env.P 28 [.pointer (some ⟨rb, 0, none⟩), .int .i64 i] z fun v w' => ∃ g' mv, v = .tuple #[.agg #[.int .i64 ((g.abs.mess i).1 : Nat), mv], .bool (g.abs.head i).isSome, .int .i64 (g.abs.recvE i)] ∧ RStep z g w' g' ∧ g'.abs = g.abs.recv i ∧ Bts w' mv (g.abs.mess i).2 ∧ ∀ b, blkV mv = some b → RB g b := by
  refine (rrecv_any z g i k hrb h hok hk).mono ?_
  rintro v w' (⟨h0, rfl, hf, hrec⟩ | ⟨m, mv, g', hm, hE, rfl, st, hab, hB, hbl⟩)
  · exact ⟨g, .slice none 0 0, by rw [h0]; simp [Ns.mess, h0, msC], .rfl' h hf, hrec.symm, by simp [Ns.mess, h0]; exact Bts.nil, by simp [blkV]⟩
  · exact ⟨g', mv, by rw [hm, hE]; simp [Ns.mess, hm, msC], st, hab, by simp [Ns.mess, hm]; exact hB, hbl⟩
end Go.Proofs.Ytpmihcefjdeonaa
