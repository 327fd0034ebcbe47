/- Walks of layer 20: DedupAll. -/
import Derived.Test.YtaneenahapdabaaTF
import Derived.Test.YtaneenahapdabaaTH
import Derived.LaidEql
namespace Go.Proofs.Ytaneenahapdabaa
open Go
set_option maxRecDepth 20000
set_option maxHeartbeats 2000000
attribute [local irreducible] Run Ops Fn Draw Draw2 PureOp StepZ

theorem ne_of_obj {w : World} {a b : Nat} {o o' : Obj} (h : w.heap[a]? = some o) (h' : w.heap[b]? = some o') (ho : o ≠ o') : a ≠ b := fun e => by
  rw [e, h'] at h
  exact ho (Option.some.inj h).symm
/-- A block that tells of an answer. -/
theorem Ans.blk {w : World} {v : Value} {xs : List Int} (h : Ans w v xs) {b0 : Nat} {o0 : Obj} (h0 : w.heap[b0]? = some o0) :
    ∃ b o, w.heap[b]? = some o ∧ ((b = b0 ∧ o = o0) ∨ ∃ cs fz, o = .cells cs 5 fz) ∧ ∀ w' : World, w'.heap[b]? = some o → Bys w' v xs := by
  obtain ⟨a, cap, b, cs, fz, rfl, h2, h3, h4, h5⟩ := h
  by_cases hp : 0 < xs.length
  · obtain ⟨rfl, h6⟩ := h4 hp
    exact ⟨b, _, h6, .inr ⟨_, fz, rfl⟩, fun w' hw => ⟨_, cap, b, 0, cs, 5, fz, rfl, h2, h3, fun _ => ⟨rfl, hw⟩, h5⟩⟩
  · exact ⟨b0, o0, h0, .inl ⟨rfl, rfl⟩, fun w' _ => ⟨a, cap, b, 0, cs, 5, fz, rfl, h2, h3, fun h => absurd h hp, h5⟩⟩
theorem does_ask (z00 z : World) (pb : Nat) (W : WS) (db n : Nat) (ids : List Int) (client seq : Int) (V : Value) (xs : List Int) (h : PR z00.heap.size z pb W db n ids) (hF0 : Fr z00 z []) (hV : Bys z00 V xs) :
    Fn env.P 12 [.pointer (some ⟨pb, 0, none⟩), .agg #[.int .i64 0, .int .u64 client, .int .u64 seq, V]] z (Does z00.heap.size z pb W db n) := by
  obtain ⟨xa, xcap, _, _, _, _, _, rfl, _⟩ := hV
  have H := (Holds.start z []).add false h.row (by simp) (by simp)
  have HF := Try.func12; refine Fn.enter Try.func12 Try.ntmps12 rfl rfl rfl ?_
  (refine Run.seq (Run.region ?_); intro K hK)
  (refine Ops.eff rfl (Y.box rfl rfl rfl H ?_); intro b3 w H0 hb3; clear H; have H := H0; clear H0)
  refine Ops.pure H (X.assign rfl) rfl rfl rfl ?_
  refine Ops.pure H (X.assign rfl) rfl rfl rfl ?_
  (refine Ops.nil (hK _ _ ?_); clear hK K)
  refine Run.seq ?_
  (refine Run.seq (Run.region ?_); intro K hK)
  refine Ops.pure H (X.fieldAddr rfl rfl rfl rfl rfl rfl) rfl rfl rfl ?_
  refine Ops.pure H (X.load1 rfl rfl rfl rfl Pick.head rfl) rfl rfl rfl ?_
  (refine Ops.nil (hK _ _ ?_); clear hK K)
  refine Run.block ?_
  (refine Run.seq (Run.region ?_); intro K hK)
  refine Ops.pure H (X.cmp rfl rfl rfl) rfl rfl rfl ?_
  refine Ops.pure H (X.assign rfl) rfl rfl rfl ?_
  (refine Ops.nil (hK _ _ ?_); clear hK K)
  refine Run.cond_true rfl ?_
  refine Run.seq ?_
  (refine Run.draw H [8] [0, 1, 2, 3, 4, 5, 6, 7, 8, 9, 10, 11, 12, 13, 14, 15] ?_; clear H; intro K hK w H)
  refine Draw.take0 rfl (X.move rfl) rfl rfl rfl (by decide +kernel) ?_
  refine Draw.take0 rfl (X.nilCheck rfl) rfl rfl rfl (by decide +kernel) ?_
  refine Draw.take0 rfl (X.fieldAddr rfl rfl rfl rfl rfl rfl) rfl rfl rfl (by decide +kernel) ?_
  refine Draw.take rfl (X.load1 rfl rfl rfl rfl (.tail .head) rfl) rfl rfl rfl (by decide +kernel) ?_
  refine Draw.take0 rfl (X.fieldAddr rfl rfl rfl rfl rfl rfl) rfl rfl rfl (by decide +kernel) ?_
  refine Draw.take rfl (X.load1 rfl rfl rfl rfl Pick.head rfl) rfl rfl rfl (by decide +kernel) ?_
  refine Draw.take0 rfl (X.fieldAddr rfl rfl rfl rfl rfl rfl) rfl rfl rfl (by decide +kernel) ?_
  refine Draw.take rfl (X.load1 rfl rfl rfl rfl Pick.head rfl) rfl rfl rfl (by decide +kernel) ?_
  have hza := H.fr.size
  have hzz := hF0.size
  have Fa := H.fr
  have r1 := H.pick (b := pb) (by repeat (first | exact .head | apply Pick.tail))
  have r3 := H.pick (b := b3) (by repeat (first | exact .head | apply Pick.tail))
  have n3p : b3 ≠ pb := ne_of_ty r3 r1 (by decide)
  have hshort : (askB (st W client) seq).length ≤ 65536 := by
    unfold askB
    cases hs : st W client with
    | none => simp
    | some s =>
      dsimp only
      split
      · simp
      · cases ha : s.ans seq with
        | none => simp
        | some a => exact ((h.u client s hs).2.ok.an seq a ha).2
  rename World => w1
  clear H
  have H := ((Holds.start w1 []).add false r1 (by simp) (by simp)).add false r3 (by simpa using n3p) (by simp)
  refine Draw.last rfl rfl (by decide +kernel) (Y.call rfl rfl (by first | assumption | decide +kernel) rfl (Ask_fresh _ W client seq (h.pw.ext Fa) hshort) rfl ?_)
  rintro v w2 ⟨hf2, b, rfl, hB2⟩
  have r12 := hf2.get r1 (by simp)
  have r32 := hf2.get r3 (by simp)
  clear H
  have H := ((Holds.start w2 []).add false r12 (by simp) (by simp)).add false r32 (by simpa using n3p) (by simp)
  refine Draw2.take rfl (X.move rfl) rfl rfl rfl (by decide +kernel) ?_
  refine Draw2.take rfl (X.extract rfl rfl) rfl rfl rfl (by decide +kernel) ?_
  refine Draw2.take rfl (X.extract rfl rfl) rfl rfl rfl (by decide +kernel) ?_
  refine Draw2.take rfl (X.extract rfl rfl) rfl rfl rfl (by decide +kernel) ?_
  refine Draw2.take rfl (X.assign rfl) rfl rfl rfl (by decide +kernel) ?_
  refine Draw2.take rfl (X.assign rfl) rfl rfl rfl (by decide +kernel) ?_
  refine Draw2.take rfl (X.assign rfl) rfl rfl rfl (by decide +kernel) ?_
  (refine Draw2.done (by decide +kernel) (hK _ _ ?_); clear hK K)
  refine Run.seq ?_
  (refine Run.draw H [8] [0, 1, 2, 3, 4, 5, 6, 7, 8, 9, 10, 11, 12, 13, 14, 15] ?_; clear H; intro K hK w H)
  refine Draw.take0 rfl (X.move rfl) rfl rfl rfl (by decide +kernel) ?_
  refine Draw.take0 rfl (X.nilCheck rfl) rfl rfl rfl (by decide +kernel) ?_
  refine Draw.take0 rfl (X.fieldAddr rfl rfl rfl rfl rfl rfl) rfl rfl rfl (by decide +kernel) ?_
  refine Draw.take rfl (X.load1 rfl rfl rfl rfl (.tail .head) rfl) rfl rfl rfl (by decide +kernel) ?_
  refine Draw.take0 rfl (X.fieldAddr rfl rfl rfl rfl rfl rfl) rfl rfl rfl (by decide +kernel) ?_
  refine Draw.take rfl (X.load1 rfl rfl rfl rfl Pick.head rfl) rfl rfl rfl (by decide +kernel) ?_
  refine Draw.take0 rfl (X.fieldAddr rfl rfl rfl rfl rfl rfl) rfl rfl rfl (by decide +kernel) ?_
  refine Draw.take rfl (X.load1 rfl rfl rfl rfl Pick.head rfl) rfl rfl rfl (by decide +kernel) ?_
  have Fq := hf2.then H.fr
  refine Draw.last rfl rfl (by decide +kernel) (Y.call rfl rfl (by first | assumption | decide +kernel) rfl (dAsk_from w1 _ db n ids (st W) client seq (h.rd.ext Fa) Fq h.up h.mem (fun x s hx => (h.u x s hx).2.ris.kn)) rfl ?_)
  rintro v w3 ⟨hf3, c, rfl, hC3⟩
  have Fw := Fq.then hf3
  have hB3 := hB2.ext (H.fr.then hf3)
  obtain ⟨e1, he1⟩ : ∃ e, e = (if seq = 0 then (0 : Int) else askK (st W client) seq) := ⟨_, rfl⟩
  obtain ⟨e2, he2⟩ : ∃ e, e = (if seq = 0 then (1 : Int) else 0) := ⟨_, rfl⟩
  obtain ⟨A0, hA0⟩ : ∃ e, e = (if seq = 0 then ([] : List Int) else askB (st W client) seq) := ⟨_, rfl⟩
  have hAl : A0.length ≤ 140737488355327 := by
    rw [hA0]
    split
    · simp
    · omega
  rw [← hA0] at hB3 hC3
  rw [← he1, ← he2]
  obtain ⟨dv, hd, _⟩ := h.rd
  have hd1 := Fa.get hd (by simp)
  have F13 : Fr z w3 [] := Fa.then Fw
  obtain ⟨bb, bds, bt, hbb, hbt, hbz, hbB⟩ := hB3.blk (h.pw.ext F13).at_
  obtain ⟨cb, co, hcb1, hct, hcB⟩ := hC3.blk hd1
  have hcb := Fw.get hcb1 (by simp)
  have hcl := lt_of_at hcb1
  have r13 := Fw.get r1 (by simp)
  have r33 := Fw.get r3 (by simp)
  have hwl := (h.pw.ext Fa).lt (.inl rfl)
  have hco : ∀ (t : Nat) (ds : List Value), t ≠ 80 → t ≠ 5 → co ≠ row ds t := fun t ds h80 h5 e => by
    rcases hct with ⟨_, rfl⟩ | ⟨cs, fz, rfl⟩
    · simp at e; exact h80 e.2.symm
    · simp at e; exact h5 e.2.1.symm
  have m1 : cb ≠ pb := ne_of_obj hcb r13 (hco 36 _ (by decide) (by decide))
  have m2 : cb ≠ b3 := ne_of_obj hcb r33 (hco 31 _ (by decide) (by decide))
  have m3 : bb ≠ pb := ne_of_ty hbb r13 (by rcases hbt with rfl | rfl <;> decide)
  have m4 : bb ≠ b3 := ne_of_ty hbb r33 (by rcases hbt with rfl | rfl <;> decide)
  have m5 : bb ≠ cb := by
    rcases hbz with e | e
    · have hw := (h.pw.ext F13).at_
      rw [e]
      exact (ne_of_obj hcb hw (hco 57 _ (by decide) (by decide))).symm
    · omega
  clear H
  have H := ((((Holds.start w3 []).add false r13 (by simp) (by simp)).add false r33 (by simpa using n3p) (by simp)).add false hcb (by simpa using ⟨m2, m1⟩) (by simp)).add false hbb (by simpa using ⟨m5, m4, m3⟩) (by simp)
  refine Draw2.take rfl (X.move rfl) rfl rfl rfl (by decide +kernel) ?_
  refine Draw2.take rfl (X.extract rfl rfl) rfl rfl rfl (by decide +kernel) ?_
  refine Draw2.take rfl (X.extract rfl rfl) rfl rfl rfl (by decide +kernel) ?_
  refine Draw2.take rfl (X.extract rfl rfl) rfl rfl rfl (by decide +kernel) ?_
  refine Draw2.take rfl (X.assign rfl) rfl rfl rfl (by decide +kernel) ?_
  refine Draw2.take rfl (X.assign rfl) rfl rfl rfl (by decide +kernel) ?_
  refine Draw2.take rfl (X.assign rfl) rfl rfl rfl (by decide +kernel) ?_
  (refine Draw2.done (by decide +kernel) (hK _ _ ?_); clear hK K)
  refine Run.seq ?_
  (refine Run.draw H [] (0 :: 1 :: 2 :: 3 :: 4 :: 5 :: 6 :: 7 :: 8 :: 9 :: 10 :: 11 :: 12 :: 13 :: 14 :: 15 :: 16 :: 17 :: 18 :: 19 :: 20 :: 21 :: 23 :: 24 :: 25 :: 26 :: 27 :: 28 :: 22 :: 29 :: 30 :: 31 :: 32 :: []) ?_; clear H; intro K hK w H)
  refine Draw.take0 rfl (X.move rfl) rfl rfl rfl (by decide +kernel) ?_
  refine Draw.take0 rfl (X.move rfl) rfl rfl rfl (by decide +kernel) ?_
  refine Draw.take0 rfl (X.cmp rfl rfl rfl) rfl rfl rfl (by decide +kernel) ?_
  refine Draw.take0 rfl (X.move rfl) rfl rfl rfl (by decide +kernel) ?_
  refine Draw.split_dec rfl rfl rfl (fun h57 => ?x0) (fun h57 => ?y0)
  case' y0 => exfalso; omega
  case' x0 =>
    refine Draw.take0 rfl (X.move rfl) rfl rfl rfl (by decide +kernel) ?_
  refine Draw.take rfl (X.bytesG (xs := A0) (fun w hw => hbB w (hw _ (List.mem_cons_self ..))) rfl rfl rfl rfl rfl rfl rfl) rfl rfl rfl (by decide +kernel) ?_
  refine Draw.take0 rfl (X.move rfl) rfl rfl rfl (by decide +kernel) ?_
  refine Draw.take rfl (X.bytesG (xs := A0) (fun w hw => hcB w (hw _ (List.mem_cons_of_mem _ (List.mem_cons_self ..)))) rfl rfl rfl rfl rfl rfl rfl) rfl rfl rfl (by decide +kernel) ?_
  refine Draw.take0 rfl (X.strEq rfl rfl) rfl rfl rfl (by decide +kernel) ?_
  refine Draw.take0 rfl (X.pick_t rfl rfl) rfl rfl rfl (by decide +kernel) ?_
  refine Draw.take0 rfl (X.move rfl) rfl rfl rfl (by decide +kernel) ?_
  refine Draw.split_dec rfl rfl rfl (fun h64 => ?x1) (fun h64 => ?y1)
  case' y1 =>
    refine Draw.pass rfl rfl rfl rfl (by decide +kernel) ?_
    refine Draw.pass rfl rfl rfl rfl (by decide +kernel) ?_
    refine Draw.pass rfl rfl rfl rfl (by decide +kernel) ?_
    refine Draw.take0 rfl (X.pick_f rfl rfl) rfl rfl rfl (by decide +kernel) ?_
    refine Draw.take0 rfl (X.move rfl) rfl rfl rfl (by decide +kernel) ?_
    refine Draw.pass rfl rfl rfl rfl (by decide +kernel) ?_
    refine Draw.pass rfl rfl rfl rfl (by decide +kernel) ?_
    refine Draw.pass rfl rfl rfl rfl (by decide +kernel) ?_
    refine Draw.pass rfl rfl rfl rfl (by decide +kernel) ?_
    refine Draw.pass rfl rfl rfl rfl (by decide +kernel) ?_
    refine Draw.pass rfl rfl rfl rfl (by decide +kernel) ?_
    refine Draw.pass rfl rfl rfl rfl (by decide +kernel) ?_
    refine Draw.pass rfl rfl rfl rfl (by decide +kernel) ?_
    refine Draw.pass rfl rfl rfl rfl (by decide +kernel) ?_
    refine Draw.pass rfl rfl rfl rfl (by decide +kernel) ?_
    refine Draw.pass rfl rfl rfl rfl (by decide +kernel) ?_
    refine Draw.pass rfl rfl rfl rfl (by decide +kernel) ?_
    refine Draw.pass rfl rfl rfl rfl (by decide +kernel) ?_
    refine Draw.pass rfl rfl rfl rfl (by decide +kernel) ?_
    refine Draw.pass rfl rfl rfl rfl (by decide +kernel) ?_
    refine Draw.take0 rfl (X.pick_f rfl rfl) rfl rfl rfl (by decide +kernel) ?_
    refine Draw.take0 rfl (X.assign rfl) rfl rfl rfl (by decide +kernel) ?_
    (refine Draw.done (by decide +kernel) (hK _ _ ?_); clear hK K)
    (refine Run.seq (Run.region ?_); intro K hK)
    refine Ops.pure H (X.move rfl) rfl rfl rfl ?_
  case' x1 =>
    refine Draw.take0 rfl (X.move rfl) rfl rfl rfl (by decide +kernel) ?_
    refine Draw.take0 rfl (X.move rfl) rfl rfl rfl (by decide +kernel) ?_
    refine Draw.take0 rfl (X.cmp rfl rfl rfl) rfl rfl rfl (by decide +kernel) ?_
    refine Draw.take0 rfl (X.pick_t rfl rfl) rfl rfl rfl (by decide +kernel) ?_
    refine Draw.take0 rfl (X.move rfl) rfl rfl rfl (by decide +kernel) ?_
    refine Draw.split_dec rfl rfl rfl (fun h69 => ?x2) (fun h69 => ?y2)
    case' y2 => exfalso; omega
    case' x2 =>
      refine Draw.take0 rfl (X.move rfl) rfl rfl rfl (by decide +kernel) ?_
      refine Draw.take0 rfl (X.nilCheck rfl) rfl rfl rfl (by decide +kernel) ?_
      refine Draw.take0 rfl (X.fieldAddr rfl rfl rfl rfl rfl rfl) rfl rfl rfl (by decide +kernel) ?_
      refine Draw.take rfl (X.load1 rfl rfl rfl rfl (.tail (.tail (.tail .head))) rfl) rfl rfl rfl (by decide +kernel) ?_
      refine Draw.take0 rfl (X.fieldAddr rfl rfl rfl rfl rfl rfl) rfl rfl rfl (by decide +kernel) ?_
      refine Draw.take rfl (X.load1 rfl rfl rfl rfl (.tail (.tail .head)) rfl) rfl rfl rfl (by decide +kernel) ?_
      refine Draw.take0 rfl (X.move rfl) rfl rfl rfl (by decide +kernel) ?_
      refine Draw.take0 rfl (X.nilCheck rfl) rfl rfl rfl (by decide +kernel) ?_
      refine Draw.take0 rfl (X.fieldAddr rfl rfl rfl rfl rfl rfl) rfl rfl rfl (by decide +kernel) ?_
      refine Draw.take rfl (X.load1 rfl rfl rfl rfl (.tail (.tail (.tail .head))) rfl) rfl rfl rfl (by decide +kernel) ?_
      refine Draw.take0 rfl (X.fieldAddr rfl rfl rfl rfl rfl rfl) rfl rfl rfl (by decide +kernel) ?_
      refine Draw.take rfl (X.load1 rfl rfl rfl rfl (.tail (.tail .head)) rfl) rfl rfl rfl (by decide +kernel) ?_
  rotate_left
  · exact absurd rfl ‹¬ (strOfNums A0).toList = (strOfNums A0).toList›
  refine Draw.eff rfl rfl (by decide +kernel) (Y.call rfl rfl (by first | assumption | decide +kernel) rfl (floor_any _ W client (h.pw.ext (F13.then H.fr))) rfl ?_)
  rintro v w4 ⟨rfl, hf4⟩
  replace H := H.ext hf4
  refine ⟨H.at_, ?_⟩
  skip
  refine Draw.eff rfl rfl (by decide +kernel) (Y.call rfl rfl (by first | assumption | decide +kernel) rfl (dfloor_any _ db n ids (st W) client (h.rd.ext (F13.then H.fr)) h.up h.mem) rfl ?_)
  rintro v w5 ⟨rfl, hf5⟩
  replace H := H.ext hf5
  refine ⟨H.at_, ?_⟩
  refine Draw.take0 rfl (X.cmp rfl rfl rfl) rfl rfl rfl (by decide +kernel) ?_
  refine Draw.take0 rfl (X.pick_t rfl rfl) rfl rfl rfl (by decide +kernel) ?_
  refine Draw.take0 rfl (X.assign rfl) rfl rfl rfl (by decide +kernel) ?_
  (refine Draw.done (by decide +kernel) (hK _ _ ?_); clear hK K)
  (refine Run.seq (Run.region ?_); intro K hK)
  refine Ops.pure H (X.move rfl) rfl rfl rfl ?_
  have F15 := F13.then H.fr
  refine Ops.eff rfl (Y.call rfl rfl (by first | assumption | decide +kernel) rfl (spoil_any _ _ _ A0 (hB3.ext H.fr) hAl) rfl ?_)
  rintro v w6 ⟨S, hf6, hS⟩
  have Fz6 : Fr z w6 [] := F15.trans hf6 (by simp) (fun x hx hl => by have := (hS x hx).1; omega)
  clear H
  have H := Holds.start w6 []
  (refine Ops.nil (hK _ _ (Run.seq (Run.region ?_))); clear hK K; intro K hK)
  refine Ops.pure H (X.move rfl) rfl rfl rfl ?_
  refine Ops.pure H (X.move rfl) rfl rfl rfl ?_
  refine Ops.pure H (X.assign rfl) rfl rfl rfl ?_
  refine Ops.pure H (X.assign rfl) rfl rfl rfl ?_
  (refine Ops.nil (hK _ _ ?_); clear hK K)
  refine Fn.ret2 HF rfl rfl rfl ?_
  have := Does.same h (Fz6.then H.fr)
  simpa using this
end Go.Proofs.Ytaneenahapdabaa

namespace Go.Proofs.Ytaneenahapdabaa
open Go
set_option maxRecDepth 20000
set_option maxHeartbeats 2000000
attribute [local irreducible] Run Ops Fn Draw Draw2 PureOp StepZ

theorem does_load (z00 z : World) (pb : Nat) (W : WS) (db n : Nat) (ids : List Int) (client seq : Int) (V : Value) (xs : List Int) (h : PR z00.heap.size z pb W db n ids) (hF0 : Fr z00 z []) (hV : Bys z00 V xs) (hl : xs.length ≤ 140737488355327) (hb : Byt xs) :
    Fn env.P 12 [.pointer (some ⟨pb, 0, none⟩), .agg #[.int .i64 4, .int .u64 client, .int .u64 seq, V]] z (Does z00.heap.size z pb W db n) := by
  have hV0 := hV
  obtain ⟨xa, xcap, _, _, _, _, _, rfl, _⟩ := hV
  have H := Holds.start z []
  have HF := Try.func12; refine Fn.enter Try.func12 Try.ntmps12 rfl rfl rfl ?_
  (refine Run.seq (Run.region ?_); intro K hK)
  (refine Ops.eff rfl (Y.box rfl rfl rfl H ?_); intro b3 w H0 hb3; clear H; have H := H0; clear H0)
  refine Ops.pure H (X.assign rfl) rfl rfl rfl ?_
  refine Ops.pure H (X.assign rfl) rfl rfl rfl ?_
  (refine Ops.nil (hK _ _ ?_); clear hK K)
  refine Run.seq ?_
  (refine Run.seq (Run.region ?_); intro K hK)
  refine Ops.pure H (X.fieldAddr rfl rfl rfl rfl rfl rfl) rfl rfl rfl ?_
  refine Ops.pure H (X.load1 rfl rfl rfl rfl Pick.head rfl) rfl rfl rfl ?_
  (refine Ops.nil (hK _ _ ?_); clear hK K)
  refine Run.block ?_
  (refine Run.seq (Run.region ?_); intro K hK)
  refine Ops.pure H (X.cmp rfl rfl rfl) rfl rfl rfl ?_
  refine Ops.pure H (X.assign rfl) rfl rfl rfl ?_
  (refine Ops.nil (hK _ _ ?_); clear hK K)
  refine Run.cond_false rfl ?_
  (refine Run.seq (Run.region ?_); intro K hK)
  refine Ops.pure H (X.cmp rfl rfl rfl) rfl rfl rfl ?_
  refine Ops.pure H (X.assign rfl) rfl rfl rfl ?_
  (refine Ops.nil (hK _ _ ?_); clear hK K)
  refine Run.cond_false rfl ?_
  (refine Run.seq (Run.region ?_); intro K hK)
  refine Ops.pure H (X.cmp rfl rfl rfl) rfl rfl rfl ?_
  refine Ops.pure H (X.assign rfl) rfl rfl rfl ?_
  (refine Ops.nil (hK _ _ ?_); clear hK K)
  refine Run.cond_false rfl ?_
  (refine Run.seq (Run.region ?_); intro K hK)
  refine Ops.pure H (X.cmp rfl rfl rfl) rfl rfl rfl ?_
  refine Ops.pure H (X.assign rfl) rfl rfl rfl ?_
  (refine Ops.nil (hK _ _ ?_); clear hK K)
  refine Run.cond_false rfl ?_
  (refine Run.seq (Run.region ?_); intro K hK)
  refine Ops.pure H (X.cmp rfl rfl rfl) rfl rfl rfl ?_
  refine Ops.pure H (X.assign rfl) rfl rfl rfl ?_
  (refine Ops.nil (hK _ _ ?_); clear hK K)
  refine Run.cond_true rfl ?_
  (refine Run.seq (Run.region ?_); intro K hK)
  refine Ops.pure H (X.fieldAddr rfl rfl rfl rfl rfl rfl) rfl rfl rfl ?_
  refine Ops.pure H (X.load1 rfl rfl rfl rfl Pick.head rfl) rfl rfl rfl ?_
  have hza := H.fr.size
  have hzz := hF0.size
  have hb3 := H.pick (b := b3) (by repeat (first | exact .head | apply Pick.tail))
  have Fa := H.fr
  refine Ops.eff rfl (Y.call rfl rfl (by first | assumption | decide +kernel) rfl (own_one _ _ xs (hV0.ext (hF0.then H.fr)) hl) rfl ?_)
  rintro v w1 ⟨nb, ncs, rfl, hnb, hncl, hnC, hnz, hf1⟩
  have F1 := Fa.then hf1
  have hz1 := hf1.size
  have r3 := hf1.get hb3 (by simp)
  clear H
  have H := (Holds.start w1 []).add false r3 (by simp) (by simp)
  refine Ops.pure H (X.assign rfl) rfl rfl rfl ?_
  (refine Ops.nil (hK _ _ (Run.seq (Run.region ?_))); clear hK K; intro K hK)
  refine Ops.pure H (X.move rfl) rfl rfl rfl ?_
  have F1w := F1.then H.fr
  have hzw := H.fr.size
  have hnl := lt_of_at hnb
  refine Ops.eff rfl (Y.call rfl rfl (by first | assumption | decide +kernel) rfl (load_any _ nb 0 (xs.length + 2) ncs (0, 0) xs (H.fr.get hnb (by simp)) (by omega) (by omega) hnC hb) rfl ?_)
  rintro v w2 hQ
  have F2 := F1w.then hQ.1
  have r32 := hQ.1.get (H.fr.get r3 (by simp)) (by simp)
  have hn2 := hQ.1.get (H.fr.get hnb (by simp)) (by simp)
  obtain ⟨pv, ev, rfl⟩ : ∃ pv ev, v = .tuple #[.pointer pv, .int .i64 ev] := by
    obtain ⟨_, ⟨D, _, _, rfl, _⟩ | ⟨rfl, _⟩⟩ := hQ
    · exact ⟨_, _, rfl⟩
    · exact ⟨_, _, rfl⟩
  clear H
  have H := (Holds.start w2 []).add false r32 (by simp) (by simp)
  refine Ops.pure H (X.move rfl) rfl rfl rfl ?_
  refine Ops.pure H (X.extract rfl rfl) rfl rfl rfl ?_
  refine Ops.pure H (X.extract rfl rfl) rfl rfl rfl ?_
  refine Ops.pure H (X.assign rfl) rfl rfl rfl ?_
  refine Ops.pure H (X.assign rfl) rfl rfl rfl ?_
  (refine Ops.nil (hK _ _ (Run.seq (Run.region ?_))); clear hK K; intro K hK)
  refine Ops.pure H (X.fieldAddr rfl rfl rfl rfl rfl rfl) rfl rfl rfl ?_
  refine Ops.pure H (X.load1 rfl rfl rfl rfl Pick.head rfl) rfl rfl rfl ?_
  have F2w := F2.then H.fr
  refine Ops.eff rfl (Y.call rfl rfl (by first | assumption | decide +kernel) rfl (dload_any _ _ xs (hV0.ext (hF0.then F2w)) hb hl) rfl ?_)
  rintro v w3 hD
  have F3 := F2w.then hD.1
  have Fw3 : Fr w2 w3 [] := H.fr.then hD.1
  have hQ' := hQ
  have hD' := hD
  obtain ⟨qv, hvD⟩ : ∃ qv, v = .tuple #[.pointer qv, .int .i64 ev] ∧ pv.isNone = qv.isNone := by
    obtain ⟨_, hq⟩ := hQ
    obtain ⟨_, hd⟩ := hD
    rcases hq with ⟨D, jds, tail, e1, _, _, e2, e3, e4, _, e5, e6, _⟩ | ⟨e1, hno⟩ <;> rcases hd with ⟨d2, size, ids2, m2, tl2, rfl, _, f1, f2, f3, f4, f5, _⟩ | ⟨rfl, hno2⟩
    · simp at e1
      obtain ⟨rfl, rfl⟩ := e1
      exact ⟨_, rfl, rfl⟩
    · exact (hno2 _ _ _ _ jds e2 e3 (fun x => by rw [e5, st]; cases D.m x <;> simp) e6 e4).elim
    · exact (hno _ _ _ _ ids2 f1 f2 f3 f4 f5).elim
    · simp at e1
      obtain ⟨rfl, rfl⟩ := e1
      exact ⟨_, rfl, rfl⟩
  obtain ⟨rfl, hpq⟩ := hvD
  have hn3 := Fw3.get hn2 (by simp)
  have r33 := Fw3.get r32 (by simp)
  clear H
  have H := (Holds.start w3 []).add false r33 (by simp) (by simp)
  have hBn : Bys w3 (.slice (some ⟨nb, 0, none⟩) xs.length (xs.length + 2)) xs := ⟨_, xs.length + 2, nb, 0, ncs, 5, (0, 0), rfl, by omega, by omega, fun _ => ⟨rfl, hn3⟩, hnC⟩
  refine Ops.pure H (X.move rfl) rfl rfl rfl ?_
  refine Ops.pure H (X.extract rfl rfl) rfl rfl rfl ?_
  refine Ops.pure H (X.extract rfl rfl) rfl rfl rfl ?_
  refine Ops.pure H (X.assign rfl) rfl rfl rfl ?_
  refine Ops.pure H (X.assign rfl) rfl rfl rfl ?_
  (refine Ops.nil (hK _ _ ?_); clear hK K)
  refine Run.seq ?_
  (refine Run.seq (Run.region ?_); intro K hK)
  refine Ops.pure H (X.move rfl) rfl rfl rfl ?_
  refine Ops.pure H (X.move rfl) rfl rfl rfl ?_
  refine Ops.pure H (X.cmp rfl rfl rfl) rfl rfl rfl ?_
  refine Ops.pure H (X.move rfl) rfl rfl rfl ?_
  refine Ops.split_ndec rfl rfl (fun h182 => ?x0) (fun h182 => ?y0)
  case' y0 =>
    refine Ops.pure H (X.move rfl) rfl rfl rfl ?_
    refine Ops.pure H (X.ptrNil rfl rfl rfl rfl rfl) rfl rfl rfl ?_
    refine Ops.pure H (X.move rfl) rfl rfl rfl ?_
    refine Ops.pure H (X.ptrNil rfl rfl rfl rfl rfl) rfl rfl rfl ?_
    refine Ops.pure H (X.boolEq rfl rfl rfl rfl rfl) rfl rfl rfl ?_
    refine Ops.pure H (X.pick_f rfl rfl) rfl rfl rfl ?_
    refine Ops.pure H (X.move rfl) rfl rfl rfl ?_
    refine Ops.split_ndec rfl rfl (fun h189 => ?x1) (fun h189 => ?y1)
    case' y1 =>
      refine Ops.pure H (X.move rfl) rfl rfl rfl ?_
    case' x1 =>
      refine Ops.pass rfl rfl rfl ?_
      refine Ops.pass rfl rfl rfl ?_
      refine Ops.pass rfl rfl rfl ?_
      refine Ops.pass rfl rfl rfl ?_
      refine Ops.pass rfl rfl rfl ?_
      refine Ops.pass rfl rfl rfl ?_
      refine Ops.pure H (X.pick_t rfl rfl) rfl rfl rfl ?_
      (refine Ops.nil (hK _ _ ?_); clear hK K)
      refine Run.cond_true rfl ?_
      (refine Run.seq (Run.region ?_); intro K hK)
      refine Ops.pure H (X.move rfl) rfl rfl rfl ?_
      refine Ops.pure H (X.assign rfl) rfl rfl rfl ?_
      refine Ops.pure H (X.assign rfl) rfl rfl rfl ?_
      (refine Ops.nil (hK _ _ ?_); clear hK K)
  case' x0 => exfalso; omega
  · exact absurd hpq ‹¬ pv.isNone = qv.isNone›
  refine Ops.eff rfl (Y.bytes (hBn.ext H.fr) rfl rfl rfl rfl rfl rfl rfl rfl ?_)
  refine Ops.pure H (X.fieldAddr rfl rfl rfl rfl rfl rfl) rfl rfl rfl ?_
  refine Ops.pure H (X.load1 rfl rfl rfl rfl Pick.head rfl) rfl rfl rfl ?_
  refine Ops.eff rfl (Y.bytes (hV0.ext (hF0.then (F3.then H.fr))) rfl rfl rfl rfl rfl rfl rfl rfl ?_)
  refine Ops.pure H (X.strNe rfl rfl) rfl rfl rfl ?_
  refine Ops.pure H (X.pick_f rfl rfl) rfl rfl rfl ?_
  (refine Ops.nil (hK _ _ ?_); clear hK K)
  refine Run.cond_ndec rfl (fun h195 => ?x2) (fun h195 => ?y2)
  case' y2 =>
    refine Run.skip ?_
    (refine Run.seq (Run.region ?_); intro K hK)
    refine Ops.pure H (X.move rfl) rfl rfl rfl ?_
  case' x2 =>
    (refine Run.seq (Run.region ?_); intro K hK)
    refine Ops.pure H (X.move rfl) rfl rfl rfl ?_
    refine Ops.pure H (X.assign rfl) rfl rfl rfl ?_
    refine Ops.pure H (X.assign rfl) rfl rfl rfl ?_
    (refine Ops.nil (hK _ _ ?_); clear hK K)
  · exact absurd rfl ‹¬ (strOfNums xs).toList = (strOfNums xs).toList›
  have hf5 : Fresh5 w3 nb (.slice (some ⟨nb, 0, none⟩) xs.length (xs.length + 2)) xs := ⟨_, _, rfl, by omega, .inr ⟨nb, ncs, rfl, Nat.le_refl _, by omega, hn3, hncl, hnC⟩⟩
  have F3w := H.fr
  refine Ops.eff rfl (Y.call rfl rfl (by first | assumption | decide +kernel) rfl (spoil_any _ nb _ xs (hf5.ext H.fr) hl) rfl ?_)
  rintro v w4 ⟨S, hf4, hS⟩
  have hS1 : ∀ b ∈ S, b ∈ [nb] := fun b hb => by
    obtain ⟨_, m, c, e⟩ := hS b hb
    simp at e
    simp [e.1]
  have F34 : Fr w3 w4 [nb] := F3w.trans (hf4.mono (fun b hb _ => hS1 b hb)) (by simp) (fun x hx _ => hx)
  have Fz4 : Fr z w4 [] := F3.trans F34 (by simp) (fun x hx hl => by simp at hx; omega)
  have hzz4 := Fz4.size
  clear H
  have H := Holds.start w4 []
  cases pv with
  | none =>
    (refine Ops.nil (hK _ _ ?_); clear hK K)
    refine Run.seq ?_
    (refine Run.seq (Run.region ?_); intro K hK)
    refine Ops.pure H (X.move rfl) rfl rfl rfl ?_
    refine Ops.pure H (X.ptrNil rfl rfl rfl rfl rfl) rfl rfl rfl ?_
    (refine Ops.nil (hK _ _ ?_); clear hK K)
    refine Run.cond_true rfl ?_
    (refine Run.seq (Run.region ?_); intro K hK)
    refine Ops.pure H (X.move rfl) rfl rfl rfl ?_
    refine Ops.pure H (X.assign rfl) rfl rfl rfl ?_
    refine Ops.pure H (X.assign rfl) rfl rfl rfl ?_
    (refine Ops.nil (hK _ _ ?_); clear hK K)
    refine Fn.ret2 HF rfl rfl rfl ?_
    exact Does.same h (Fz4.then H.fr)
  | some pa =>
    (refine Ops.nil (hK _ _ ?_); clear hK K)
    refine Run.seq ?_
    (refine Run.seq (Run.region ?_); intro K hK)
    refine Ops.pure H (X.move rfl) rfl rfl rfl ?_
    refine Ops.pure H (X.ptrNil rfl rfl rfl rfl rfl) rfl rfl rfl ?_
    (refine Ops.nil (hK _ _ ?_); clear hK K)
    refine Run.cond_false rfl ?_
    refine Run.skip ?_
    (refine Run.seq (Run.region ?_); intro K hK)
    refine Ops.pure H (X.move rfl) rfl rfl rfl ?_
    refine Ops.pure H (X.move rfl) rfl rfl rfl ?_
    refine Ops.pure H (X.buildO rfl rfl rfl rfl rfl rfl) rfl rfl rfl ?_
    (refine Ops.eff rfl (Y.box rfl rfl rfl H ?_); intro b205 w H0 hb205; clear H; have H := H0; clear H0)
    refine Ops.pure H (X.assign rfl) rfl rfl rfl ?_
    refine Ops.pure H (X.assign rfl) rfl rfl rfl ?_
    (refine Ops.nil (hK _ _ ?_); clear hK K)
    refine Fn.ret2 HF rfl rfl rfl ?_
    obtain ⟨_, hq⟩ := hQ'
    obtain ⟨_, hd⟩ := hD'
    rcases hq with ⟨D, jds, tail, e1, k1, k2, e2, e3, e4, k3, e5, e6, k4⟩ | ⟨e1, hno⟩
    rotate_left
    · simp at e1
    simp at e1
    obtain ⟨rfl, rfl⟩ := e1
    rcases hd with ⟨d2, size, ids2, m2, tl2, f0, f00, f1, f2, f3, f4, f5, f6, f7, f8, f9, f10, f11⟩ | ⟨f0, hno2⟩
    rotate_left
    · simp at f0
    simp at f0
    obtain rfl := f0
    rw [e2] at f1
    simp only [Option.some.injEq, Prod.mk.injEq] at f1
    obtain ⟨y1, y2, y3, _⟩ := f1
    have hD3 := k1.ext Fw3
    have hpv3 := k4.keep k1 Fw3 (by simp)
    have hD4 : Wn w4 D := hD3.keepV F34 (by simpa using hD3.notFoot hn3 (by decide) (by decide) (by decide)) (fun x c hx es k f hm hM y u hu => by
      have hN := hpv3 x c hx es k f hm hM y u hu
      intro n hn b cap e hb
      simp at hb
      have := hN n hn b cap e
      omega)
    have hR4 := f11.old F34 (fun b hb => by
      simp at hb
      subst hb
      exact ⟨by have := F2w.size; have := hQ.1.size; omega, ncs, hn3⟩)
    have hDs : D.size = (size : Int) := by
      have := k2.size.1
      omega
    refine ⟨b205, D, d2, size, ids2, rfl, ⟨H.pick (b := b205) (by repeat (first | exact .head | apply Pick.tail)), hD4.ext H.fr, fun b hb => ?_, hDs, f7, f8, k2.N, ?_, ?_, f4, ?_, y2.symm, ?_, ?_⟩, .inr ⟨Fz4.then H.fr, ?_, ?_, fun b hb => ?_⟩⟩
    · have := k3 b hb
      have := F1w.size
      omega
    · rw [y3]
      exact f10
    · rw [y3]
      exact hR4.ext H.fr
    · rw [y3]
      exact f3
    · omega
    · have := f6
      have := F2w.size
      omega
    · omega
    · have := f6
      have := F2w.size
      omega
    · have := k3 b hb
      have := F1w.size
      omega
end Go.Proofs.Ytaneenahapdabaa

namespace Go.Proofs.Ytaneenahapdabaa
open Go

section
variable {E : Env} {n : Nat} {L : Sl} {d T : Nat} {pos : String} {e : Array Edge} {g : Option (Nat × Bool)} {x y : Operand} {G G1 G2 : List Ent}
theorem X.ptrSame {t t' el : Nat} {ti te : TyI} {a : Addr} (hx : ev L x = some (.pointer (some a))) (hy : ev L y = some (.pointer (some a))) (ht : nth E.T t = some (some ti)) (hd : ti.d = .ptr el) (hte : nth E.T el = some (some te)) (hsz : te.size ≠ 0) :
    PureOp E n L G ⟨some d, .binOp .neq t x y t', T, pos, e, g⟩ (.bool false) := by
  obtain ⟨hgood, _⟩ := E.ok t ti ht
  rw [hd] at hgood
  have hgood : E.P.underlying t = some (.pointer el) := hgood
  intro w hG c hs
  have he : (Op.equal t (.pointer (some a)) (.pointer (some a))).run E.P w = .ok true w := by
    show (Op.equalIn (9999 + 1) t (.pointer (some a)) (.pointer (some a))).run E.P w = _
    generalize 9999 = m
    simp [Op.equalIn, run_underlying hgood, E.sizeOf w hte, hsz, run_sameAddr_same]
  simp [execOp, hs.eval hx, hs.eval hy, eqGuard, binOp, he]
theorem X.ptrOther {t t' el : Nat} {ti te : TyI} {b b' : Nat} {cs cs' : List Value} {s s' : Nat} {m m' : Bool} (hx : ev L x = some (.pointer (some ⟨b, 0, none⟩))) (hy : ev L y = some (.pointer (some ⟨b', 0, none⟩))) (ht : nth E.T t = some (some ti)) (hd : ti.d = .ptr el) (hte : nth E.T el = some (some te)) (hsz : te.size ≠ 0)
    (hp : Pick G b (row cs s) m G1) (hp' : Pick G b' (row cs' s') m' G2) (hne : b ≠ b') :
    PureOp E n L G ⟨some d, .binOp .neq t x y t', T, pos, e, g⟩ (.bool true) := by
  obtain ⟨hgood, _⟩ := E.ok t ti ht
  rw [hd] at hgood
  have hgood : E.P.underlying t = some (.pointer el) := hgood
  intro w hG c hs
  have he : (Op.equal t (.pointer (some ⟨b, 0, none⟩)) (.pointer (some ⟨b', 0, none⟩))).run E.P w = .ok false w := by
    show (Op.equalIn (9999 + 1) t (.pointer (some ⟨b, 0, none⟩)) (.pointer (some ⟨b', 0, none⟩))).run E.P w = _
    generalize 9999 = m
    have h1 := run_sameAddr_other (P := E.P) w (a := ⟨b, 0, none⟩) (b := ⟨b', 0, none⟩) (fun h => hne (congrArg Addr.block h)) (pick_at hG hp) (pick_at hG hp')
    simp [Op.equalIn, run_underlying hgood, E.sizeOf w hte, hsz, h1]
  simp [execOp, hs.eval hx, hs.eval hy, eqGuard, binOp, he]
end
set_option maxRecDepth 20000
set_option maxHeartbeats 2000000
attribute [local irreducible] Run Ops Fn Draw Draw2 PureOp StepZ

/-- A call on both. -/
theorem does_any12 (z00 z : World) (pb : Nat) (W : WS) (db n : Nat) (ids : List Int) (kind client seq : Int) (V : Value) (xs : List Int) (h : PR z00.heap.size z pb W db n ids) (hF0 : Fr z00 z []) (hV : Bys z00 V xs) (hl : xs.length ≤ 140737488355327) (hc : U64 client) (hq : U64 seq) (hb : Byt xs) :
    Fn env.P 12 [.pointer (some ⟨pb, 0, none⟩), .agg #[.int .i64 kind, .int .u64 client, .int .u64 seq, V]] z (Does z00.heap.size z pb W db n) := by
  have hz := hF0.size
  by_cases k0 : kind = 0
  · subst k0; exact does_ask z00 z pb W db n ids client seq V xs h hF0 hV
  by_cases k1 : kind = 1
  · subst k1; exact does_put z00 z pb W db n ids client seq V xs h hF0 hV hl hc hq hb
  by_cases k2 : kind = 2
  · subst k2; exact does_clone _ z pb W db n ids client seq V xs h hz (hV.ext hF0)
  by_cases k3 : kind = 3
  · subst k3; exact does_back _ z pb W db n ids client seq V xs h hz (hV.ext hF0)
  by_cases k4 : kind = 4
  · subst k4; exact does_load z00 z pb W db n ids client seq V xs h hF0 hV hl hb
  · exact does_none _ z pb W db n ids kind client seq V xs h hz (hV.ext hF0) ⟨k0, k1, k2, k3, k4⟩
/-- Another window by both is as it was. -/
theorem PR.other {z : Nat} {w w' : World} {pb : Nat} {W W2 : WS} {db n db2 : Nat} {ids : List Int} {ds : List Value} {S : List Nat} (h : PR z w pb W db n ids) (h2 : Wn w W2) (hd2 : w.heap[db2]? = some (Go.Proofs.Ytaneenahapdabaa.row ds 80)) (hf : Fr w w' S) (hS : ∀ b ∈ S, b = db2 ∨ Foot W2 b) (hD : Dj W2 W) (hne : db2 ≠ db) : PR z w' pb W db n ids := by
  obtain ⟨dv, hd, _⟩ := h.rd
  have h5 : ∀ b ∈ S, No5 w b := fun b hb => (hS b hb).elim (fun e => e ▸ No5.row hd2 (by decide)) h2.no5
  exact { h with
    row := hf.get h.row fun hm => (hS _ hm).elim (fun e => ne_of_ty h.row hd2 (by decide) e) (h2.notFoot h.row (by decide) (by decide) (by decide))
    pw := h.pw.keepS hf (fun b hb hF => (hS b hb).elim (fun e => h.pw.notFoot hd2 (by decide) (by decide) (by decide) (e ▸ hF)) (fun e => hD b e hF)) h5
    rd := h.rd.keep hf (fun hm => (hS _ hm).elim (fun e => hne e.symm) (h2.notFoot hd (by decide) (by decide) (by decide)))
      (fun b hb => (hS b hb).elim (fun e => e ▸ NoR.row hd2 (by decide) (by decide) (by decide)) h2.noR) }
structure Q5 where
  pb : Nat
  W : WS
  db : Nat
  n : Nat
  ids : List Int
abbrev Q5.pr (z : Nat) (w : World) (q : Q5) : Prop := PR z w q.pb q.W q.db q.n q.ids
abbrev Q5.val (q : Q5) : Value := .pointer (some ⟨q.pb, 0, none⟩)
/-- The windows so far, and the last of them. -/
def AllQ (z : Nat) (w : World) (fs : List Q5) (q : Q5) : Prop :=
  q.pr z w ∧ ∀ p ∈ fs, p.pr z w ∧ Dj q.W p.W ∧ q.db ≠ p.db
theorem AllQ.ext {z : Nat} {w w' : World} {fs : List Q5} {q : Q5} (h : AllQ z w fs q) (hf : Fr w w' []) : AllQ z w' fs q :=
  ⟨h.1.ext hf, fun p hp => ⟨(h.2 p hp).1.ext hf, (h.2 p hp).2⟩⟩
theorem AllQ.mem {z : Nat} {w : World} {fs : List Q5} {q : Q5} (h : AllQ z w fs q) : ∀ p ∈ fs ++ [q], p.pr z w := fun p hp => by
  rcases List.mem_append.1 hp with hp | hp
  · exact (h.2 p hp).1
  · obtain rfl := List.mem_singleton.1 hp
    exact h.1
theorem AllQ.does {z : Nat} {w w' : World} {fs : List Q5} {q : Q5} {v : Value} (h : AllQ z w fs q) (hd : Does z w q.pb q.W q.db q.n v w') :
    ∃ q' : Q5, v = .tuple #[q'.val, .bool true] ∧ (∃ S, Fr w w' S ∧ (∀ b ∈ S, z ≤ b) ∧ ∀ b ∈ S, ∀ cs, w.heap[b]? ≠ some (row cs 25)) ∧ (∃ ds, w'.heap[q.pb]? = some (row ds 36)) ∧
      ((q'.pb = q.pb ∧ AllQ z w' fs q') ∨ (q'.pb ≠ q.pb ∧ AllQ z w' (fs ++ [q]) q')) := by
  obtain ⟨pb', W', db', n', ids', rfl, hP, ⟨rfl, rfl, ⟨S, hf, hS⟩, hF⟩ | ⟨hf, l1, l2, l3⟩⟩ := hd
  · obtain ⟨dv, hd, _⟩ := h.1.rd
    refine ⟨⟨q.pb, W', q.db, n', ids'⟩, rfl, ⟨S, hf, fun b hb => ?_, fun b hb cs hc => ?_⟩, ⟨_, hP.row⟩, .inl ⟨rfl, hP, fun p hp => ?_⟩⟩
    · rcases hS b hb with rfl | e
      · exact h.1.dz
      · exact h.1.gw b e
    · rcases hS b hb with rfl | e
      · exact ne_of_ty hc hd (by decide) rfl
      · exact h.1.pw.notFoot hc (by decide) (by decide) (by decide) e
    · obtain ⟨e1, e2, e3⟩ := h.2 p hp
      exact ⟨e1.other h.1.pw hd hf hS e2 e3, e2.left e1.pw hF, e3⟩
  · refine ⟨⟨pb', W', db', n', ids'⟩, rfl, ⟨[], hf, by simp, by simp⟩, ⟨_, (h.1.ext hf).row⟩, .inr ⟨?_, hP, fun p hp => ?_⟩⟩
    · have := lt_of_at h.1.row
      dsimp only
      omega
    · have e1 := h.mem p hp
      obtain ⟨dv, hd, _⟩ := e1.rd
      refine ⟨e1.ext hf, fun b hb hb' => ?_, ?_⟩
      · have h1 := l3 b hb
        have h2 := e1.pw.lt hb'
        omega
      · have := lt_of_at hd
        dsimp only
        omega
end Go.Proofs.Ytaneenahapdabaa

namespace Go.Proofs.Ytaneenahapdabaa
open Go
set_option maxRecDepth 20000
set_option maxHeartbeats 2000000
attribute [local irreducible] Run Ops Fn Draw Draw2 PureOp StepZ

theorem PR.keep25 {z : Nat} {w w' : World} {pb : Nat} {W : WS} {db n : Nat} {ids : List Int} {S : List Nat} (h : PR z w pb W db n ids) (hf : Fr w w' S) (hS : ∀ b ∈ S, ∃ cs, w.heap[b]? = some (Go.Proofs.Ytaneenahapdabaa.row cs 25)) : PR z w' pb W db n ids := by
  obtain ⟨dv, hd, _⟩ := h.rd
  exact { h with
    row := hf.get h.row fun hm => by obtain ⟨cs, hc⟩ := hS _ hm; exact ne_of_ty h.row hc (by decide) rfl
    pw := h.pw.keepS hf (fun b hb => by obtain ⟨cs, hc⟩ := hS _ hb; exact h.pw.notFoot hc (by decide) (by decide) (by decide)) (fun b hb => by obtain ⟨cs, hc⟩ := hS _ hb; exact No5.row hc (by decide))
    rd := h.rd.keep hf (fun hm => by obtain ⟨cs, hc⟩ := hS _ hm; exact ne_of_ty hd hc (by decide) rfl) (fun b hb => by obtain ⟨cs, hc⟩ := hS _ hb; exact NoR.row hc (by decide) (by decide) (by decide)) }
theorem AllQ.keep25 {z : Nat} {w w' : World} {fs : List Q5} {q : Q5} {S : List Nat} (h : AllQ z w fs q) (hf : Fr w w' S) (hS : ∀ b ∈ S, ∃ cs, w.heap[b]? = some (row cs 25)) : AllQ z w' fs q :=
  ⟨h.1.keep25 hf hS, fun p hp => ⟨(h.2 p hp).1.keep25 hf hS, (h.2 p hp).2⟩⟩
theorem all_no (z : World) (n : Int) (V : Value) (hn : ¬ (1 ≤ n ∧ n ≤ 64)) :
    Fn env.P 4 [.int .i64 n, V] z fun v w' => v = .bool true ∧ Fr z w' [] := by
  have H := Holds.start z []
  have HF := Try.func4; refine Fn.enter Try.func4 Try.ntmps4 rfl rfl rfl ?_
  (refine Run.seq (Run.region ?_); intro K hK)
  refine Ops.pure H (X.assign rfl) rfl rfl rfl ?_
  (refine Ops.nil (hK _ _ (Run.seq (Run.region ?_))); clear hK K; intro K hK)
  refine Ops.pure H (X.move rfl) rfl rfl rfl ?_
  refine Ops.eff rfl (Y.call rfl rfl (by first | assumption | decide +kernel) rfl (begins_no _ n hn) rfl ?_)
  rintro v w2 ⟨rfl, hf2⟩
  replace H := H.ext hf2
  refine Ops.pure H (X.move rfl) rfl rfl rfl ?_
  refine Ops.pure H (X.extract rfl rfl) rfl rfl rfl ?_
  refine Ops.pure H (X.extract rfl rfl) rfl rfl rfl ?_
  refine Ops.pure H (X.assign rfl) rfl rfl rfl ?_
  refine Ops.pure H (X.assign rfl) rfl rfl rfl ?_
  (refine Ops.nil (hK _ _ ?_); clear hK K)
  refine Run.seq ?_
  (refine Run.seq (Run.region ?_); intro K hK)
  refine Ops.pure H (X.move rfl) rfl rfl rfl ?_
  refine Ops.pure H (X.ptrNil rfl rfl rfl rfl rfl) rfl rfl rfl ?_
  (refine Ops.nil (hK _ _ ?_); clear hK K)
  refine Run.cond_true rfl ?_
  (refine Run.seq (Run.region ?_); intro K hK)
  refine Ops.pure H (X.move rfl) rfl rfl rfl ?_
  refine Ops.pure H (X.assign rfl) rfl rfl rfl ?_
  (refine Ops.nil (hK _ _ ?_); clear hK K)
  refine Fn.ret1 HF rfl rfl ?_
  exact ⟨rfl, H.fr⟩
theorem all_yes (z : World) (n : Nat) (aa : Option Addr) (an acap ab aoff : Nat) (acs : List Value) (aT : TypeId) (afz : Nat × Nat) (A : Nat → DA) (hA : DActs z aa an ab aoff acs aT afz A) (hS : ∀ j, j < an → U64 (A j).client ∧ U64 (A j).seq ∧ Byt (A j).xs) (h1 : 1 ≤ n) (h2 : n ≤ 64) :
    Fn env.P 4 [.int .i64 (n : Nat), .slice aa an acap] z fun v w' => v = .bool true ∧ Fr z w' [] := by
  have hanm := hA.1
  have H := Holds.start z []
  have HF := Try.func4; refine Fn.enter Try.func4 Try.ntmps4 rfl rfl rfl ?_
  (refine Run.seq (Run.region ?_); intro K hK)
  refine Ops.pure H (X.assign rfl) rfl rfl rfl ?_
  (refine Ops.nil (hK _ _ (Run.seq (Run.region ?_))); clear hK K; intro K hK)
  refine Ops.pure H (X.move rfl) rfl rfl rfl ?_
  refine Ops.eff rfl (Y.call rfl rfl (by first | assumption | decide +kernel) rfl (begins_yes _ (n : Nat) (by omega) (by omega)) rfl ?_)
  rintro v w2 ⟨pb, wb, mb2, db, rfl, hP2, hW2, hD2, hf2, hwb, hmb, hdb, hpb⟩
  have F2 := H.fr.then hf2
  have hz1 := H.fr.size
  clear H hf2
  have hst : ∀ x, st ⟨wb, mb2, (n : Int), 0, fun _ => none⟩ x = none := fun x => rfl
  have hQ0 : PR z.heap.size w2 pb ⟨wb, mb2, n, 0, fun _ => none⟩ db n [] := by
    refine ⟨hP2, hW2, fun b hb => ?_, rfl, h1, h2, by dsimp only; omega, fun x s hx => ?_, ⟨_, hD2, fun _ => undef, ⟨none, 0, rfl, by simp, by simp, by simp⟩, fun i hi => by simp at hi⟩, .nil, fun x => by rw [hst]; simp, rfl, by omega, by omega⟩
    · rcases hb with rfl | rfl | ⟨x, c, hx, _⟩
      · exact hwb
      · exact hmb
      · cases hx
    · rw [hst] at hx
      cases hx
  have H := Holds.start w2 []
  refine Ops.pure H (X.move rfl) rfl rfl rfl ?_
  refine Ops.pure H (X.extract rfl rfl) rfl rfl rfl ?_
  refine Ops.pure H (X.extract rfl rfl) rfl rfl rfl ?_
  refine Ops.pure H (X.assign rfl) rfl rfl rfl ?_
  refine Ops.pure H (X.assign rfl) rfl rfl rfl ?_
  (refine Ops.nil (hK _ _ ?_); clear hK K)
  refine Run.seq ?_
  (refine Run.seq (Run.region ?_); intro K hK)
  refine Ops.pure H (X.move rfl) rfl rfl rfl ?_
  refine Ops.pure H (X.ptrNil rfl rfl rfl rfl rfl) rfl rfl rfl ?_
  (refine Ops.nil (hK _ _ ?_); clear hK K)
  refine Run.cond_false rfl ?_
  refine Run.skip ?_
  (refine Run.seq (Run.region ?_); intro K hK)
  refine Ops.pure H (X.move rfl) rfl rfl rfl ?_
  (refine Ops.eff rfl (Y.buildSliceO rfl rfl rfl rfl rfl rfl rfl rfl H ?_); intro b21 w H0 hb21; clear H; have H := H0; clear H0)
  refine Ops.pure H (X.assign rfl) rfl rfl rfl ?_
  (refine Ops.nil (hK _ _ ?_); clear hK K)
  refine Run.seq ?_
  (refine Run.seq (Run.region ?_); intro K hK)
  refine Ops.pure H (X.assign rfl) rfl rfl rfl ?_
  (refine Ops.nil (hK _ _ ?_); clear hK K)
  refine Run.block ?_
  refine Run.rounds (fun (s : Nat × List Q5 × Q5 × Value) => [(1, .slice aa an acap), (5, s.2.2.1.val), (7, s.2.2.2), (8, .int .i64 (s.1 : Nat))])
    (fun s w' => s.1 ≤ an ∧ s.2.1.length ≤ 29 ∧ Fr z w' [] ∧ AllQ z.heap.size w' s.2.1 s.2.2.1 ∧ Own w' z.heap.size 25 1 s.2.2.2 (s.2.1.length + 1) ((s.2.1 ++ [s.2.2.1]).map Q5.val)) (fun s => an - s.1) (0, [], ⟨pb, ⟨wb, mb2, n, 0, fun _ => none⟩, db, n, []⟩, _) (by repeat (first | exact trivial | refine ⟨rfl, ?_⟩)) ⟨by dsimp only; omega, by simp, F2.then H.fr, ⟨hQ0.ext H.fr, by simp⟩, ?_⟩ ?_
  · exact .inr ⟨b21, 1, _, rfl, by simp, by decide, by have := F2.size; omega, H.pick (b := b21) (by repeat (first | exact .head | apply Pick.tail)), rfl, Cs.take rfl⟩
  clear H hQ0 hP2 hW2 hD2 F2
  rintro ⟨i, fs, q, v⟩ w3 ⟨hi, hL, F3, hQ3, hO3⟩ IH
  dsimp only at hi hL F3 hQ3 hO3 IH ⊢
  obtain ⟨b7, cap7, cs7, rfl, hc1, hc2, hbz, hb7, hcl, hC7⟩ := hO3.get (by omega)
  by_cases hlt : i < an ∧ fs.length < 29
  · obtain ⟨hlt, hL2⟩ := hlt
    obtain ⟨hcs, hxs, hxl⟩ := hA.2.2 i hlt
    obtain ⟨hc, hq, hby'⟩ := hS i hlt
    obtain ⟨rfl, hab⟩ := hA.2.1 (by omega)
    generalize A i = ai at hcs hxs hxl hc hq hby'
    obtain ⟨kind, cid, seq, av, xs⟩ := ai
    dsimp only at hcs hxs hxl hc hq hby'
    simp only [daC] at hcs
    have hab3 := F3.get hab (by simp)
    have H := (Holds.start w3 []).add false hab3 (by simp) (by simp)
    refine Run.seq ?_
    (refine Run.seq (Run.region ?_); intro K hK)
    refine Ops.pure H (X.move rfl) rfl rfl rfl ?_
    refine Ops.pure H (X.move rfl) rfl rfl rfl ?_
    refine Ops.pure H (X.len_slice rfl rfl rfl) rfl rfl rfl ?_
    refine Ops.pure H (X.cmp rfl rfl rfl) rfl rfl rfl ?_
    refine Ops.pure H (X.move rfl) rfl rfl rfl ?_
    refine Ops.split_dec rfl rfl (fun h27 => ?x0) (fun h27 => ?y0)
    case' y0 => exfalso; omega
    case' x0 =>
      refine Ops.pure H (X.move rfl) rfl rfl rfl ?_
      refine Ops.pure H (X.len_slice rfl rfl rfl) rfl rfl rfl ?_
      refine Ops.pure H (X.cmp rfl rfl rfl) rfl rfl rfl ?_
      refine Ops.pure H (X.pick_t rfl rfl) rfl rfl rfl ?_
      (refine Ops.nil (hK _ _ ?_); clear hK K)
      refine Run.cond_dec rfl (fun h30 => ?x1) (fun h30 => ?y1)
      case' y1 => exfalso; omega
      case' x1 =>
        refine Run.skip ?_
        refine Run.seq ?_
        refine Run.block ?_
        (refine Run.seq (Run.region ?_); intro K hK)
        refine Ops.pure H (X.move rfl) rfl rfl rfl ?_
        refine Ops.pure H (X.move rfl) rfl rfl rfl ?_
        refine Ops.pure H (X.move rfl) rfl rfl rfl ?_
        refine Ops.pure H (X.indexAddr rfl rfl (by omega) rfl rfl rfl rfl) rfl rfl rfl ?_
        refine Ops.pure H (X.loadN rfl rfl rfl Pick.head (by assumption)) rfl rfl rfl ?_
    refine Ops.eff rfl (Y.call rfl rfl (by first | assumption | decide +kernel) rfl (does_any12 z _ q.pb q.W q.db q.n q.ids kind cid seq av xs (hQ3.1.ext H.fr) (F3.then H.fr) hxs hxl hc hq hby') rfl ?_)
    rintro v w4 hD4
    obtain ⟨q', rfl, ⟨S, hf4, hSz, hS25⟩, ⟨qds, hq4⟩, hcase⟩ := (hQ3.ext H.fr).does hD4
    have F4 := (F3.then H.fr).trans hf4 (U := []) (by simp) (fun x hx hl => by have := hSz x hx; omega)
    have hO4 := (hO3.ext H.fr).keepT hf4 hS25
    have hq'4 : q'.pr z.heap.size w4 := hcase.elim (fun h => h.2.1) (fun h => h.2.1)
    clear H
    have H := Holds.start w4 []
    refine Ops.pure H (X.move rfl) rfl rfl rfl ?_
    refine Ops.pure H (X.extract rfl rfl) rfl rfl rfl ?_
    refine Ops.pure H (X.extract rfl rfl) rfl rfl rfl ?_
    refine Ops.pure H (X.assign rfl) rfl rfl rfl ?_
    refine Ops.pure H (X.assign rfl) rfl rfl rfl ?_
    (refine Ops.nil (hK _ _ ?_); clear hK K)
    refine Run.seq ?_
    (refine Run.seq (Run.region ?_); intro K hK)
    refine Ops.pure H (X.move rfl) rfl rfl rfl ?_
    refine Ops.pure H (X.not rfl) rfl rfl rfl ?_
    refine Ops.pure H (X.move rfl) rfl rfl rfl ?_
    refine Ops.pure H (X.move rfl) rfl rfl rfl ?_
    refine Ops.eff rfl (Y.call rfl rfl (by first | assumption | decide +kernel) rfl (stands_any _ _ q'.pb q'.W q'.db q'.n q'.ids (hq'4.ext H.fr)) rfl ?_)
    rintro v w5 ⟨rfl, hf5⟩
    replace H := H.ext hf5
    have F5 := F4.then H.fr
    have hO5 := hO4.ext H.fr
    have hq5 := H.fr.get hq4 (by simp)
    have hq'5 := (hq'4.ext H.fr).row
    rcases hcase with ⟨he, hQ4⟩ | ⟨he, hQ4⟩
    · have hQ5 := hQ4.ext H.fr
      clear H
      have H := Holds.start w5 []
      refine Ops.pure H (X.not rfl) rfl rfl rfl ?_
      refine Ops.pure H (X.pick_f rfl rfl) rfl rfl rfl ?_
      (refine Ops.nil (hK _ _ ?_); clear hK K)
      refine Run.cond_false rfl ?_
      refine Run.skip ?_
      refine Run.seq ?_
      (refine Run.seq (Run.region ?_); intro K hK)
      refine Ops.pure H (X.move rfl) rfl rfl rfl ?_
      refine Ops.pure H (X.move rfl) rfl rfl rfl ?_
      refine Ops.pure H (X.ptrSame rfl (congrArg (fun t => some (Value.pointer (some ⟨t, 0, none⟩))) he.symm) rfl rfl rfl (by decide)) rfl rfl rfl ?_
      (refine Ops.nil (hK _ _ ?_); clear hK K)
      refine Run.cond_false rfl ?_
      refine Run.skip ?_
      (refine Run.region ?_; intro K hK)
      refine Ops.pure H (X.move rfl) rfl rfl rfl ?_
      refine Ops.pure H (X.assign rfl) rfl rfl rfl ?_
      (refine Ops.nil (hK _ _ ?_); clear hK K)
      refine Run.inBlock ?_
      (refine Run.region ?_; intro K hK)
      refine Ops.pure H (X.move rfl) rfl rfl rfl ?_
      refine Ops.pure H (X.succ rfl rfl (by omega)) rfl rfl rfl ?_
      refine Ops.pure H (X.assign rfl) rfl rfl rfl ?_
      (refine Ops.nil (hK _ _ ?_); clear hK K)
      refine (IH (i + 1, fs, q', _) _ (by dsimp only; omega) ⟨by dsimp only; omega, by dsimp only; omega, F5.then H.fr, hQ5.ext H.fr, ?_⟩).weak (by repeat (first | exact trivial | refine ⟨rfl, ?_⟩))
      have e : (fs ++ [q']).map Q5.val = (fs ++ [q]).map Q5.val := by simp [Q5.val, he]
      dsimp only
      rw [e]
      exact hO5.ext H.fr
    · have hQ5 := hQ4.ext H.fr
      clear H
      have H := ((Holds.start w5 []).add false hq5 (by simp) (by simp)).add false hq'5 (by simpa using he) (by simp)
      refine Ops.pure H (X.not rfl) rfl rfl rfl ?_
      refine Ops.pure H (X.pick_f rfl rfl) rfl rfl rfl ?_
      (refine Ops.nil (hK _ _ ?_); clear hK K)
      refine Run.cond_false rfl ?_
      refine Run.skip ?_
      refine Run.seq ?_
      (refine Run.seq (Run.region ?_); intro K hK)
      refine Ops.pure H (X.move rfl) rfl rfl rfl ?_
      refine Ops.pure H (X.move rfl) rfl rfl rfl ?_
      refine Ops.pure H (X.ptrOther rfl rfl rfl rfl rfl (by decide) .head (.tail .head) he) rfl rfl rfl ?_
      (refine Ops.nil (hK _ _ ?_); clear hK K)
      refine Run.cond_true rfl ?_
      (refine Run.region ?_; intro K hK)
      refine Ops.pure H (X.move rfl) rfl rfl rfl ?_
      refine Ops.pure H (X.move rfl) rfl rfl rfl ?_
      (refine Ops.eff rfl (Y.buildSliceO rfl rfl rfl rfl rfl rfl rfl rfl H ?_); intro b54 w H0 hb54; clear H; have H := H0; clear H0)
      refine Ops.eff rfl (Y.appendOwnF (w0 := z) (S := []) (m := 1) (news := [q'.val]) (hO5.ext H.fr) rfl rfl rfl rfl rfl rfl (F5.then H.fr) (by omega) rfl (Src.row (m := 1) H .head (Cs.take rfl)) rfl rfl (by dsimp only; omega) (by omega) rfl ?_)
      intro v' w6 B F6 hB6 hBs hO6
      have hQ6 := (hQ5.ext H.fr).keep25 hB6 (fun b hb => (hBs b hb).2.1)
      clear H
      have H := Holds.start w6 []
      refine Ops.pure H (X.assign rfl) rfl rfl rfl ?_
      (refine Ops.nil (hK _ _ ?_); clear hK K)
      (refine Run.region ?_; intro K hK)
      refine Ops.pure H (X.move rfl) rfl rfl rfl ?_
      refine Ops.pure H (X.assign rfl) rfl rfl rfl ?_
      (refine Ops.nil (hK _ _ ?_); clear hK K)
      refine Run.inBlock ?_
      (refine Run.region ?_; intro K hK)
      refine Ops.pure H (X.move rfl) rfl rfl rfl ?_
      refine Ops.pure H (X.succ rfl rfl (by omega)) rfl rfl rfl ?_
      refine Ops.pure H (X.assign rfl) rfl rfl rfl ?_
      (refine Ops.nil (hK _ _ ?_); clear hK K)
      refine (IH (i + 1, fs ++ [q], q', v') _ (by dsimp only; omega) ⟨by dsimp only; omega, by simp; omega, F6.then H.fr, hQ6.ext H.fr, ?_⟩).weak (by repeat (first | exact trivial | refine ⟨rfl, ?_⟩))
      dsimp only
      rw [List.length_append, List.map_append]
      exact hO6.ext H.fr
  · rcases (show i = an ∨ (i < an ∧ fs.length = 29) by omega) with hia | ⟨hlt1, hL2⟩
    · clear IH
      have H := (Holds.start w3 []).add false hb7 (by simp) (by simp)
      refine Run.seq ?_
      (refine Run.seq (Run.region ?_); intro K hK)
      refine Ops.pure H (X.move rfl) rfl rfl rfl ?_
      refine Ops.pure H (X.move rfl) rfl rfl rfl ?_
      refine Ops.pure H (X.len_slice rfl rfl rfl) rfl rfl rfl ?_
      refine Ops.pure H (X.cmp rfl rfl rfl) rfl rfl rfl ?_
      refine Ops.pure H (X.move rfl) rfl rfl rfl ?_
      refine Ops.split_dec rfl rfl (fun h27 => ?x2) (fun h27 => ?y2)
      case' y2 =>
        refine Ops.pass rfl rfl rfl ?_
        refine Ops.pass rfl rfl rfl ?_
        refine Ops.pass rfl rfl rfl ?_
        refine Ops.pure H (X.pick_f rfl rfl) rfl rfl rfl ?_
        (refine Ops.nil (hK _ _ ?_); clear hK K)
        refine Run.cond_false rfl ?_
        refine Run.exit rfl ?_
        refine Run.seq ?_
        (refine Run.seq (Run.region ?_); intro K hK)
        refine Ops.pure H (X.assign rfl) rfl rfl rfl ?_
        (refine Ops.nil (hK _ _ ?_); clear hK K)
        refine Run.block ?_
      case' x2 => exfalso; omega
      refine Run.rounds (fun (j : Nat) => [(7, .slice (some ⟨b7, 0, none⟩) (fs.length + 1) cap7), (11, .int .i64 (j : Nat))]) (fun j w' => j ≤ fs.length + 1 ∧ Fr z w' [] ∧ AllQ z.heap.size w' fs q ∧ w'.heap[b7]? = some (row cs7 25)) (fun j => fs.length + 1 - j) 0 (by repeat (first | exact trivial | refine ⟨rfl, ?_⟩)) ⟨by omega, F3.then H.fr, hQ3.ext H.fr, H.pick (b := b7) (by repeat (first | exact .head | apply Pick.tail))⟩ ?_
      clear H
      rintro j w4 ⟨hj, F4, hQ4, hb4⟩ IH
      have H := (Holds.start w4 []).add false hb4 (by simp) (by simp)
      by_cases hjl : j < fs.length + 1
      · obtain ⟨p, hp⟩ : ∃ p, (fs ++ [q])[j]? = some p := ⟨_, List.getElem?_eq_getElem (by simp; omega)⟩
        have hpr := hQ4.mem p (List.mem_of_getElem? hp)
        have c0 : cs7[0 + j * 1]? = some p.val := by
          rw [Nat.mul_one, hC7.toGet (by omega), List.getElem?_map, hp]
          rfl
        refine Run.seq ?_
        (refine Run.seq (Run.region ?_); intro K hK)
        refine Ops.pure H (X.move rfl) rfl rfl rfl ?_
        refine Ops.pure H (X.move rfl) rfl rfl rfl ?_
        refine Ops.pure H (X.len_slice rfl rfl rfl) rfl rfl rfl ?_
        refine Ops.pure H (X.cmp rfl rfl rfl) rfl rfl rfl ?_
        (refine Ops.nil (hK _ _ ?_); clear hK K)
        refine Run.cond_dec rfl (fun h60 => ?x3) (fun h60 => ?y3)
        case' y3 => exfalso; omega
        case' x3 =>
          refine Run.skip ?_
          refine Run.seq ?_
          refine Run.block ?_
          (refine Run.seq (Run.region ?_); intro K hK)
          refine Ops.pure H (X.move rfl) rfl rfl rfl ?_
          refine Ops.pure H (X.move rfl) rfl rfl rfl ?_
          refine Ops.pure H (X.indexAddr rfl rfl (by omega) rfl rfl rfl rfl) rfl rfl rfl ?_
          refine Ops.pure H (X.load1 rfl rfl rfl rfl Pick.head (by assumption)) rfl rfl rfl ?_
        refine Ops.eff rfl (Y.call rfl rfl (by first | assumption | decide +kernel) rfl (stands_any _ _ p.pb p.W p.db p.n p.ids (hpr.ext H.fr)) rfl ?_)
        rintro v w5 ⟨rfl, hf5⟩
        replace H := H.ext hf5
        refine Ops.pure H (X.not rfl) rfl rfl rfl ?_
        (refine Ops.nil (hK _ _ ?_); clear hK K)
        refine Run.cond_false rfl ?_
        refine Run.skip ?_
        refine Run.inBlock ?_
        (refine Run.region ?_; intro K hK)
        refine Ops.pure H (X.move rfl) rfl rfl rfl ?_
        refine Ops.pure H (X.succ rfl rfl (by omega)) rfl rfl rfl ?_
        refine Ops.pure H (X.assign rfl) rfl rfl rfl ?_
        (refine Ops.nil (hK _ _ ?_); clear hK K)
        exact (IH (j + 1) _ (by omega) ⟨by omega, F4.then H.fr, hQ4.ext H.fr, H.pick (b := b7) (by repeat (first | exact .head | apply Pick.tail))⟩).weak (by repeat (first | exact trivial | refine ⟨rfl, ?_⟩))
      · refine Run.seq ?_
        (refine Run.seq (Run.region ?_); intro K hK)
        refine Ops.pure H (X.move rfl) rfl rfl rfl ?_
        refine Ops.pure H (X.move rfl) rfl rfl rfl ?_
        refine Ops.pure H (X.len_slice rfl rfl rfl) rfl rfl rfl ?_
        refine Ops.pure H (X.cmp rfl rfl rfl) rfl rfl rfl ?_
        (refine Ops.nil (hK _ _ ?_); clear hK K)
        refine Run.cond_dec rfl (fun h60 => ?x4) (fun h60 => ?y4)
        case' y4 =>
          refine Run.exit rfl ?_
          (refine Run.seq (Run.region ?_); intro K hK)
          refine Ops.pure H (X.assign rfl) rfl rfl rfl ?_
          (refine Ops.nil (hK _ _ ?_); clear hK K)
        case' x4 => exfalso; omega
        refine Fn.ret1 HF rfl rfl ?_
        exact ⟨rfl, F4.then H.fr⟩
    · clear IH
      have H := (Holds.start w3 []).add false hb7 (by simp) (by simp)
      refine Run.seq ?_
      (refine Run.seq (Run.region ?_); intro K hK)
      refine Ops.pure H (X.move rfl) rfl rfl rfl ?_
      refine Ops.pure H (X.move rfl) rfl rfl rfl ?_
      refine Ops.pure H (X.len_slice rfl rfl rfl) rfl rfl rfl ?_
      refine Ops.pure H (X.cmp rfl rfl rfl) rfl rfl rfl ?_
      refine Ops.pure H (X.move rfl) rfl rfl rfl ?_
      refine Ops.split_dec rfl rfl (fun h27 => ?x5) (fun h27 => ?y5)
      case' y5 => exfalso; omega
      case' x5 =>
        refine Ops.pure H (X.move rfl) rfl rfl rfl ?_
        refine Ops.pure H (X.len_slice rfl rfl rfl) rfl rfl rfl ?_
        refine Ops.pure H (X.cmp rfl rfl rfl) rfl rfl rfl ?_
        refine Ops.pure H (X.pick_t rfl rfl) rfl rfl rfl ?_
        (refine Ops.nil (hK _ _ ?_); clear hK K)
        refine Run.cond_dec rfl (fun h30 => ?x6) (fun h30 => ?y6)
        case' y6 =>
          refine Run.exit rfl ?_
          refine Run.seq ?_
          (refine Run.seq (Run.region ?_); intro K hK)
          refine Ops.pure H (X.assign rfl) rfl rfl rfl ?_
          (refine Ops.nil (hK _ _ ?_); clear hK K)
          refine Run.block ?_
        case' x6 => exfalso; omega
      refine Run.rounds (fun (j : Nat) => [(7, .slice (some ⟨b7, 0, none⟩) (fs.length + 1) cap7), (11, .int .i64 (j : Nat))]) (fun j w' => j ≤ fs.length + 1 ∧ Fr z w' [] ∧ AllQ z.heap.size w' fs q ∧ w'.heap[b7]? = some (row cs7 25)) (fun j => fs.length + 1 - j) 0 (by repeat (first | exact trivial | refine ⟨rfl, ?_⟩)) ⟨by omega, F3.then H.fr, hQ3.ext H.fr, H.pick (b := b7) (by repeat (first | exact .head | apply Pick.tail))⟩ ?_
      clear H
      rintro j w4 ⟨hj, F4, hQ4, hb4⟩ IH
      have H := (Holds.start w4 []).add false hb4 (by simp) (by simp)
      by_cases hjl : j < fs.length + 1
      · obtain ⟨p, hp⟩ : ∃ p, (fs ++ [q])[j]? = some p := ⟨_, List.getElem?_eq_getElem (by simp; omega)⟩
        have hpr := hQ4.mem p (List.mem_of_getElem? hp)
        have c0 : cs7[0 + j * 1]? = some p.val := by
          rw [Nat.mul_one, hC7.toGet (by omega), List.getElem?_map, hp]
          rfl
        refine Run.seq ?_
        (refine Run.seq (Run.region ?_); intro K hK)
        refine Ops.pure H (X.move rfl) rfl rfl rfl ?_
        refine Ops.pure H (X.move rfl) rfl rfl rfl ?_
        refine Ops.pure H (X.len_slice rfl rfl rfl) rfl rfl rfl ?_
        refine Ops.pure H (X.cmp rfl rfl rfl) rfl rfl rfl ?_
        (refine Ops.nil (hK _ _ ?_); clear hK K)
        refine Run.cond_dec rfl (fun h60 => ?x7) (fun h60 => ?y7)
        case' y7 => exfalso; omega
        case' x7 =>
          refine Run.skip ?_
          refine Run.seq ?_
          refine Run.block ?_
          (refine Run.seq (Run.region ?_); intro K hK)
          refine Ops.pure H (X.move rfl) rfl rfl rfl ?_
          refine Ops.pure H (X.move rfl) rfl rfl rfl ?_
          refine Ops.pure H (X.indexAddr rfl rfl (by omega) rfl rfl rfl rfl) rfl rfl rfl ?_
          refine Ops.pure H (X.load1 rfl rfl rfl rfl Pick.head (by assumption)) rfl rfl rfl ?_
        refine Ops.eff rfl (Y.call rfl rfl (by first | assumption | decide +kernel) rfl (stands_any _ _ p.pb p.W p.db p.n p.ids (hpr.ext H.fr)) rfl ?_)
        rintro v w5 ⟨rfl, hf5⟩
        replace H := H.ext hf5
        refine Ops.pure H (X.not rfl) rfl rfl rfl ?_
        (refine Ops.nil (hK _ _ ?_); clear hK K)
        refine Run.cond_false rfl ?_
        refine Run.skip ?_
        refine Run.inBlock ?_
        (refine Run.region ?_; intro K hK)
        refine Ops.pure H (X.move rfl) rfl rfl rfl ?_
        refine Ops.pure H (X.succ rfl rfl (by omega)) rfl rfl rfl ?_
        refine Ops.pure H (X.assign rfl) rfl rfl rfl ?_
        (refine Ops.nil (hK _ _ ?_); clear hK K)
        exact (IH (j + 1) _ (by omega) ⟨by omega, F4.then H.fr, hQ4.ext H.fr, H.pick (b := b7) (by repeat (first | exact .head | apply Pick.tail))⟩).weak (by repeat (first | exact trivial | refine ⟨rfl, ?_⟩))
      · refine Run.seq ?_
        (refine Run.seq (Run.region ?_); intro K hK)
        refine Ops.pure H (X.move rfl) rfl rfl rfl ?_
        refine Ops.pure H (X.move rfl) rfl rfl rfl ?_
        refine Ops.pure H (X.len_slice rfl rfl rfl) rfl rfl rfl ?_
        refine Ops.pure H (X.cmp rfl rfl rfl) rfl rfl rfl ?_
        (refine Ops.nil (hK _ _ ?_); clear hK K)
        refine Run.cond_dec rfl (fun h60 => ?x8) (fun h60 => ?y8)
        case' y8 =>
          refine Run.exit rfl ?_
          (refine Run.seq (Run.region ?_); intro K hK)
          refine Ops.pure H (X.assign rfl) rfl rfl rfl ?_
          (refine Ops.nil (hK _ _ ?_); clear hK K)
        case' x8 => exfalso; omega
        refine Fn.ret1 HF rfl rfl ?_
        exact ⟨rfl, F4.then H.fr⟩
end Go.Proofs.Ytaneenahapdabaa
