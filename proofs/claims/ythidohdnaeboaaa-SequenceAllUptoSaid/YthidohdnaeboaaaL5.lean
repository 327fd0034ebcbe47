/- Walks of the law of all orders: does. -/
import Derived.Test.YthidohdnaeboaaaL4
namespace Go.Proofs.Ythidohdnaeboaaa
open Go
set_option maxRecDepth 20000
set_option maxHeartbeats 2000000
attribute [local irreducible] Run Ops Fn Draw Draw2 PureOp StepZ

theorem Ints.src {w : World} {xa : Option Addr} {m xc : Nat} {xs : List Int} (h : Ints w (.slice xa m xc) xs) : Src w xa (xs.map (Value.int .i64)) := by
  obtain ⟨a, cap, b, off, cs, T, fz, e, h2, h3, h4, h5⟩ := h
  cases e
  intro j v hj
  have hj' : j < xs.length := by simpa using (List.getElem?_eq_some_iff.1 hj).1
  obtain ⟨rfl, h6⟩ := h4 (by omega)
  exact ⟨_, rfl, by rw [Addr.add_lit]; exact (cell_cells h6).trans (h5.get j v hj)⟩
theorem Ints.keepS {w w' : World} {S : List Nat} {v : Value} {xs : List Int} (h : Ints w v xs) (hf : Fr w w' S) (hS : 0 < xs.length → ∀ b off m cap, v = .slice (some ⟨b, off, none⟩) m cap → b ∉ S) : Ints w' v xs := by
  obtain ⟨a, cap, b, off, cs, T, fz, rfl, h2, h3, h4, h5⟩ := h
  refine ⟨a, cap, b, off, cs, T, fz, rfl, h2, h3, fun hp => ?_, h5⟩
  obtain ⟨rfl, h6⟩ := h4 hp
  exact ⟨rfl, hf.get h6 (hS hp _ _ _ _ rfl)⟩
theorem LInv.ends {n last id : Int} {l : List Tk} {done : Bool} (h : LInv n last l) : LInv n last (endsL l id done) := by
  unfold endsL
  split
  · exact h
  · split
    · exact h
    · rcases fidx_cases (fun i => decide ((l.getD i tk0).id = id)) l.length with ⟨i, hi, _, _, he⟩ | ⟨_, he⟩
      · have he' : findL l id = i := he
        rw [he']
        exact h.del i hi
      · have he' : findL l id = -1 := he
        omega
theorem LInv.raise {n last id : Int} {l : List Tk} (h : LInv n last l) (h0 : 0 ≤ id) (h1 : id ≤ 18446744073709551615) : LInv n (if id < last then last else id) l := by
  split
  · exact h
  · exact ⟨h0, h1, h.len, fun i hi => by have := h.id1 i hi; omega, h.rise, h.can⟩
theorem Step.refl (z : World) (q : PQ) : Step z q q := ⟨rfl, rfl, .inl rfl, .inl rfl⟩
theorem does_any (z : World) (x : Nat) (n : Int) (q : PQ) (a : AV) (h : Pr z x n q) (hn : n ≤ 64) (hid : 0 ≤ a.id ∧ a.id ≤ 18446744073709551615) (hxs : Ints z a.v a.xs) (hlen : a.xs.length ≤ 1048576)
    (hva : 0 < a.xs.length → ∀ b off m cap, a.v = .slice (some ⟨b, off, none⟩) m cap → b ≠ q.o ∧ b ≠ q.c ∧ b ≠ q.d) :
    Fn env.P 25 [.pointer (some ⟨x, 0, none⟩), .agg (actC a).toArray] z fun v w' => v = .bool true ∧ ∃ q2, Pr w' x n q2 ∧ Step z q q2 ∧ Fr z w' [q.o, q.c, q.d] := by
  obtain ⟨kind, part, client, seq, id, av, xs, how⟩ := a
  have h' := h
  obtain ⟨o, c, d, r, last, l⟩ := q
  obtain ⟨hx, hp, hd, _, _, _, hL⟩ := h
  dsimp only at hx hp hd hL hid hxs hlen hva ⊢
  have hl := hL.len
  obtain ⟨xa, xcap, rfl⟩ := hxs.slice
  obtain ⟨lo, lc, ld, lr⟩ := NF.lt' h'
  dsimp only at lo lc ld lr
  have hxl := lt_of_at hx
  have H := (Holds.start z []).add false hx (by simp) (by simp)
  simp only [actC]
  have HF := Try.func25; refine Fn.enter Try.func25 Try.ntmps25 rfl rfl rfl ?_
  refine Run.seq ?_
  (refine Run.region ?_; intro K hK)
  (refine Ops.eff rfl (Y.box rfl rfl rfl H ?_); intro b3 w H0 hb3; clear H; have H := H0; clear H0)
  refine Ops.pure H (X.assign rfl) rfl rfl rfl ?_
  (refine Ops.nil (hK _ _ ?_); clear hK K)
  refine Run.seq ?_
  (refine Run.region ?_; intro K hK)
  refine Ops.pure H (X.move rfl) rfl rfl rfl ?_
  refine Ops.pure H (X.loadN rfl rfl rfl Pick.head (Cs.take rfl)) rfl rfl rfl ?_
  refine Ops.eff rfl (Y.call rfl rfl (by first | assumption | decide +kernel) rfl (meant_any _ x n ⟨o, c, d, r, last, l⟩ ⟨kind, part, client, seq, id, .slice xa xs.length xcap, xs, how⟩ (h'.ext H.fr) hid) rfl ?_)
  rintro v w1 ⟨m, rfl, hm0, hm1, hf1⟩
  replace H := H.ext hf1
  have hZ1 := H.fr
  have hb3l : z.heap.size ≤ b3 := hb3
  replace H := H.anew (S' := []) (G' := [⟨_, _, false⟩, ⟨_, _, false⟩]) (by repeat constructor) (by simp)
  refine Ops.pure H (X.assign rfl) rfl rfl rfl ?_
  (refine Ops.nil (hK _ _ ?_); clear hK K)
  refine Run.seq ?_
  refine Run.seq ?_
  (refine Run.region ?_; intro K hK)
  refine Ops.pure H (X.fieldAddr rfl rfl rfl rfl rfl rfl) rfl rfl rfl ?_
  refine Ops.pure H (X.load1 rfl rfl rfl rfl Pick.head rfl) rfl rfl rfl ?_
  (refine Ops.nil (hK _ _ ?_); clear hK K)
  refine Run.block ?_
  refine Run.seq ?_
  (refine Run.region ?_; intro K hK)
  refine Ops.pure H (X.cmp rfl rfl rfl) rfl rfl rfl ?_
  refine Ops.pure H (X.assign rfl) rfl rfl rfl ?_
  (refine Ops.nil (hK _ _ ?_); clear hK K)
  refine Run.cond_dec rfl (fun h17 => ?x0) (fun h17 => ?y0)
  case' y0 =>
    refine Run.seq ?_
    (refine Run.region ?_; intro K hK)
    refine Ops.pure H (X.cmp rfl rfl rfl) rfl rfl rfl ?_
    refine Ops.pure H (X.assign rfl) rfl rfl rfl ?_
    (refine Ops.nil (hK _ _ ?_); clear hK K)
    refine Run.cond_dec rfl (fun h71 => ?x1) (fun h71 => ?y1)
    case' y1 =>
      refine Run.seq ?_
      (refine Run.region ?_; intro K hK)
      refine Ops.pure H (X.cmp rfl rfl rfl) rfl rfl rfl ?_
      refine Ops.pure H (X.assign rfl) rfl rfl rfl ?_
      (refine Ops.nil (hK _ _ ?_); clear hK K)
      refine Run.cond_dec rfl (fun h86 => ?x2) (fun h86 => ?y2)
      case' y2 =>
        refine Run.seq ?_
        (refine Run.region ?_; intro K hK)
        refine Ops.pure H (X.cmp rfl rfl rfl) rfl rfl rfl ?_
        refine Ops.pure H (X.assign rfl) rfl rfl rfl ?_
        (refine Ops.nil (hK _ _ ?_); clear hK K)
        refine Run.cond_dec rfl (fun h101 => ?x3) (fun h101 => ?y3)
        case' y3 =>
          refine Run.seq ?_
          (refine Run.region ?_; intro K hK)
          refine Ops.pure H (X.cmp rfl rfl rfl) rfl rfl rfl ?_
          refine Ops.pure H (X.assign rfl) rfl rfl rfl ?_
          (refine Ops.nil (hK _ _ ?_); clear hK K)
          refine Run.cond_dec rfl (fun h116 => ?x4) (fun h116 => ?y4)
          case' y4 =>
            refine Run.skip ?_
            refine Run.inBlock ?_
            refine Run.seq ?_
            (refine Run.region ?_; intro K hK)
            refine Ops.pure H (X.assign rfl) rfl rfl rfl ?_
            (refine Ops.nil (hK _ _ ?_); clear hK K)
          case' x4 =>
            refine Run.seq ?_
            (refine Run.region ?_; intro K hK)
            refine Ops.pure H (X.move rfl) rfl rfl rfl ?_
            refine Ops.pure H (X.move rfl) rfl rfl rfl ?_
            refine Ops.pure H (X.fieldAddr rfl rfl rfl rfl rfl rfl) rfl rfl rfl ?_
            refine Ops.pure H (X.load1 rfl rfl rfl rfl Pick.head rfl) rfl rfl rfl ?_
        case' x3 =>
          refine Run.seq ?_
          (refine Run.draw H [] [0, 1, 2, 3, 4, 6, 7, 8, 9, 10, 5, 11, 12, 13] ?_; clear H; intro K hK w H)
          refine Draw.take0 rfl (X.move rfl) rfl rfl rfl (by decide +kernel) ?_
          refine Draw.take0 rfl (X.nilCheck rfl) rfl rfl rfl (by decide +kernel) ?_
          refine Draw.take0 rfl (X.fieldAddr rfl rfl rfl rfl rfl rfl) rfl rfl rfl (by decide +kernel) ?_
          refine Draw.take rfl (X.load1 rfl rfl rfl rfl (.tail .head) rfl) rfl rfl rfl (by decide +kernel) ?_
          refine Draw.take0 rfl (X.move rfl) rfl rfl rfl (by decide +kernel) ?_
          refine Draw.take0 rfl (X.move rfl) rfl rfl rfl (by decide +kernel) ?_
          refine Draw.take0 rfl (X.nilCheck rfl) rfl rfl rfl (by decide +kernel) ?_
          refine Draw.take0 rfl (X.fieldAddr rfl rfl rfl rfl rfl rfl) rfl rfl rfl (by decide +kernel) ?_
          refine Draw.take rfl (X.load1 rfl rfl rfl rfl (.tail .head) rfl) rfl rfl rfl (by decide +kernel) ?_
          refine Draw.take0 rfl (X.move rfl) rfl rfl rfl (by decide +kernel) ?_
      case' x2 =>
        refine Run.seq ?_
        (refine Run.draw H [] [0, 1, 2, 3, 4, 6, 7, 8, 9, 10, 5, 11, 12, 13] ?_; clear H; intro K hK w H)
        refine Draw.take0 rfl (X.move rfl) rfl rfl rfl (by decide +kernel) ?_
        refine Draw.take0 rfl (X.nilCheck rfl) rfl rfl rfl (by decide +kernel) ?_
        refine Draw.take0 rfl (X.fieldAddr rfl rfl rfl rfl rfl rfl) rfl rfl rfl (by decide +kernel) ?_
        refine Draw.take rfl (X.load1 rfl rfl rfl rfl (.tail .head) rfl) rfl rfl rfl (by decide +kernel) ?_
        refine Draw.take0 rfl (X.move rfl) rfl rfl rfl (by decide +kernel) ?_
        refine Draw.take0 rfl (X.move rfl) rfl rfl rfl (by decide +kernel) ?_
        refine Draw.take0 rfl (X.nilCheck rfl) rfl rfl rfl (by decide +kernel) ?_
        refine Draw.take0 rfl (X.fieldAddr rfl rfl rfl rfl rfl rfl) rfl rfl rfl (by decide +kernel) ?_
        refine Draw.take rfl (X.load1 rfl rfl rfl rfl (.tail .head) rfl) rfl rfl rfl (by decide +kernel) ?_
        refine Draw.take0 rfl (X.move rfl) rfl rfl rfl (by decide +kernel) ?_
    case' x1 =>
      refine Run.seq ?_
      (refine Run.draw H [] [0, 1, 2, 3, 4, 6, 7, 8, 9, 10, 5, 11, 12, 13] ?_; clear H; intro K hK w H)
      refine Draw.take0 rfl (X.move rfl) rfl rfl rfl (by decide +kernel) ?_
      refine Draw.take0 rfl (X.nilCheck rfl) rfl rfl rfl (by decide +kernel) ?_
      refine Draw.take0 rfl (X.fieldAddr rfl rfl rfl rfl rfl rfl) rfl rfl rfl (by decide +kernel) ?_
      refine Draw.take rfl (X.load1 rfl rfl rfl rfl (.tail .head) rfl) rfl rfl rfl (by decide +kernel) ?_
      refine Draw.take0 rfl (X.move rfl) rfl rfl rfl (by decide +kernel) ?_
      refine Draw.take0 rfl (X.move rfl) rfl rfl rfl (by decide +kernel) ?_
      refine Draw.take0 rfl (X.nilCheck rfl) rfl rfl rfl (by decide +kernel) ?_
      refine Draw.take0 rfl (X.fieldAddr rfl rfl rfl rfl rfl rfl) rfl rfl rfl (by decide +kernel) ?_
      refine Draw.take rfl (X.load1 rfl rfl rfl rfl (.tail .head) rfl) rfl rfl rfl (by decide +kernel) ?_
      refine Draw.take0 rfl (X.move rfl) rfl rfl rfl (by decide +kernel) ?_
  case' x0 =>
    refine Run.seq ?_
    (refine Run.draw H [] [0, 1, 2, 3, 5, 6, 4, 7, 8] ?_; clear H; intro K hK w H)
    refine Draw.take0 rfl (X.fieldAddr rfl rfl rfl rfl rfl rfl) rfl rfl rfl (by decide +kernel) ?_
    refine Draw.take rfl (X.load1 rfl rfl rfl rfl Pick.head rfl) rfl rfl rfl (by decide +kernel) ?_
    refine Draw.take0 rfl (X.len_slice rfl rfl rfl) rfl rfl rfl (by decide +kernel) ?_
    refine Draw.take0 rfl (X.succ rfl rfl (by omega)) rfl rfl rfl (by decide +kernel) ?_
    refine Draw.take0 rfl (X.fieldAddr rfl rfl rfl rfl rfl rfl) rfl rfl rfl (by decide +kernel) ?_
    refine Draw.take rfl (X.load1 rfl rfl rfl rfl Pick.head rfl) rfl rfl rfl (by decide +kernel) ?_
  · refine Draw.eff rfl rfl (by decide +kernel) (Y.make (len := 0) (cap := xs.length + 1) rfl rfl (by omega) rfl rfl rfl rfl (by dsimp only; omega) (by omega) rfl H ?_)
    intro nb ncs w4 H4 hnb hnl hnr
    clear H
    have H := H4
    clear H4
    refine ⟨fun e he => H.at_ e (by simp only [List.mem_cons, List.not_mem_nil, or_false] at he ⊢; grind), ?_⟩
    skip
    refine Draw.eff rfl rfl (by decide +kernel) (Y.append_room (news := xs.map (Value.int .i64)) rfl rfl rfl rfl rfl H .head (by omega) (by dsimp only at hnl ⊢; omega) (by simp) ((hxs.ext (hZ1.then H.fr)).src) (by simp [Value.oneCell']) rfl ?_)
    intro w5 H5
    rw [Nat.zero_add xs.length]
    clear H
    have H := H5
    clear H5
    dsimp only at H hnl
    have hpl : (putC ncs (0 + 0 * 1) (xs.map (Value.int .i64))).length = xs.length + 1 := by rw [putC_length]; omega
    have hpc : Cs (putC ncs (0 + 0 * 1) (xs.map (Value.int .i64))) 0 xs.length (xs.map (Value.int .i64)) := (Cs.put (by simp; omega)).cast rfl (by simp) rfl
    generalize putC ncs (0 + 0 * 1) (xs.map (Value.int .i64)) = ds at H hpl hpc
    have hnz : z.heap.size ≤ nb := Nat.le_trans hZ1.size hnb
    refine ⟨fun e he => H.at_ e (by simp only [List.mem_cons, List.not_mem_nil, or_false] at he ⊢; grind), ?_⟩
    refine Draw.take0 rfl (X.assign rfl) rfl rfl rfl (by decide +kernel) ?_
    (refine Draw.done (by decide +kernel) (hK _ _ ?_); clear hK K)
    refine Run.seq ?_
    (refine Run.draw H [9] [0, 1, 2, 3, 4, 5, 6, 7, 8, 9, 10, 11, 12, 13, 14] ?_; clear H; intro K hK w H)
    refine Draw.take0 rfl (X.move rfl) rfl rfl rfl (by decide +kernel) ?_
    refine Draw.take0 rfl (X.nilCheck rfl) rfl rfl rfl (by decide +kernel) ?_
    refine Draw.take0 rfl (X.fieldAddr rfl rfl rfl rfl rfl rfl) rfl rfl rfl (by decide +kernel) ?_
    refine Draw.take rfl (X.load1 rfl rfl rfl rfl (.tail (.tail .head)) rfl) rfl rfl rfl (by decide +kernel) ?_
    refine Draw.take0 rfl (X.fieldAddr rfl rfl rfl rfl rfl rfl) rfl rfl rfl (by decide +kernel) ?_
    refine Draw.take rfl (X.load1 rfl rfl rfl rfl (.tail .head) rfl) rfl rfl rfl (by decide +kernel) ?_
    refine Draw.take0 rfl (X.fieldAddr rfl rfl rfl rfl rfl rfl) rfl rfl rfl (by decide +kernel) ?_
    refine Draw.take rfl (X.load1 rfl rfl rfl rfl (.tail .head) rfl) rfl rfl rfl (by decide +kernel) ?_
    refine Draw.take0 rfl (X.move rfl) rfl rfl rfl (by decide +kernel) ?_
    have hnw := lt_of_at (H.pick .head)
    refine Draw.last rfl rfl (by decide +kernel) (Y.call rfl rfl (by first | assumption | decide +kernel) rfl (submit_anyP (fun b => b ≠ nb) _ o c n last client seq l _ xs (fun b hb e => by omega) ((hp.below.keepP (hZ1.then H.fr) (by simp) (by simp) (by simp)).mono fun b hb e => by omega) ⟨_, _, nb, 0, ds, 3, (0, 0), rfl, by omega, by omega, fun _ => ⟨rfl, H.pick .head⟩, hpc⟩ (fun _ b off m cap e => by cases e; exact ⟨by omega, fun e => by omega⟩) hn hL.last0 hL.lastU) rfl ?_)
    rintro v w6 ⟨rfl, hf6, c', hO6, hc'⟩
    have hF6 : Fr z w6 [o, c] := (hZ1.then H.fr).trans hf6 (by simp) (by simp)
    have hcz : c' = c ∨ z.heap.size ≤ c' := hc'.imp (fun h => h) (Nat.le_trans (hZ1.then H.fr).size)
    obtain ⟨_, hx6⟩ := h'.ref hF6
    have hn6 := hf6.get (H.pick .head) (by simp; omega)
    have hb6 := hf6.get (H.pick (.tail .head)) (by simp; omega)
    have hbn := H.nd
    clear H hc'
    have H := (((Holds.start w6 [nb]).add false hx6 (by simp) (by simp)).add false hb6 (by simp; omega) (by simp)).add true hn6 (by simpa using ⟨ne_of_ty hn6 hb6 (by decide), ne_of_ty hn6 hx6 (by decide)⟩) (by simp)
    obtain ⟨s1, s2, s3, s4, hs⟩ : ∃ s1 s2 s3 s4, subOut n last client seq xs l = (s1, s2, s3, s4) := ⟨_, _, _, _, rfl⟩
    have hLs := hL.sub client seq xs
    rw [hs] at hO6 hLs ⊢
    dsimp only at hO6 hLs ⊢
    refine Draw2.take rfl (X.move rfl) rfl rfl rfl (by decide +kernel) ?_
    refine Draw2.take rfl (X.extract rfl rfl) rfl rfl rfl (by decide +kernel) ?_
    refine Draw2.take rfl (X.extract rfl rfl) rfl rfl rfl (by decide +kernel) ?_
    refine Draw2.take rfl (X.assign rfl) rfl rfl rfl (by decide +kernel) ?_
    refine Draw2.take rfl (X.assign rfl) rfl rfl rfl (by decide +kernel) ?_
    (refine Draw2.done (by decide +kernel) (hK _ _ ?_); clear hK K)
    refine Run.seq ?_
    refine Run.seq ?_
    (refine Run.region ?_; intro K hK)
    refine Ops.pure H (X.assign rfl) rfl rfl rfl ?_
    (refine Ops.nil (hK _ _ ?_); clear hK K)
    refine Run.block ?_
    refine Run.rounds (fun (k : Nat) => [(0, .pointer (some ⟨x, 0, none⟩)), (3, .pointer (some ⟨b3, 0, none⟩)), (6, .slice (some ⟨nb, 0, none⟩) xs.length (xs.length + 1)), (7, .int .u64 s1), (8, .int .i64 s2), (9, .int .i64 (k : Nat))])
      (fun k w' => k ≤ xs.length ∧ ∃ ds, Holds w6 [nb] w' [⟨nb, row ds 3, true⟩, ⟨b3, row [.int .i64 kind, .int .i64 part, .int .u64 client, .int .u64 seq, .int .u64 id, .slice xa xs.length xcap, .bool how] 50, false⟩, ⟨x, row [.pointer (some ⟨o, 0, none⟩), .pointer (some ⟨d, 0, none⟩)] 68, false⟩] ∧ ds.length = xs.length + 1)
      (fun k => xs.length - k) 0 (by repeat (first | exact trivial | refine ⟨rfl, ?_⟩)) ⟨by omega, ds, H, hpl⟩ ?_
    clear H hpl hpc
    rintro k w7 ⟨hk, ds, H, hdl⟩ IH
    by_cases hlk : k < xs.length
    · refine Run.seq ?_
      refine Run.seq ?_
      (refine Run.region ?_; intro K hK)
      refine Ops.pure H (X.move rfl) rfl rfl rfl ?_
      refine Ops.pure H (X.move rfl) rfl rfl rfl ?_
      refine Ops.pure H (X.len_slice rfl rfl rfl) rfl rfl rfl ?_
      refine Ops.pure H (X.cmp rfl rfl rfl) rfl rfl rfl ?_
      (refine Ops.nil (hK _ _ ?_); clear hK K)
      refine Run.cond_dec rfl (fun h43 => ?x5) (fun h43 => ?y5)
      case' y5 => exfalso; omega
      case' x5 =>
        refine Run.skip ?_
        refine Run.seq ?_
        refine Run.block ?_
        (refine Run.region ?_; intro K hK)
        refine Ops.pure H (X.move rfl) rfl rfl rfl ?_
        refine Ops.pure H (X.move rfl) rfl rfl rfl ?_
        refine Ops.pure H (X.indexAddr rfl rfl (by omega) rfl rfl rfl rfl) rfl rfl rfl ?_
        (refine Ops.eff rfl (Y.storeI rfl rfl rfl rfl rfl rfl H Upd.head (by omega) ?_); intro w H0; clear H; have H := H0; clear H0)
        (refine Ops.nil (hK _ _ ?_); clear hK K)
        refine Run.inBlock ?_
        (refine Run.region ?_; intro K hK)
        refine Ops.pure H (X.move rfl) rfl rfl rfl ?_
        refine Ops.pure H (X.succ rfl rfl (by omega)) rfl rfl rfl ?_
        refine Ops.pure H (X.assign rfl) rfl rfl rfl ?_
        (refine Ops.nil (hK _ _ ?_); clear hK K)
      refine (IH (k + 1) _ (by omega) ⟨by omega, _, H, by simpa using hdl⟩).weak (by repeat (first | exact trivial | refine ⟨rfl, ?_⟩))
    · clear IH
      refine Run.seq ?_
      refine Run.seq ?_
      (refine Run.region ?_; intro K hK)
      refine Ops.pure H (X.move rfl) rfl rfl rfl ?_
      refine Ops.pure H (X.move rfl) rfl rfl rfl ?_
      refine Ops.pure H (X.len_slice rfl rfl rfl) rfl rfl rfl ?_
      refine Ops.pure H (X.cmp rfl rfl rfl) rfl rfl rfl ?_
      (refine Ops.nil (hK _ _ ?_); clear hK K)
      refine Run.cond_dec rfl (fun h43 => ?x6) (fun h43 => ?y6)
      case' y6 =>
        refine Run.exit rfl ?_
        refine Run.seq ?_
        (refine Run.draw H [10] [0, 1, 2, 3, 4, 5, 6, 7, 8, 9, 10, 11, 12, 13, 14, 15] ?_; clear H; intro K hK w H)
        refine Draw.take0 rfl (X.move rfl) rfl rfl rfl (by decide +kernel) ?_
        refine Draw.take0 rfl (X.nilCheck rfl) rfl rfl rfl (by decide +kernel) ?_
        refine Draw.take0 rfl (X.fieldAddr rfl rfl rfl rfl rfl rfl) rfl rfl rfl (by decide +kernel) ?_
        refine Draw.take rfl (X.load1 rfl rfl rfl rfl (.tail (.tail .head)) rfl) rfl rfl rfl (by decide +kernel) ?_
        refine Draw.take0 rfl (X.fieldAddr rfl rfl rfl rfl rfl rfl) rfl rfl rfl (by decide +kernel) ?_
        refine Draw.take rfl (X.load1 rfl rfl rfl rfl (.tail .head) rfl) rfl rfl rfl (by decide +kernel) ?_
        refine Draw.take0 rfl (X.fieldAddr rfl rfl rfl rfl rfl rfl) rfl rfl rfl (by decide +kernel) ?_
        refine Draw.take rfl (X.load1 rfl rfl rfl rfl (.tail .head) rfl) rfl rfl rfl (by decide +kernel) ?_
        refine Draw.take0 rfl (X.fieldAddr rfl rfl rfl rfl rfl rfl) rfl rfl rfl (by decide +kernel) ?_
        refine Draw.take rfl (X.load1 rfl rfl rfl rfl (.tail .head) rfl) rfl rfl rfl (by decide +kernel) ?_
      case' x6 => exfalso; omega
      have hF7 : Fr z _ [o, c] := hF6.trans H.fr (by simp) (by simp; omega)
      obtain ⟨hR7, hx7⟩ := h'.ref hF7
      have hO7 := (hO6.keepP H.fr (by simp; omega) (fun hm ds hd => by simp at hm; subst hm; exact ne_of_ty hn6 hd (by decide) rfl) (fun b hb hm => absurd (by simpa using hm) hb)).ord
      refine Draw.last rfl rfl (by decide +kernel) (Y.call rfl rfl (by first | assumption | decide +kernel) rfl (rsubmit_any _ d r n last client seq l _ xs hR7 (hxs.keepS hF7 (fun hp b off m cap e => by have := hva hp b off m cap e; simp; exact ⟨this.1, this.2.1⟩)) (fun hp b off m cap e => (hva hp b off m cap e).2.2) hn hL.last0 hL.lastU hl) rfl ?_)
      rintro v w8 ⟨rfl, hf8, r', hR8, hr'⟩
      rw [hs] at hR8 ⊢
      dsimp only at hR8 ⊢
      obtain ⟨q2, hq2, hs2, hF8⟩ := h'.after hF7 hO7 hcz hf8 hR8 hr' hLs
      have hn8 := hf8.get (H.pick .head) (by simp; omega)
      have hb8 := hf8.get (H.pick (.tail .head)) (by simp; omega)
      have hx8 := hf8.get (H.pick (.tail (.tail .head))) (by simp; exact ne_of_ty hx hd.at_.choose_spec (by decide))
      clear H
      have H := (((Holds.start w8 [nb]).add false hx8 (by simp) (by simp)).add false hb8 (by simp; omega) (by simp)).add true hn8 (by simpa using ⟨ne_of_ty hn8 hb8 (by decide), ne_of_ty hn8 hx8 (by decide)⟩) (by simp)
      refine Draw2.take rfl (X.move rfl) rfl rfl rfl (by decide +kernel) ?_
      refine Draw2.take rfl (X.extract rfl rfl) rfl rfl rfl (by decide +kernel) ?_
      refine Draw2.take rfl (X.extract rfl rfl) rfl rfl rfl (by decide +kernel) ?_
      refine Draw2.take rfl (X.assign rfl) rfl rfl rfl (by decide +kernel) ?_
      refine Draw2.take rfl (X.assign rfl) rfl rfl rfl (by decide +kernel) ?_
      (refine Draw2.done (by decide +kernel) (hK _ _ ?_); clear hK K)
      refine Run.seq ?_
      (refine Run.region ?_; intro K hK)
      refine Ops.pure H (X.move rfl) rfl rfl rfl ?_
      refine Ops.pure H (X.move rfl) rfl rfl rfl ?_
      refine Ops.pure H (X.cmp rfl rfl rfl) rfl rfl rfl ?_
      refine Ops.pure H (X.move rfl) rfl rfl rfl ?_
      refine Ops.split_dec rfl rfl (fun h67 => ?x7) (fun h67 => ?y7)
      case' y7 => exfalso; omega
      case' x7 =>
        refine Ops.pure H (X.move rfl) rfl rfl rfl ?_
        refine Ops.pure H (X.move rfl) rfl rfl rfl ?_
        refine Ops.pure H (X.cmp rfl rfl rfl) rfl rfl rfl ?_
        refine Ops.pure H (X.pick_t rfl rfl) rfl rfl rfl ?_
        refine Ops.pure H (X.assign rfl) rfl rfl rfl ?_
        (refine Ops.nil (hK _ _ ?_); clear hK K)
      (first | refine Fn.ret1 HF rfl rfl ?_ | refine Fn.ret2 HF rfl rfl rfl ?_ | refine Fn.ret3 HF rfl rfl rfl rfl ?_ | refine Fn.ret0 HF rfl ?_ | refine Fn.fin0 HF rfl ?_ | refine Fn.retG (E := env) HF rfl H (by first | exact RVs.cellN rfl rfl rfl (by first | exact .head | exact .tail .head | exact .tail (.tail .head) | exact .tail (.tail (.tail .head)) | exact .tail (.tail (.tail (.tail .head))) | exact .tail (.tail (.tail (.tail (.tail .head)))) | exact .tail (.tail (.tail (.tail (.tail (.tail .head)))))) (by first | assumption | exact Cs.take rfl) RVs.nil | exact RVs.cellN rfl rfl rfl (by first | exact .head | exact .tail .head | exact .tail (.tail .head) | exact .tail (.tail (.tail .head)) | exact .tail (.tail (.tail (.tail .head))) | exact .tail (.tail (.tail (.tail (.tail .head)))) | exact .tail (.tail (.tail (.tail (.tail (.tail .head)))))) (by first | assumption | exact Cs.take rfl) (RVs.tmp rfl RVs.nil)) rfl ?_)
      exact ⟨by simp, q2, hq2, hs2, hF8⟩
  · refine Draw.eff rfl rfl (by decide +kernel) (Y.call rfl rfl (by first | assumption | decide +kernel) rfl (done_any _ o c n last m l (hp.ext (hZ1.then H.fr))) rfl ?_)
    rintro v w4 ⟨rfl, hf4, hO4⟩
    have hF4 : Fr z w4 [o, c] := (hZ1.then H.fr).trans hf4 (by simp) (by simp)
    obtain ⟨hR4, hx4⟩ := h'.ref hF4
    have hb4 := hf4.get (H.pick .head) (by simp; omega)
    clear H
    have H := ((Holds.start w4 []).add false hx4 (by simp) (by simp)).add false hb4 (by simp; omega) (by simp)
    refine ⟨H.at_, ?_⟩
    skip
    refine Draw.eff rfl rfl (by decide +kernel) (Y.call rfl rfl (by first | assumption | decide +kernel) rfl (rends_any _ d r n last m l true (hR4.ext H.fr) hl) rfl ?_)
    rintro v w5 ⟨rfl, hf5, r', hR5, hr'⟩
    obtain ⟨q2, hq2, hs2, hF5⟩ := h'.after (hF4.trans H.fr (by simp) (by simp)) (hO4.ext H.fr) (.inl rfl) hf5 hR5 hr' hL.ends
    have hb5 := hf5.get (H.pick .head) (by simp; omega)
    have hx5 := hf5.get (H.pick (.tail .head)) (by simp; exact ne_of_ty hx hd.at_.choose_spec (by decide))
    clear H
    have H := ((Holds.start w5 []).add false hx5 (by simp) (by simp)).add false hb5 (by simp; omega) (by simp)
    refine ⟨H.at_, ?_⟩
    refine Draw.take0 rfl (X.cmp rfl rfl rfl) rfl rfl rfl (by decide +kernel) ?_
    refine Draw.take0 rfl (X.assign rfl) rfl rfl rfl (by decide +kernel) ?_
    (refine Draw.done (by decide +kernel) (hK _ _ ?_); clear hK K)
    (first | refine Fn.ret1 HF rfl rfl ?_ | refine Fn.ret2 HF rfl rfl rfl ?_ | refine Fn.ret3 HF rfl rfl rfl rfl ?_ | refine Fn.ret0 HF rfl ?_ | refine Fn.fin0 HF rfl ?_ | refine Fn.retG (E := env) HF rfl H (by first | exact RVs.cellN rfl rfl rfl (by first | exact .head | exact .tail .head | exact .tail (.tail .head) | exact .tail (.tail (.tail .head)) | exact .tail (.tail (.tail (.tail .head))) | exact .tail (.tail (.tail (.tail (.tail .head)))) | exact .tail (.tail (.tail (.tail (.tail (.tail .head)))))) (by first | assumption | exact Cs.take rfl) RVs.nil | exact RVs.cellN rfl rfl rfl (by first | exact .head | exact .tail .head | exact .tail (.tail .head) | exact .tail (.tail (.tail .head)) | exact .tail (.tail (.tail (.tail .head))) | exact .tail (.tail (.tail (.tail (.tail .head)))) | exact .tail (.tail (.tail (.tail (.tail (.tail .head)))))) (by first | assumption | exact Cs.take rfl) (RVs.tmp rfl RVs.nil)) rfl ?_)
    exact ⟨by simp, q2, hq2.ext H.fr, hs2, hF5.trans H.fr (by simp) (by simp)⟩
  · refine Draw.eff rfl rfl (by decide +kernel) (Y.call rfl rfl (by first | assumption | decide +kernel) rfl (drop_any _ o c n last m l (hp.ext (hZ1.then H.fr))) rfl ?_)
    rintro v w4 ⟨rfl, hf4, hO4⟩
    have hF4 : Fr z w4 [o, c] := (hZ1.then H.fr).trans hf4 (by simp) (by simp)
    obtain ⟨hR4, hx4⟩ := h'.ref hF4
    have hb4 := hf4.get (H.pick .head) (by simp; omega)
    clear H
    have H := ((Holds.start w4 []).add false hx4 (by simp) (by simp)).add false hb4 (by simp; omega) (by simp)
    refine ⟨H.at_, ?_⟩
    skip
    refine Draw.eff rfl rfl (by decide +kernel) (Y.call rfl rfl (by first | assumption | decide +kernel) rfl (rends_any _ d r n last m l false (hR4.ext H.fr) hl) rfl ?_)
    rintro v w5 ⟨rfl, hf5, r', hR5, hr'⟩
    obtain ⟨q2, hq2, hs2, hF5⟩ := h'.after (hF4.trans H.fr (by simp) (by simp)) (hO4.ext H.fr) (.inl rfl) hf5 hR5 hr' hL.ends
    have hb5 := hf5.get (H.pick .head) (by simp; omega)
    have hx5 := hf5.get (H.pick (.tail .head)) (by simp; exact ne_of_ty hx hd.at_.choose_spec (by decide))
    clear H
    have H := ((Holds.start w5 []).add false hx5 (by simp) (by simp)).add false hb5 (by simp; omega) (by simp)
    refine ⟨H.at_, ?_⟩
    refine Draw.take0 rfl (X.cmp rfl rfl rfl) rfl rfl rfl (by decide +kernel) ?_
    refine Draw.take0 rfl (X.assign rfl) rfl rfl rfl (by decide +kernel) ?_
    (refine Draw.done (by decide +kernel) (hK _ _ ?_); clear hK K)
    (first | refine Fn.ret1 HF rfl rfl ?_ | refine Fn.ret2 HF rfl rfl rfl ?_ | refine Fn.ret3 HF rfl rfl rfl rfl ?_ | refine Fn.ret0 HF rfl ?_ | refine Fn.fin0 HF rfl ?_ | refine Fn.retG (E := env) HF rfl H (by first | exact RVs.cellN rfl rfl rfl (by first | exact .head | exact .tail .head | exact .tail (.tail .head) | exact .tail (.tail (.tail .head)) | exact .tail (.tail (.tail (.tail .head))) | exact .tail (.tail (.tail (.tail (.tail .head)))) | exact .tail (.tail (.tail (.tail (.tail (.tail .head)))))) (by first | assumption | exact Cs.take rfl) RVs.nil | exact RVs.cellN rfl rfl rfl (by first | exact .head | exact .tail .head | exact .tail (.tail .head) | exact .tail (.tail (.tail .head)) | exact .tail (.tail (.tail (.tail .head))) | exact .tail (.tail (.tail (.tail (.tail .head)))) | exact .tail (.tail (.tail (.tail (.tail (.tail .head)))))) (by first | assumption | exact Cs.take rfl) (RVs.tmp rfl RVs.nil)) rfl ?_)
    exact ⟨by simp, q2, hq2.ext H.fr, hs2, hF5.trans H.fr (by simp) (by simp)⟩
  · refine Draw.eff rfl rfl (by decide +kernel) (Y.call rfl rfl (by first | assumption | decide +kernel) rfl (raise_any _ o c n last m l (hp.ext (hZ1.then H.fr))) rfl ?_)
    rintro v w4 ⟨rfl, hf4, hO4⟩
    have hF4 : Fr z w4 [o, c] := (hZ1.then H.fr).trans hf4 (by simp) (by simp)
    obtain ⟨hR4, hx4⟩ := h'.ref hF4
    have hb4 := hf4.get (H.pick .head) (by simp; omega)
    clear H
    have H := ((Holds.start w4 []).add false hx4 (by simp) (by simp)).add false hb4 (by simp; omega) (by simp)
    refine ⟨H.at_, ?_⟩
    skip
    refine Draw.eff rfl rfl (by decide +kernel) (Y.call rfl rfl (by first | assumption | decide +kernel) rfl (rraise_any _ d r n last m l (hR4.ext H.fr)) rfl ?_)
    rintro v w5 ⟨rfl, hf5, hR5⟩
    obtain ⟨q2, hq2, hs2, hF5⟩ := h'.after (hF4.trans H.fr (by simp) (by simp)) (hO4.ext H.fr) (.inl rfl) hf5 hR5 (.inl rfl) (hL.raise hm0 hm1)
    have hb5 := hf5.get (H.pick .head) (by simp; omega)
    have hx5 := hf5.get (H.pick (.tail .head)) (by simp; exact ne_of_ty hx hd.at_.choose_spec (by decide))
    clear H
    have H := ((Holds.start w5 []).add false hx5 (by simp) (by simp)).add false hb5 (by simp; omega) (by simp)
    refine ⟨H.at_, ?_⟩
    refine Draw.take0 rfl (X.cmp rfl rfl rfl) rfl rfl rfl (by decide +kernel) ?_
    refine Draw.take0 rfl (X.assign rfl) rfl rfl rfl (by decide +kernel) ?_
    (refine Draw.done (by decide +kernel) (hK _ _ ?_); clear hK K)
    (first | refine Fn.ret1 HF rfl rfl ?_ | refine Fn.ret2 HF rfl rfl rfl ?_ | refine Fn.ret3 HF rfl rfl rfl rfl ?_ | refine Fn.ret0 HF rfl ?_ | refine Fn.fin0 HF rfl ?_ | refine Fn.retG (E := env) HF rfl H (by first | exact RVs.cellN rfl rfl rfl (by first | exact .head | exact .tail .head | exact .tail (.tail .head) | exact .tail (.tail (.tail .head)) | exact .tail (.tail (.tail (.tail .head))) | exact .tail (.tail (.tail (.tail (.tail .head)))) | exact .tail (.tail (.tail (.tail (.tail (.tail .head)))))) (by first | assumption | exact Cs.take rfl) RVs.nil | exact RVs.cellN rfl rfl rfl (by first | exact .head | exact .tail .head | exact .tail (.tail .head) | exact .tail (.tail (.tail .head)) | exact .tail (.tail (.tail (.tail .head))) | exact .tail (.tail (.tail (.tail (.tail .head)))) | exact .tail (.tail (.tail (.tail (.tail (.tail .head)))))) (by first | assumption | exact Cs.take rfl) (RVs.tmp rfl RVs.nil)) rfl ?_)
    exact ⟨by simp, q2, hq2.ext H.fr, hs2, hF5.trans H.fr (by simp) (by simp)⟩
  · refine Ops.eff rfl (Y.call rfl rfl (by first | assumption | decide +kernel) rfl (looks_any _ x n ⟨o, c, d, r, last, l⟩ m part (h'.ext (hZ1.then H.fr))) rfl ?_)
    rintro v w4 ⟨rfl, hf4⟩
    replace H := H.ext hf4
    refine Ops.pure H (X.assign rfl) rfl rfl rfl ?_
    (refine Ops.nil (hK _ _ ?_); clear hK K)
    (first | refine Fn.ret1 HF rfl rfl ?_ | refine Fn.ret2 HF rfl rfl rfl ?_ | refine Fn.ret3 HF rfl rfl rfl rfl ?_ | refine Fn.ret0 HF rfl ?_ | refine Fn.fin0 HF rfl ?_ | refine Fn.retG (E := env) HF rfl H (by first | exact RVs.cellN rfl rfl rfl (by first | exact .head | exact .tail .head | exact .tail (.tail .head) | exact .tail (.tail (.tail .head)) | exact .tail (.tail (.tail (.tail .head))) | exact .tail (.tail (.tail (.tail (.tail .head)))) | exact .tail (.tail (.tail (.tail (.tail (.tail .head)))))) (by first | assumption | exact Cs.take rfl) RVs.nil | exact RVs.cellN rfl rfl rfl (by first | exact .head | exact .tail .head | exact .tail (.tail .head) | exact .tail (.tail (.tail .head)) | exact .tail (.tail (.tail (.tail .head))) | exact .tail (.tail (.tail (.tail (.tail .head)))) | exact .tail (.tail (.tail (.tail (.tail (.tail .head)))))) (by first | assumption | exact Cs.take rfl) (RVs.tmp rfl RVs.nil)) rfl ?_)
    exact ⟨rfl, _, h'.ext (hZ1.then H.fr), Step.refl _ _, (hZ1.then H.fr).mono (by simp)⟩
  · (first | refine Fn.ret1 HF rfl rfl ?_ | refine Fn.ret2 HF rfl rfl rfl ?_ | refine Fn.ret3 HF rfl rfl rfl rfl ?_ | refine Fn.ret0 HF rfl ?_ | refine Fn.fin0 HF rfl ?_ | refine Fn.retG (E := env) HF rfl H (by first | exact RVs.cellN rfl rfl rfl (by first | exact .head | exact .tail .head | exact .tail (.tail .head) | exact .tail (.tail (.tail .head)) | exact .tail (.tail (.tail (.tail .head))) | exact .tail (.tail (.tail (.tail (.tail .head)))) | exact .tail (.tail (.tail (.tail (.tail (.tail .head)))))) (by first | assumption | exact Cs.take rfl) RVs.nil | exact RVs.cellN rfl rfl rfl (by first | exact .head | exact .tail .head | exact .tail (.tail .head) | exact .tail (.tail (.tail .head)) | exact .tail (.tail (.tail (.tail .head))) | exact .tail (.tail (.tail (.tail (.tail .head)))) | exact .tail (.tail (.tail (.tail (.tail (.tail .head)))))) (by first | assumption | exact Cs.take rfl) (RVs.tmp rfl RVs.nil)) rfl ?_)
    exact ⟨rfl, _, h'.ext (hZ1.then H.fr), Step.refl _ _, (hZ1.then H.fr).mono (by simp)⟩
end Go.Proofs.Ythidohdnaeboaaa
