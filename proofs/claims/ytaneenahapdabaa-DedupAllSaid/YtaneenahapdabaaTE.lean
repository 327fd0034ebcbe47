/- Walks of layer 20: spoil; stands. -/
import Derived.Test.YtaneenahapdabaaTD
import Derived.Test.YtaneenahapdabaaT7
namespace Go.Proofs.Ytaneenahapdabaa
open Go
set_option maxRecDepth 20000
set_option maxHeartbeats 2000000
attribute [local irreducible] Run Ops Fn Draw Draw2 PureOp StepZ

theorem Cs.any {cs : List Value} {off n : Nat} (h : off + n ≤ cs.length) : Cs cs off n ((cs.drop off).take n) :=
  Cs.ofGet _ _ _ (by simp; omega) fun j hj => by rw [List.getElem?_take_of_lt hj, List.getElem?_drop]
theorem Own.fresh5 {w : World} {z : Nat} {v : Value} {xs : List Int} (h : Own w z 5 1 v xs.length (u8s xs)) : Fresh5 w z v xs := by
  rcases h with ⟨h0, _, rfl⟩ | ⟨b, cap, cs, rfl, h2, h3, h4, h5, h6, h7⟩
  · have : xs = [] := List.eq_nil_of_length_eq_zero h0
    subst this
    exact ⟨none, 0, rfl, by omega, .inl ⟨rfl, rfl⟩⟩
  · exact ⟨_, cap, rfl, h3, .inr ⟨b, cs, rfl, h4, h2, h5, by omega, by simpa using h7⟩⟩
theorem spoil_any (z : World) (B : Nat) (v : Value) (xs : List Int) (h : Fresh5 z B v xs) (hl : xs.length ≤ 140737488355327) :
    Fn env.P 28 [v] z fun _ w' => ∃ S, Fr z w' S ∧ ∀ b ∈ S, B ≤ b ∧ ∃ n cap, v = .slice (some ⟨b, 0, none⟩) n cap := by
  obtain ⟨a, cap, rfl, hc, ⟨rfl, rfl⟩ | ⟨b, cs, rfl, hB, hcl, hb, hcs, hC⟩⟩ := h
  · have H := Holds.start z []
    have HF := Try.func28; refine Fn.enter Try.func28 Try.ntmps28 rfl rfl rfl ?_
    refine Run.seq ?_
    (refine Run.seq (Run.region ?_); intro K hK)
    refine Ops.pure H (X.assign rfl) rfl rfl rfl ?_
    (refine Ops.nil (hK _ _ ?_); clear hK K)
    refine Run.block ?_
    refine Run.rounds (fun (_ : Nat) => [(0, .slice a 0 0), (2, .int .i64 0)]) (fun _ w' => Fr z w' []) (fun _ => 0) 0 (by repeat (first | exact trivial | refine ⟨rfl, ?_⟩)) H.fr ?_
    clear H
    rintro _ w1 hf IH
    have H := Holds.start w1 []
    refine Run.seq ?_
    (refine Run.seq (Run.region ?_); intro K hK)
    refine Ops.pure H (X.move rfl) rfl rfl rfl ?_
    refine Ops.pure H (X.move rfl) rfl rfl rfl ?_
    refine Ops.pure H (X.len_slice rfl rfl rfl) rfl rfl rfl ?_
    refine Ops.pure H (X.cmp rfl rfl rfl) rfl rfl rfl ?_
    (refine Ops.nil (hK _ _ ?_); clear hK K)
    refine Run.cond_false rfl ?_
    refine Run.exit rfl ?_
    (refine Run.region ?_; intro K hK)
    refine Ops.pure H (X.move rfl) rfl rfl rfl ?_
    (refine Ops.eff rfl (Y.buildSliceO rfl rfl rfl rfl rfl rfl rfl rfl H ?_); intro b13 w H0 hb13; clear H; have H := H0; clear H0)
    refine Ops.eff rfl (Y.append_grow (olds := []) (news := [.int .u8 85]) rfl rfl rfl rfl rfl H (by omega) Src.nil (by simp) rfl (Src.row (m := 1) H .head (Cs.take rfl)) rfl (by simp) (by simp) rfl ?_)
    intro b7 cap7 sp w2 H2 _ _ _ _
    clear H
    have H := H2
    (refine Ops.nil (hK _ _ ?_); clear hK K)
    (first | refine Fn.ret0 HF rfl ?_ | refine Fn.fin0 HF rfl ?_)
    exact ⟨[], hf.then H.fr, by simp⟩
  · have H := Holds.start z []
    have HF := Try.func28; refine Fn.enter Try.func28 Try.ntmps28 rfl rfl rfl ?_
    refine Run.seq ?_
    (refine Run.seq (Run.region ?_); intro K hK)
    refine Ops.pure H (X.assign rfl) rfl rfl rfl ?_
    (refine Ops.nil (hK _ _ ?_); clear hK K)
    refine Run.block ?_
    refine Run.rounds (fun (i : Nat) => [(0, .slice (some ⟨b, 0, none⟩) xs.length cap), (2, .int .i64 (i : Nat))]) (fun i w' => i ≤ xs.length ∧ Fr z w' [b] ∧ ∃ cs', w'.heap[b]? = some (row cs' 5) ∧ cs'.length = cap) (fun i => xs.length - i) 0 (by repeat (first | exact trivial | refine ⟨rfl, ?_⟩)) ⟨by omega, H.fr.mono (by simp), cs, H.fr.get hb (by simp), hcs⟩ ?_
    clear H
    rintro i w1 ⟨hi, hf, cs', hb1, hcs'⟩ IH
    have H := (Holds.start w1 [b]).add true hb1 (by simp) (by simp)
    by_cases hlt : i < xs.length
    · refine Run.seq ?_
      (refine Run.seq (Run.region ?_); intro K hK)
      refine Ops.pure H (X.move rfl) rfl rfl rfl ?_
      refine Ops.pure H (X.move rfl) rfl rfl rfl ?_
      refine Ops.pure H (X.len_slice rfl rfl rfl) rfl rfl rfl ?_
      refine Ops.pure H (X.cmp rfl rfl rfl) rfl rfl rfl ?_
      (refine Ops.nil (hK _ _ ?_); clear hK K)
      refine Run.cond_dec rfl (fun h6 => ?x0) (fun h6 => ?y0)
      case' y0 => exfalso; omega
      case' x0 =>
        refine Run.skip ?_
        refine Run.seq ?_
        refine Run.block ?_
        (refine Run.region ?_; intro K hK)
        refine Ops.pure H (X.move rfl) rfl rfl rfl ?_
        refine Ops.pure H (X.move rfl) rfl rfl rfl ?_
        refine Ops.pure H (X.indexAddr rfl rfl (by omega) rfl rfl rfl rfl) rfl rfl rfl ?_
        (refine Ops.eff rfl (Y.storeI rfl rfl rfl rfl rfl rfl H Upd.head (by first | omega | (simp only [List.length_set]; omega)) ?_); intro w H0; clear H; have H := H0; clear H0)
        (refine Ops.nil (hK _ _ ?_); clear hK K)
        refine Run.inBlock ?_
        (refine Run.region ?_; intro K hK)
        refine Ops.pure H (X.move rfl) rfl rfl rfl ?_
        refine Ops.pure H (X.succ rfl rfl (by omega)) rfl rfl rfl ?_
        refine Ops.pure H (X.assign rfl) rfl rfl rfl ?_
        (refine Ops.nil (hK _ _ ?_); clear hK K)
      refine (IH (i + 1) _ (by omega) ⟨by omega, hf.trans H.fr (fun _ h => h) (fun x hx _ => hx), _, H.pick (b := b) (by repeat (first | exact .head | apply Pick.tail)), by simp [hcs']⟩).weak (by repeat (first | exact trivial | refine ⟨rfl, ?_⟩))
    · obtain rfl : i = xs.length := by omega
      refine Run.seq ?_
      (refine Run.seq (Run.region ?_); intro K hK)
      refine Ops.pure H (X.move rfl) rfl rfl rfl ?_
      refine Ops.pure H (X.move rfl) rfl rfl rfl ?_
      refine Ops.pure H (X.len_slice rfl rfl rfl) rfl rfl rfl ?_
      refine Ops.pure H (X.cmp rfl rfl rfl) rfl rfl rfl ?_
      (refine Ops.nil (hK _ _ ?_); clear hK K)
      refine Run.cond_dec rfl (fun h6 => ?x1) (fun h6 => ?y1)
      case' y1 =>
        refine Run.exit rfl ?_
        (refine Run.region ?_; intro K hK)
        refine Ops.pure H (X.move rfl) rfl rfl rfl ?_
        (refine Ops.eff rfl (Y.buildSliceO rfl rfl rfl rfl rfl rfl rfl rfl H ?_); intro b13 w H0 hb13; clear H; have H := H0; clear H0)
      case' x1 => exfalso; omega
      by_cases hroom : xs.length + 1 ≤ cap
      · refine Ops.eff rfl (Y.append_room (news := [.int .u8 85]) rfl rfl rfl rfl rfl H (.tail .head) hroom (by dsimp only; omega) rfl (Src.row (m := 1) H .head (Cs.take rfl)) (by simp [Value.oneCell']) rfl ?_)
        intro w2 H2
        clear H
        have H := H2
        (refine Ops.nil (hK _ _ ?_); clear hK K)
        (first | refine Fn.ret0 HF rfl ?_ | refine Fn.fin0 HF rfl ?_)
        exact ⟨[b], hf.trans H.fr (fun _ h => h) (fun x hx _ => hx), by simpa using hB⟩
      · refine Ops.eff rfl (Y.append_grow (olds := (cs'.drop 0).take xs.length) (news := [.int .u8 85]) rfl rfl rfl rfl rfl H (by omega) (Src.row (m := xs.length) H (.tail .head) (Cs.any (by omega))) (by simp; omega) rfl (Src.row (m := 1) H .head (Cs.take rfl)) rfl (by dsimp only; omega) (by omega) rfl ?_)
        intro b7 cap7 sp w2 H2 _ _ _ _
        clear H
        have H := H2
        (refine Ops.nil (hK _ _ ?_); clear hK K)
        (first | refine Fn.ret0 HF rfl ?_ | refine Fn.fin0 HF rfl ?_)
        exact ⟨[b], hf.trans H.fr (fun _ h => h) (fun x hx _ => hx), by simpa using hB⟩
theorem sum_same {W : WS} {ks ids : List Int} (h1 : ks.Nodup) (h2 : ids.Pairwise (· < ·)) (h : ∀ x, x ∈ ks ↔ x ∈ ids) : (ks.map (lenOf W)).sum = (ids.map fun x => ((st W x).getD cs0).seqs.length).sum := by
  have nb : ids.Nodup := h2.imp (fun h e => by omega)
  have hp : ks.Perm ids := (List.perm_ext_iff_of_nodup h1 nb).2 h
  have he : ∀ x, lenOf W x = ((st W x).getD cs0).seqs.length := fun x => by
    unfold lenOf
    cases st W x with
    | none => rfl
    | some s => rfl
  have := (hp.map (lenOf W)).sum_nat
  rw [this]
  congr 1
  exact List.map_congr_left fun x _ => he x
/-- A window by the program and by the document. -/
structure PR (z : Nat) (w : World) (pb : Nat) (W : WS) (db n : Nat) (ids : List Int) : Prop where
  row : w.heap[pb]? = some (row [.pointer (some ⟨W.wb, 0, none⟩), .pointer (some ⟨db, 0, none⟩)] 36)
  pw : Wn w W
  gw : ∀ b, Foot W b → z ≤ b
  nw : W.size = n
  n1 : 1 ≤ n
  n2 : n ≤ 64
  nn : W.N ≤ 1024
  u : ∀ x s, st W x = some s → U64 x ∧ Full n s
  rd : RD w db n ids (st W)
  up : ids.Pairwise (· < ·)
  mem : ∀ x, x ∈ ids ↔ (st W x).isSome = true
  len : ids.length = W.N
  pz : z ≤ pb
  dz : z ≤ db
theorem PR.ext {z : Nat} {w w' : World} {pb : Nat} {W : WS} {db n : Nat} {ids : List Int} (h : PR z w pb W db n ids) (hf : Fr w w' []) : PR z w' pb W db n ids :=
  { h with row := hf.get h.row (by simp), pw := h.pw.ext hf, rd := h.rd.ext hf }
theorem PR.memW {z : Nat} {w : World} {pb : Nat} {W : WS} {db n : Nat} {ids : List Int} (h : PR z w pb W db n ids) (x : Int) : x ∈ ids ↔ (W.m x).isSome = true := by
  rw [h.mem, st]
  cases W.m x <;> simp
theorem PR.wok {z : Nat} {w : World} {pb : Nat} {W : WS} {db n : Nat} {ids : List Int} (h : PR z w pb W db n ids) : WOk W :=
  ⟨by rw [h.nw]; have := h.n1; have := h.n2; omega, h.nn, fun x c hx => by
    obtain ⟨a, b⟩ := h.u x c.s (by rw [st, hx]; rfl)
    exact ⟨a, b.ok⟩⟩
theorem PR.each {z : Nat} {w : World} {pb : Nat} {W : WS} {db n : Nat} {ids : List Int} (h : PR z w pb W db n ids) : ∀ x ∈ ids, U64 x ∧ COk ((st W x).getD cs0) ∧ ((st W x).getD cs0).seqs.length ≤ 64 := fun x hx => by
  obtain ⟨s, hs⟩ := Option.isSome_iff_exists.1 ((h.mem x).1 hx)
  obtain ⟨e1, e2⟩ := h.u x s hs
  rw [hs]
  exact ⟨e1, e2.ok, by have := e2.le; have := h.n2; simp only [Option.getD_some]; omega⟩
theorem stands_any (z0 : Nat) (z : World) (pb : Nat) (W : WS) (db n : Nat) (ids : List Int) (h : PR z0 z pb W db n ids) :
    Fn env.P 13 [.pointer (some ⟨pb, 0, none⟩)] z fun v w' => v = .bool true ∧ Fr z w' [] := by
  have hrow := h.row
  obtain ⟨dv, hd, hRC⟩ := h.rd
  have hpd : pb ≠ db := ne_of_ty hrow hd (by decide)
  have hids : ids.length ≤ 1024 := by rw [h.len]; exact h.nn
  obtain ⟨lv, hV, hL⟩ := hRC
  obtain ⟨da, dcap, rfl⟩ := hV.slice
  have H := (Holds.start z []).add false hrow (by simp) (by simp)
  have HF := Try.func13; refine Fn.enter Try.func13 Try.ntmps13 rfl rfl rfl ?_
  (refine Run.seq (Run.region ?_); intro K hK)
  refine Ops.pure H (X.assign rfl) rfl rfl rfl ?_
  (refine Ops.nil (hK _ _ (Run.seq (Run.region ?_))); clear hK K; intro K hK)
  refine Ops.pure H (X.move rfl) rfl rfl rfl ?_
  refine Ops.pure H (X.nilCheck rfl) rfl rfl rfl ?_
  refine Ops.pure H (X.fieldAddr rfl rfl rfl rfl rfl rfl) rfl rfl rfl ?_
  refine Ops.pure H (X.load1 rfl rfl rfl rfl Pick.head rfl) rfl rfl rfl ?_
  refine Ops.eff rfl (Y.call rfl rfl (by first | assumption | decide +kernel) rfl (clients_any _ W (h.pw.ext H.fr) h.nn) rfl ?_)
  rintro v w1 ⟨ys, y1, y2, y3, y4, hf1⟩
  have hy : ys = ids := ids_one _ _ y2 h.up (fun x => by rw [y1, h.memW])
  subst hy
  have F1 := H.fr.then hf1
  have hz1 := H.fr.size
  replace y4 := y4.low hz1
  obtain ⟨ka, kcap, rfl, hka⟩ := y4
  clear H
  have hrow1 := F1.get hrow (by simp)
  have hd1 := F1.get hd (by simp)
  have H := ((Holds.start w1 []).add false hd1 (by simp) (by simp)).add false hrow1 (by simpa using hpd) (by simp)
  refine Ops.pure H (X.assign rfl) rfl rfl rfl ?_
  (refine Ops.nil (hK _ _ ?_); clear hK K)
  refine Run.seq ?_
  refine Run.seq ?_
  (refine Run.draw H [] [0, 1, 2, 3, 4, 5, 6, 7, 8, 9, 10, 11, 12, 13, 14, 15, 17, 18, 19, 20, 16, 21, 22, 23] ?_; clear H; intro K hK w H)
  refine Draw.take0 rfl (X.move rfl) rfl rfl rfl (by decide +kernel) ?_
  refine Draw.take0 rfl (X.len_slice rfl rfl rfl) rfl rfl rfl (by decide +kernel) ?_
  refine Draw.take0 rfl (X.move rfl) rfl rfl rfl (by decide +kernel) ?_
  refine Draw.take0 rfl (X.nilCheck rfl) rfl rfl rfl (by decide +kernel) ?_
  refine Draw.take0 rfl (X.fieldAddr rfl rfl rfl rfl rfl rfl) rfl rfl rfl (by decide +kernel) ?_
  refine Draw.take rfl (X.load1 rfl rfl rfl rfl Pick.head rfl) rfl rfl rfl (by decide +kernel) ?_
  refine Draw.take0 rfl (X.nilCheck rfl) rfl rfl rfl (by decide +kernel) ?_
  refine Draw.take0 rfl (X.fieldAddr rfl rfl rfl rfl rfl rfl) rfl rfl rfl (by decide +kernel) ?_
  refine Draw.take rfl (X.load1 rfl rfl rfl rfl (.tail .head) rfl) rfl rfl rfl (by decide +kernel) ?_
  refine Draw.take0 rfl (X.len_slice rfl rfl rfl) rfl rfl rfl (by decide +kernel) ?_
  refine Draw.take0 rfl (X.cmp rfl rfl rfl) rfl rfl rfl (by decide +kernel) ?_
  refine Draw.take0 rfl (X.move rfl) rfl rfl rfl (by decide +kernel) ?_
  refine Draw.split_ndec rfl rfl rfl (fun h24 => ?x2) (fun h24 => ?y2)
  case' y2 =>
    refine Draw.take0 rfl (X.move rfl) rfl rfl rfl (by decide +kernel) ?_
    refine Draw.take0 rfl (X.nilCheck rfl) rfl rfl rfl (by decide +kernel) ?_
    refine Draw.take0 rfl (X.fieldAddr rfl rfl rfl rfl rfl rfl) rfl rfl rfl (by decide +kernel) ?_
    refine Draw.take rfl (X.load1 rfl rfl rfl rfl Pick.head rfl) rfl rfl rfl (by decide +kernel) ?_
    refine Draw.take0 rfl (X.move rfl) rfl rfl rfl (by decide +kernel) ?_
    refine Draw.take0 rfl (X.nilCheck rfl) rfl rfl rfl (by decide +kernel) ?_
    refine Draw.take0 rfl (X.fieldAddr rfl rfl rfl rfl rfl rfl) rfl rfl rfl (by decide +kernel) ?_
    refine Draw.take rfl (X.load1 rfl rfl rfl rfl Pick.head rfl) rfl rfl rfl (by decide +kernel) ?_
  case' x2 => exfalso; omega
  refine Draw.eff rfl rfl (by decide +kernel) (Y.call rfl rfl (by first | assumption | decide +kernel) rfl (wlen_any _ W (h.pw.ext (F1.then H.fr)) h.nn) rfl ?_)
  rintro v w2 ⟨hf2, ks, ks1, ks2, rfl⟩
  rw [sum_same ks1 h.up (fun x => by rw [ks2, ← h.memW])]
  replace H := H.ext hf2
  refine ⟨H.at_, ?_⟩
  skip
  refine Draw.eff rfl rfl (by decide +kernel) (Y.call rfl rfl (by first | assumption | decide +kernel) rfl (dlen_any _ db n ys (st W) (h.rd.ext (F1.then H.fr)) hids (fun x s hx => by have := (h.u x s hx).2.le; have := h.n2; omega)) rfl ?_)
  rintro v w3 ⟨rfl, hf3⟩
  replace H := H.ext hf3
  refine ⟨H.at_, ?_⟩
  refine Draw.take0 rfl (X.cmp rfl rfl rfl) rfl rfl rfl (by decide +kernel) ?_
  refine Draw.take0 rfl (X.pick_f rfl rfl) rfl rfl rfl (by decide +kernel) ?_
  (refine Draw.done (by decide +kernel) (hK _ _ ?_); clear hK K)
  refine Run.cond_ndec rfl (fun h35 => ?x3) (fun h35 => ?y3)
  case' y3 =>
    refine Run.skip ?_
    refine Run.seq ?_
    (refine Run.seq (Run.region ?_); intro K hK)
    refine Ops.pure H (X.assign rfl) rfl rfl rfl ?_
    (refine Ops.nil (hK _ _ ?_); clear hK K)
    refine Run.block ?_
  case' x3 => exfalso; omega
  have F3 := F1.then H.fr
  refine Run.rounds (fun (i : Nat) => [(0, .pointer (some ⟨pb, 0, none⟩)), (3, .slice ka ys.length kcap), (4, .int .i64 (i : Nat))]) (fun i w' => i ≤ ys.length ∧ Fr z w' [] ∧ (0 < ys.length → ∃ b cs, ka = some ⟨b, 0, none⟩ ∧ z.heap.size ≤ b ∧ w'.heap[b]? = some (row cs 28) ∧ ∀ j, i ≤ j → j < ys.length → cs[0 + j * 1]? = some (.int .u64 (ys.getD j 0)))) (fun i => ys.length - i) 0 (by repeat (first | exact trivial | refine ⟨rfl, ?_⟩)) ?_ ?_
  · refine ⟨by omega, F3, fun hp => ?_⟩
    obtain ⟨b, cs, e1, e2, e3, e4⟩ := hka hp
    exact ⟨b, cs, e1, e2, H.fr.get e3 (by simp), fun j _ hj => by rw [Nat.mul_one, e4.toGet hj]; simp [hj]⟩
  clear H hka hrow1 hd1 hf1 hf2 hf3
  rintro i w4 ⟨hi, F4, hl4⟩ IH
  have hrow4 := F4.get hrow (by simp)
  have hd4 := F4.get hd (by simp)
  by_cases hlt : i < ys.length
  · obtain ⟨lb, lcs, rfl, hlz, hlb, hlj⟩ := hl4 (by omega)
    obtain ⟨b, off, cs, rfl, hb, hcs⟩ := hV.pos (by omega)
    have hb4 := F4.get hb (by simp)
    have hci := hcs i hlt
    have c0 : cs[off + i * 3 + 0]? = some (.int .u64 (ys.getD i 0)) := hci.get 0 _ rfl
    have c1 : cs[off + i * 3 + 1]? = some (.int .u64 (gm (st W) ys i).floor) := hci.get 1 _ rfl
    have l0 := hlj i (Nat.le_refl _) hlt
    have hlen0 : 0 + i * 1 < lcs.length := (List.getElem?_eq_some_iff.1 l0).1
    have n1 : b ≠ db := ne_of_ty hb hd (by decide)
    have n2 : b ≠ pb := ne_of_ty hb hrow (by decide)
    have n3 : lb ≠ pb := ne_of_ty hlb hrow4 (by decide)
    have n4 : lb ≠ db := ne_of_ty hlb hd4 (by decide)
    have n5 : lb ≠ b := ne_of_ty hlb hb4 (by decide)
    have hfe : floorC (st W (ys.getD i 0)) = (gm (st W) ys i).floor := by
      obtain ⟨s, hs⟩ := Option.isSome_iff_exists.1 ((h.mem (ys.getD i 0)).1 (by simp [hlt]))
      rw [gm, hs]
      rfl
    have H := ((((Holds.start w4 [lb]).add false hd4 (by simp) (by simp)).add false hrow4 (by simpa using hpd) (by simp)).add false hb4 (by simpa using ⟨n2, n1⟩) (by simp)).add true hlb (by simpa using ⟨n5, n3, n4⟩) (by simp)
    refine Run.seq ?_
    (refine Run.seq (Run.region ?_); intro K hK)
    refine Ops.pure H (X.move rfl) rfl rfl rfl ?_
    refine Ops.pure H (X.move rfl) rfl rfl rfl ?_
    refine Ops.pure H (X.len_slice rfl rfl rfl) rfl rfl rfl ?_
    refine Ops.pure H (X.cmp rfl rfl rfl) rfl rfl rfl ?_
    (refine Ops.nil (hK _ _ ?_); clear hK K)
    refine Run.cond_dec rfl (fun h39 => ?x4) (fun h39 => ?y4)
    case' y4 => exfalso; omega
    case' x4 =>
      refine Run.skip ?_
      refine Run.seq ?_
      refine Run.block ?_
      refine Run.seq ?_
      refine Run.seq ?_
      (refine Run.draw H [] (0 :: 1 :: 2 :: 3 :: 4 :: 5 :: 6 :: 7 :: 8 :: 9 :: 10 :: 11 :: 12 :: 13 :: 14 :: 15 :: 16 :: 17 :: 18 :: 19 :: 20 :: 21 :: 22 :: 23 :: 24 :: 26 :: 27 :: 28 :: 29 :: 30 :: 31 :: 32 :: 33 :: 34 :: 35 :: 36 :: 25 :: 37 :: 38 :: []) ?_; clear H; intro K hK w H)
      refine Draw.take0 rfl (X.move rfl) rfl rfl rfl (by decide +kernel) ?_
      refine Draw.take0 rfl (X.move rfl) rfl rfl rfl (by decide +kernel) ?_
      refine Draw.take0 rfl (X.indexAddr rfl rfl (by omega) rfl rfl rfl rfl) rfl rfl rfl (by decide +kernel) ?_
      refine Draw.take rfl (X.load1 rfl rfl rfl rfl Pick.head (by assumption)) rfl rfl rfl (by decide +kernel) ?_
      refine Draw.take0 rfl (X.move rfl) rfl rfl rfl (by decide +kernel) ?_
      refine Draw.take0 rfl (X.nilCheck rfl) rfl rfl rfl (by decide +kernel) ?_
      refine Draw.take0 rfl (X.fieldAddr rfl rfl rfl rfl rfl rfl) rfl rfl rfl (by decide +kernel) ?_
      refine Draw.take rfl (X.load1 rfl rfl rfl rfl (.tail (.tail .head)) rfl) rfl rfl rfl (by decide +kernel) ?_
      refine Draw.take0 rfl (X.nilCheck rfl) rfl rfl rfl (by decide +kernel) ?_
      refine Draw.take0 rfl (X.fieldAddr rfl rfl rfl rfl rfl rfl) rfl rfl rfl (by decide +kernel) ?_
      refine Draw.take rfl (X.load1 rfl rfl rfl rfl (.tail (.tail (.tail .head))) rfl) rfl rfl rfl (by decide +kernel) ?_
      refine Draw.take0 rfl (X.move rfl) rfl rfl rfl (by decide +kernel) ?_
      refine Draw.take0 rfl (X.indexAddr rfl rfl (by omega) rfl rfl rfl rfl) rfl rfl rfl (by decide +kernel) ?_
      refine Draw.take0 rfl (X.fieldAddr rfl rfl rfl rfl rfl rfl) rfl rfl rfl (by decide +kernel) ?_
      refine Draw.take rfl (X.load1 rfl rfl rfl rfl (.tail .head) (by assumption)) rfl rfl rfl (by decide +kernel) ?_
      refine Draw.take0 rfl (X.cmp rfl rfl rfl) rfl rfl rfl (by decide +kernel) ?_
      refine Draw.take0 rfl (X.move rfl) rfl rfl rfl (by decide +kernel) ?_
      refine Draw.split_ndec rfl rfl rfl (fun h59 => ?x5) (fun h59 => ?y5)
      case' y5 =>
        refine Draw.take0 rfl (X.move rfl) rfl rfl rfl (by decide +kernel) ?_
        refine Draw.take0 rfl (X.nilCheck rfl) rfl rfl rfl (by decide +kernel) ?_
        refine Draw.take0 rfl (X.fieldAddr rfl rfl rfl rfl rfl rfl) rfl rfl rfl (by decide +kernel) ?_
        refine Draw.take rfl (X.load1 rfl rfl rfl rfl (.tail (.tail .head)) rfl) rfl rfl rfl (by decide +kernel) ?_
        refine Draw.take0 rfl (X.move rfl) rfl rfl rfl (by decide +kernel) ?_
        refine Draw.take0 rfl (X.move rfl) rfl rfl rfl (by decide +kernel) ?_
        refine Draw.take0 rfl (X.indexAddr rfl rfl (by omega) rfl rfl rfl rfl) rfl rfl rfl (by decide +kernel) ?_
        refine Draw.take rfl (X.load1 rfl rfl rfl rfl Pick.head (by assumption)) rfl rfl rfl (by decide +kernel) ?_
        refine Draw.take0 rfl (X.move rfl) rfl rfl rfl (by decide +kernel) ?_
        refine Draw.take0 rfl (X.nilCheck rfl) rfl rfl rfl (by decide +kernel) ?_
        refine Draw.take0 rfl (X.fieldAddr rfl rfl rfl rfl rfl rfl) rfl rfl rfl (by decide +kernel) ?_
        refine Draw.take rfl (X.load1 rfl rfl rfl rfl (.tail (.tail .head)) rfl) rfl rfl rfl (by decide +kernel) ?_
        refine Draw.take0 rfl (X.nilCheck rfl) rfl rfl rfl (by decide +kernel) ?_
        refine Draw.take0 rfl (X.fieldAddr rfl rfl rfl rfl rfl rfl) rfl rfl rfl (by decide +kernel) ?_
        refine Draw.take rfl (X.load1 rfl rfl rfl rfl (.tail (.tail (.tail .head))) rfl) rfl rfl rfl (by decide +kernel) ?_
        refine Draw.take0 rfl (X.move rfl) rfl rfl rfl (by decide +kernel) ?_
        refine Draw.take0 rfl (X.indexAddr rfl rfl (by omega) rfl rfl rfl rfl) rfl rfl rfl (by decide +kernel) ?_
        refine Draw.take0 rfl (X.fieldAddr rfl rfl rfl rfl rfl rfl) rfl rfl rfl (by decide +kernel) ?_
        refine Draw.take rfl (X.load1 rfl rfl rfl rfl (.tail .head) (by assumption)) rfl rfl rfl (by decide +kernel) ?_
      case' x5 => exfalso; omega
    refine Draw.eff rfl rfl (by decide +kernel) (Y.call rfl rfl (by first | assumption | decide +kernel) rfl (floor_any _ W (ys.getD i 0) (h.pw.ext (F4.trans H.fr (U := []) (by simp) (fun x hx hl => by simp at hx; omega)))) rfl ?_)
    rintro v w5 ⟨rfl, hf5⟩
    rw [hfe]
    replace H := H.ext hf5
    refine ⟨H.at_, ?_⟩
    refine Draw.take0 rfl (X.cmp rfl rfl rfl) rfl rfl rfl (by decide +kernel) ?_
    refine Draw.take0 rfl (X.pick_f rfl rfl) rfl rfl rfl (by decide +kernel) ?_
    (refine Draw.done (by decide +kernel) (hK _ _ ?_); clear hK K)
    refine Run.cond_ndec rfl (fun h80 => ?x6) (fun h80 => ?y6)
    case' y6 =>
      refine Run.skip ?_
      (refine Run.region ?_; intro K hK)
      refine Ops.pure H (X.move rfl) rfl rfl rfl ?_
      refine Ops.pure H (X.move rfl) rfl rfl rfl ?_
      refine Ops.pure H (X.indexAddr rfl rfl (by omega) rfl rfl rfl rfl) rfl rfl rfl ?_
      (refine Ops.eff rfl (Y.storeI rfl rfl rfl rfl rfl rfl H Upd.head (by first | omega | (simp only [List.length_set]; omega)) ?_); intro w H0; clear H; have H := H0; clear H0)
      (refine Ops.nil (hK _ _ ?_); clear hK K)
      refine Run.inBlock ?_
      (refine Run.region ?_; intro K hK)
      refine Ops.pure H (X.move rfl) rfl rfl rfl ?_
      refine Ops.pure H (X.succ rfl rfl (by omega)) rfl rfl rfl ?_
      refine Ops.pure H (X.assign rfl) rfl rfl rfl ?_
      (refine Ops.nil (hK _ _ ?_); clear hK K)
    case' x6 => exfalso; omega
    refine (IH (i + 1) _ (by omega) ⟨by omega, F4.trans H.fr (U := []) (by simp) (fun x hx hl => by simp at hx; omega), fun _ => ⟨lb, _, rfl, hlz, H.pick (b := lb) (by repeat (first | exact .head | apply Pick.tail)), fun j hj1 hj2 => ?_⟩⟩).weak (by repeat (first | exact trivial | refine ⟨rfl, ?_⟩))
    rw [List.getElem?_set_ne (by omega)]
    exact hlj j (by omega) hj2
  · obtain rfl : i = ys.length := by omega
    clear IH
    have H := ((Holds.start w4 []).add false hd4 (by simp) (by simp)).add false hrow4 (by simpa using hpd) (by simp)
    refine Run.seq ?_
    (refine Run.seq (Run.region ?_); intro K hK)
    refine Ops.pure H (X.move rfl) rfl rfl rfl ?_
    refine Ops.pure H (X.move rfl) rfl rfl rfl ?_
    refine Ops.pure H (X.len_slice rfl rfl rfl) rfl rfl rfl ?_
    refine Ops.pure H (X.cmp rfl rfl rfl) rfl rfl rfl ?_
    (refine Ops.nil (hK _ _ ?_); clear hK K)
    refine Run.cond_dec rfl (fun h39 => ?x7) (fun h39 => ?y7)
    case' y7 =>
      refine Run.exit rfl ?_
      (refine Run.seq (Run.region ?_); intro K hK)
      refine Ops.pure H (X.move rfl) rfl rfl rfl ?_
      refine Ops.pure H (X.nilCheck rfl) rfl rfl rfl ?_
      refine Ops.pure H (X.fieldAddr rfl rfl rfl rfl rfl rfl) rfl rfl rfl ?_
      refine Ops.pure H (X.load1 rfl rfl rfl rfl Pick.head rfl) rfl rfl rfl ?_
    case' x7 => exfalso; omega
    refine Ops.eff rfl (Y.call rfl rfl (by first | assumption | decide +kernel) rfl (Bytes_any _ W (h.pw.ext (F4.then H.fr)) h.wok) rfl ?_)
    rintro v w5 ⟨kds, k1, k2, k3, hO5, hf5⟩
    have hkd : kds = ys := ids_one _ _ k2 h.up (fun x => by rw [k1, h.memW])
    rw [hkd, h.nw, Int.toNat_natCast, ← h.len] at hO5
    have F5 := (F4.then H.fr).then hf5
    have hz5 := (F4.then H.fr).size
    obtain ⟨B, hB⟩ : ∃ B, B = encW n ys.length (st W) ys := ⟨_, rfl⟩
    have hge := len_encW n ys.length (st W) ys
    have hBl : B.length ≤ 140737488355327 := by
      have hc : ∀ x ∈ ys, (encC (st W) x).length ≤ 4195092 := fun x hx => by
        obtain ⟨_, e2, e3⟩ := h.each x hx
        rw [encC, List.length_append, beL_len]
        have := encS_le e2 e3
        omega
      have h1 := len_flat (encC (st W)) 4195092 ys hc
      have h3 : ys.length * 4195092 ≤ 1024 * 4195092 := Nat.mul_le_mul_right _ (by omega)
      rw [hB, encW, encB]
      simp only [List.length_append, beL_len]
      omega
    rw [← hB] at hO5 hge
    have hfr5 := hO5.fresh5
    obtain ⟨bb, bcap, bcs, rfl, hb1, hb2, hbz, hbb, hbl, hbC⟩ := hO5.get (by omega)
    have hrow5 := F5.get hrow (by simp)
    have npb : pb ≠ bb := ne_of_ty hrow5 hbb (by decide)
    clear H
    have H := ((Holds.start w5 []).add false hrow5 (by simp) (by simp)).add false hbb (by simpa using npb.symm) (by simp)
    refine Ops.pure H (X.assign rfl) rfl rfl rfl ?_
    (refine Ops.nil (hK _ _ ?_); clear hK K)
    refine Run.seq ?_
    (refine Run.draw H [] [0, 1, 2, 3, 4, 5, 6, 7, 8, 9] ?_; clear H; intro K hK w H)
    refine Draw.take0 rfl (X.move rfl) rfl rfl rfl (by decide +kernel) ?_
    refine Draw.take rfl (X.bytesStr rfl .head (by simpa using hbC) rfl rfl rfl rfl rfl rfl rfl) rfl rfl rfl (by decide +kernel) ?_
    refine Draw.take0 rfl (X.move rfl) rfl rfl rfl (by decide +kernel) ?_
    refine Draw.take0 rfl (X.nilCheck rfl) rfl rfl rfl (by decide +kernel) ?_
    refine Draw.take0 rfl (X.fieldAddr rfl rfl rfl rfl rfl rfl) rfl rfl rfl (by decide +kernel) ?_
    refine Draw.take rfl (X.load1 rfl rfl rfl rfl (.tail .head) rfl) rfl rfl rfl (by decide +kernel) ?_
    refine Draw.eff rfl rfl (by decide +kernel) (Y.call rfl rfl (by first | assumption | decide +kernel) rfl (dbytes_any _ db n ys (st W) (h.rd.ext (F5.then H.fr)) hids h.n2 h.each) rfl ?_)
    rintro v w6 ⟨hO6, hf6⟩
    rw [← hB] at hO6
    replace H := H.ext hf6
    refine ⟨H.at_, ?_⟩
    refine Draw.eff rfl rfl (by decide +kernel) (Y.bytes hO6.bys rfl rfl rfl rfl rfl rfl rfl rfl ?_)
    refine ⟨H.at_, ?_⟩
    refine Draw.take0 rfl (X.strEq rfl rfl) rfl rfl rfl (by decide +kernel) ?_
    refine Draw.take0 rfl (X.assign rfl) rfl rfl rfl (by decide +kernel) ?_
    (refine Draw.done (by decide +kernel) (hK _ _ ?_); clear hK K)
    (refine Run.seq (Run.region ?_); intro K hK)
    refine Ops.pure H (X.move rfl) rfl rfl rfl ?_
    have F6 := F5.then H.fr
    have hfr6 := hfr5.ext H.fr
    refine Ops.eff rfl (Y.call rfl rfl (by first | assumption | decide +kernel) rfl (spoil_any _ _ _ B hfr6 hBl) rfl ?_)
    rintro v w7 ⟨S, hf7, hS⟩
    clear H
    have H := Holds.start w7 []
    (refine Ops.nil (hK _ _ (Run.seq (Run.region ?_))); clear hK K; intro K hK)
    refine Ops.pure H (X.move rfl) rfl rfl rfl ?_
    refine Ops.pure H (X.assign rfl) rfl rfl rfl ?_
    (refine Ops.nil (hK _ _ ?_); clear hK K)
    refine Fn.ret1 HF rfl rfl ?_
    refine ⟨by simp, (F6.trans hf7 (U := []) (by simp) (fun x hx hl => ?_)).then H.fr⟩
    have := (hS x hx).1
    omega
end Go.Proofs.Ytaneenahapdabaa
