/- Layer 20's reader, walked: a client. -/
import Derived.Test.YtaneenahapdabaaSP
import Derived.Test.YtaneenahapdabaaP9
namespace Go.Proofs.Ytaneenahapdabaa
open Go
set_option maxRecDepth 20000
set_option maxHeartbeats 2000000
attribute [local irreducible] Run Ops Fn Draw Draw2 PureOp StepZ

/-- The calls of a client, read. -/
def seqsP : Nat → Nat → List Int → (Int → Option (List Int)) → List Int → Option (List Int × (Int → Option (List Int)) × List Int)
  | 0, _, sq, an, xs => some (sq, an, xs)
  | k + 1, last, sq, an, xs =>
    if 8 ≤ xs.length then
      if beV (xs.take 8) ≤ last then none else
      if 4 ≤ (xs.drop 8).length then
        if 65536 < beV ((xs.drop 8).take 4) then none else
        if beV ((xs.drop 8).take 4) ≤ ((xs.drop 8).drop 4).length then
          seqsP k (beV (xs.take 8)) (sq ++ [((beV (xs.take 8) : Nat) : Int)]) (updA an ((beV (xs.take 8) : Nat) : Int) (some (((xs.drop 8).drop 4).take (beV ((xs.drop 8).take 4))))) (((xs.drop 8).drop 4).drop (beV ((xs.drop 8).take 4)))
        else none
      else none
    else none
/-- A client, read. -/
def clientP (size : Nat) (xs : List Int) : Option (Nat × CS × List Int) :=
  if 8 ≤ xs.length then
    if 8 ≤ (xs.drop 8).length then
      if 4 ≤ ((xs.drop 8).drop 8).length then
        if beV (((xs.drop 8).drop 8).take 4) < 1 ∨ size < beV (((xs.drop 8).drop 8).take 4) ∨ (beV ((xs.drop 8).take 8) ≠ 0 ∧ beV (((xs.drop 8).drop 8).take 4) ≠ size) then none else
        (seqsP (beV (((xs.drop 8).drop 8).take 4)) (beV ((xs.drop 8).take 8)) [] (fun _ => none) (((xs.drop 8).drop 8).drop 4)).map fun r => (beV (xs.take 8), ⟨((beV ((xs.drop 8).take 8) : Nat) : Int), r.1, r.2.1⟩, r.2.2)
      else none
    else none
  else none
theorem Byt.drop {xs : List Int} (h : Byt xs) (n : Nat) : Byt (xs.drop n) := fun x hx => h x (List.mem_of_mem_drop hx)
theorem Byt.take {xs : List Int} (h : Byt xs) (n : Nat) : Byt (xs.take n) := fun x hx => h x (List.mem_of_mem_take hx)
theorem beV8 {xs : List Int} (h : Byt xs) (hl : 8 ≤ xs.length) : beV (xs.take 8) < 18446744073709551616 := beV_lt xs h 8 hl
theorem beV4 {xs : List Int} (h : Byt xs) (hl : 4 ≤ xs.length) : beV (xs.take 4) < 4294967296 := beV_lt xs h 4 hl

structure CPst where
  j : Nat
  last : Nat
  sq : List Int
  an : Int → Option (List Int)
  xs : List Int
/-- A client that is being read, in memory. -/
structure CB (zs : Nat) (w : World) (cb ab fl : Nat) (sq : List Int) (an : Int → Option (List Int)) : Prop where
  at_ : ∃ v es k f, w.heap[cb]? = some (row [.int .u64 ((fl : Nat) : Int), v, .map (some ab)] 61) ∧ Own w zs 28 1 v sq.length (u64s sq) ∧ w.heap[ab]? = some (.map es k) ∧ Mp .u64 es f ∧ MA w f an ∧ ∀ y u, f y = some u → NewV zs u
theorem CB.keep {zs : Nat} {w w' : World} {rb cb ab fl : Nat} {sq xs : List Int} {an : Int → Option (List Int)} (h : CB zs w cb ab fl sq an) (hR : Rd w rb xs) (hf : Fr w w' [rb]) (n1 : rb ≠ cb) (n2 : rb ≠ ab) : CB zs w' cb ab fl sq an := by
  obtain ⟨cap, b, off, cs, T, fz, hr, _⟩ := hR
  obtain ⟨v, es, k, f, h1, h2, h3, h4, h5, h6⟩ := h.at_
  refine ⟨v, es, k, f, hf.get h1 (by simpa using n1.symm), h2.rows fun b cs hb => hf.get hb (by
    simp
    rintro rfl
    rw [hr] at hb
    cases hb), hf.get h3 (by simpa using n2.symm), h4, h5.keep hf (fun b hb => by
    simp at hb
    subst hb
    exact No5.row hr (by decide)), h6⟩
theorem CB.ext {zs : Nat} {w w' : World} {cb ab fl : Nat} {sq : List Int} {an : Int → Option (List Int)} (h : CB zs w cb ab fl sq an) (hf : Fr w w' []) : CB zs w' cb ab fl sq an := by
  obtain ⟨v, es, k, f, h1, h2, h3, h4, h5, h6⟩ := h.at_
  exact ⟨v, es, k, f, hf.get h1 (by simp), h2.ext hf, hf.get h3 (by simp), h4, h5.keep hf (by simp), h6⟩
theorem MA.up {w w' : World} {f : Int → Option Value} {an : Int → Option (List Int)} (h : MA w f an) (hk : ∀ (b : Nat) (o : Obj), w.heap[b]? = some o → (∀ cs, o ≠ row cs 28) → w'.heap[b]? = some o) : MA w' f an := by
  intro x
  rcases h x with h | ⟨v, xs, h1, h2, a, cap, b, cs, fz, h3, h4, h5, h6, h7⟩
  · exact .inl h
  · exact .inr ⟨v, xs, h1, h2, a, cap, b, cs, fz, h3, h4, h5, fun h0 => ⟨(h6 h0).1, hk _ _ (h6 h0).2 (by intros; simp)⟩, h7⟩
theorem Rd.keep {w w' : World} {rb cb : Nat} {xs : List Int} {cs0 : List Value} (h : Rd w rb xs) (hf : Fr w w' [cb]) (hc : w.heap[cb]? = some (row cs0 61)) : Rd w' rb xs := by
  obtain ⟨cap, b, off, cs, T, fz, r1, r2, r3, r4, r5, r6⟩ := h
  refine ⟨cap, b, off, cs, T, fz, hf.get r1 ?_, r2, r3, hf.get r4 ?_, r5, r6⟩
  · simp
    rintro rfl
    rw [r1] at hc
    cases hc
  · simp
    rintro rfl
    rw [r4] at hc
    subst r5
    cases hc
theorem Rd.keepM {w w' : World} {rb ab k : Nat} {xs : List Int} {es : Array MapEntry} (h : Rd w rb xs) (hf : Fr w w' [ab]) (hc : w.heap[ab]? = some (.map es k)) : Rd w' rb xs := by
  obtain ⟨cap, b, off, cs, T, fz, r1, r2, r3, r4, r5, r6⟩ := h
  refine ⟨cap, b, off, cs, T, fz, hf.get r1 ?_, r2, r3, hf.get r4 ?_, r5, r6⟩
  · simp
    rintro rfl
    rw [r1] at hc
    cases hc
  · simp
    rintro rfl
    rw [r4] at hc
    cases hc
theorem Rd.no5 {w : World} {rb : Nat} {xs : List Int} (h : Rd w rb xs) : No5 w rb ∧ ∀ cs, w.heap[rb]? ≠ some (row cs 28) := by
  obtain ⟨cap, b, off, cs, T, fz, r1, _⟩ := h
  exact ⟨No5.row r1 (by decide), fun cs hc => by rw [r1] at hc; cases hc⟩
theorem Rd.up {w w' : World} {rb : Nat} {xs : List Int} (h : Rd w rb xs) (hk : ∀ (b : Nat) (o : Obj), w.heap[b]? = some o → (∀ cs, o ≠ row cs 28) → w'.heap[b]? = some o) : Rd w' rb xs := by
  obtain ⟨cap, b, off, cs, T, fz, r1, r2, r3, r4, r5, r6⟩ := h
  subst r5
  exact ⟨cap, b, off, cs, 5, fz, hk _ _ r1 (by intros; simp), r2, r3, hk _ _ r4 (by intros; simp), rfl, r6⟩
theorem client_any (z : World) (rb size : Nat) (xs : List Int) (h : Rd z rb xs) (hx : Byt xs) (hs1 : 1 ≤ size) (hs2 : size ≤ 64) :
    FnP env.P 25 [.pointer (some ⟨rb, 0, none⟩), .int .i64 (size : Nat)] z (fun v w' => ∃ id c rest, clientP size xs = some (id, c.s, rest) ∧ v = .tuple #[.int .u64 (id : Nat), .pointer (some ⟨c.cb, 0, none⟩)] ∧ Cl w' c ∧ (∃ ds, w'.heap[c.sb]? = some (row ds 28)) ∧ z.heap.size ≤ c.cb ∧ z.heap.size ≤ c.sb ∧ z.heap.size ≤ c.ab ∧ Rd w' rb rest ∧ Fr z w' [rb] ∧ ∀ es k f, w'.heap[c.ab]? = some (.map es k) → Mp .u64 es f → ∀ y u, f y = some u → NewV z.heap.size u)
      (fun ch w' => clientP size xs = none ∧ Gives z rb ch w') := by
  have H := Holds.start z []
  have HF := Try.func25
  refine FnP.enter Try.func25 Try.ntmps25 rfl rfl rfl ?_
  (refine Run.seq (Run.region ?_); intro K hK)
  refine Ops.pure H (X.assign rfl) rfl rfl rfl ?_
  refine Ops.pure H (X.assign rfl) rfl rfl rfl ?_
  (refine Ops.nil (hK _ _ (Run.seq (Run.region ?_))); clear hK K; intro K hK)
  refine Ops.pure H (X.move rfl) rfl rfl rfl ?_
  refine Ops.effP rfl (Y.callP rfl rfl (by decide +kernel) rfl (number_any _ rb 8 xs (h.ext H.fr) hx (by omega)) rfl (fun ch w' hp a ha => QK.none HF ha (.inr ⟨ch, rfl, by rw [clientP, if_neg hp.1], hp.2.1, H.fr.trans hp.2.2 (by simp) (by simp)⟩)) ?_)
  rintro v1 w1 ⟨hl1, rfl, hR1, hf1⟩
  have F1 := H.fr.trans (U := [rb]) hf1 (by simp) (by simp)
  obtain ⟨xs1, hxs1⟩ : ∃ l, l = xs.drop 8 := ⟨_, rfl⟩
  obtain ⟨id, hid⟩ : ∃ l, l = beV (xs.take 8) := ⟨_, rfl⟩
  have hb1 : Byt xs1 := by rw [hxs1]; exact hx.drop 8
  have hidl : id < 18446744073709551616 := by rw [hid]; exact beV8 hx hl1
  rw [← hxs1] at hR1
  rw [← hid]
  clear H
  have H := Holds.start w1 []
  refine Ops.pure H (X.assign rfl) rfl rfl rfl ?_
  (refine Ops.nil (hK _ _ (Run.seq (Run.region ?_))); clear hK K; intro K hK)
  refine Ops.pure H (X.move rfl) rfl rfl rfl ?_
  refine Ops.effP rfl (Y.callP rfl rfl (by decide +kernel) rfl (number_any _ rb 8 xs1 (hR1.ext H.fr) hb1 (by omega)) rfl (fun ch w' hp a ha => QK.none HF ha (.inr ⟨ch, rfl, by rw [clientP, if_pos hl1, ← hxs1, if_neg hp.1], hp.2.1, F1.trans (H.fr.trans (U := [rb]) hp.2.2 (by simp) (by simp)) (by simp) (by simp)⟩)) ?_)
  rintro v2 w2 ⟨hl2, rfl, hR2, hf2⟩
  have F2 := F1.trans (U := [rb]) (H.fr.trans (U := [rb]) hf2 (by simp) (by simp)) (by simp) (by simp)
  obtain ⟨xs2, hxs2⟩ : ∃ l, l = xs1.drop 8 := ⟨_, rfl⟩
  obtain ⟨fl, hfl⟩ : ∃ l, l = beV (xs1.take 8) := ⟨_, rfl⟩
  have hb2 : Byt xs2 := by rw [hxs2]; exact hb1.drop 8
  have hfll : fl < 18446744073709551616 := by rw [hfl]; exact beV8 hb1 hl2
  rw [← hxs2] at hR2
  rw [← hfl]
  clear H
  have H := Holds.start w2 []
  (refine Ops.eff rfl (Y.makeMap rfl H ?_); intro b16 w H0 hb16; clear H; have H := H0; clear H0)
  refine Ops.pure H (X.buildO rfl rfl rfl rfl rfl rfl) rfl rfl rfl ?_
  (refine Ops.eff rfl (Y.box rfl rfl rfl H ?_); intro b18 w H0 hb18; clear H; have H := H0; clear H0)
  refine Ops.pure H (X.assign rfl) rfl rfl rfl ?_
  (refine Ops.nil (hK _ _ (Run.seq (Run.region ?_))); clear hK K; intro K hK)
  refine Ops.pure H (X.move rfl) rfl rfl rfl ?_
  have hcb0 := H.pick (b := b18) .head
  have hab0 := H.pick (b := b16) (.tail .head)
  have hcz : z.heap.size ≤ b18 := by have := F2.size; omega
  have haz : z.heap.size ≤ b16 := by have := F2.size; omega
  have hrb2 : rb < w2.heap.size := by
    obtain ⟨cap, b, off, cs, T, fz, h1, _⟩ := hR2
    exact lt_of_at h1
  obtain ⟨cb, hcb⟩ : ∃ l, l = b18 := ⟨_, rfl⟩
  obtain ⟨ab, hab⟩ : ∃ l, l = b16 := ⟨_, rfl⟩
  rw [← hcb] at hcb0 hcz ⊢
  rw [← hab] at hcb0 hab0 haz
  have hncb : rb ≠ cb := by omega
  have hnab : rb ≠ ab := by omega
  refine Ops.effP rfl (Y.callP rfl rfl (by decide +kernel) rfl (number_any _ rb 4 xs2 (hR2.ext H.fr) hb2 (by omega)) rfl (fun ch w' hp a ha => QK.none HF ha (.inr ⟨ch, rfl, by rw [clientP, if_pos hl1, ← hxs1, if_pos hl2, ← hxs2, if_neg hp.1], hp.2.1, F2.trans (H.fr.trans (U := [rb]) hp.2.2 (by simp) (by simp)) (by simp) (by simp)⟩)) ?_)
  rintro v3 w3 ⟨hl3, rfl, hR3, hf3⟩
  have F3 := F2.trans (U := [rb]) (H.fr.trans (U := [rb]) hf3 (by simp) (by simp)) (by simp) (by simp)
  have hcb3 := hf3.get hcb0 (by simpa using hncb.symm)
  have hab3 := hf3.get hab0 (by simpa using hnab.symm)
  obtain ⟨xs3, hxs3⟩ : ∃ l, l = xs2.drop 4 := ⟨_, rfl⟩
  obtain ⟨n, hn⟩ : ∃ l, l = beV (xs2.take 4) := ⟨_, rfl⟩
  have hb3 : Byt xs3 := by rw [hxs3]; exact hb2.drop 4
  have hnl : n < 4294967296 := by rw [hn]; exact beV4 hb2 hl3
  rw [← hxs3] at hR3
  rw [← hn]
  have hcP : clientP size xs = if n < 1 ∨ size < n ∨ (fl ≠ 0 ∧ n ≠ size) then none else (seqsP n fl [] (fun _ => none) xs3).map fun r => (id, ⟨((fl : Nat) : Int), r.1, r.2.1⟩, r.2.2) := by
    rw [clientP, if_pos hl1, ← hxs1, if_pos hl2, ← hxs2, if_pos hl3, ← hxs3, ← hn, ← hfl, ← hid]
  clear H hb16 hb18 hf1 hf2
  have H := (Holds.start w3 []).add false hcb3 (by simp) (by simp)
  refine Ops.pure H (X.assign rfl) rfl rfl rfl ?_
  (refine Ops.nil (hK _ _ ?_); clear hK K)
  by_cases hbad : n < 1 ∨ size < n ∨ (fl ≠ 0 ∧ n ≠ size)
  · rw [if_pos hbad] at hcP
    by_cases hn1 : n < 1
    · refine Run.seq ?_
      (refine Run.seq (Run.region ?_); intro K hK)
      refine Ops.pure H (X.move rfl) rfl rfl rfl ?_
      refine Ops.pure H (X.cmp rfl rfl rfl) rfl rfl rfl ?_
      refine Ops.pure H (X.move rfl) rfl rfl rfl ?_
      refine Ops.split_dec rfl rfl (fun h24 => ?x0) (fun h24 => ?y0)
      case' y0 => exfalso; omega
      case' x0 =>
        refine Ops.pass rfl rfl rfl ?_
        refine Ops.pass rfl rfl rfl ?_
        refine Ops.pass rfl rfl rfl ?_
        refine Ops.pass rfl rfl rfl ?_
        refine Ops.pure H (X.pick_t rfl rfl) rfl rfl rfl ?_
        refine Ops.pure H (X.move rfl) rfl rfl rfl ?_
        refine Ops.pass rfl rfl rfl ?_
        refine Ops.pass rfl rfl rfl ?_
        refine Ops.pass rfl rfl rfl ?_
        refine Ops.pass rfl rfl rfl ?_
        refine Ops.pass rfl rfl rfl ?_
        refine Ops.pass rfl rfl rfl ?_
        refine Ops.pass rfl rfl rfl ?_
        refine Ops.pass rfl rfl rfl ?_
        refine Ops.pass rfl rfl rfl ?_
        refine Ops.pass rfl rfl rfl ?_
        refine Ops.pass rfl rfl rfl ?_
        refine Ops.pure H (X.pick_t rfl rfl) rfl rfl rfl ?_
        (refine Ops.nil (hK _ _ ?_); clear hK K)
        refine Run.cond_true rfl ?_
        (refine Run.region ?_; intro K hK)
        refine Ops.pure H (X.buildO rfl rfl rfl rfl rfl rfl) rfl rfl rfl ?_
      refine Ops.pure H (X.mkIface rfl rfl rfl) rfl rfl rfl ?_
      refine Ops.effP rfl (Y.panic rfl fun a ha => QK.none HF ha (.inr ⟨_, rfl, hcP, rfl, F3.trans H.fr (by simp) (by simp)⟩))
    · by_cases hn2 : size < n
      · refine Run.seq ?_
        (refine Run.seq (Run.region ?_); intro K hK)
        refine Ops.pure H (X.move rfl) rfl rfl rfl ?_
        refine Ops.pure H (X.cmp rfl rfl rfl) rfl rfl rfl ?_
        refine Ops.pure H (X.move rfl) rfl rfl rfl ?_
        refine Ops.split_dec rfl rfl (fun h24 => ?x1) (fun h24 => ?y1)
        case' y1 =>
          refine Ops.pure H (X.move rfl) rfl rfl rfl ?_
          refine Ops.pure H (X.move rfl) rfl rfl rfl ?_
          refine Ops.pure H (X.conv rfl rfl rfl rfl rfl (u64_in _ (by omega))) rfl rfl rfl ?_
          refine Ops.pure H (X.cmp rfl rfl rfl) rfl rfl rfl ?_
          refine Ops.pure H (X.pick_f rfl rfl) rfl rfl rfl ?_
          refine Ops.pure H (X.move rfl) rfl rfl rfl ?_
          refine Ops.split_dec rfl rfl (fun h30 => ?x2) (fun h30 => ?y2)
          case' y2 => exfalso; omega
          case' x2 =>
            refine Ops.pass rfl rfl rfl ?_
            refine Ops.pass rfl rfl rfl ?_
            refine Ops.pass rfl rfl rfl ?_
            refine Ops.pass rfl rfl rfl ?_
            refine Ops.pass rfl rfl rfl ?_
            refine Ops.pass rfl rfl rfl ?_
            refine Ops.pass rfl rfl rfl ?_
            refine Ops.pass rfl rfl rfl ?_
            refine Ops.pass rfl rfl rfl ?_
            refine Ops.pass rfl rfl rfl ?_
            refine Ops.pass rfl rfl rfl ?_
            refine Ops.pure H (X.pick_t rfl rfl) rfl rfl rfl ?_
            (refine Ops.nil (hK _ _ ?_); clear hK K)
            refine Run.cond_true rfl ?_
            (refine Run.region ?_; intro K hK)
            refine Ops.pure H (X.buildO rfl rfl rfl rfl rfl rfl) rfl rfl rfl ?_
        case' x1 => exfalso; omega
        refine Ops.pure H (X.mkIface rfl rfl rfl) rfl rfl rfl ?_
        refine Ops.effP rfl (Y.panic rfl fun a ha => QK.none HF ha (.inr ⟨_, rfl, hcP, rfl, F3.trans H.fr (by simp) (by simp)⟩))
      · have hn3 : fl ≠ 0 := by omega
        have hn4 : n ≠ size := by omega
        refine Run.seq ?_
        (refine Run.seq (Run.region ?_); intro K hK)
        refine Ops.pure H (X.move rfl) rfl rfl rfl ?_
        refine Ops.pure H (X.cmp rfl rfl rfl) rfl rfl rfl ?_
        refine Ops.pure H (X.move rfl) rfl rfl rfl ?_
        refine Ops.split_dec rfl rfl (fun h24 => ?x3) (fun h24 => ?y3)
        case' y3 =>
          refine Ops.pure H (X.move rfl) rfl rfl rfl ?_
          refine Ops.pure H (X.move rfl) rfl rfl rfl ?_
          refine Ops.pure H (X.conv rfl rfl rfl rfl rfl (u64_in _ (by omega))) rfl rfl rfl ?_
          refine Ops.pure H (X.cmp rfl rfl rfl) rfl rfl rfl ?_
          refine Ops.pure H (X.pick_f rfl rfl) rfl rfl rfl ?_
          refine Ops.pure H (X.move rfl) rfl rfl rfl ?_
          refine Ops.split_dec rfl rfl (fun h30 => ?x4) (fun h30 => ?y4)
          case' y4 =>
            refine Ops.pure H (X.move rfl) rfl rfl rfl ?_
            refine Ops.pure H (X.nilCheck rfl) rfl rfl rfl ?_
            refine Ops.pure H (X.fieldAddr rfl rfl rfl rfl rfl rfl) rfl rfl rfl ?_
            refine Ops.pure H (X.load1 rfl rfl rfl rfl Pick.head rfl) rfl rfl rfl ?_
            refine Ops.pure H (X.cmp rfl rfl rfl) rfl rfl rfl ?_
            refine Ops.pure H (X.move rfl) rfl rfl rfl ?_
            refine Ops.split_ndec rfl rfl (fun h36 => ?x5) (fun h36 => ?y5)
            case' y5 => exfalso; omega
            case' x5 =>
              refine Ops.pure H (X.move rfl) rfl rfl rfl ?_
              refine Ops.pure H (X.move rfl) rfl rfl rfl ?_
              refine Ops.pure H (X.conv rfl rfl rfl rfl rfl (u64_in _ (by omega))) rfl rfl rfl ?_
              refine Ops.pure H (X.cmp rfl rfl rfl) rfl rfl rfl ?_
              refine Ops.pure H (X.pick_t rfl rfl) rfl rfl rfl ?_
              refine Ops.pure H (X.pick_f rfl rfl) rfl rfl rfl ?_
              (refine Ops.nil (hK _ _ ?_); clear hK K)
              refine Run.cond_ndec rfl (fun h41 => ?x6) (fun h41 => ?y6)
              case' y6 => exfalso; omega
              case' x6 =>
                (refine Run.region ?_; intro K hK)
                refine Ops.pure H (X.buildO rfl rfl rfl rfl rfl rfl) rfl rfl rfl ?_
          case' x4 => exfalso; omega
        case' x3 => exfalso; omega
        refine Ops.pure H (X.mkIface rfl rfl rfl) rfl rfl rfl ?_
        refine Ops.effP rfl (Y.panic rfl fun a ha => QK.none HF ha (.inr ⟨_, rfl, hcP, rfl, F3.trans H.fr (by simp) (by simp)⟩))
  rw [if_neg hbad] at hcP
  refine Run.seq ?_
  refine Run.meet (fun (_ : Unit) => [(0, .pointer (some ⟨rb, 0, none⟩)), (6, .int .u64 (id : Nat)), (7, .pointer (some ⟨cb, 0, none⟩)), (8, .int .u64 (n : Nat))]) (fun _ w' => Fr w3 w' []) ?_ ?_
  rotate_left
  · intro kk go
    by_cases hf0 : fl = 0
    · refine Run.seq ?_
      (refine Run.region ?_; intro K hK)
      refine Ops.pure H (X.move rfl) rfl rfl rfl ?_
      refine Ops.pure H (X.cmp rfl rfl rfl) rfl rfl rfl ?_
      refine Ops.pure H (X.move rfl) rfl rfl rfl ?_
      refine Ops.split_dec rfl rfl (fun h24 => ?x7) (fun h24 => ?y7)
      case' y7 =>
        refine Ops.pure H (X.move rfl) rfl rfl rfl ?_
        refine Ops.pure H (X.move rfl) rfl rfl rfl ?_
        refine Ops.pure H (X.conv rfl rfl rfl rfl rfl (u64_in _ (by omega))) rfl rfl rfl ?_
        refine Ops.pure H (X.cmp rfl rfl rfl) rfl rfl rfl ?_
        refine Ops.pure H (X.pick_f rfl rfl) rfl rfl rfl ?_
        refine Ops.pure H (X.move rfl) rfl rfl rfl ?_
        refine Ops.split_dec rfl rfl (fun h30 => ?x8) (fun h30 => ?y8)
        case' y8 =>
          refine Ops.pure H (X.move rfl) rfl rfl rfl ?_
          refine Ops.pure H (X.nilCheck rfl) rfl rfl rfl ?_
          refine Ops.pure H (X.fieldAddr rfl rfl rfl rfl rfl rfl) rfl rfl rfl ?_
          refine Ops.pure H (X.load1 rfl rfl rfl rfl Pick.head rfl) rfl rfl rfl ?_
          refine Ops.pure H (X.cmp rfl rfl rfl) rfl rfl rfl ?_
          refine Ops.pure H (X.move rfl) rfl rfl rfl ?_
          refine Ops.split_ndec rfl rfl (fun h36 => ?x9) (fun h36 => ?y9)
          case' y9 =>
            refine Ops.pass rfl rfl rfl ?_
            refine Ops.pass rfl rfl rfl ?_
            refine Ops.pass rfl rfl rfl ?_
            refine Ops.pass rfl rfl rfl ?_
            refine Ops.pure H (X.pick_f rfl rfl) rfl rfl rfl ?_
            refine Ops.pure H (X.pick_f rfl rfl) rfl rfl rfl ?_
            (refine Ops.nil (hK _ _ ?_); clear hK K)
            refine Run.cond_false rfl ?_
            refine Run.skip ?_
          case' x9 => exfalso; omega
        case' x8 => exfalso; omega
      case' x7 => exfalso; omega
      exact go () _ _ H.fr (by repeat (first | exact trivial | refine ⟨rfl, ?_⟩))
    · have hn3 : n = size := by omega
      (refine Run.seq (Run.region ?_); intro K hK)
      refine Ops.pure H (X.move rfl) rfl rfl rfl ?_
      refine Ops.pure H (X.cmp rfl rfl rfl) rfl rfl rfl ?_
      refine Ops.pure H (X.move rfl) rfl rfl rfl ?_
      refine Ops.split_dec rfl rfl (fun h24 => ?x10) (fun h24 => ?y10)
      case' y10 =>
        refine Ops.pure H (X.move rfl) rfl rfl rfl ?_
        refine Ops.pure H (X.move rfl) rfl rfl rfl ?_
        refine Ops.pure H (X.conv rfl rfl rfl rfl rfl (u64_in _ (by omega))) rfl rfl rfl ?_
        refine Ops.pure H (X.cmp rfl rfl rfl) rfl rfl rfl ?_
        refine Ops.pure H (X.pick_f rfl rfl) rfl rfl rfl ?_
        refine Ops.pure H (X.move rfl) rfl rfl rfl ?_
        refine Ops.split_dec rfl rfl (fun h30 => ?x11) (fun h30 => ?y11)
        case' y11 =>
          refine Ops.pure H (X.move rfl) rfl rfl rfl ?_
          refine Ops.pure H (X.nilCheck rfl) rfl rfl rfl ?_
          refine Ops.pure H (X.fieldAddr rfl rfl rfl rfl rfl rfl) rfl rfl rfl ?_
          refine Ops.pure H (X.load1 rfl rfl rfl rfl Pick.head rfl) rfl rfl rfl ?_
          refine Ops.pure H (X.cmp rfl rfl rfl) rfl rfl rfl ?_
          refine Ops.pure H (X.move rfl) rfl rfl rfl ?_
          refine Ops.split_ndec rfl rfl (fun h36 => ?x12) (fun h36 => ?y12)
          case' y12 => exfalso; omega
          case' x12 =>
            refine Ops.pure H (X.move rfl) rfl rfl rfl ?_
            refine Ops.pure H (X.move rfl) rfl rfl rfl ?_
            refine Ops.pure H (X.conv rfl rfl rfl rfl rfl (u64_in _ (by omega))) rfl rfl rfl ?_
            refine Ops.pure H (X.cmp rfl rfl rfl) rfl rfl rfl ?_
            refine Ops.pure H (X.pick_t rfl rfl) rfl rfl rfl ?_
            refine Ops.pure H (X.pick_f rfl rfl) rfl rfl rfl ?_
            (refine Ops.nil (hK _ _ ?_); clear hK K)
            refine Run.cond_ndec rfl (fun h41 => ?x13) (fun h41 => ?y13)
            case' y13 =>
              refine Run.skip ?_
            case' x13 => exfalso; omega
        case' x11 => exfalso; omega
      case' x10 => exfalso; omega
      exact go () _ _ H.fr (by repeat (first | exact trivial | refine ⟨rfl, ?_⟩))
  clear H
  rintro _ w4 hf4
  have F4 := F3.trans (U := [rb]) hf4 (by simp) (by simp)
  have hcb4 := hf4.get hcb3 (by simp)
  have hab4 := hf4.get hab3 (by simp)
  have hR4 := hR3.ext hf4
  have H := (Holds.start w4 []).add false hcb4 (by simp) (by simp)
  (refine Run.seq (Run.region ?_); intro K hK)
  refine Ops.pure H (X.move rfl) rfl rfl rfl ?_
  refine Ops.pure H (X.nilCheck rfl) rfl rfl rfl ?_
  refine Ops.pure H (X.fieldAddr rfl rfl rfl rfl rfl rfl) rfl rfl rfl ?_
  refine Ops.pure H (X.load1 rfl rfl rfl rfl Pick.head rfl) rfl rfl rfl ?_
  refine Ops.pure H (X.assign rfl) rfl rfl rfl ?_
  (refine Ops.nil (hK _ _ ?_); clear hK K)
  refine Run.seq ?_
  (refine Run.seq (Run.region ?_); intro K hK)
  refine Ops.pure H (X.move rfl) rfl rfl rfl ?_
  refine Ops.pure H (X.move rfl) rfl rfl rfl ?_
  (refine Ops.nil (hK _ _ ?_); clear hK K)
  refine Run.block ?_
  obtain ⟨R, hR0⟩ : ∃ R, R = seqsP n fl [] (fun _ => none) xs3 := ⟨_, rfl⟩
  rw [← hR0] at hcP
  refine Run.rounds (fun (x : CPst) => [(0, .pointer (some ⟨rb, 0, none⟩)), (6, .int .u64 (id : Nat)), (7, .pointer (some ⟨cb, 0, none⟩)), (9, .int .u64 (x.last : Nat)), (48, .int .u64 (n : Nat)), (49, .int .u64 (x.j : Nat))])
    (fun x w' => x.j ≤ n ∧ x.sq.length = x.j ∧ x.last < 18446744073709551616 ∧ Byt x.xs ∧ Rd w' rb x.xs ∧ Fr z w' [rb] ∧ CB z.heap.size w' cb ab fl x.sq x.an ∧ seqsP (n - x.j) x.last x.sq x.an x.xs = R) (fun x => n - x.j) ⟨0, fl, [], fun _ => none, xs3⟩ (by repeat (first | exact trivial | refine ⟨rfl, ?_⟩))
    ⟨by dsimp only; omega, rfl, hfll, hb3, hR4.ext H.fr, F4.trans H.fr (by simp) (by simp), ⟨_, #[], 0, fun _ => none, H.fr.get hcb4 (by simp), Own.nil, H.fr.get hab4 (by simp), Mp.empty, (fun _ => .inl ⟨rfl, rfl⟩), fun y u h => (by cases h)⟩, hR0.symm⟩ ?_
  clear H
  rintro ⟨j, last, sq, an, ys⟩ w5 ⟨hj, hsl, hlast, hby, hR5, F5, hC5, he⟩ IH
  dsimp only at hj hsl hlast hby hR5 hC5 he IH ⊢
  by_cases hjn : j < n
  · obtain ⟨q, hq⟩ : ∃ q, n - j = q + 1 := ⟨n - j - 1, by omega⟩
    rw [hq, seqsP] at he
    have H := Holds.start w5 []
    (refine Run.seq (Run.region ?_); intro K hK)
    refine Ops.pure H (X.cmp rfl rfl rfl) rfl rfl rfl ?_
    (refine Ops.nil (hK _ _ ?_); clear hK K)
    refine Run.seq ?_
    refine Run.cond_dec rfl (fun h50 => ?x14) (fun h50 => ?y14)
    case' y14 => exfalso; omega
    case' x14 =>
      refine Run.skip ?_
      refine Run.seq ?_
      refine Run.block ?_
      (refine Run.seq (Run.region ?_); intro K hK)
      refine Ops.pure H (X.move rfl) rfl rfl rfl ?_
    refine Ops.effP rfl (Y.callP rfl rfl (by decide +kernel) rfl (number_any _ rb 8 ys (hR5.ext H.fr) hby (by omega)) rfl (fun ch w' hp a ha => QK.none HF ha (.inr ⟨ch, rfl, by
      rw [if_neg hp.1] at he
      rw [hcP, ← he]
      rfl, hp.2.1, F5.trans (H.fr.trans (U := [rb]) hp.2.2 (by simp) (by simp)) (by simp) (by simp)⟩)) ?_)
    rintro v6 w6 ⟨hl6, rfl, hR6, hf6⟩
    rw [if_pos hl6] at he
    have F6 := F5.trans (U := [rb]) (H.fr.trans (U := [rb]) hf6 (by simp) (by simp)) (by simp) (by simp)
    have hC6 := (hC5.ext H.fr).keep (hR5.ext H.fr) hf6 hncb hnab
    obtain ⟨ys1, hys1⟩ : ∃ l, l = ys.drop 8 := ⟨_, rfl⟩
    obtain ⟨sn, hsn⟩ : ∃ l, l = beV (ys.take 8) := ⟨_, rfl⟩
    have hby1 : Byt ys1 := by rw [hys1]; exact hby.drop 8
    have hsnl : sn < 18446744073709551616 := by rw [hsn]; exact beV8 hby hl6
    rw [← hys1] at hR6 he
    rw [← hsn] at he ⊢
    clear H
    have H := Holds.start w6 []
    by_cases hle : sn ≤ last
    · rw [if_pos hle] at he
      refine Ops.pure H (X.assign rfl) rfl rfl rfl ?_
      (refine Ops.nil (hK _ _ ?_); clear hK K)
      refine Run.seq ?_
      (refine Run.seq (Run.region ?_); intro K hK)
      refine Ops.pure H (X.move rfl) rfl rfl rfl ?_
      refine Ops.pure H (X.move rfl) rfl rfl rfl ?_
      refine Ops.pure H (X.cmp rfl rfl rfl) rfl rfl rfl ?_
      (refine Ops.nil (hK _ _ ?_); clear hK K)
      refine Run.cond_dec rfl (fun h55 => ?x15) (fun h55 => ?y15)
      case' y15 => exfalso; omega
      case' x15 =>
        (refine Run.region ?_; intro K hK)
        refine Ops.pure H (X.buildO rfl rfl rfl rfl rfl rfl) rfl rfl rfl ?_
      refine Ops.pure H (X.mkIface rfl rfl rfl) rfl rfl rfl ?_
      refine Ops.effP rfl (Y.panic rfl fun a ha => QK.none HF ha (.inr ⟨_, rfl, by rw [hcP, ← he]; rfl, rfl, F6.trans H.fr (by simp) (by simp)⟩))
    rw [if_neg hle] at he
    refine Ops.pure H (X.assign rfl) rfl rfl rfl ?_
    (refine Ops.nil (hK _ _ ?_); clear hK K)
    refine Run.seq ?_
    (refine Run.seq (Run.region ?_); intro K hK)
    refine Ops.pure H (X.move rfl) rfl rfl rfl ?_
    refine Ops.pure H (X.move rfl) rfl rfl rfl ?_
    refine Ops.pure H (X.cmp rfl rfl rfl) rfl rfl rfl ?_
    (refine Ops.nil (hK _ _ ?_); clear hK K)
    refine Run.cond_dec rfl (fun h55 => ?x16) (fun h55 => ?y16)
    case' y16 =>
      refine Run.skip ?_
      (refine Run.seq (Run.region ?_); intro K hK)
      refine Ops.pure H (X.move rfl) rfl rfl rfl ?_
      refine Ops.pure H (X.assign rfl) rfl rfl rfl ?_
      (refine Ops.nil (hK _ _ (Run.seq (Run.region ?_))); clear hK K; intro K hK)
      refine Ops.pure H (X.move rfl) rfl rfl rfl ?_
    case' x16 => exfalso; omega
    refine Ops.effP rfl (Y.callP rfl rfl (by decide +kernel) rfl (number_any _ rb 4 ys1 (hR6.ext H.fr) hby1 (by omega)) rfl (fun ch w' hp a ha => QK.none HF ha (.inr ⟨ch, rfl, by
      rw [if_neg hp.1] at he
      rw [hcP, ← he]
      rfl, hp.2.1, F6.trans (H.fr.trans (U := [rb]) hp.2.2 (by simp) (by simp)) (by simp) (by simp)⟩)) ?_)
    rintro v7 w7 ⟨hl7, rfl, hR7, hf7⟩
    rw [if_pos hl7] at he
    have F7 := F6.trans (U := [rb]) (H.fr.trans (U := [rb]) hf7 (by simp) (by simp)) (by simp) (by simp)
    have hC7 := (hC6.ext H.fr).keep (hR6.ext H.fr) hf7 hncb hnab
    obtain ⟨ys2, hys2⟩ : ∃ l, l = ys1.drop 4 := ⟨_, rfl⟩
    obtain ⟨mn, hmn⟩ : ∃ l, l = beV (ys1.take 4) := ⟨_, rfl⟩
    have hby2 : Byt ys2 := by rw [hys2]; exact hby1.drop 4
    have hmnl : mn < 4294967296 := by rw [hmn]; exact beV4 hby1 hl7
    rw [← hys2] at hR7 he
    rw [← hmn] at he ⊢
    clear H
    have H := Holds.start w7 []
    by_cases hbig : 65536 < mn
    · rw [if_pos hbig] at he
      refine Ops.pure H (X.assign rfl) rfl rfl rfl ?_
      (refine Ops.nil (hK _ _ ?_); clear hK K)
      refine Run.seq ?_
      (refine Run.seq (Run.region ?_); intro K hK)
      refine Ops.pure H (X.move rfl) rfl rfl rfl ?_
      refine Ops.pure H (X.cmp rfl rfl rfl) rfl rfl rfl ?_
      (refine Ops.nil (hK _ _ ?_); clear hK K)
      refine Run.cond_dec rfl (fun h62 => ?x17) (fun h62 => ?y17)
      case' y17 => exfalso; omega
      case' x17 =>
        (refine Run.region ?_; intro K hK)
        refine Ops.pure H (X.buildO rfl rfl rfl rfl rfl rfl) rfl rfl rfl ?_
      refine Ops.pure H (X.mkIface rfl rfl rfl) rfl rfl rfl ?_
      refine Ops.effP rfl (Y.panic rfl fun a ha => QK.none HF ha (.inr ⟨_, rfl, by rw [hcP, ← he]; rfl, rfl, F7.trans H.fr (by simp) (by simp)⟩))
    rw [if_neg hbig] at he
    obtain ⟨sv, es, k, f, c1, c2, c3, c4, c5, c6⟩ := hC7.at_
    obtain ⟨sa, scap, rfl⟩ := c2.slice
    clear H
    have H := (Holds.start w7 [cb]).add true c1 (by simp) (by simp)
    refine Ops.pure H (X.assign rfl) rfl rfl rfl ?_
    (refine Ops.nil (hK _ _ ?_); clear hK K)
    refine Run.seq ?_
    (refine Run.seq (Run.region ?_); intro K hK)
    refine Ops.pure H (X.move rfl) rfl rfl rfl ?_
    refine Ops.pure H (X.cmp rfl rfl rfl) rfl rfl rfl ?_
    (refine Ops.nil (hK _ _ ?_); clear hK K)
    refine Run.cond_dec rfl (fun h62 => ?x18) (fun h62 => ?y18)
    case' y18 =>
      refine Run.skip ?_
      (refine Run.seq (Run.region ?_); intro K hK)
      refine Ops.pure H (X.move rfl) rfl rfl rfl ?_
      refine Ops.pure H (X.move rfl) rfl rfl rfl ?_
      refine Ops.pure H (X.nilCheck rfl) rfl rfl rfl ?_
      refine Ops.pure H (X.fieldAddr rfl rfl rfl rfl rfl rfl) rfl rfl rfl ?_
      refine Ops.pure H (X.load1 rfl rfl rfl rfl Pick.head rfl) rfl rfl rfl ?_
      refine Ops.pure H (X.move rfl) rfl rfl rfl ?_
      (refine Ops.eff rfl (Y.buildSliceO rfl rfl rfl rfl rfl rfl rfl rfl H ?_); intro b71 w H0 hb71; clear H; have H := H0; clear H0)
    case' x18 => exfalso; omega
    have hsqlen : sq.length ≤ 64 := by omega
    refine Ops.eff rfl (Y.appendOwnK (w0 := z) (S := [rb]) (news := [.int .u64 ((sn : Nat) : Int)]) (c2.rows fun b cs hb => H.fr.get hb (by
      simp
      rintro rfl
      rw [c1] at hb
      cases hb)) rfl rfl rfl rfl rfl rfl (F7.trans H.fr (by simp) (fun b hb hl => by simp at hb; omega)) (by omega) rfl (Src.row (m := 1) H .head (Cs.take rfl)) rfl rfl (by dsimp only; omega) (by omega) rfl ?_)
    intro v8 w8 F8 k8 hO8
    obtain ⟨sa8, scap8, rfl⟩ := hO8.slice
    have c18 := k8 _ _ (H.pick (b := cb) (by repeat (first | exact .head | apply Pick.tail))) (by simp)
    have c38 := k8 _ _ (H.fr.get c3 (by
      simp
      rintro rfl
      rw [c3] at c1
      cases c1)) (by simp)
    have hncab : cb ≠ ab := by
      rintro rfl
      rw [c3] at c1
      cases c1
    have hR8 : Rd w8 rb ys2 := (hR7.keep H.fr c1).up k8
    have c58 : MA w8 f an := (c5.keep H.fr (fun b hb => by
      simp at hb
      subst hb
      exact No5.row c1 (by decide))).up k8
    clear H
    have H := (Holds.start w8 [cb]).add true c18 (by simp) (by simp)
    refine Ops.pure H (X.nilCheck rfl) rfl rfl rfl ?_
    refine Ops.pure H (X.fieldAddr rfl rfl rfl rfl rfl rfl) rfl rfl rfl ?_
    (refine Ops.eff rfl (Y.store1 rfl rfl rfl rfl rfl rfl H Upd.head (by repeat (first | exact SetC.zero | apply SetC.succ)) ?_); intro w H0; clear H; have H := H0; clear H0)
    (refine Ops.nil (hK _ _ ?_); clear hK K)
    (refine Run.draw H [9] [0, 1, 2, 3, 4, 5, 6, 7, 8, 9] ?_; clear H; intro K hK w H)
    refine Draw.take0 rfl (X.move rfl) rfl rfl rfl (by decide +kernel) ?_
    refine Draw.take0 rfl (X.nilCheck rfl) rfl rfl rfl (by decide +kernel) ?_
    refine Draw.take0 rfl (X.fieldAddr rfl rfl rfl rfl rfl rfl) rfl rfl rfl (by decide +kernel) ?_
    refine Draw.take rfl (X.load1 rfl rfl rfl rfl Pick.head rfl) rfl rfl rfl (by decide +kernel) ?_
    refine Draw.take0 rfl (X.move rfl) rfl rfl rfl (by decide +kernel) ?_
    refine Draw.take0 rfl (X.move rfl) rfl rfl rfl (by decide +kernel) ?_
    refine Draw.take0 rfl (X.move rfl) rfl rfl rfl (by decide +kernel) ?_
    have hR9 := hR8.keep H.fr c18
    have c59 : MA w f an := c58.keep H.fr (fun b hb => by
      simp at hb
      subst hb
      exact No5.row c18 (by decide))
    have F9 := F8.trans (U := [rb]) H.fr (by simp) (fun b hb hl => by simp at hb; omega)
    have c19 := H.pick (b := cb) .head
    have c39 := H.fr.get c38 (by simpa using hncab.symm)
    have hO9 := hO8.rows (w' := w) fun b cs hb => H.fr.get hb (by
      simp
      rintro rfl
      rw [c18] at hb
      cases hb)
    refine Draw.effP rfl rfl (by decide +kernel) (Y.callP rfl rfl (by decide +kernel) rfl (take_any _ rb mn ys2 hR9 (by omega)) rfl (fun ch w' hp a ha => QKd.none HF ha (.inr ⟨ch, rfl, by
      rw [if_neg hp.1] at he
      rw [hcP, ← he]
      rfl, hp.2.1, F9.trans hp.2.2 (by simp) (by simp)⟩)) ?_)
    rintro v10 w10 ⟨hl10, hB10, hR10, hf10⟩
    rw [if_pos hl10] at he
    have c110 := hf10.get c19 (by simpa using hncb.symm)
    refine ⟨fun e he => by
      simp at he
      subst he
      exact c110, ?_⟩
    refine Draw.eff rfl rfl (by decide +kernel) (Y.call rfl rfl (by first | assumption | decide +kernel) rfl (bclone_fresh _ v10 (ys2.take mn) hB10 (by simp; omega)) rfl ?_)
    rintro v11 w11 ⟨hA11f, hf11⟩
    have hA11 := hA11f.ans
    have hN11 : NewV z.heap.size v11 := hA11f.newV.low (F9.trans hf10 (U := [rb]) (by simp) (by simp)).size
    have c111 := hf11.get c110 (by simp)
    refine ⟨fun e he => by
      simp at he
      subst he
      exact c111, ?_⟩
    clear H
    have c311 := hf11.get (hf10.get c39 (by simpa using hnab.symm)) (by simp)
    have H := ((Holds.start w11 [ab]).add true c311 (by simp) (by simp)).add false c111 (by simpa using hncab) (by simp)
    have c510 : MA w10 f an := c59.keep hf10 (fun b hb => by
      simp at hb
      subst hb
      exact hR9.no5.1)
    have hO10 := hO9.rows (w' := w10) fun b cs hb => hf10.get hb (by
      simp
      rintro rfl
      exact hR9.no5.2 _ hb)
    refine Draw.last rfl rfl (by decide +kernel) (Y.mapUpdate (i := ((sn : Nat) : Int)) c4 H (.tail .head) rfl rfl rfl rfl rfl rfl rfl ?_)
    intro es2 k2 w12 H12 hM12 _ _
    clear H
    have H := H12
    clear H12
    (refine Draw2.done (by decide +kernel) (hK _ _ ?_); clear hK K)
    refine Run.inBlock ?_
    (refine Run.region ?_; intro K hK)
    refine Ops.pure H (X.add_in rfl rfl (u64_in _ (by omega))) rfl rfl rfl ?_
    refine Ops.pure H (X.move rfl) rfl rfl rfl ?_
    (refine Ops.nil (hK _ _ ?_); clear hK K)
    have hS : ∀ b ∈ [ab], No5 w11 b := fun b hb => by
      simp at hb
      subst hb
      exact No5.map c311
    refine (IH ⟨j + 1, sn, sq ++ [((sn : Nat) : Int)], updA an ((sn : Nat) : Int) (some (ys2.take mn)), ys2.drop mn⟩ _ (by dsimp only; omega) ⟨by dsimp only; omega, by simp [hsl], hsnl, hby2.drop mn, (hR10.ext hf11).keepM H.fr c311, ?_, ⟨_, es2, k2, _, H.pick (b := cb) (.tail .head), ?_, H.pick (b := ab) .head, hM12, ?_, fun y u hu => (by
      unfold upd at hu
      split at hu
      · cases hu; exact hN11
      · exact c6 y u hu)⟩, ?_⟩).weak (by repeat (first | exact trivial | refine ⟨rfl, ?_⟩))
    · exact ((F9.trans hf10 (U := [rb]) (by simp) (by simp)).trans hf11 (U := [rb]) (by simp) (by simp)).trans H.fr (by simp) (fun b hb hl => by simp at hb; omega)
    · refine ((hO10.ext hf11).rows fun b cs hb => H.fr.get hb ?_).cast (by simp) (by simp [u64s])
      simp
      rintro rfl
      rw [c311] at hb
      cases hb
    · exact ((c510.keep hf11 (by simp)).keep H.fr hS).put _ (hA11.keep H.fr hS)
    · dsimp only
      rw [show n - (j + 1) = q by omega]
      exact he
  · obtain rfl : j = n := by omega
    have H := Holds.start w5 []
    (refine Run.seq (Run.region ?_); intro K hK)
    refine Ops.pure H (X.cmp rfl rfl rfl) rfl rfl rfl ?_
    (refine Ops.nil (hK _ _ ?_); clear hK K)
    refine Run.seq ?_
    refine Run.cond_dec rfl (fun h50 => ?x19) (fun h50 => ?y19)
    case' y19 =>
      refine Run.exit rfl ?_
      (refine Run.seq (Run.region ?_); intro K hK)
      refine Ops.pure H (X.move rfl) rfl rfl rfl ?_
      refine Ops.pure H (X.move rfl) rfl rfl rfl ?_
      refine Ops.pure H (X.assign rfl) rfl rfl rfl ?_
      refine Ops.pure H (X.assign rfl) rfl rfl rfl ?_
      (refine Ops.nil (hK _ _ ?_); clear hK K)
    case' x19 => exfalso; omega
    have hR1 : R = some (sq, an, ys) := by rw [← he, Nat.sub_self, seqsP]
    rw [hR1] at hcP
    obtain ⟨v, es, k, f, c1, c2, c3, c4, c5, c6⟩ := (hC5.ext H.fr).at_
    obtain ⟨sb, scap, scs, rfl, s2, s3, s4, s5, s6, s7⟩ := c2.get (by omega)
    refine FnP.ret2 HF rfl rfl rfl ⟨id, ⟨cb, sb, ab, ⟨((fl : Nat) : Int), sq, an⟩⟩, ys, hcP, rfl, ⟨⟨_, c1, ?_⟩, es, k, f, c3, c4, c5⟩, ⟨scs, s5⟩, hcz, s4, haz, hR5.ext H.fr, F5.trans H.fr (by simp) (by simp), fun es' k' f' hm hM => (by
      rw [c3] at hm
      cases hm
      rw [Mp.uniq hM c4]
      exact c6)⟩
    exact ⟨_, scap, 0, scs, rfl, s2, s3, .inr ⟨rfl, s5, by omega, by simpa using s7⟩⟩
end Go.Proofs.Ytaneenahapdabaa
