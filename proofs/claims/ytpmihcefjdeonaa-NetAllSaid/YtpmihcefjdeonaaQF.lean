/- Walks of layer 6: does. -/
import Derived.Test.YtpmihcefjdeonaaQE
namespace Go.Proofs.Ytpmihcefjdeonaa
open Go
set_option maxRecDepth 20000
set_option maxHeartbeats 2000000
attribute [local irreducible] Run Ops Fn Draw Draw2 PureOp StepZ

/-- A block that is no network's. -/
def Free (g : PG) (h : RG) (b : Nat) : Prop := ¬ PF g b ∧ ¬ PI g b ∧ ¬ RD h b
theorem Both.free {w w' : World} {g g' : PG} {h h' : RG} (B : Both w g h w' g' h') {b : Nat} (hb : b < w.heap.size) (hf : Free g h b) : Free g' h' b :=
  ⟨fun hp => (B.ownP b hp).elim hf.1 (fun _ => by omega), fun hp => (B.immP b hp).elim hf.2.1 (fun _ => by omega), fun hp => (B.ownR b hp).elim hf.2.2 (fun _ => by omega)⟩
theorem Both.getF {w w' : World} {g g' : PG} {h h' : RG} (B : Both w g h w' g' h') {b : Nat} {o : Obj} (hb : w.heap[b]? = some o) (hf : Free g h b) : w'.heap[b]? = some o := B.get hb hf.1 (fun hm => hf.2.2 (.inl hm))
theorem Apart.new {w : World} {g : PG} {h : RG} (A : Apart w g h) {b : Nat} (hb : w.heap.size ≤ b) : Free g h b := ⟨fun hp => by have := A.p.lt hp; omega, fun hp => by have := A.p.ltI hp; omega, fun hp => by have := A.d.lt hp; omega⟩
theorem Both.bys {w w' : World} {g g' : PG} {h h' : RG} (B : Both w g h w' g' h') {v : Value} {xs : List Int} (hb : Bys w v xs) (hf : ∀ a n c, v = .slice (some a) n c → 0 < n → Free g h a.block) : Bys w' v xs := by
  obtain ⟨a, cap, b, off, cs, T, fz, rfl, h2, h3, h4, h5⟩ := hb
  refine ⟨a, cap, b, off, cs, T, fz, rfl, h2, h3, fun hp => ⟨(h4 hp).1, B.getF (h4 hp).2 ?_⟩, h5⟩
  have := hf _ _ _ (by rw [(h4 hp).1]) hp
  exact this
/-- The next act's both. -/
def Did (z : World) (g : PG) (h : RG) (s : Ns) (v : Value) (w' : World) : Prop := v = .bool true ∧ ∃ g' h', Both z g h w' g' h' ∧ g'.abs = s ∧ h'.abs = s
theorem Waits_at (z : World) (g : PG) (i : Int) {nb : Nat} (hnb : g.nb = nb) (h : PN z g) : Fn env.P 39 [.pointer (some ⟨nb, 0, none⟩), .int .i64 i] z fun v w' => v = .tuple #[.int .i64 (if g.abs.there i then (g.abs.box i.toNat).length else 0 : Nat), .int .i64 (if g.abs.there i then 0 else 60)] ∧ w' = z := by subst hnb; exact Waits_any z g i h
theorem Is_at (z : World) (g : PG) (i : Int) {nb : Nat} (hnb : g.nb = nb) (h : PN z g) : Fn env.P 9 [.pointer (some ⟨nb, 0, none⟩), .int .i64 i] z fun v w' => v = .bool (g.abs.there i) ∧ w' = z := by subst hnb; exact Is_any z g i h
theorem does_any (z : World) (pb : Nat) (g : PG) (h : RG) (c : AC) (bv : Value) (k : Nat) (hpb : z.heap[pb]? = some (row [.pointer (some ⟨g.nb, 0, none⟩), .pointer (some ⟨h.rb, 0, none⟩)] 34)) (hpf : Free g h pb) (A : Apart z g h) (hab : h.abs = g.abs) (hok : g.abs.Ok k) (hk : k + 1 ≤ 4398046511000)
    (hbv : Bys z bv c.b) (hbn : c.b.length ≤ 140737488351232) (hbb : ∀ a n cp, bv = .slice (some a) n cp → 0 < n → Free g h a.block) (hi : -9223372036854775808 ≤ c.i ∧ c.i ≤ 9223372036854775807) :
    Fn env.P 8 [.pointer (some ⟨pb, 0, none⟩), .agg (acC c bv).toArray] z (Did z g h (g.abs.act c)) := by
  obtain ⟨tv, yv, xv, av, a1, a2, a3, a4, a5⟩ := A.d.net
  obtain ⟨aa, ac, rfl, _⟩ := a5.slice
  have npr : pb ≠ h.rb := ne_of_ty hpb a1 (by decide)
  obtain ⟨ba, bc, rfl⟩ : ∃ a cp, bv = .slice a c.b.length cp := by obtain ⟨a, cp, _, _, _, _, _, h1, _⟩ := hbv; exact ⟨a, cp, h1⟩
  have H := ((Holds.start z []).add false hpb (by simp) (by simp)).add false a1 (by simpa using npr.symm) (by simp)
  unfold acC
  have HF := Try.func8; refine Fn.enter Try.func8 Try.ntmps8 rfl rfl rfl ?_
  refine Run.seq ?_
  (refine Run.region ?_; intro K hK)
  (refine Ops.eff rfl (Y.box rfl rfl rfl H ?_); intro b3 w H0 hb3; clear H; have H := H0; clear H0)
  refine Ops.pure H (X.assign rfl) rfl rfl rfl ?_
  (refine Ops.nil (hK _ _ ?_); clear hK K)
  refine Run.seq ?_
  (refine Run.region ?_; intro K hK)
  refine Ops.pure H (X.fieldAddr rfl rfl rfl rfl rfl rfl) rfl rfl rfl ?_
  refine Ops.pure H (X.load1 rfl rfl rfl rfl Pick.head rfl) rfl rfl rfl ?_
  refine Ops.pure H (X.assign rfl) rfl rfl rfl ?_
  (refine Ops.nil (hK _ _ ?_); clear hK K)
  refine Run.seq ?_
  refine Run.seq ?_
  (refine Run.region ?_; intro K hK)
  refine Ops.pure H (X.fieldAddr rfl rfl rfl rfl rfl rfl) rfl rfl rfl ?_
  refine Ops.pure H (X.load1 rfl rfl rfl rfl Pick.head rfl) rfl rfl rfl ?_
  (refine Ops.nil (hK _ _ ?_); clear hK K)
  have hpc : h.air.length = g.abs.fly.length := by rw [← hab, rabs_fly, List.length_map]
  have hfl := hok.fly.1
  refine Run.meet (fun (_ : Unit) => [(0, .pointer (some ⟨pb, 0, none⟩)), (3, .pointer (some ⟨b3, 0, none⟩)), (5, .int .i64 (g.abs.place c))])
    (fun _ w' => Fr z w' [] ∧ w'.heap[b3]? = some (row [.int .i64 c.kind, .int .i64 c.a, .int .i64 c.to, .int .i64 c.i, .slice ba c.b.length bc, .bool c.how] 30)) ?_ ?_
  rotate_left
  · intro kk go
    cases hh : c.how with
    | false =>
      rw [hh] at H
      refine Run.cond_false rfl ?_
      refine Run.skip ?_
      exact go () _ _ ⟨H.fr, by rw [hh]; exact H.pick (b := b3) (by first | exact .head | exact .tail .head | exact .tail (.tail .head) | exact .tail (.tail (.tail .head)) | exact .tail (.tail (.tail (.tail .head))) | exact .tail (.tail (.tail (.tail (.tail .head)))) | exact .tail (.tail (.tail (.tail (.tail (.tail .head))))))⟩ (by unfold Ns.place; rw [hh]; repeat (first | exact trivial | refine ⟨rfl, ?_⟩))
    | true =>
      rw [hh] at H
      refine Run.cond_true rfl ?_
      (refine Run.draw H [] [0, 1, 2, 3, 4, 5, 6, 7, 8, 9, 10, 11] ?_; clear H; intro K hK w H)
      refine Draw.take0 rfl (X.fieldAddr rfl rfl rfl rfl rfl rfl) rfl rfl rfl (by decide +kernel) ?_
      refine Draw.take rfl (X.load1 rfl rfl rfl rfl Pick.head rfl) rfl rfl rfl (by decide +kernel) ?_
      refine Draw.take0 rfl (X.move rfl) rfl rfl rfl (by decide +kernel) ?_
      refine Draw.take0 rfl (X.nilCheck rfl) rfl rfl rfl (by decide +kernel) ?_
      refine Draw.take0 rfl (X.fieldAddr rfl rfl rfl rfl rfl rfl) rfl rfl rfl (by decide +kernel) ?_
      refine Draw.take rfl (X.load1 rfl rfl rfl rfl (.tail (.tail .head)) rfl) rfl rfl rfl (by decide +kernel) ?_
      refine Draw.take0 rfl (X.nilCheck rfl) rfl rfl rfl (by decide +kernel) ?_
      refine Draw.take0 rfl (X.fieldAddr rfl rfl rfl rfl rfl rfl) rfl rfl rfl (by decide +kernel) ?_
      refine Draw.take rfl (X.load1 rfl rfl rfl rfl (.tail .head) rfl) rfl rfl rfl (by decide +kernel) ?_
      refine Draw.take0 rfl (X.len_slice rfl rfl rfl) rfl rfl rfl (by decide +kernel) ?_
      refine Draw.eff rfl rfl (by decide +kernel) (Y.call rfl rfl (by first | assumption | decide +kernel) rfl (place_any _ c.i h.air.length (by omega) hi) rfl ?_)
      rintro v w1 ⟨rfl, rfl⟩
      refine ⟨H.at_, ?_⟩
      refine Draw.take0 rfl (X.assign rfl) rfl rfl rfl (by decide +kernel) ?_
      (refine Draw.done (by decide +kernel) (hK _ _ ?_); clear hK K)
      exact go () _ _ ⟨H.fr, by rw [hh]; exact H.pick (b := b3) (by first | exact .head | exact .tail .head | exact .tail (.tail .head) | exact .tail (.tail (.tail .head)) | exact .tail (.tail (.tail (.tail .head))) | exact .tail (.tail (.tail (.tail (.tail .head)))) | exact .tail (.tail (.tail (.tail (.tail (.tail .head))))))⟩ (by unfold Ns.place; rw [hh, ← hpc]; repeat (first | exact trivial | refine ⟨rfl, ?_⟩))
  · rintro _ w2 ⟨hF, k3⟩
    have hsz2 := hF.size
    have hpb2 := hF.get hpb (by simp)
    have A2 : Apart w2 g h := ⟨A.p.ext hF, A.d.ext hF, A.ds⟩
    have hbv2 := hbv.ext hF
    have n3p : b3 ≠ pb := ne_of_ty k3 hpb2 (by decide)
    have f3 : Free g h b3 := A.new hb3
    have B0 : Both z g h w2 g h := .rfl' A hF
    clear H
    have H := ((Holds.start w2 []).add false hpb2 (by simp) (by simp)).add false k3 (by simpa using n3p) (by simp)
    refine Run.seq ?_
    refine Run.seq ?_
    (refine Run.region ?_; intro K hK)
    refine Ops.pure H (X.fieldAddr rfl rfl rfl rfl rfl rfl) rfl rfl rfl ?_
    refine Ops.pure H (X.load1 rfl rfl rfl rfl Pick.head rfl) rfl rfl rfl ?_
    (refine Ops.nil (hK _ _ ?_); clear hK K)
    refine Run.block ?_
    refine Run.seq ?_
    (refine Run.region ?_; intro K hK)
    refine Ops.pure H (X.cmp rfl rfl rfl) rfl rfl rfl ?_
    refine Ops.pure H (X.assign rfl) rfl rfl rfl ?_
    (refine Ops.nil (hK _ _ ?_); clear hK K)
    refine Run.cond_dec rfl (fun h40 => ?x0) (fun h40 => ?y0)
    case' y0 =>
      refine Run.seq ?_
      (refine Run.region ?_; intro K hK)
      refine Ops.pure H (X.cmp rfl rfl rfl) rfl rfl rfl ?_
      refine Ops.pure H (X.assign rfl) rfl rfl rfl ?_
      (refine Ops.nil (hK _ _ ?_); clear hK K)
      refine Run.cond_dec rfl (fun h70 => ?x1) (fun h70 => ?y1)
      case' y1 =>
        refine Run.seq ?_
        (refine Run.region ?_; intro K hK)
        refine Ops.pure H (X.cmp rfl rfl rfl) rfl rfl rfl ?_
        refine Ops.pure H (X.assign rfl) rfl rfl rfl ?_
        (refine Ops.nil (hK _ _ ?_); clear hK K)
        refine Run.cond_dec rfl (fun h122 => ?x2) (fun h122 => ?y2)
        case' y2 =>
          refine Run.seq ?_
          (refine Run.region ?_; intro K hK)
          refine Ops.pure H (X.cmp rfl rfl rfl) rfl rfl rfl ?_
          refine Ops.pure H (X.assign rfl) rfl rfl rfl ?_
          (refine Ops.nil (hK _ _ ?_); clear hK K)
          refine Run.cond_dec rfl (fun h137 => ?x3) (fun h137 => ?y3)
          case' y3 =>
            refine Run.seq ?_
            (refine Run.region ?_; intro K hK)
            refine Ops.pure H (X.cmp rfl rfl rfl) rfl rfl rfl ?_
            refine Ops.pure H (X.assign rfl) rfl rfl rfl ?_
            (refine Ops.nil (hK _ _ ?_); clear hK K)
            refine Run.cond_dec rfl (fun h152 => ?x4) (fun h152 => ?y4)
            case' y4 =>
              refine Run.seq ?_
              (refine Run.region ?_; intro K hK)
              refine Ops.pure H (X.cmp rfl rfl rfl) rfl rfl rfl ?_
              refine Ops.pure H (X.assign rfl) rfl rfl rfl ?_
              (refine Ops.nil (hK _ _ ?_); clear hK K)
              refine Run.cond_dec rfl (fun h167 => ?x5) (fun h167 => ?y5)
              case' y5 =>
                refine Run.seq ?_
                (refine Run.region ?_; intro K hK)
                refine Ops.pure H (X.cmp rfl rfl rfl) rfl rfl rfl ?_
                refine Ops.pure H (X.assign rfl) rfl rfl rfl ?_
                (refine Ops.nil (hK _ _ ?_); clear hK K)
                refine Run.cond_dec rfl (fun h184 => ?x6) (fun h184 => ?y6)
                case' y6 =>
                  refine Run.seq ?_
                  (refine Run.region ?_; intro K hK)
                  refine Ops.pure H (X.cmp rfl rfl rfl) rfl rfl rfl ?_
                  refine Ops.pure H (X.assign rfl) rfl rfl rfl ?_
                  (refine Ops.nil (hK _ _ ?_); clear hK K)
                  refine Run.cond_dec rfl (fun h201 => ?x7) (fun h201 => ?y7)
                  case' y7 =>
                    refine Run.seq ?_
                    (refine Run.region ?_; intro K hK)
                    refine Ops.pure H (X.cmp rfl rfl rfl) rfl rfl rfl ?_
                    refine Ops.pure H (X.assign rfl) rfl rfl rfl ?_
                    (refine Ops.nil (hK _ _ ?_); clear hK K)
                    refine Run.cond_dec rfl (fun h218 => ?x8) (fun h218 => ?y8)
                    case' y8 =>
                      refine Run.skip ?_
                      refine Run.inBlock ?_
                      refine Run.seq ?_
                      (refine Run.region ?_; intro K hK)
                      refine Ops.pure H (X.assign rfl) rfl rfl rfl ?_
                      (refine Ops.nil (hK _ _ ?_); clear hK K)
                    case' x8 =>
                      refine Run.seq ?_
                      (refine Run.draw H [8] [0, 1, 2, 3, 4, 5, 6, 7, 8, 9, 10, 11, 12, 13] ?_; clear H; intro K hK w H)
                      refine Draw.take0 rfl (X.move rfl) rfl rfl rfl (by decide +kernel) ?_
                      refine Draw.take0 rfl (X.nilCheck rfl) rfl rfl rfl (by decide +kernel) ?_
                      refine Draw.take0 rfl (X.fieldAddr rfl rfl rfl rfl rfl rfl) rfl rfl rfl (by decide +kernel) ?_
                      refine Draw.take rfl (X.load1 rfl rfl rfl rfl (.tail .head) rfl) rfl rfl rfl (by decide +kernel) ?_
                      refine Draw.take0 rfl (X.fieldAddr rfl rfl rfl rfl rfl rfl) rfl rfl rfl (by decide +kernel) ?_
                      refine Draw.take rfl (X.load1 rfl rfl rfl rfl Pick.head rfl) rfl rfl rfl (by decide +kernel) ?_
                      refine Draw.take0 rfl (X.fieldAddr rfl rfl rfl rfl rfl rfl) rfl rfl rfl (by decide +kernel) ?_
                      refine Draw.take rfl (X.load1 rfl rfl rfl rfl Pick.head rfl) rfl rfl rfl (by decide +kernel) ?_
                  case' x7 =>
                    refine Run.seq ?_
                    (refine Run.draw H [] [0, 1, 2, 3, 4, 5, 7, 8, 9, 10, 11, 12, 6, 13, 14, 15] ?_; clear H; intro K hK w H)
                    refine Draw.take0 rfl (X.move rfl) rfl rfl rfl (by decide +kernel) ?_
                    refine Draw.take0 rfl (X.nilCheck rfl) rfl rfl rfl (by decide +kernel) ?_
                    refine Draw.take0 rfl (X.fieldAddr rfl rfl rfl rfl rfl rfl) rfl rfl rfl (by decide +kernel) ?_
                    refine Draw.take rfl (X.load1 rfl rfl rfl rfl (.tail .head) rfl) rfl rfl rfl (by decide +kernel) ?_
                    refine Draw.take0 rfl (X.fieldAddr rfl rfl rfl rfl rfl rfl) rfl rfl rfl (by decide +kernel) ?_
                    refine Draw.take rfl (X.load1 rfl rfl rfl rfl Pick.head rfl) rfl rfl rfl (by decide +kernel) ?_
                    refine Draw.take0 rfl (X.move rfl) rfl rfl rfl (by decide +kernel) ?_
                    refine Draw.take0 rfl (X.nilCheck rfl) rfl rfl rfl (by decide +kernel) ?_
                    refine Draw.take0 rfl (X.fieldAddr rfl rfl rfl rfl rfl rfl) rfl rfl rfl (by decide +kernel) ?_
                    refine Draw.take rfl (X.load1 rfl rfl rfl rfl (.tail .head) rfl) rfl rfl rfl (by decide +kernel) ?_
                    refine Draw.take0 rfl (X.fieldAddr rfl rfl rfl rfl rfl rfl) rfl rfl rfl (by decide +kernel) ?_
                    refine Draw.take rfl (X.load1 rfl rfl rfl rfl Pick.head rfl) rfl rfl rfl (by decide +kernel) ?_
                case' x6 =>
                  refine Run.seq ?_
                  (refine Run.draw H [] [0, 1, 2, 3, 4, 5, 7, 8, 9, 10, 11, 12, 6, 13, 14, 15] ?_; clear H; intro K hK w H)
                  refine Draw.take0 rfl (X.move rfl) rfl rfl rfl (by decide +kernel) ?_
                  refine Draw.take0 rfl (X.nilCheck rfl) rfl rfl rfl (by decide +kernel) ?_
                  refine Draw.take0 rfl (X.fieldAddr rfl rfl rfl rfl rfl rfl) rfl rfl rfl (by decide +kernel) ?_
                  refine Draw.take rfl (X.load1 rfl rfl rfl rfl (.tail .head) rfl) rfl rfl rfl (by decide +kernel) ?_
                  refine Draw.take0 rfl (X.fieldAddr rfl rfl rfl rfl rfl rfl) rfl rfl rfl (by decide +kernel) ?_
                  refine Draw.take rfl (X.load1 rfl rfl rfl rfl Pick.head rfl) rfl rfl rfl (by decide +kernel) ?_
                  refine Draw.take0 rfl (X.move rfl) rfl rfl rfl (by decide +kernel) ?_
                  refine Draw.take0 rfl (X.nilCheck rfl) rfl rfl rfl (by decide +kernel) ?_
                  refine Draw.take0 rfl (X.fieldAddr rfl rfl rfl rfl rfl rfl) rfl rfl rfl (by decide +kernel) ?_
                  refine Draw.take rfl (X.load1 rfl rfl rfl rfl (.tail .head) rfl) rfl rfl rfl (by decide +kernel) ?_
                  refine Draw.take0 rfl (X.fieldAddr rfl rfl rfl rfl rfl rfl) rfl rfl rfl (by decide +kernel) ?_
                  refine Draw.take rfl (X.load1 rfl rfl rfl rfl Pick.head rfl) rfl rfl rfl (by decide +kernel) ?_
              case' x5 =>
                refine Run.seq ?_
                (refine Run.draw H [] [0, 1, 2, 3, 4, 5, 7, 8, 9, 10, 11, 12, 6, 13, 14, 15] ?_; clear H; intro K hK w H)
                refine Draw.take0 rfl (X.move rfl) rfl rfl rfl (by decide +kernel) ?_
                refine Draw.take0 rfl (X.nilCheck rfl) rfl rfl rfl (by decide +kernel) ?_
                refine Draw.take0 rfl (X.fieldAddr rfl rfl rfl rfl rfl rfl) rfl rfl rfl (by decide +kernel) ?_
                refine Draw.take rfl (X.load1 rfl rfl rfl rfl (.tail .head) rfl) rfl rfl rfl (by decide +kernel) ?_
                refine Draw.take0 rfl (X.fieldAddr rfl rfl rfl rfl rfl rfl) rfl rfl rfl (by decide +kernel) ?_
                refine Draw.take rfl (X.load1 rfl rfl rfl rfl Pick.head rfl) rfl rfl rfl (by decide +kernel) ?_
                refine Draw.take0 rfl (X.move rfl) rfl rfl rfl (by decide +kernel) ?_
                refine Draw.take0 rfl (X.nilCheck rfl) rfl rfl rfl (by decide +kernel) ?_
                refine Draw.take0 rfl (X.fieldAddr rfl rfl rfl rfl rfl rfl) rfl rfl rfl (by decide +kernel) ?_
                refine Draw.take rfl (X.load1 rfl rfl rfl rfl (.tail .head) rfl) rfl rfl rfl (by decide +kernel) ?_
                refine Draw.take0 rfl (X.fieldAddr rfl rfl rfl rfl rfl rfl) rfl rfl rfl (by decide +kernel) ?_
                refine Draw.take rfl (X.load1 rfl rfl rfl rfl Pick.head rfl) rfl rfl rfl (by decide +kernel) ?_
            case' x4 =>
              refine Run.seq ?_
              (refine Run.draw H [] [0, 1, 2, 3, 4, 6, 7, 8, 9, 10, 5, 11, 12, 13] ?_; clear H; intro K hK w H)
              refine Draw.take0 rfl (X.move rfl) rfl rfl rfl (by decide +kernel) ?_
              refine Draw.take0 rfl (X.nilCheck rfl) rfl rfl rfl (by decide +kernel) ?_
              refine Draw.take0 rfl (X.fieldAddr rfl rfl rfl rfl rfl rfl) rfl rfl rfl (by decide +kernel) ?_
              refine Draw.take rfl (X.load1 rfl rfl rfl rfl (.tail .head) rfl) rfl rfl rfl (by decide +kernel) ?_
              refine Draw.take0 rfl (X.move rfl) rfl rfl rfl (by decide +kernel) ?_
              refine Draw.take0 rfl (X.move rfl) rfl rfl rfl (by decide +kernel) ?_
              refine Draw.take0 rfl (X.nilCheck rfl) rfl rfl rfl (by decide +kernel) ?_
              refine Draw.take0 rfl (X.fieldAddr rfl rfl rfl rfl rfl rfl) rfl rfl rfl (by decide +kernel) ?_
              refine Draw.take rfl (X.load1 rfl rfl rfl rfl (.tail .head) rfl) rfl rfl rfl (by decide +kernel) ?_
              refine Draw.take0 rfl (X.move rfl) rfl rfl rfl (by decide +kernel) ?_
          case' x3 =>
            refine Run.seq ?_
            (refine Run.draw H [] [0, 1, 2, 3, 4, 6, 7, 8, 9, 10, 5, 11, 12, 13] ?_; clear H; intro K hK w H)
            refine Draw.take0 rfl (X.move rfl) rfl rfl rfl (by decide +kernel) ?_
            refine Draw.take0 rfl (X.nilCheck rfl) rfl rfl rfl (by decide +kernel) ?_
            refine Draw.take0 rfl (X.fieldAddr rfl rfl rfl rfl rfl rfl) rfl rfl rfl (by decide +kernel) ?_
            refine Draw.take rfl (X.load1 rfl rfl rfl rfl (.tail .head) rfl) rfl rfl rfl (by decide +kernel) ?_
            refine Draw.take0 rfl (X.move rfl) rfl rfl rfl (by decide +kernel) ?_
            refine Draw.take0 rfl (X.move rfl) rfl rfl rfl (by decide +kernel) ?_
            refine Draw.take0 rfl (X.nilCheck rfl) rfl rfl rfl (by decide +kernel) ?_
            refine Draw.take0 rfl (X.fieldAddr rfl rfl rfl rfl rfl rfl) rfl rfl rfl (by decide +kernel) ?_
            refine Draw.take rfl (X.load1 rfl rfl rfl rfl (.tail .head) rfl) rfl rfl rfl (by decide +kernel) ?_
            refine Draw.take0 rfl (X.move rfl) rfl rfl rfl (by decide +kernel) ?_
        case' x2 =>
          refine Run.seq ?_
          (refine Run.draw H [] [0, 1, 2, 3, 4, 6, 7, 8, 9, 10, 5, 11, 12, 13] ?_; clear H; intro K hK w H)
          refine Draw.take0 rfl (X.move rfl) rfl rfl rfl (by decide +kernel) ?_
          refine Draw.take0 rfl (X.nilCheck rfl) rfl rfl rfl (by decide +kernel) ?_
          refine Draw.take0 rfl (X.fieldAddr rfl rfl rfl rfl rfl rfl) rfl rfl rfl (by decide +kernel) ?_
          refine Draw.take rfl (X.load1 rfl rfl rfl rfl (.tail .head) rfl) rfl rfl rfl (by decide +kernel) ?_
          refine Draw.take0 rfl (X.move rfl) rfl rfl rfl (by decide +kernel) ?_
          refine Draw.take0 rfl (X.move rfl) rfl rfl rfl (by decide +kernel) ?_
          refine Draw.take0 rfl (X.nilCheck rfl) rfl rfl rfl (by decide +kernel) ?_
          refine Draw.take0 rfl (X.fieldAddr rfl rfl rfl rfl rfl rfl) rfl rfl rfl (by decide +kernel) ?_
          refine Draw.take rfl (X.load1 rfl rfl rfl rfl (.tail .head) rfl) rfl rfl rfl (by decide +kernel) ?_
          refine Draw.take0 rfl (X.move rfl) rfl rfl rfl (by decide +kernel) ?_
      case' x1 => skip
    case' x0 =>
      refine Run.seq ?_
      (refine Run.region ?_; intro K hK)
      refine Ops.pure H (X.fieldAddr rfl rfl rfl rfl rfl rfl) rfl rfl rfl ?_
      refine Ops.pure H (X.load1 rfl rfl rfl rfl Pick.head rfl) rfl rfl rfl ?_
    · have hAct : g.abs.act c = g.abs.send c.a c.to c.b := by unfold Ns.act; rw [if_pos h40]
      refine Ops.eff rfl (Y.call rfl rfl (by first | assumption | decide +kernel) rfl (own_any _ _ c.b (hbv2.ext H.fr) hbn) rfl ?_)
      rintro v w3 ⟨hBo, hf3, hbo⟩
      obtain ⟨oa, oc, rfl⟩ := hBo.slice
      have k33 := hf3.get (H.pick (b := b3) (by first | exact .head | exact .tail .head | exact .tail (.tail .head) | exact .tail (.tail (.tail .head)) | exact .tail (.tail (.tail (.tail .head))) | exact .tail (.tail (.tail (.tail (.tail .head)))) | exact .tail (.tail (.tail (.tail (.tail (.tail .head))))))) (by simp)
      have kp3 := hf3.get (H.pick (b := pb) (by first | exact .head | exact .tail .head | exact .tail (.tail .head) | exact .tail (.tail (.tail .head)) | exact .tail (.tail (.tail (.tail .head))) | exact .tail (.tail (.tail (.tail (.tail .head)))) | exact .tail (.tail (.tail (.tail (.tail (.tail .head))))))) (by simp)
      have A3 : Apart w3 g h := ⟨(A2.p.ext H.fr).ext hf3, (A2.d.ext H.fr).ext hf3, A2.ds⟩
      have B3 := (B0.ext H.fr).ext hf3
      have hwz := (B0.ext H.fr).size
      have hfo : ∀ b, blkV (.slice oa c.b.length oc) = some b → Free g h b := fun b hb => A.new (Nat.le_trans hwz (hbo b hb))
      have hw3 := H.fr.then hf3
      clear H
      have H := ((Holds.start w3 []).add false kp3 (by simp) (by simp)).add false k33 (by simpa using n3p) (by simp)
      refine Ops.pure H (X.assign rfl) rfl rfl rfl ?_
      (refine Ops.nil (hK _ _ ?_); clear hK K)
      refine Run.seq ?_
      (refine Run.draw H [9] [0, 1, 2, 3, 4, 5, 6, 7, 8, 9, 10] ?_; clear H; intro K hK w H)
      refine Draw.take0 rfl (X.move rfl) rfl rfl rfl (by decide +kernel) ?_
      refine Draw.take0 rfl (X.nilCheck rfl) rfl rfl rfl (by decide +kernel) ?_
      refine Draw.take0 rfl (X.fieldAddr rfl rfl rfl rfl rfl rfl) rfl rfl rfl (by decide +kernel) ?_
      refine Draw.take rfl (X.load1 rfl rfl rfl rfl (.tail .head) rfl) rfl rfl rfl (by decide +kernel) ?_
      refine Draw.take0 rfl (X.fieldAddr rfl rfl rfl rfl rfl rfl) rfl rfl rfl (by decide +kernel) ?_
      refine Draw.take rfl (X.load1 rfl rfl rfl rfl Pick.head rfl) rfl rfl rfl (by decide +kernel) ?_
      refine Draw.take0 rfl (X.fieldAddr rfl rfl rfl rfl rfl rfl) rfl rfl rfl (by decide +kernel) ?_
      refine Draw.take rfl (X.load1 rfl rfl rfl rfl Pick.head rfl) rfl rfl rfl (by decide +kernel) ?_
      refine Draw.take0 rfl (X.move rfl) rfl rfl rfl (by decide +kernel) ?_
      have hBo' := hBo.ext H.fr
      refine Draw.last rfl rfl (by decide +kernel) (Y.call rfl rfl (by first | assumption | decide +kernel) rfl (send_any _ g c.a c.to _ c.b k (A3.p.ext H.fr) hok (by omega) (fun w' S hf hS => (hBo'.keep hf (fun b hb hm => (hfo b hb).1 (hS b hm))).bys)) rfl ?_)
      rintro v w4 ⟨rfl, g', st, hab'⟩
      have C4 := Both.ofP ⟨A3.p.ext H.fr, A3.d.ext H.fr, A3.ds⟩ st
      have B4 := (B3.ext H.fr).trans C4
      have k34 := C4.getF (H.pick (b := b3) (by first | exact .head | exact .tail .head | exact .tail (.tail .head) | exact .tail (.tail (.tail .head)) | exact .tail (.tail (.tail (.tail .head))) | exact .tail (.tail (.tail (.tail (.tail .head)))) | exact .tail (.tail (.tail (.tail (.tail (.tail .head))))))) f3
      have kp4 := C4.getF (H.pick (b := pb) (by first | exact .head | exact .tail .head | exact .tail (.tail .head) | exact .tail (.tail (.tail .head)) | exact .tail (.tail (.tail (.tail .head))) | exact .tail (.tail (.tail (.tail (.tail .head)))) | exact .tail (.tail (.tail (.tail (.tail (.tail .head))))))) hpf
      have hB4 : Bts w4 (.slice oa c.b.length oc) c.b := by obtain ⟨S, hfS, hS⟩ := st.fr; exact hBo'.keep hfS (fun b hb hm => (hfo b hb).1 (hS b hm))
      have hlo : ∀ b, blkV (.slice oa c.b.length oc) = some b → b < w3.heap.size := fun b hb => hBo.lt hb
      have hfo4 : ∀ b, blkV (.slice oa c.b.length oc) = some b → Free g' h b := fun b hb => C4.free (Nat.lt_of_lt_of_le (hlo b hb) H.fr.size) (hfo b hb)
      have hoz : ∀ b, blkV (.slice oa c.b.length oc) = some b → z.heap.size ≤ b := fun b hb => Nat.le_trans hwz (hbo b hb)
      have hsb4 : ∀ b, blkV (.slice oa c.b.length oc) = some b → b ≠ b3 ∧ b ≠ pb := fun b hb => by obtain ⟨cs, hcs⟩ := hB4.ty hb; exact ⟨ne_of_ty hcs k34 (by decide), ne_of_ty hcs kp4 (by decide)⟩
      clear H
      have H := ((Holds.start w4 []).add false kp4 (by simp) (by simp)).add false k34 (by simpa using n3p) (by simp)
      refine Draw2.take rfl (X.assign rfl) rfl rfl rfl (by decide +kernel) ?_
      (refine Draw2.done (by decide +kernel) (hK _ _ ?_); clear hK K)
      refine Run.seq ?_
      (refine Run.region ?_; intro K hK)
      refine Ops.pure H (X.move rfl) rfl rfl rfl ?_
      refine Ops.eff rfl (Y.call rfl rfl (by first | assumption | decide +kernel) rfl (spoil_any _ _ c.b (hB4.ext H.fr) (by omega)) rfl ?_)
      intro v w5 hf5
      have B5 := (B4.ext H.fr).other hf5 (fun b hb => by
        have hb : blkV (.slice oa c.b.length oc) = some b := by simpa using hb
        exact ⟨.inr (.inr (hoz b hb)), hfo4 b hb⟩)
      have k35 := hf5.get (H.pick (b := b3) (by first | exact .head | exact .tail .head | exact .tail (.tail .head) | exact .tail (.tail (.tail .head)) | exact .tail (.tail (.tail (.tail .head))) | exact .tail (.tail (.tail (.tail (.tail .head)))) | exact .tail (.tail (.tail (.tail (.tail (.tail .head))))))) (fun hm => (hsb4 b3 (by simpa using hm)).1 rfl)
      have kp5 := hf5.get (H.pick (b := pb) (by first | exact .head | exact .tail .head | exact .tail (.tail .head) | exact .tail (.tail (.tail .head)) | exact .tail (.tail (.tail (.tail .head))) | exact .tail (.tail (.tail (.tail (.tail .head)))) | exact .tail (.tail (.tail (.tail (.tail (.tail .head))))))) (fun hm => (hsb4 pb (by simpa using hm)).2 rfl)
      have hbv5 := B5.bys hbv hbb
      clear H
      have H := ((Holds.start w5 []).add false kp5 (by simp) (by simp)).add false k35 (by simpa using n3p) (by simp)
      (refine Ops.nil (hK _ _ ?_); clear hK K)
      refine Run.seq ?_
      (refine Run.draw H [11] [0, 1, 2, 3, 4, 5, 6, 7, 8, 9, 10, 11, 12, 13] ?_; clear H; intro K hK w H)
      refine Draw.take0 rfl (X.move rfl) rfl rfl rfl (by decide +kernel) ?_
      refine Draw.take0 rfl (X.move rfl) rfl rfl rfl (by decide +kernel) ?_
      refine Draw.take0 rfl (X.nilCheck rfl) rfl rfl rfl (by decide +kernel) ?_
      refine Draw.take0 rfl (X.fieldAddr rfl rfl rfl rfl rfl rfl) rfl rfl rfl (by decide +kernel) ?_
      refine Draw.take rfl (X.load1 rfl rfl rfl rfl (.tail .head) rfl) rfl rfl rfl (by decide +kernel) ?_
      refine Draw.take0 rfl (X.fieldAddr rfl rfl rfl rfl rfl rfl) rfl rfl rfl (by decide +kernel) ?_
      refine Draw.take rfl (X.load1 rfl rfl rfl rfl Pick.head rfl) rfl rfl rfl (by decide +kernel) ?_
      refine Draw.take0 rfl (X.fieldAddr rfl rfl rfl rfl rfl rfl) rfl rfl rfl (by decide +kernel) ?_
      refine Draw.take rfl (X.load1 rfl rfl rfl rfl Pick.head rfl) rfl rfl rfl (by decide +kernel) ?_
      refine Draw.take0 rfl (X.fieldAddr rfl rfl rfl rfl rfl rfl) rfl rfl rfl (by decide +kernel) ?_
      refine Draw.take rfl (X.load1 rfl rfl rfl rfl Pick.head rfl) rfl rfl rfl (by decide +kernel) ?_
      refine Draw.last rfl rfl (by decide +kernel) (Y.call rfl rfl (by first | assumption | decide +kernel) rfl (rsend_any _ h c.a c.to _ c.b k rfl (B5.ap.d.ext H.fr) (by rw [hab]; exact hok) (by omega) (hbv5.ext H.fr)) rfl ?_)
      rintro v w6 ⟨rfl, h', st2, hab2⟩
      have B6 := (B5.ext H.fr).trans (Both.ofR ⟨B5.ap.p.ext H.fr, B5.ap.d.ext H.fr, B5.ap.ds⟩ st2)
      clear H
      have H := Holds.start w6 []
      refine Draw2.take rfl (X.cmp rfl rfl rfl) rfl rfl rfl (by decide +kernel) ?_
      refine Draw2.take rfl (X.assign rfl) rfl rfl rfl (by decide +kernel) ?_
      (refine Draw2.done (by decide +kernel) (hK _ _ ?_); clear hK K)
      (first | refine Fn.ret1 HF rfl rfl ?_ | refine Fn.ret2 HF rfl rfl rfl ?_ | refine Fn.ret3 HF rfl rfl rfl rfl ?_ | refine Fn.ret0 HF rfl ?_ | refine Fn.fin0 HF rfl ?_ | refine Fn.retG (E := env) HF rfl H (by first | exact RVs.cellN rfl rfl rfl (by first | exact .head | exact .tail .head | exact .tail (.tail .head) | exact .tail (.tail (.tail .head)) | exact .tail (.tail (.tail (.tail .head))) | exact .tail (.tail (.tail (.tail (.tail .head)))) | exact .tail (.tail (.tail (.tail (.tail (.tail .head)))))) (by first | assumption | exact Cs.take rfl) RVs.nil | exact RVs.cellN rfl rfl rfl (by first | exact .head | exact .tail .head | exact .tail (.tail .head) | exact .tail (.tail (.tail .head)) | exact .tail (.tail (.tail (.tail .head))) | exact .tail (.tail (.tail (.tail (.tail .head)))) | exact .tail (.tail (.tail (.tail (.tail (.tail .head)))))) (by first | assumption | exact Cs.take rfl) (RVs.tmp rfl RVs.nil) | exact RVs.cellN rfl rfl rfl (by first | exact .head | exact .tail .head | exact .tail (.tail .head) | exact .tail (.tail (.tail .head)) | exact .tail (.tail (.tail (.tail .head))) | exact .tail (.tail (.tail (.tail (.tail .head)))) | exact .tail (.tail (.tail (.tail (.tail (.tail .head)))))) (by first | assumption | exact Cs.take rfl) (RVs.tmp rfl (RVs.tmp rfl RVs.nil))) rfl ?_)
      exact ⟨by rw [hab]; simp, g', h', B6.ext H.fr, by rw [hab', hAct], by rw [hab2, hab, hAct]⟩
    · have hAct : g.abs.act c = g.abs.recv c.a := by unfold Ns.act; rw [if_neg h40, if_pos h70]
      have hlpb := lt_of_at hpb2
      have hl3 := lt_of_at k3
      refine Run.seq ?_
      refine Run.meet (fun (x : PG × Value × Nat) => [(0, .pointer (some ⟨pb, 0, none⟩)), (3, .pointer (some ⟨b3, 0, none⟩)), (8, .pointer (some ⟨x.2.2, 0, none⟩)), (9, .bool (g.abs.head c.a).isSome), (10, .int .i64 (g.abs.recvE c.a))])
        (fun x w' => Both w2 g h w' x.1 h ∧ x.1.abs = g.abs.recv c.a ∧ Bts w' x.2.1 (g.abs.mess c.a).2 ∧ (∀ b, blkV x.2.1 = some b → PM g b ∧ ¬ PF x.1 b ∧ ¬ PI x.1 b) ∧ w'.heap[x.2.2]? = some (row [.int .i64 ((g.abs.mess c.a).1 : Nat), x.2.1] 52) ∧ Free x.1 h x.2.2 ∧ w2.heap.size ≤ x.2.2 ∧ w'.heap[b3]? = some (row [.int .i64 c.kind, .int .i64 c.a, .int .i64 c.to, .int .i64 c.i, .slice ba c.b.length bc, .bool c.how] 30) ∧ w'.heap[pb]? = some (row [.pointer (some ⟨g.nb, 0, none⟩), .pointer (some ⟨h.rb, 0, none⟩)] 34)) ?_ ?_
      rotate_left
      · intro kk go
        refine Run.draw H [] [0, 1, 2, 3, 4, 5, 6, 7, 8, 9, 10, 11, 12, 13, 14] ?_
        clear H
        intro K hK w H
        refine Draw.take0 rfl (X.move rfl) rfl rfl rfl (by decide +kernel) ?_
        refine Draw.take0 rfl (X.nilCheck rfl) rfl rfl rfl (by decide +kernel) ?_
        refine Draw.take0 rfl (X.fieldAddr rfl rfl rfl rfl rfl rfl) rfl rfl rfl (by decide +kernel) ?_
        refine Draw.take rfl (X.load1 rfl rfl rfl rfl (.tail .head) rfl) rfl rfl rfl (by decide +kernel) ?_
        refine Draw.take0 rfl (X.fieldAddr rfl rfl rfl rfl rfl rfl) rfl rfl rfl (by decide +kernel) ?_
        refine Draw.take rfl (X.load1 rfl rfl rfl rfl Pick.head rfl) rfl rfl rfl (by decide +kernel) ?_
        have AH : Apart w g h := ⟨A2.p.ext H.fr, A2.d.ext H.fr, A2.ds⟩
        have BH : Both w2 g h w g h := .rfl' A2 H.fr
        have k3H := H.pick (b := b3) (by first | exact .head | exact .tail .head | exact .tail (.tail .head) | exact .tail (.tail (.tail .head)) | exact .tail (.tail (.tail (.tail .head))) | exact .tail (.tail (.tail (.tail (.tail .head)))) | exact .tail (.tail (.tail (.tail (.tail (.tail .head))))))
        have kpH := H.pick (b := pb) (by first | exact .head | exact .tail .head | exact .tail (.tail .head) | exact .tail (.tail (.tail .head)) | exact .tail (.tail (.tail (.tail .head))) | exact .tail (.tail (.tail (.tail (.tail .head)))) | exact .tail (.tail (.tail (.tail (.tail (.tail .head))))))
        refine Draw.eff2 (i := 6) (j := 11) [7, 8, 9, 10, 11, 12, 13, 14] [6, 7, 8, 9, 10, 12, 13, 14] rfl rfl rfl rfl (by decide +kernel) (Y.call rfl rfl (by first | assumption | decide +kernel) rfl (recv_one _ g c.a AH.p) rfl ?_) (Y.alloc rfl rfl rfl H ?_)
        · rintro v w3 ⟨g', mv, rfl, st, hab', hB, hbl⟩
          have C := Both.ofP AH st
          have k33 := C.getF k3H f3
          have kp3 := C.getF kpH hpf
          refine ⟨fun e he => by simp only [List.mem_cons, List.not_mem_nil, or_false] at he; rcases he with rfl | rfl; exact k33; exact kp3, ?_⟩
          clear H
          have H := ((Holds.start w3 []).add false kp3 (by simp) (by simp)).add false k33 (by simpa using n3p) (by simp)
          obtain ⟨ma, mc, rfl⟩ := hB.slice
          refine Draw.take0 rfl (X.move rfl) rfl rfl rfl (by decide +kernel) ?_
          refine Draw.take0 rfl (X.extract rfl rfl) rfl rfl rfl (by decide +kernel) ?_
          refine Draw.take0 rfl (X.extract rfl rfl) rfl rfl rfl (by decide +kernel) ?_
          refine Draw.take0 rfl (X.extract rfl rfl) rfl rfl rfl (by decide +kernel) ?_
          (refine Draw.eff rfl rfl (by decide +kernel) (Y.alloc rfl rfl rfl H ?_); intro b8 w H0 hb8; clear H; have H := H0; clear H0; refine ⟨fun e he => H.at_ e (by simp only [List.mem_cons, List.not_mem_nil, or_false] at he ⊢; grind), ?_⟩)
          (refine Draw.eff rfl rfl (by decide +kernel) (Y.storeO rfl rfl rfl rfl rfl rfl H Upd.head rfl ?_); intro w H0; clear H; have H := H0; clear H0; refine ⟨fun e he => H.at_ e (by simp only [List.mem_cons, List.not_mem_nil, or_false] at he ⊢; grind), ?_⟩)
          refine Draw.take0 rfl (X.assign rfl) rfl rfl rfl (by decide +kernel) ?_
          refine Draw.take0 rfl (X.assign rfl) rfl rfl rfl (by decide +kernel) ?_
          (refine Draw.done (by decide +kernel) (hK _ _ ?_); clear hK K)
          have hsz3 := C.size
          have hwH := BH.size
          refine go (g', .slice ma (g.abs.mess c.a).2.length mc, b8) _ _ ⟨(BH.trans C).ext H.fr, hab', hB.ext H.fr, hbl, H.pick (b := b8) (by first | exact .head | exact .tail .head | exact .tail (.tail .head) | exact .tail (.tail (.tail .head)) | exact .tail (.tail (.tail (.tail .head))) | exact .tail (.tail (.tail (.tail (.tail .head)))) | exact .tail (.tail (.tail (.tail (.tail (.tail .head)))))), C.ap.new hb8, by dsimp only; omega, H.pick (b := b3) (by first | exact .head | exact .tail .head | exact .tail (.tail .head) | exact .tail (.tail (.tail .head)) | exact .tail (.tail (.tail (.tail .head))) | exact .tail (.tail (.tail (.tail (.tail .head)))) | exact .tail (.tail (.tail (.tail (.tail (.tail .head)))))), H.pick (b := pb) (by first | exact .head | exact .tail .head | exact .tail (.tail .head) | exact .tail (.tail (.tail .head)) | exact .tail (.tail (.tail (.tail .head))) | exact .tail (.tail (.tail (.tail (.tail .head)))) | exact .tail (.tail (.tail (.tail (.tail (.tail .head))))))⟩ (by repeat (first | exact trivial | refine ⟨rfl, ?_⟩))
        · intro b8 w8 H hb8
          refine ⟨fun e he => H.at_ e (List.mem_cons_of_mem _ he), ?_⟩
          have k88 := H.pick (b := b8) (by first | exact .head | exact .tail .head | exact .tail (.tail .head) | exact .tail (.tail (.tail .head)) | exact .tail (.tail (.tail (.tail .head))) | exact .tail (.tail (.tail (.tail (.tail .head)))) | exact .tail (.tail (.tail (.tail (.tail (.tail .head))))))
          have k3H := H.pick (b := b3) (by first | exact .head | exact .tail .head | exact .tail (.tail .head) | exact .tail (.tail (.tail .head)) | exact .tail (.tail (.tail (.tail .head))) | exact .tail (.tail (.tail (.tail (.tail .head)))) | exact .tail (.tail (.tail (.tail (.tail (.tail .head))))))
          have kpH := H.pick (b := pb) (by first | exact .head | exact .tail .head | exact .tail (.tail .head) | exact .tail (.tail (.tail .head)) | exact .tail (.tail (.tail (.tail .head))) | exact .tail (.tail (.tail (.tail (.tail .head)))) | exact .tail (.tail (.tail (.tail (.tail (.tail .head))))))
          have n83 : b8 ≠ b3 := ne_of_ty k88 k3H (by decide)
          have n8p : b8 ≠ pb := ne_of_ty k88 kpH (by decide)
          have AH : Apart w8 g h := ⟨A2.p.ext H.fr, A2.d.ext H.fr, A2.ds⟩
          have BH : Both w2 g h w8 g h := .rfl' A2 H.fr
          have f8 : Free g h b8 := A2.new hb8
          refine Draw.eff rfl rfl (by decide +kernel) (Y.call rfl rfl (by first | assumption | decide +kernel) rfl (recv_one _ g c.a AH.p) rfl ?_)
          rintro v w3 ⟨g', mv, rfl, st, hab', hB, hbl⟩
          have C := Both.ofP AH st
          have k83 := C.getF k88 f8
          have k33 := C.getF k3H f3
          have kp3 := C.getF kpH hpf
          refine ⟨fun e he => by simp only [List.mem_cons, List.not_mem_nil, or_false] at he; rcases he with rfl | rfl; exact k33; exact kp3, ?_⟩
          have hl8 := lt_of_at k88
          clear H
          have H := (((Holds.start w3 [b8]).add false kp3 (by simp) (by simp)).add false k33 (by simpa using n3p) (by simp)).add true k83 (by simpa using ⟨n83, n8p⟩) (by simp)
          obtain ⟨ma, mc, rfl⟩ := hB.slice
          refine Draw.take0 rfl (X.move rfl) rfl rfl rfl (by decide +kernel) ?_
          refine Draw.take0 rfl (X.extract rfl rfl) rfl rfl rfl (by decide +kernel) ?_
          refine Draw.take0 rfl (X.extract rfl rfl) rfl rfl rfl (by decide +kernel) ?_
          refine Draw.take0 rfl (X.extract rfl rfl) rfl rfl rfl (by decide +kernel) ?_
          (refine Draw.eff rfl rfl (by decide +kernel) (Y.storeO rfl rfl rfl rfl rfl rfl H Upd.head rfl ?_); intro w H0; clear H; have H := H0; clear H0; refine ⟨fun e he => H.at_ e (by simp only [List.mem_cons, List.not_mem_nil, or_false] at he ⊢; grind), ?_⟩)
          refine Draw.take0 rfl (X.assign rfl) rfl rfl rfl (by decide +kernel) ?_
          refine Draw.take0 rfl (X.assign rfl) rfl rfl rfl (by decide +kernel) ?_
          (refine Draw.done (by decide +kernel) (hK _ _ ?_); clear hK K)
          refine go (g', .slice ma (g.abs.mess c.a).2.length mc, b8) _ _ ⟨(BH.trans C).other H.fr (fun b hb => ?_), hab', hB.keepT H.fr (by intro b hb; simp at hb; subst hb; exact not5 k83 (by decide)), hbl, H.pick (b := b8) (by first | exact .head | exact .tail .head | exact .tail (.tail .head) | exact .tail (.tail (.tail .head)) | exact .tail (.tail (.tail (.tail .head))) | exact .tail (.tail (.tail (.tail (.tail .head)))) | exact .tail (.tail (.tail (.tail (.tail (.tail .head)))))), C.free hl8 f8, hb8, H.pick (b := b3) (by first | exact .head | exact .tail .head | exact .tail (.tail .head) | exact .tail (.tail (.tail .head)) | exact .tail (.tail (.tail (.tail .head))) | exact .tail (.tail (.tail (.tail (.tail .head)))) | exact .tail (.tail (.tail (.tail (.tail (.tail .head)))))), H.pick (b := pb) (by first | exact .head | exact .tail .head | exact .tail (.tail .head) | exact .tail (.tail (.tail .head)) | exact .tail (.tail (.tail (.tail .head))) | exact .tail (.tail (.tail (.tail (.tail .head)))) | exact .tail (.tail (.tail (.tail (.tail (.tail .head))))))⟩ (by repeat (first | exact trivial | refine ⟨rfl, ?_⟩))
          simp at hb
          subst hb
          exact ⟨.inr (.inr hb8), C.free hl8 f8⟩
      · rintro ⟨g', mv, b8⟩ w4 ⟨B4, hab4, hB4, hbl4, k84, f84, hz8, k34, kp4⟩
        dsimp only at B4 hab4 hB4 hbl4 k84 f84 hz8 k34 kp4
        clear H
        have n83 : b8 ≠ b3 := ne_of_ty k84 k34 (by decide)
        have n8p : b8 ≠ pb := ne_of_ty k84 kp4 (by decide)
        have f34 : Free g' h b3 := B4.free hl3 f3
        have fp4 : Free g' h pb := B4.free hlpb hpf
        have H := (((Holds.start w4 []).add false kp4 (by simp) (by simp)).add false k34 (by simpa using n3p) (by simp)).add false k84 (by simpa using ⟨n83, n8p⟩) (by simp)
        refine Run.seq ?_
        refine Run.meet (fun (x : RG × Value × Nat) => [(0, .pointer (some ⟨pb, 0, none⟩)), (8, .pointer (some ⟨b8, 0, none⟩)), (9, .bool (g.abs.head c.a).isSome), (10, .int .i64 (g.abs.recvE c.a)), (11, .pointer (some ⟨x.2.2, 0, none⟩)), (12, .bool (g.abs.head c.a).isSome), (13, .int .i64 (g.abs.recvE c.a))])
          (fun x w' => Both w2 g h w' g' x.1 ∧ x.1.abs = g.abs.recv c.a ∧ Bts w' mv (g.abs.mess c.a).2 ∧ Bts w' x.2.1 (g.abs.mess c.a).2 ∧ w'.heap[b8]? = some (row [.int .i64 ((g.abs.mess c.a).1 : Nat), mv] 52) ∧ w'.heap[x.2.2]? = some (row [.int .i64 ((g.abs.mess c.a).1 : Nat), x.2.1] 52) ∧ b8 ≠ x.2.2 ∧ (∀ b, blkV mv = some b → ¬ RD x.1 b)) ?_ ?_
        rotate_left
        · intro kk go
          refine Run.draw H [] [0, 1, 2, 3, 4, 5, 6, 7, 8, 9, 10, 11, 12, 13, 14] ?_
          clear H
          intro K hK w H
          dsimp only
          refine Draw.take0 rfl (X.move rfl) rfl rfl rfl (by decide +kernel) ?_
          refine Draw.take0 rfl (X.nilCheck rfl) rfl rfl rfl (by decide +kernel) ?_
          refine Draw.take0 rfl (X.fieldAddr rfl rfl rfl rfl rfl rfl) rfl rfl rfl (by decide +kernel) ?_
          refine Draw.take rfl (X.load1 rfl rfl rfl rfl (.tail (.tail .head)) rfl) rfl rfl rfl (by decide +kernel) ?_
          refine Draw.take0 rfl (X.fieldAddr rfl rfl rfl rfl rfl rfl) rfl rfl rfl (by decide +kernel) ?_
          refine Draw.take rfl (X.load1 rfl rfl rfl rfl (.tail .head) rfl) rfl rfl rfl (by decide +kernel) ?_
          have AH : Apart w g' h := ⟨B4.ap.p.ext H.fr, B4.ap.d.ext H.fr, B4.ap.ds⟩
          have BH := B4.ext H.fr
          have k3H := H.pick (b := b3) (by first | exact .head | exact .tail .head | exact .tail (.tail .head) | exact .tail (.tail (.tail .head)) | exact .tail (.tail (.tail (.tail .head))) | exact .tail (.tail (.tail (.tail (.tail .head)))) | exact .tail (.tail (.tail (.tail (.tail (.tail .head))))))
          have kpH := H.pick (b := pb) (by first | exact .head | exact .tail .head | exact .tail (.tail .head) | exact .tail (.tail (.tail .head)) | exact .tail (.tail (.tail (.tail .head))) | exact .tail (.tail (.tail (.tail (.tail .head)))) | exact .tail (.tail (.tail (.tail (.tail (.tail .head))))))
          have k8H := H.pick (b := b8) (by first | exact .head | exact .tail .head | exact .tail (.tail .head) | exact .tail (.tail (.tail .head)) | exact .tail (.tail (.tail (.tail .head))) | exact .tail (.tail (.tail (.tail (.tail .head)))) | exact .tail (.tail (.tail (.tail (.tail (.tail .head))))))
          have hBH := hB4.ext H.fr
          have hmr : ∀ b, blkV mv = some b → ¬ RD h b := fun b hb hd => (A.ds b hd).1 (.inr (hbl4 b hb).1)
          refine Draw.eff2 (i := 6) (j := 11) [7, 8, 9, 10, 11, 12, 13, 14] [6, 7, 8, 9, 10, 12, 13, 14] rfl rfl rfl rfl (by decide +kernel) (Y.call rfl rfl (by first | assumption | decide +kernel) rfl (rrecv_one _ h c.a k rfl AH.d (by rw [hab]; exact hok) (by omega)) rfl ?_) (Y.alloc rfl rfl rfl H ?_)
          · rintro v w5 ⟨h', kv, rfl, st, hab', hB, hbl⟩
            rw [hab] at hab' hB ⊢
            have C := Both.ofR AH st
            have k85 := C.getF k8H f84
            have k35 := C.getF k3H f34
            have kp5 := C.getF kpH fp4
            have hB5 : Bts w5 mv (g.abs.mess c.a).2 := by obtain ⟨S, hfS, hS⟩ := st.fr; exact hBH.keep hfS (fun b hb hm => hmr b hb (.inl (hS b hm)))
            have hmr5 : ∀ b, blkV mv = some b → ¬ RD h' b := fun b hb => st.nRD (hBH.lt hb) (hmr b hb)
            refine ⟨fun e he => by simp only [List.mem_cons, List.not_mem_nil, or_false] at he; rcases he with rfl | rfl | rfl; exact k85; exact k35; exact kp5, ?_⟩
            have hl85 := lt_of_at k85
            clear H
            have H := (((Holds.start w5 []).add false kp5 (by simp) (by simp)).add false k35 (by simpa using n3p) (by simp)).add false k85 (by simpa using ⟨n83, n8p⟩) (by simp)
            obtain ⟨ka, kc, rfl⟩ := hB.slice
            refine Draw.take0 rfl (X.move rfl) rfl rfl rfl (by decide +kernel) ?_
            refine Draw.take0 rfl (X.extract rfl rfl) rfl rfl rfl (by decide +kernel) ?_
            refine Draw.take0 rfl (X.extract rfl rfl) rfl rfl rfl (by decide +kernel) ?_
            refine Draw.take0 rfl (X.extract rfl rfl) rfl rfl rfl (by decide +kernel) ?_
            (refine Draw.eff rfl rfl (by decide +kernel) (Y.alloc rfl rfl rfl H ?_); intro b11 w H0 hb11; clear H; have H := H0; clear H0; refine ⟨fun e he => H.at_ e (by simp only [List.mem_cons, List.not_mem_nil, or_false] at he ⊢; grind), ?_⟩)
            (refine Draw.eff rfl rfl (by decide +kernel) (Y.storeO rfl rfl rfl rfl rfl rfl H Upd.head rfl ?_); intro w H0; clear H; have H := H0; clear H0; refine ⟨fun e he => H.at_ e (by simp only [List.mem_cons, List.not_mem_nil, or_false] at he ⊢; grind), ?_⟩)
            refine Draw.take0 rfl (X.assign rfl) rfl rfl rfl (by decide +kernel) ?_
            refine Draw.take0 rfl (X.assign rfl) rfl rfl rfl (by decide +kernel) ?_
            (refine Draw.done (by decide +kernel) (hK _ _ ?_); clear hK K)
            exact go (h', .slice ka (g.abs.mess c.a).2.length kc, b11) _ _ ⟨(BH.trans C).ext H.fr, hab', hB5.ext H.fr, hB.ext H.fr, H.pick (b := b8) (by first | exact .head | exact .tail .head | exact .tail (.tail .head) | exact .tail (.tail (.tail .head)) | exact .tail (.tail (.tail (.tail .head))) | exact .tail (.tail (.tail (.tail (.tail .head)))) | exact .tail (.tail (.tail (.tail (.tail (.tail .head)))))), H.pick (b := b11) (by first | exact .head | exact .tail .head | exact .tail (.tail .head) | exact .tail (.tail (.tail .head)) | exact .tail (.tail (.tail (.tail .head))) | exact .tail (.tail (.tail (.tail (.tail .head)))) | exact .tail (.tail (.tail (.tail (.tail (.tail .head)))))), by dsimp only; omega, hmr5⟩ (by repeat (first | exact trivial | refine ⟨rfl, ?_⟩))
          · intro b11 w11 H hb11
            refine ⟨fun e he => H.at_ e (List.mem_cons_of_mem _ he), ?_⟩
            have k11 := H.pick (b := b11) (by first | exact .head | exact .tail .head | exact .tail (.tail .head) | exact .tail (.tail (.tail .head)) | exact .tail (.tail (.tail (.tail .head))) | exact .tail (.tail (.tail (.tail (.tail .head)))) | exact .tail (.tail (.tail (.tail (.tail (.tail .head))))))
            have k3H := H.pick (b := b3) (by first | exact .head | exact .tail .head | exact .tail (.tail .head) | exact .tail (.tail (.tail .head)) | exact .tail (.tail (.tail (.tail .head))) | exact .tail (.tail (.tail (.tail (.tail .head)))) | exact .tail (.tail (.tail (.tail (.tail (.tail .head))))))
            have kpH := H.pick (b := pb) (by first | exact .head | exact .tail .head | exact .tail (.tail .head) | exact .tail (.tail (.tail .head)) | exact .tail (.tail (.tail (.tail .head))) | exact .tail (.tail (.tail (.tail (.tail .head)))) | exact .tail (.tail (.tail (.tail (.tail (.tail .head))))))
            have k8H := H.pick (b := b8) (by first | exact .head | exact .tail .head | exact .tail (.tail .head) | exact .tail (.tail (.tail .head)) | exact .tail (.tail (.tail (.tail .head))) | exact .tail (.tail (.tail (.tail (.tail .head)))) | exact .tail (.tail (.tail (.tail (.tail (.tail .head))))))
            have hl8 := lt_of_at k84
            have n113 : b11 ≠ b3 := ne_of_ty k11 k3H (by decide)
            have n11p : b11 ≠ pb := ne_of_ty k11 kpH (by decide)
            have n118 : b11 ≠ b8 := by omega
            have AH : Apart w11 g' h := ⟨B4.ap.p.ext H.fr, B4.ap.d.ext H.fr, B4.ap.ds⟩
            have BH := B4.ext H.fr
            have hBH := hB4.ext H.fr
            have f11 : Free g' h b11 := B4.ap.new hb11
            refine Draw.eff rfl rfl (by decide +kernel) (Y.call rfl rfl (by first | assumption | decide +kernel) rfl (rrecv_one _ h c.a k rfl AH.d (by rw [hab]; exact hok) (by omega)) rfl ?_)
            rintro v w5 ⟨h', kv, rfl, st, hab', hB, hbl⟩
            rw [hab] at hab' hB ⊢
            have C := Both.ofR AH st
            have k85 := C.getF k8H f84
            have k35 := C.getF k3H f34
            have kp5 := C.getF kpH fp4
            have k115 := C.getF k11 f11
            have hB5 : Bts w5 mv (g.abs.mess c.a).2 := by obtain ⟨S, hfS, hS⟩ := st.fr; exact hBH.keep hfS (fun b hb hm => hmr b hb (.inl (hS b hm)))
            have hmr5 : ∀ b, blkV mv = some b → ¬ RD h' b := fun b hb => st.nRD (hBH.lt hb) (hmr b hb)
            refine ⟨fun e he => by simp only [List.mem_cons, List.not_mem_nil, or_false] at he; rcases he with rfl | rfl | rfl; exact k85; exact k35; exact kp5, ?_⟩
            have hl11 := lt_of_at k11
            have hsz4 := B4.size
            clear H
            have H := ((((Holds.start w5 [b11]).add false kp5 (by simp) (by simp)).add false k35 (by simpa using n3p) (by simp)).add false k85 (by simpa using ⟨n83, n8p⟩) (by simp)).add true k115 (by simpa using ⟨n118, n113, n11p⟩) (by simp)
            obtain ⟨ka, kc, rfl⟩ := hB.slice
            refine Draw.take0 rfl (X.move rfl) rfl rfl rfl (by decide +kernel) ?_
            refine Draw.take0 rfl (X.extract rfl rfl) rfl rfl rfl (by decide +kernel) ?_
            refine Draw.take0 rfl (X.extract rfl rfl) rfl rfl rfl (by decide +kernel) ?_
            refine Draw.take0 rfl (X.extract rfl rfl) rfl rfl rfl (by decide +kernel) ?_
            (refine Draw.eff rfl rfl (by decide +kernel) (Y.storeO rfl rfl rfl rfl rfl rfl H Upd.head rfl ?_); intro w H0; clear H; have H := H0; clear H0; refine ⟨fun e he => H.at_ e (by simp only [List.mem_cons, List.not_mem_nil, or_false] at he ⊢; grind), ?_⟩)
            refine Draw.take0 rfl (X.assign rfl) rfl rfl rfl (by decide +kernel) ?_
            refine Draw.take0 rfl (X.assign rfl) rfl rfl rfl (by decide +kernel) ?_
            (refine Draw.done (by decide +kernel) (hK _ _ ?_); clear hK K)
            have h511 : ∀ b ∈ [b11], ∀ cs, w5.heap[b]? ≠ some (row cs 5) := by intro b hb; simp at hb; subst hb; exact not5 k115 (by decide)
            refine go (h', .slice ka (g.abs.mess c.a).2.length kc, b11) _ _ ⟨(BH.trans C).other H.fr (fun b hb => ?_), hab', hB5.keepT H.fr h511, hB.keepT H.fr h511, H.pick (b := b8) (by first | exact .head | exact .tail .head | exact .tail (.tail .head) | exact .tail (.tail (.tail .head)) | exact .tail (.tail (.tail (.tail .head))) | exact .tail (.tail (.tail (.tail (.tail .head)))) | exact .tail (.tail (.tail (.tail (.tail (.tail .head)))))), H.pick (b := b11) (by first | exact .head | exact .tail .head | exact .tail (.tail .head) | exact .tail (.tail (.tail .head)) | exact .tail (.tail (.tail (.tail .head))) | exact .tail (.tail (.tail (.tail (.tail .head)))) | exact .tail (.tail (.tail (.tail (.tail (.tail .head)))))), fun e => n118 e.symm, hmr5⟩ (by repeat (first | exact trivial | refine ⟨rfl, ?_⟩))
            simp at hb
            subst hb
            exact ⟨.inr (.inr (Nat.le_trans hsz4 hb11)), C.free hl11 f11⟩
        · rintro ⟨h', kv, b11⟩ w5 ⟨B5, hab5, hBm, hBk, k85, k115, n811, hmr5⟩
          dsimp only at B5 hab5 hBm hBk k85 k115 n811 hmr5 ⊢
          clear H
          have H := ((Holds.start w5 []).add false k85 (by simp) (by simp)).add false k115 (by simpa using n811.symm) (by simp)
          obtain ⟨ma, mc, rfl⟩ := hBm.slice
          obtain ⟨ka, kc, rfl⟩ := hBk.slice
          refine Run.seq ?_
          (refine Run.region ?_; intro K hK)
          refine Ops.pure H (X.fieldAddr rfl rfl rfl rfl rfl rfl) rfl rfl rfl ?_
          refine Ops.pure H (X.load1 rfl rfl rfl rfl (.tail .head) rfl) rfl rfl rfl ?_
          refine Ops.pure H (X.fieldAddr rfl rfl rfl rfl rfl rfl) rfl rfl rfl ?_
          refine Ops.pure H (X.load1 rfl rfl rfl rfl Pick.head rfl) rfl rfl rfl ?_
          refine Ops.pure H (X.cmp rfl rfl rfl) rfl rfl rfl ?_
          refine Ops.pure H (X.move rfl) rfl rfl rfl ?_
          refine Ops.split_dec rfl rfl (fun h100 => ?x9) (fun h100 => ?y9)
          case' y9 => exfalso; omega
          case' x9 =>
            refine Ops.pure H (X.fieldAddr rfl rfl rfl rfl rfl rfl) rfl rfl rfl ?_
            refine Ops.pure H (X.load1 rfl rfl rfl rfl (.tail .head) rfl) rfl rfl rfl ?_
          refine Ops.eff rfl (Y.bytesV rfl (hBm.ext H.fr).bys rfl rfl rfl rfl rfl rfl rfl ?_)
          refine Ops.pure H (X.fieldAddr rfl rfl rfl rfl rfl rfl) rfl rfl rfl ?_
          refine Ops.pure H (X.load1 rfl rfl rfl rfl Pick.head rfl) rfl rfl rfl ?_
          refine Ops.eff rfl (Y.bytesV rfl (hBk.ext H.fr).bys rfl rfl rfl rfl rfl rfl rfl ?_)
          refine Ops.pure H (X.strEq rfl rfl) rfl rfl rfl ?_
          refine Ops.pure H (X.pick_t rfl rfl) rfl rfl rfl ?_
          refine Ops.pure H (X.move rfl) rfl rfl rfl ?_
          refine Ops.split_dec rfl rfl (fun h109 => ?x10) (fun h109 => ?y10)
          case' y10 =>
            refine Ops.pass rfl rfl rfl ?_
            refine Ops.pass rfl rfl rfl ?_
            refine Ops.pass rfl rfl rfl ?_
            refine Ops.pure H (X.pick_f rfl rfl) rfl rfl rfl ?_
            refine Ops.pure H (X.move rfl) rfl rfl rfl ?_
            refine Ops.pass rfl rfl rfl ?_
            refine Ops.pass rfl rfl rfl ?_
            refine Ops.pass rfl rfl rfl ?_
            refine Ops.pure H (X.pick_f rfl rfl) rfl rfl rfl ?_
            refine Ops.pure H (X.assign rfl) rfl rfl rfl ?_
            (refine Ops.nil (hK _ _ ?_); clear hK K)
            refine Run.seq ?_
            (refine Run.region ?_; intro K hK)
            refine Ops.pure H (X.fieldAddr rfl rfl rfl rfl rfl rfl) rfl rfl rfl ?_
            refine Ops.pure H (X.load1 rfl rfl rfl rfl (.tail .head) rfl) rfl rfl rfl ?_
          case' x10 =>
            refine Ops.pure H (X.move rfl) rfl rfl rfl ?_
            refine Ops.pure H (X.move rfl) rfl rfl rfl ?_
            refine Ops.pure H (X.boolEq rfl rfl rfl rfl rfl) rfl rfl rfl ?_
            refine Ops.pure H (X.pick_t rfl rfl) rfl rfl rfl ?_
            refine Ops.pure H (X.move rfl) rfl rfl rfl ?_
            refine Ops.split_dec rfl rfl (fun h114 => ?x11) (fun h114 => ?y11)
            case' y11 =>
              refine Ops.pass rfl rfl rfl ?_
              refine Ops.pass rfl rfl rfl ?_
              refine Ops.pass rfl rfl rfl ?_
              refine Ops.pure H (X.pick_f rfl rfl) rfl rfl rfl ?_
              refine Ops.pure H (X.assign rfl) rfl rfl rfl ?_
              (refine Ops.nil (hK _ _ ?_); clear hK K)
              refine Run.seq ?_
              (refine Run.region ?_; intro K hK)
              refine Ops.pure H (X.fieldAddr rfl rfl rfl rfl rfl rfl) rfl rfl rfl ?_
              refine Ops.pure H (X.load1 rfl rfl rfl rfl (.tail .head) rfl) rfl rfl rfl ?_
            case' x11 =>
              refine Ops.pure H (X.move rfl) rfl rfl rfl ?_
              refine Ops.pure H (X.move rfl) rfl rfl rfl ?_
              refine Ops.pure H (X.cmp rfl rfl rfl) rfl rfl rfl ?_
              refine Ops.pure H (X.pick_t rfl rfl) rfl rfl rfl ?_
              refine Ops.pure H (X.assign rfl) rfl rfl rfl ?_
              (refine Ops.nil (hK _ _ ?_); clear hK K)
              refine Run.seq ?_
              (refine Run.region ?_; intro K hK)
              refine Ops.pure H (X.fieldAddr rfl rfl rfl rfl rfl rfl) rfl rfl rfl ?_
              refine Ops.pure H (X.load1 rfl rfl rfl rfl (.tail .head) rfl) rfl rfl rfl ?_
          · have hml : (g.abs.mess c.a).2.length ≤ 65536 := by
              unfold Ns.mess Ns.head
              split
              · cases hbx : g.abs.box c.a.toNat with
                | nil => simp
                | cons m ms => exact ((hok.box c.a.toNat).2 m (by rw [hbx]; exact List.mem_cons_self ..)).2
              · simp
            refine Ops.eff rfl (Y.call rfl rfl (by first | assumption | decide +kernel) rfl (spoil_any _ _ (g.abs.mess c.a).2 (hBm.ext H.fr) (by omega)) rfl ?_)
            intro v w6 hf6
            have B6 := (B5.ext H.fr).other hf6 (fun b hb => by
              have hb : blkV (.slice ma (g.abs.mess c.a).2.length mc) = some b := by simpa using hb
              exact ⟨.inl (.inr (hbl4 b hb).1), (hbl4 b hb).2.1, (hbl4 b hb).2.2, hmr5 b hb⟩)
            clear H
            have H := Holds.start w6 []
            (refine Ops.nil (hK _ _ ?_); clear hK K)
            refine Run.seq ?_
            (refine Run.region ?_; intro K hK)
            refine Ops.pure H (X.move rfl) rfl rfl rfl ?_
            refine Ops.pure H (X.assign rfl) rfl rfl rfl ?_
            (refine Ops.nil (hK _ _ ?_); clear hK K)
            (first | refine Fn.ret1 HF rfl rfl ?_ | refine Fn.ret2 HF rfl rfl rfl ?_ | refine Fn.ret3 HF rfl rfl rfl rfl ?_ | refine Fn.ret0 HF rfl ?_ | refine Fn.fin0 HF rfl ?_ | refine Fn.retG (E := env) HF rfl H (by first | exact RVs.cellN rfl rfl rfl (by first | exact .head | exact .tail .head | exact .tail (.tail .head) | exact .tail (.tail (.tail .head)) | exact .tail (.tail (.tail (.tail .head))) | exact .tail (.tail (.tail (.tail (.tail .head)))) | exact .tail (.tail (.tail (.tail (.tail (.tail .head)))))) (by first | assumption | exact Cs.take rfl) RVs.nil | exact RVs.cellN rfl rfl rfl (by first | exact .head | exact .tail .head | exact .tail (.tail .head) | exact .tail (.tail (.tail .head)) | exact .tail (.tail (.tail (.tail .head))) | exact .tail (.tail (.tail (.tail (.tail .head)))) | exact .tail (.tail (.tail (.tail (.tail (.tail .head)))))) (by first | assumption | exact Cs.take rfl) (RVs.tmp rfl RVs.nil) | exact RVs.cellN rfl rfl rfl (by first | exact .head | exact .tail .head | exact .tail (.tail .head) | exact .tail (.tail (.tail .head)) | exact .tail (.tail (.tail (.tail .head))) | exact .tail (.tail (.tail (.tail (.tail .head)))) | exact .tail (.tail (.tail (.tail (.tail (.tail .head)))))) (by first | assumption | exact Cs.take rfl) (RVs.tmp rfl (RVs.tmp rfl RVs.nil))) rfl ?_)
            exact ⟨by simp, g', h', (B0.trans B6).ext H.fr, by rw [hab4, hAct], by rw [hab5, hAct]⟩
          · exact absurd rfl h114
          · exact absurd rfl h109
    · have hAct : g.abs.act c = g.abs.deliver (g.abs.place c) := by unfold Ns.act; rw [if_neg h40, if_neg h70, if_pos h122]
      refine Draw.eff rfl rfl (by decide +kernel) (Y.call rfl rfl (by first | assumption | decide +kernel) rfl (deliver_any _ g (g.abs.place c) k (A2.p.ext H.fr) hok (by omega)) rfl ?_)
      rintro v w3 ⟨rfl, g', st, hab'⟩
      have B1 := (B0.ext H.fr).trans (Both.ofP ⟨A2.p.ext H.fr, A2.d.ext H.fr, A2.ds⟩ st)
      have k33 := (Both.ofP ⟨A2.p.ext H.fr, A2.d.ext H.fr, A2.ds⟩ st).getF (H.pick (b := b3) (by first | exact .head | exact .tail .head | exact .tail (.tail .head) | exact .tail (.tail (.tail .head)) | exact .tail (.tail (.tail (.tail .head))) | exact .tail (.tail (.tail (.tail (.tail .head)))) | exact .tail (.tail (.tail (.tail (.tail (.tail .head))))))) f3
      have kp3 := (Both.ofP ⟨A2.p.ext H.fr, A2.d.ext H.fr, A2.ds⟩ st).getF (H.pick (b := pb) (by first | exact .head | exact .tail .head | exact .tail (.tail .head) | exact .tail (.tail (.tail .head)) | exact .tail (.tail (.tail (.tail .head))) | exact .tail (.tail (.tail (.tail (.tail .head)))) | exact .tail (.tail (.tail (.tail (.tail (.tail .head))))))) hpf
      refine ⟨fun e he => by simp only [List.mem_cons, List.not_mem_nil, or_false] at he; rcases he with rfl | rfl; exact k33; exact kp3, ?_⟩
      have hlb3 := lt_of_at k33
      have hlpb := lt_of_at hpb
      refine Draw.eff rfl rfl (by decide +kernel) (Y.call rfl rfl (by first | assumption | decide +kernel) rfl (rdeliver_any _ h (g.abs.place c) k rfl B1.ap.d (by rw [hab]; exact hok) (by omega)) rfl ?_)
      rintro v w4 ⟨rfl, h', st2, hab2⟩
      have B2 := B1.trans (Both.ofR B1.ap st2)
      have f33 : Free g' h b3 := ⟨fun hp => (st.own _ hp).elim f3.1 (fun _ => by have := lt_of_at (H.pick (b := b3) (by first | exact .head | exact .tail .head | exact .tail (.tail .head) | exact .tail (.tail (.tail .head)) | exact .tail (.tail (.tail (.tail .head))) | exact .tail (.tail (.tail (.tail (.tail .head)))) | exact .tail (.tail (.tail (.tail (.tail (.tail .head))))))); omega), fun hp => (st.imm _ hp).elim f3.2.1 (fun _ => by have := lt_of_at (H.pick (b := b3) (by first | exact .head | exact .tail .head | exact .tail (.tail .head) | exact .tail (.tail (.tail .head)) | exact .tail (.tail (.tail (.tail .head))) | exact .tail (.tail (.tail (.tail (.tail .head)))) | exact .tail (.tail (.tail (.tail (.tail (.tail .head))))))); omega), f3.2.2⟩
      have k34 := (Both.ofR B1.ap st2).getF k33 f33
      have kp4 := (Both.ofR B1.ap st2).getF kp3 (B1.free hlpb hpf)
      refine ⟨fun e he => by simp only [List.mem_cons, List.not_mem_nil, or_false] at he; rcases he with rfl | rfl; exact k34; exact kp4, ?_⟩
      clear H
      have H := Holds.start w4 []
      refine Draw.take0 rfl (X.cmp rfl rfl rfl) rfl rfl rfl (by decide +kernel) ?_
      refine Draw.take0 rfl (X.assign rfl) rfl rfl rfl (by decide +kernel) ?_
      (refine Draw.done (by decide +kernel) (hK _ _ ?_); clear hK K)
      (first | refine Fn.ret1 HF rfl rfl ?_ | refine Fn.ret2 HF rfl rfl rfl ?_ | refine Fn.ret3 HF rfl rfl rfl rfl ?_ | refine Fn.ret0 HF rfl ?_ | refine Fn.fin0 HF rfl ?_ | refine Fn.retG (E := env) HF rfl H (by first | exact RVs.cellN rfl rfl rfl (by first | exact .head | exact .tail .head | exact .tail (.tail .head) | exact .tail (.tail (.tail .head)) | exact .tail (.tail (.tail (.tail .head))) | exact .tail (.tail (.tail (.tail (.tail .head)))) | exact .tail (.tail (.tail (.tail (.tail (.tail .head)))))) (by first | assumption | exact Cs.take rfl) RVs.nil | exact RVs.cellN rfl rfl rfl (by first | exact .head | exact .tail .head | exact .tail (.tail .head) | exact .tail (.tail (.tail .head)) | exact .tail (.tail (.tail (.tail .head))) | exact .tail (.tail (.tail (.tail (.tail .head)))) | exact .tail (.tail (.tail (.tail (.tail (.tail .head)))))) (by first | assumption | exact Cs.take rfl) (RVs.tmp rfl RVs.nil) | exact RVs.cellN rfl rfl rfl (by first | exact .head | exact .tail .head | exact .tail (.tail .head) | exact .tail (.tail (.tail .head)) | exact .tail (.tail (.tail (.tail .head))) | exact .tail (.tail (.tail (.tail (.tail .head)))) | exact .tail (.tail (.tail (.tail (.tail (.tail .head)))))) (by first | assumption | exact Cs.take rfl) (RVs.tmp rfl (RVs.tmp rfl RVs.nil))) rfl ?_)
      exact ⟨by rw [hab]; simp, g', h', B2.ext H.fr, by rw [hab', hAct], by rw [hab2, hab, hAct]⟩
    · have hAct : g.abs.act c = g.abs.lose (g.abs.place c) := by unfold Ns.act; rw [if_neg h40, if_neg h70, if_neg h122, if_pos h137]
      refine Draw.eff rfl rfl (by decide +kernel) (Y.call rfl rfl (by first | assumption | decide +kernel) rfl (lose_any _ g (g.abs.place c) k (A2.p.ext H.fr) hok) rfl ?_)
      rintro v w3 ⟨rfl, g', st, hab'⟩
      have B1 := (B0.ext H.fr).trans (Both.ofP ⟨A2.p.ext H.fr, A2.d.ext H.fr, A2.ds⟩ st)
      have k33 := (Both.ofP ⟨A2.p.ext H.fr, A2.d.ext H.fr, A2.ds⟩ st).getF (H.pick (b := b3) (by first | exact .head | exact .tail .head | exact .tail (.tail .head) | exact .tail (.tail (.tail .head)) | exact .tail (.tail (.tail (.tail .head))) | exact .tail (.tail (.tail (.tail (.tail .head)))) | exact .tail (.tail (.tail (.tail (.tail (.tail .head))))))) f3
      have kp3 := (Both.ofP ⟨A2.p.ext H.fr, A2.d.ext H.fr, A2.ds⟩ st).getF (H.pick (b := pb) (by first | exact .head | exact .tail .head | exact .tail (.tail .head) | exact .tail (.tail (.tail .head)) | exact .tail (.tail (.tail (.tail .head))) | exact .tail (.tail (.tail (.tail (.tail .head)))) | exact .tail (.tail (.tail (.tail (.tail (.tail .head))))))) hpf
      refine ⟨fun e he => by simp only [List.mem_cons, List.not_mem_nil, or_false] at he; rcases he with rfl | rfl; exact k33; exact kp3, ?_⟩
      have hlb3 := lt_of_at k33
      have hlpb := lt_of_at hpb
      refine Draw.eff rfl rfl (by decide +kernel) (Y.call rfl rfl (by first | assumption | decide +kernel) rfl (rlose_any _ h (g.abs.place c) k rfl B1.ap.d (by rw [hab]; exact hok)) rfl ?_)
      rintro v w4 ⟨rfl, h', st2, hab2⟩
      have B2 := B1.trans (Both.ofR B1.ap st2)
      have f33 : Free g' h b3 := ⟨fun hp => (st.own _ hp).elim f3.1 (fun _ => by have := lt_of_at (H.pick (b := b3) (by first | exact .head | exact .tail .head | exact .tail (.tail .head) | exact .tail (.tail (.tail .head)) | exact .tail (.tail (.tail (.tail .head))) | exact .tail (.tail (.tail (.tail (.tail .head)))) | exact .tail (.tail (.tail (.tail (.tail (.tail .head))))))); omega), fun hp => (st.imm _ hp).elim f3.2.1 (fun _ => by have := lt_of_at (H.pick (b := b3) (by first | exact .head | exact .tail .head | exact .tail (.tail .head) | exact .tail (.tail (.tail .head)) | exact .tail (.tail (.tail (.tail .head))) | exact .tail (.tail (.tail (.tail (.tail .head)))) | exact .tail (.tail (.tail (.tail (.tail (.tail .head))))))); omega), f3.2.2⟩
      have k34 := (Both.ofR B1.ap st2).getF k33 f33
      have kp4 := (Both.ofR B1.ap st2).getF kp3 (B1.free hlpb hpf)
      refine ⟨fun e he => by simp only [List.mem_cons, List.not_mem_nil, or_false] at he; rcases he with rfl | rfl; exact k34; exact kp4, ?_⟩
      clear H
      have H := Holds.start w4 []
      refine Draw.take0 rfl (X.cmp rfl rfl rfl) rfl rfl rfl (by decide +kernel) ?_
      refine Draw.take0 rfl (X.assign rfl) rfl rfl rfl (by decide +kernel) ?_
      (refine Draw.done (by decide +kernel) (hK _ _ ?_); clear hK K)
      (first | refine Fn.ret1 HF rfl rfl ?_ | refine Fn.ret2 HF rfl rfl rfl ?_ | refine Fn.ret3 HF rfl rfl rfl rfl ?_ | refine Fn.ret0 HF rfl ?_ | refine Fn.fin0 HF rfl ?_ | refine Fn.retG (E := env) HF rfl H (by first | exact RVs.cellN rfl rfl rfl (by first | exact .head | exact .tail .head | exact .tail (.tail .head) | exact .tail (.tail (.tail .head)) | exact .tail (.tail (.tail (.tail .head))) | exact .tail (.tail (.tail (.tail (.tail .head)))) | exact .tail (.tail (.tail (.tail (.tail (.tail .head)))))) (by first | assumption | exact Cs.take rfl) RVs.nil | exact RVs.cellN rfl rfl rfl (by first | exact .head | exact .tail .head | exact .tail (.tail .head) | exact .tail (.tail (.tail .head)) | exact .tail (.tail (.tail (.tail .head))) | exact .tail (.tail (.tail (.tail (.tail .head)))) | exact .tail (.tail (.tail (.tail (.tail (.tail .head)))))) (by first | assumption | exact Cs.take rfl) (RVs.tmp rfl RVs.nil) | exact RVs.cellN rfl rfl rfl (by first | exact .head | exact .tail .head | exact .tail (.tail .head) | exact .tail (.tail (.tail .head)) | exact .tail (.tail (.tail (.tail .head))) | exact .tail (.tail (.tail (.tail (.tail .head)))) | exact .tail (.tail (.tail (.tail (.tail (.tail .head)))))) (by first | assumption | exact Cs.take rfl) (RVs.tmp rfl (RVs.tmp rfl RVs.nil))) rfl ?_)
      exact ⟨by rw [hab]; simp, g', h', B2.ext H.fr, by rw [hab', hAct], by rw [hab2, hab, hAct]⟩
    · have hAct : g.abs.act c = g.abs.twice (g.abs.place c) := by unfold Ns.act; rw [if_neg h40, if_neg h70, if_neg h122, if_neg h137, if_pos h152]
      refine Draw.eff rfl rfl (by decide +kernel) (Y.call rfl rfl (by first | assumption | decide +kernel) rfl (twice_any _ g (g.abs.place c) k (A2.p.ext H.fr) hok) rfl ?_)
      rintro v w3 ⟨rfl, g', st, hab'⟩
      have B1 := (B0.ext H.fr).trans (Both.ofP ⟨A2.p.ext H.fr, A2.d.ext H.fr, A2.ds⟩ st)
      have k33 := (Both.ofP ⟨A2.p.ext H.fr, A2.d.ext H.fr, A2.ds⟩ st).getF (H.pick (b := b3) (by first | exact .head | exact .tail .head | exact .tail (.tail .head) | exact .tail (.tail (.tail .head)) | exact .tail (.tail (.tail (.tail .head))) | exact .tail (.tail (.tail (.tail (.tail .head)))) | exact .tail (.tail (.tail (.tail (.tail (.tail .head))))))) f3
      have kp3 := (Both.ofP ⟨A2.p.ext H.fr, A2.d.ext H.fr, A2.ds⟩ st).getF (H.pick (b := pb) (by first | exact .head | exact .tail .head | exact .tail (.tail .head) | exact .tail (.tail (.tail .head)) | exact .tail (.tail (.tail (.tail .head))) | exact .tail (.tail (.tail (.tail (.tail .head)))) | exact .tail (.tail (.tail (.tail (.tail (.tail .head))))))) hpf
      refine ⟨fun e he => by simp only [List.mem_cons, List.not_mem_nil, or_false] at he; rcases he with rfl | rfl; exact k33; exact kp3, ?_⟩
      have hlb3 := lt_of_at k33
      have hlpb := lt_of_at hpb
      refine Draw.eff rfl rfl (by decide +kernel) (Y.call rfl rfl (by first | assumption | decide +kernel) rfl (rtwice_any _ h (g.abs.place c) k rfl B1.ap.d (by rw [hab]; exact hok)) rfl ?_)
      rintro v w4 ⟨rfl, h', st2, hab2⟩
      have B2 := B1.trans (Both.ofR B1.ap st2)
      have f33 : Free g' h b3 := ⟨fun hp => (st.own _ hp).elim f3.1 (fun _ => by have := lt_of_at (H.pick (b := b3) (by first | exact .head | exact .tail .head | exact .tail (.tail .head) | exact .tail (.tail (.tail .head)) | exact .tail (.tail (.tail (.tail .head))) | exact .tail (.tail (.tail (.tail (.tail .head)))) | exact .tail (.tail (.tail (.tail (.tail (.tail .head))))))); omega), fun hp => (st.imm _ hp).elim f3.2.1 (fun _ => by have := lt_of_at (H.pick (b := b3) (by first | exact .head | exact .tail .head | exact .tail (.tail .head) | exact .tail (.tail (.tail .head)) | exact .tail (.tail (.tail (.tail .head))) | exact .tail (.tail (.tail (.tail (.tail .head)))) | exact .tail (.tail (.tail (.tail (.tail (.tail .head))))))); omega), f3.2.2⟩
      have k34 := (Both.ofR B1.ap st2).getF k33 f33
      have kp4 := (Both.ofR B1.ap st2).getF kp3 (B1.free hlpb hpf)
      refine ⟨fun e he => by simp only [List.mem_cons, List.not_mem_nil, or_false] at he; rcases he with rfl | rfl; exact k34; exact kp4, ?_⟩
      clear H
      have H := Holds.start w4 []
      refine Draw.take0 rfl (X.cmp rfl rfl rfl) rfl rfl rfl (by decide +kernel) ?_
      refine Draw.take0 rfl (X.assign rfl) rfl rfl rfl (by decide +kernel) ?_
      (refine Draw.done (by decide +kernel) (hK _ _ ?_); clear hK K)
      (first | refine Fn.ret1 HF rfl rfl ?_ | refine Fn.ret2 HF rfl rfl rfl ?_ | refine Fn.ret3 HF rfl rfl rfl rfl ?_ | refine Fn.ret0 HF rfl ?_ | refine Fn.fin0 HF rfl ?_ | refine Fn.retG (E := env) HF rfl H (by first | exact RVs.cellN rfl rfl rfl (by first | exact .head | exact .tail .head | exact .tail (.tail .head) | exact .tail (.tail (.tail .head)) | exact .tail (.tail (.tail (.tail .head))) | exact .tail (.tail (.tail (.tail (.tail .head)))) | exact .tail (.tail (.tail (.tail (.tail (.tail .head)))))) (by first | assumption | exact Cs.take rfl) RVs.nil | exact RVs.cellN rfl rfl rfl (by first | exact .head | exact .tail .head | exact .tail (.tail .head) | exact .tail (.tail (.tail .head)) | exact .tail (.tail (.tail (.tail .head))) | exact .tail (.tail (.tail (.tail (.tail .head)))) | exact .tail (.tail (.tail (.tail (.tail (.tail .head)))))) (by first | assumption | exact Cs.take rfl) (RVs.tmp rfl RVs.nil) | exact RVs.cellN rfl rfl rfl (by first | exact .head | exact .tail .head | exact .tail (.tail .head) | exact .tail (.tail (.tail .head)) | exact .tail (.tail (.tail (.tail .head))) | exact .tail (.tail (.tail (.tail (.tail .head)))) | exact .tail (.tail (.tail (.tail (.tail (.tail .head)))))) (by first | assumption | exact Cs.take rfl) (RVs.tmp rfl (RVs.tmp rfl RVs.nil))) rfl ?_)
      exact ⟨by rw [hab]; simp, g', h', B2.ext H.fr, by rw [hab', hAct], by rw [hab2, hab, hAct]⟩
    · have hAct : g.abs.act c = g.abs.tick c.a := by unfold Ns.act; rw [if_neg h40, if_neg h70, if_neg h122, if_neg h137, if_neg h152, if_pos h167]
      refine Draw.eff rfl rfl (by decide +kernel) (Y.call rfl rfl (by first | assumption | decide +kernel) rfl (tick_any _ g c.a k (A2.p.ext H.fr) hok (by omega)) rfl ?_)
      rintro v w3 ⟨rfl, g', st, hab'⟩
      have B1 := (B0.ext H.fr).trans (Both.ofP ⟨A2.p.ext H.fr, A2.d.ext H.fr, A2.ds⟩ st)
      have k33 := (Both.ofP ⟨A2.p.ext H.fr, A2.d.ext H.fr, A2.ds⟩ st).getF (H.pick (b := b3) (by first | exact .head | exact .tail .head | exact .tail (.tail .head) | exact .tail (.tail (.tail .head)) | exact .tail (.tail (.tail (.tail .head))) | exact .tail (.tail (.tail (.tail (.tail .head)))) | exact .tail (.tail (.tail (.tail (.tail (.tail .head))))))) f3
      have kp3 := (Both.ofP ⟨A2.p.ext H.fr, A2.d.ext H.fr, A2.ds⟩ st).getF (H.pick (b := pb) (by first | exact .head | exact .tail .head | exact .tail (.tail .head) | exact .tail (.tail (.tail .head)) | exact .tail (.tail (.tail (.tail .head))) | exact .tail (.tail (.tail (.tail (.tail .head)))) | exact .tail (.tail (.tail (.tail (.tail (.tail .head))))))) hpf
      refine ⟨fun e he => by simp only [List.mem_cons, List.not_mem_nil, or_false] at he; rcases he with rfl | rfl; exact k33; exact kp3, ?_⟩
      have hlb3 := lt_of_at k33
      have hlpb := lt_of_at hpb
      refine Draw.eff rfl rfl (by decide +kernel) (Y.call rfl rfl (by first | assumption | decide +kernel) rfl (rtick_any _ h c.a k rfl B1.ap.d (by rw [hab]; exact hok) (by omega)) rfl ?_)
      rintro v w4 ⟨rfl, h', st2, hab2⟩
      have B2 := B1.trans (Both.ofR B1.ap st2)
      have f33 : Free g' h b3 := ⟨fun hp => (st.own _ hp).elim f3.1 (fun _ => by have := lt_of_at (H.pick (b := b3) (by first | exact .head | exact .tail .head | exact .tail (.tail .head) | exact .tail (.tail (.tail .head)) | exact .tail (.tail (.tail (.tail .head))) | exact .tail (.tail (.tail (.tail (.tail .head)))) | exact .tail (.tail (.tail (.tail (.tail (.tail .head))))))); omega), fun hp => (st.imm _ hp).elim f3.2.1 (fun _ => by have := lt_of_at (H.pick (b := b3) (by first | exact .head | exact .tail .head | exact .tail (.tail .head) | exact .tail (.tail (.tail .head)) | exact .tail (.tail (.tail (.tail .head))) | exact .tail (.tail (.tail (.tail (.tail .head)))) | exact .tail (.tail (.tail (.tail (.tail (.tail .head))))))); omega), f3.2.2⟩
      have k34 := (Both.ofR B1.ap st2).getF k33 f33
      have kp4 := (Both.ofR B1.ap st2).getF kp3 (B1.free hlpb hpf)
      refine ⟨fun e he => by simp only [List.mem_cons, List.not_mem_nil, or_false] at he; rcases he with rfl | rfl; exact k34; exact kp4, ?_⟩
      clear H
      have H := Holds.start w4 []
      refine Draw.take0 rfl (X.cmp rfl rfl rfl) rfl rfl rfl (by decide +kernel) ?_
      refine Draw.take0 rfl (X.assign rfl) rfl rfl rfl (by decide +kernel) ?_
      (refine Draw.done (by decide +kernel) (hK _ _ ?_); clear hK K)
      (first | refine Fn.ret1 HF rfl rfl ?_ | refine Fn.ret2 HF rfl rfl rfl ?_ | refine Fn.ret3 HF rfl rfl rfl rfl ?_ | refine Fn.ret0 HF rfl ?_ | refine Fn.fin0 HF rfl ?_ | refine Fn.retG (E := env) HF rfl H (by first | exact RVs.cellN rfl rfl rfl (by first | exact .head | exact .tail .head | exact .tail (.tail .head) | exact .tail (.tail (.tail .head)) | exact .tail (.tail (.tail (.tail .head))) | exact .tail (.tail (.tail (.tail (.tail .head)))) | exact .tail (.tail (.tail (.tail (.tail (.tail .head)))))) (by first | assumption | exact Cs.take rfl) RVs.nil | exact RVs.cellN rfl rfl rfl (by first | exact .head | exact .tail .head | exact .tail (.tail .head) | exact .tail (.tail (.tail .head)) | exact .tail (.tail (.tail (.tail .head))) | exact .tail (.tail (.tail (.tail (.tail .head)))) | exact .tail (.tail (.tail (.tail (.tail (.tail .head)))))) (by first | assumption | exact Cs.take rfl) (RVs.tmp rfl RVs.nil) | exact RVs.cellN rfl rfl rfl (by first | exact .head | exact .tail .head | exact .tail (.tail .head) | exact .tail (.tail (.tail .head)) | exact .tail (.tail (.tail (.tail .head))) | exact .tail (.tail (.tail (.tail (.tail .head)))) | exact .tail (.tail (.tail (.tail (.tail (.tail .head)))))) (by first | assumption | exact Cs.take rfl) (RVs.tmp rfl (RVs.tmp rfl RVs.nil))) rfl ?_)
      exact ⟨by rw [hab]; simp, g', h', B2.ext H.fr, by rw [hab', hAct], by rw [hab2, hab, hAct]⟩
    · have hAct : g.abs.act c = g.abs.down c.a := by unfold Ns.act; rw [if_neg h40, if_neg h70, if_neg h122, if_neg h137, if_neg h152, if_neg h167, if_pos h184]
      refine Draw.eff rfl rfl (by decide +kernel) (Y.call rfl rfl (by first | assumption | decide +kernel) rfl (down_any _ g c.a (A2.p.ext H.fr)) rfl ?_)
      rintro v w3 ⟨rfl, g', st, hab'⟩
      have B1 := (B0.ext H.fr).trans (Both.ofP ⟨A2.p.ext H.fr, A2.d.ext H.fr, A2.ds⟩ st)
      have k33 := (Both.ofP ⟨A2.p.ext H.fr, A2.d.ext H.fr, A2.ds⟩ st).getF (H.pick (b := b3) (by first | exact .head | exact .tail .head | exact .tail (.tail .head) | exact .tail (.tail (.tail .head)) | exact .tail (.tail (.tail (.tail .head))) | exact .tail (.tail (.tail (.tail (.tail .head)))) | exact .tail (.tail (.tail (.tail (.tail (.tail .head))))))) f3
      have kp3 := (Both.ofP ⟨A2.p.ext H.fr, A2.d.ext H.fr, A2.ds⟩ st).getF (H.pick (b := pb) (by first | exact .head | exact .tail .head | exact .tail (.tail .head) | exact .tail (.tail (.tail .head)) | exact .tail (.tail (.tail (.tail .head))) | exact .tail (.tail (.tail (.tail (.tail .head)))) | exact .tail (.tail (.tail (.tail (.tail (.tail .head))))))) hpf
      refine ⟨fun e he => by simp only [List.mem_cons, List.not_mem_nil, or_false] at he; rcases he with rfl | rfl; exact k33; exact kp3, ?_⟩
      have hlb3 := lt_of_at k33
      have hlpb := lt_of_at hpb
      refine Draw.eff rfl rfl (by decide +kernel) (Y.call rfl rfl (by first | assumption | decide +kernel) rfl (rdown_any _ h c.a rfl B1.ap.d) rfl ?_)
      rintro v w4 ⟨rfl, h', st2, hab2⟩
      have B2 := B1.trans (Both.ofR B1.ap st2)
      have f33 : Free g' h b3 := ⟨fun hp => (st.own _ hp).elim f3.1 (fun _ => by have := lt_of_at (H.pick (b := b3) (by first | exact .head | exact .tail .head | exact .tail (.tail .head) | exact .tail (.tail (.tail .head)) | exact .tail (.tail (.tail (.tail .head))) | exact .tail (.tail (.tail (.tail (.tail .head)))) | exact .tail (.tail (.tail (.tail (.tail (.tail .head))))))); omega), fun hp => (st.imm _ hp).elim f3.2.1 (fun _ => by have := lt_of_at (H.pick (b := b3) (by first | exact .head | exact .tail .head | exact .tail (.tail .head) | exact .tail (.tail (.tail .head)) | exact .tail (.tail (.tail (.tail .head))) | exact .tail (.tail (.tail (.tail (.tail .head)))) | exact .tail (.tail (.tail (.tail (.tail (.tail .head))))))); omega), f3.2.2⟩
      have k34 := (Both.ofR B1.ap st2).getF k33 f33
      have kp4 := (Both.ofR B1.ap st2).getF kp3 (B1.free hlpb hpf)
      refine ⟨fun e he => by simp only [List.mem_cons, List.not_mem_nil, or_false] at he; rcases he with rfl | rfl; exact k34; exact kp4, ?_⟩
      clear H
      have H := Holds.start w4 []
      refine Draw.take0 rfl (X.cmp rfl rfl rfl) rfl rfl rfl (by decide +kernel) ?_
      refine Draw.take0 rfl (X.assign rfl) rfl rfl rfl (by decide +kernel) ?_
      (refine Draw.done (by decide +kernel) (hK _ _ ?_); clear hK K)
      (first | refine Fn.ret1 HF rfl rfl ?_ | refine Fn.ret2 HF rfl rfl rfl ?_ | refine Fn.ret3 HF rfl rfl rfl rfl ?_ | refine Fn.ret0 HF rfl ?_ | refine Fn.fin0 HF rfl ?_ | refine Fn.retG (E := env) HF rfl H (by first | exact RVs.cellN rfl rfl rfl (by first | exact .head | exact .tail .head | exact .tail (.tail .head) | exact .tail (.tail (.tail .head)) | exact .tail (.tail (.tail (.tail .head))) | exact .tail (.tail (.tail (.tail (.tail .head)))) | exact .tail (.tail (.tail (.tail (.tail (.tail .head)))))) (by first | assumption | exact Cs.take rfl) RVs.nil | exact RVs.cellN rfl rfl rfl (by first | exact .head | exact .tail .head | exact .tail (.tail .head) | exact .tail (.tail (.tail .head)) | exact .tail (.tail (.tail (.tail .head))) | exact .tail (.tail (.tail (.tail (.tail .head)))) | exact .tail (.tail (.tail (.tail (.tail (.tail .head)))))) (by first | assumption | exact Cs.take rfl) (RVs.tmp rfl RVs.nil) | exact RVs.cellN rfl rfl rfl (by first | exact .head | exact .tail .head | exact .tail (.tail .head) | exact .tail (.tail (.tail .head)) | exact .tail (.tail (.tail (.tail .head))) | exact .tail (.tail (.tail (.tail (.tail .head)))) | exact .tail (.tail (.tail (.tail (.tail (.tail .head)))))) (by first | assumption | exact Cs.take rfl) (RVs.tmp rfl (RVs.tmp rfl RVs.nil))) rfl ?_)
      exact ⟨by rw [hab]; simp, g', h', B2.ext H.fr, by rw [hab', hAct], by rw [hab2, hab, hAct]⟩
    · have hAct : g.abs.act c = g.abs.upS c.a := by unfold Ns.act; rw [if_neg h40, if_neg h70, if_neg h122, if_neg h137, if_neg h152, if_neg h167, if_neg h184, if_pos h201]
      refine Draw.eff rfl rfl (by decide +kernel) (Y.call rfl rfl (by first | assumption | decide +kernel) rfl (up_any _ g c.a k (A2.p.ext H.fr) hok (by omega)) rfl ?_)
      rintro v w3 ⟨rfl, g', st, hab'⟩
      have B1 := (B0.ext H.fr).trans (Both.ofP ⟨A2.p.ext H.fr, A2.d.ext H.fr, A2.ds⟩ st)
      have k33 := (Both.ofP ⟨A2.p.ext H.fr, A2.d.ext H.fr, A2.ds⟩ st).getF (H.pick (b := b3) (by first | exact .head | exact .tail .head | exact .tail (.tail .head) | exact .tail (.tail (.tail .head)) | exact .tail (.tail (.tail (.tail .head))) | exact .tail (.tail (.tail (.tail (.tail .head)))) | exact .tail (.tail (.tail (.tail (.tail (.tail .head))))))) f3
      have kp3 := (Both.ofP ⟨A2.p.ext H.fr, A2.d.ext H.fr, A2.ds⟩ st).getF (H.pick (b := pb) (by first | exact .head | exact .tail .head | exact .tail (.tail .head) | exact .tail (.tail (.tail .head)) | exact .tail (.tail (.tail (.tail .head))) | exact .tail (.tail (.tail (.tail (.tail .head)))) | exact .tail (.tail (.tail (.tail (.tail (.tail .head))))))) hpf
      refine ⟨fun e he => by simp only [List.mem_cons, List.not_mem_nil, or_false] at he; rcases he with rfl | rfl; exact k33; exact kp3, ?_⟩
      have hlb3 := lt_of_at k33
      have hlpb := lt_of_at hpb
      refine Draw.eff rfl rfl (by decide +kernel) (Y.call rfl rfl (by first | assumption | decide +kernel) rfl (rup_any _ h c.a k rfl B1.ap.d (by rw [hab]; exact hok) (by omega)) rfl ?_)
      rintro v w4 ⟨rfl, h', st2, hab2⟩
      have B2 := B1.trans (Both.ofR B1.ap st2)
      have f33 : Free g' h b3 := ⟨fun hp => (st.own _ hp).elim f3.1 (fun _ => by have := lt_of_at (H.pick (b := b3) (by first | exact .head | exact .tail .head | exact .tail (.tail .head) | exact .tail (.tail (.tail .head)) | exact .tail (.tail (.tail (.tail .head))) | exact .tail (.tail (.tail (.tail (.tail .head)))) | exact .tail (.tail (.tail (.tail (.tail (.tail .head))))))); omega), fun hp => (st.imm _ hp).elim f3.2.1 (fun _ => by have := lt_of_at (H.pick (b := b3) (by first | exact .head | exact .tail .head | exact .tail (.tail .head) | exact .tail (.tail (.tail .head)) | exact .tail (.tail (.tail (.tail .head))) | exact .tail (.tail (.tail (.tail (.tail .head)))) | exact .tail (.tail (.tail (.tail (.tail (.tail .head))))))); omega), f3.2.2⟩
      have k34 := (Both.ofR B1.ap st2).getF k33 f33
      have kp4 := (Both.ofR B1.ap st2).getF kp3 (B1.free hlpb hpf)
      refine ⟨fun e he => by simp only [List.mem_cons, List.not_mem_nil, or_false] at he; rcases he with rfl | rfl; exact k34; exact kp4, ?_⟩
      clear H
      have H := Holds.start w4 []
      refine Draw.take0 rfl (X.cmp rfl rfl rfl) rfl rfl rfl (by decide +kernel) ?_
      refine Draw.take0 rfl (X.assign rfl) rfl rfl rfl (by decide +kernel) ?_
      (refine Draw.done (by decide +kernel) (hK _ _ ?_); clear hK K)
      (first | refine Fn.ret1 HF rfl rfl ?_ | refine Fn.ret2 HF rfl rfl rfl ?_ | refine Fn.ret3 HF rfl rfl rfl rfl ?_ | refine Fn.ret0 HF rfl ?_ | refine Fn.fin0 HF rfl ?_ | refine Fn.retG (E := env) HF rfl H (by first | exact RVs.cellN rfl rfl rfl (by first | exact .head | exact .tail .head | exact .tail (.tail .head) | exact .tail (.tail (.tail .head)) | exact .tail (.tail (.tail (.tail .head))) | exact .tail (.tail (.tail (.tail (.tail .head)))) | exact .tail (.tail (.tail (.tail (.tail (.tail .head)))))) (by first | assumption | exact Cs.take rfl) RVs.nil | exact RVs.cellN rfl rfl rfl (by first | exact .head | exact .tail .head | exact .tail (.tail .head) | exact .tail (.tail (.tail .head)) | exact .tail (.tail (.tail (.tail .head))) | exact .tail (.tail (.tail (.tail (.tail .head)))) | exact .tail (.tail (.tail (.tail (.tail (.tail .head)))))) (by first | assumption | exact Cs.take rfl) (RVs.tmp rfl RVs.nil) | exact RVs.cellN rfl rfl rfl (by first | exact .head | exact .tail .head | exact .tail (.tail .head) | exact .tail (.tail (.tail .head)) | exact .tail (.tail (.tail (.tail .head))) | exact .tail (.tail (.tail (.tail (.tail .head)))) | exact .tail (.tail (.tail (.tail (.tail (.tail .head)))))) (by first | assumption | exact Cs.take rfl) (RVs.tmp rfl (RVs.tmp rfl RVs.nil))) rfl ?_)
      exact ⟨by rw [hab]; simp, g', h', B2.ext H.fr, by rw [hab', hAct], by rw [hab2, hab, hAct]⟩
    · have hAct : g.abs.act c = g.abs := by unfold Ns.act; rw [if_neg h40, if_neg h70, if_neg h122, if_neg h137, if_neg h152, if_neg h167, if_neg h184, if_neg h201]
      have hub : ∀ a, (g.abs.way a).told ≤ (g.abs.way a).sent.length ∧ (g.abs.way a).sent.length ≤ 4611686018427387903 := fun a => by obtain ⟨q1, q2, q3, _⟩ := hok.way a; exact ⟨q3, by omega⟩
      obtain ⟨U, hU⟩ : ∃ U : Nat, U = (if g.abs.isN c.a ∧ g.abs.isN c.to then (g.abs.way (c.a.toNat, c.to.toNat)).sent.length - (g.abs.way (c.a.toNat, c.to.toNat)).told else 0) := ⟨_, rfl⟩
      obtain ⟨V, hV⟩ : ∃ V : Int, V = (if g.abs.isN c.a ∧ g.abs.isN c.to then 0 else 60) := ⟨_, rfl⟩
      refine Draw.last rfl rfl (by decide +kernel) (Y.call rfl rfl (by first | assumption | decide +kernel) rfl (Unsure_any _ g c.a c.to (A2.p.ext H.fr) hub) rfl ?_)
      rintro v w3 ⟨hv, g', st, hab'⟩
      rw [← hU, ← hV] at hv
      subst hv
      have C3 := Both.ofP ⟨A2.p.ext H.fr, A2.d.ext H.fr, A2.ds⟩ st
      have B3 := (B0.ext H.fr).trans C3
      have k33 := C3.getF (H.pick (b := b3) (by first | exact .head | exact .tail .head | exact .tail (.tail .head) | exact .tail (.tail (.tail .head)) | exact .tail (.tail (.tail (.tail .head))) | exact .tail (.tail (.tail (.tail (.tail .head)))) | exact .tail (.tail (.tail (.tail (.tail (.tail .head))))))) f3
      have kp3 := C3.getF (H.pick (b := pb) (by first | exact .head | exact .tail .head | exact .tail (.tail .head) | exact .tail (.tail (.tail .head)) | exact .tail (.tail (.tail (.tail .head))) | exact .tail (.tail (.tail (.tail (.tail .head)))) | exact .tail (.tail (.tail (.tail (.tail (.tail .head))))))) hpf
      have hR := B3.ap.d
      have hnb := st.nb
      clear a1 a2 a3 a4 a5 k3 hpb2
      obtain ⟨tv, yv, xv, av, a1, a2, a3, ⟨xoff, xcap, xs, rfl, x2, x3, x4, x5, x6⟩, a5⟩ := hR.net
      have nxr : h.xb ≠ h.rb := ne_of_ty x4 a1 (by decide)
      have n3r : b3 ≠ h.rb := ne_of_ty k33 a1 (by decide)
      have n3x : b3 ≠ h.xb := ne_of_ty k33 x4 (by decide)
      have npx : pb ≠ h.xb := ne_of_ty kp3 x4 (by decide)
      clear H
      have H := ((((Holds.start w3 []).add false kp3 (by simp) (by simp)).add false k33 (by simpa using n3p) (by simp)).add false a1 (by simpa using ⟨n3r.symm, npr.symm⟩) (by simp)).add false x4 (by simpa using ⟨nxr, n3x.symm, npx.symm⟩) (by simp)
      refine Draw2.take rfl (X.move rfl) rfl rfl rfl (by decide +kernel) ?_
      refine Draw2.take rfl (X.extract rfl rfl) rfl rfl rfl (by decide +kernel) ?_
      refine Draw2.take rfl (X.extract rfl rfl) rfl rfl rfl (by decide +kernel) ?_
      refine Draw2.take rfl (X.assign rfl) rfl rfl rfl (by decide +kernel) ?_
      refine Draw2.take rfl (X.assign rfl) rfl rfl rfl (by decide +kernel) ?_
      (refine Draw2.done (by decide +kernel) (hK _ _ ?_); clear hK K)
      refine Run.seq ?_
      (refine Run.draw H [8] [0, 1, 2, 3, 4, 5, 6, 7, 8, 9, 10, 11, 12, 13] ?_; clear H; intro K hK w H)
      refine Draw.take0 rfl (X.move rfl) rfl rfl rfl (by decide +kernel) ?_
      refine Draw.take0 rfl (X.nilCheck rfl) rfl rfl rfl (by decide +kernel) ?_
      refine Draw.take0 rfl (X.fieldAddr rfl rfl rfl rfl rfl rfl) rfl rfl rfl (by decide +kernel) ?_
      refine Draw.take rfl (X.load1 rfl rfl rfl rfl (.tail (.tail (.tail .head))) rfl) rfl rfl rfl (by decide +kernel) ?_
      refine Draw.take0 rfl (X.fieldAddr rfl rfl rfl rfl rfl rfl) rfl rfl rfl (by decide +kernel) ?_
      refine Draw.take rfl (X.load1 rfl rfl rfl rfl (.tail (.tail .head)) rfl) rfl rfl rfl (by decide +kernel) ?_
      refine Draw.take0 rfl (X.fieldAddr rfl rfl rfl rfl rfl rfl) rfl rfl rfl (by decide +kernel) ?_
      refine Draw.take rfl (X.load1 rfl rfl rfl rfl (.tail (.tail .head)) rfl) rfl rfl rfl (by decide +kernel) ?_
      refine Draw.last rfl rfl (by decide +kernel) (Y.call rfl rfl (by first | assumption | decide +kernel) rfl (rUnsure_any _ h c.a c.to rfl (hR.ext H.fr) (by rw [hab]; exact hub)) rfl ?_)
      rintro v w4 ⟨hv, hf4⟩
      rw [hab, ← hU, ← hV] at hv
      subst hv
      replace H := H.ext hf4
      refine Draw2.take rfl (X.move rfl) rfl rfl rfl (by decide +kernel) ?_
      refine Draw2.take rfl (X.extract rfl rfl) rfl rfl rfl (by decide +kernel) ?_
      refine Draw2.take rfl (X.extract rfl rfl) rfl rfl rfl (by decide +kernel) ?_
      refine Draw2.take rfl (X.assign rfl) rfl rfl rfl (by decide +kernel) ?_
      refine Draw2.take rfl (X.assign rfl) rfl rfl rfl (by decide +kernel) ?_
      (refine Draw2.done (by decide +kernel) (hK _ _ ?_); clear hK K)
      refine Run.seq ?_
      (refine Run.draw H [6] [0, 1, 2, 3, 4, 5, 6, 7, 8, 9, 10, 11] ?_; clear H; intro K hK w H)
      refine Draw.take0 rfl (X.move rfl) rfl rfl rfl (by decide +kernel) ?_
      refine Draw.take0 rfl (X.nilCheck rfl) rfl rfl rfl (by decide +kernel) ?_
      refine Draw.take0 rfl (X.fieldAddr rfl rfl rfl rfl rfl rfl) rfl rfl rfl (by decide +kernel) ?_
      refine Draw.take rfl (X.load1 rfl rfl rfl rfl (.tail (.tail (.tail .head))) rfl) rfl rfl rfl (by decide +kernel) ?_
      refine Draw.take0 rfl (X.fieldAddr rfl rfl rfl rfl rfl rfl) rfl rfl rfl (by decide +kernel) ?_
      refine Draw.take rfl (X.load1 rfl rfl rfl rfl (.tail (.tail .head)) rfl) rfl rfl rfl (by decide +kernel) ?_
      refine Draw.last rfl rfl (by decide +kernel) (Y.call rfl rfl (by first | assumption | decide +kernel) rfl (Waits_at _ g' c.a hnb (B3.ap.p.ext H.fr)) rfl ?_)
      rintro v w5 ⟨hv, rfl⟩
      rw [hab'] at hv
      cases ht : g.abs.there c.a with
      | true =>
        obtain ⟨j, hj0, hj, _⟩ := there_iff.1 ht
        have hjn : j < h.n := by have : g.abs.n = h.n := by rw [← hab]; rfl
                                 omega
        have hxc : xs[xoff + j * 1]? = some (h.bv j) := (Cs.flat (sz := 1) (f := fun i => [h.bv i]) (fun _ => rfl) x6 hjn).get 0 _ rfl
        obtain ⟨xa, xc, hbv', _⟩ := (hR.box j hjn).slice
        rw [hbv'] at hxc
        have hbl : (g.abs.box c.a.toNat).length = (h.box j).length := by rw [← hab, rabs_box, hj0]; simp
        simp only [ht, if_true, hbl] at hv
        subst hv
        refine Draw2.take rfl (X.move rfl) rfl rfl rfl (by decide +kernel) ?_
        refine Draw2.take rfl (X.extract rfl rfl) rfl rfl rfl (by decide +kernel) ?_
        refine Draw2.take rfl (X.extract rfl rfl) rfl rfl rfl (by decide +kernel) ?_
        refine Draw2.take rfl (X.assign rfl) rfl rfl rfl (by decide +kernel) ?_
        refine Draw2.take rfl (X.assign rfl) rfl rfl rfl (by decide +kernel) ?_
        (refine Draw2.done (by decide +kernel) (hK _ _ ?_); clear hK K)
        refine Run.seq ?_
        (refine Run.region ?_; intro K hK)
        refine Ops.pure H (X.assign rfl) rfl rfl rfl ?_
        refine Ops.pure H (X.assign rfl) rfl rfl rfl ?_
        (refine Ops.nil (hK _ _ ?_); clear hK K)
        refine Run.seq ?_
        refine Run.seq ?_
        (refine Run.draw H [6] [0, 1, 2, 3, 4, 5, 6] ?_; clear H; intro K hK w H)
        refine Draw.take0 rfl (X.move rfl) rfl rfl rfl (by decide +kernel) ?_
        refine Draw.take0 rfl (X.nilCheck rfl) rfl rfl rfl (by decide +kernel) ?_
        refine Draw.take0 rfl (X.fieldAddr rfl rfl rfl rfl rfl rfl) rfl rfl rfl (by decide +kernel) ?_
        refine Draw.take rfl (X.load1 rfl rfl rfl rfl (.tail (.tail (.tail .head))) rfl) rfl rfl rfl (by decide +kernel) ?_
        refine Draw.take0 rfl (X.fieldAddr rfl rfl rfl rfl rfl rfl) rfl rfl rfl (by decide +kernel) ?_
        refine Draw.take rfl (X.load1 rfl rfl rfl rfl (.tail (.tail .head)) rfl) rfl rfl rfl (by decide +kernel) ?_
        have hR4 := hR.ext H.fr
        refine Draw.last rfl rfl (by decide +kernel) (Y.call rfl rfl (by first | assumption | decide +kernel) rfl (rIs_any _ h c.a rfl hR4) rfl ?_)
        rintro v w6 ⟨rfl, rfl⟩
        rw [hab, ht]
        rw [hj0] at H ht
        (refine Draw2.done (by decide +kernel) (hK _ _ ?_); clear hK K)
        refine Run.cond_true rfl ?_
        (refine Run.draw H [] [0, 1, 2, 3, 4, 5, 6, 7, 8, 9, 10, 11, 12, 13] ?_; clear H; intro K hK w H)
        refine Draw.take0 rfl (X.move rfl) rfl rfl rfl (by decide +kernel) ?_
        refine Draw.take0 rfl (X.nilCheck rfl) rfl rfl rfl (by decide +kernel) ?_
        refine Draw.take0 rfl (X.fieldAddr rfl rfl rfl rfl rfl rfl) rfl rfl rfl (by decide +kernel) ?_
        refine Draw.take rfl (X.load1 rfl rfl rfl rfl (.tail (.tail (.tail .head))) rfl) rfl rfl rfl (by decide +kernel) ?_
        refine Draw.take0 rfl (X.nilCheck rfl) rfl rfl rfl (by decide +kernel) ?_
        refine Draw.take0 rfl (X.fieldAddr rfl rfl rfl rfl rfl rfl) rfl rfl rfl (by decide +kernel) ?_
        refine Draw.take rfl (X.load1 rfl rfl rfl rfl (.tail .head) rfl) rfl rfl rfl (by decide +kernel) ?_
        refine Draw.take0 rfl (X.fieldAddr rfl rfl rfl rfl rfl rfl) rfl rfl rfl (by decide +kernel) ?_
        refine Draw.take rfl (X.load1 rfl rfl rfl rfl (.tail (.tail .head)) rfl) rfl rfl rfl (by decide +kernel) ?_
        refine Draw.take0 rfl (X.indexAddr rfl rfl (by omega) rfl rfl rfl rfl) rfl rfl rfl (by decide +kernel) ?_
        refine Draw.take rfl (X.load1 rfl rfl rfl rfl Pick.head (by assumption)) rfl rfl rfl (by decide +kernel) ?_
        refine Draw.take0 rfl (X.len_slice rfl rfl rfl) rfl rfl rfl (by decide +kernel) ?_
        refine Draw.take0 rfl (X.assign rfl) rfl rfl rfl (by decide +kernel) ?_
        refine Draw.take0 rfl (X.assign rfl) rfl rfl rfl (by decide +kernel) ?_
        (refine Draw.done (by decide +kernel) (hK _ _ ?_); clear hK K)
        refine Run.seq ?_
        (refine Run.draw H [] (0 :: 1 :: 2 :: 3 :: 4 :: 5 :: 6 :: 7 :: 8 :: 9 :: 10 :: 11 :: 12 :: 13 :: 14 :: 15 :: 16 :: 17 :: 18 :: 19 :: 20 :: 21 :: 22 :: 23 :: 24 :: 26 :: 27 :: 28 :: 29 :: 30 :: 31 :: 25 :: 32 :: 33 :: 34 :: 35 :: []) ?_; clear H; intro K hK w H)
        refine Draw.take0 rfl (X.move rfl) rfl rfl rfl (by decide +kernel) ?_
        refine Draw.take0 rfl (X.move rfl) rfl rfl rfl (by decide +kernel) ?_
        refine Draw.take0 rfl (X.cmp rfl rfl rfl) rfl rfl rfl (by decide +kernel) ?_
        refine Draw.take0 rfl (X.move rfl) rfl rfl rfl (by decide +kernel) ?_
        refine Draw.split_dec rfl rfl rfl (fun h277 => ?x12) (fun h277 => ?y12)
        case' y12 => exfalso; omega
        case' x12 =>
          refine Draw.take0 rfl (X.move rfl) rfl rfl rfl (by decide +kernel) ?_
          refine Draw.take0 rfl (X.move rfl) rfl rfl rfl (by decide +kernel) ?_
          refine Draw.take0 rfl (X.cmp rfl rfl rfl) rfl rfl rfl (by decide +kernel) ?_
          refine Draw.take0 rfl (X.pick_t rfl rfl) rfl rfl rfl (by decide +kernel) ?_
          refine Draw.take0 rfl (X.move rfl) rfl rfl rfl (by decide +kernel) ?_
          refine Draw.split_dec rfl rfl rfl (fun h282 => ?x13) (fun h282 => ?y13)
          case' y13 => exfalso; omega
          case' x13 =>
            refine Draw.take0 rfl (X.move rfl) rfl rfl rfl (by decide +kernel) ?_
            refine Draw.take0 rfl (X.move rfl) rfl rfl rfl (by decide +kernel) ?_
            refine Draw.take0 rfl (X.cmp rfl rfl rfl) rfl rfl rfl (by decide +kernel) ?_
            refine Draw.take0 rfl (X.pick_t rfl rfl) rfl rfl rfl (by decide +kernel) ?_
            refine Draw.take0 rfl (X.move rfl) rfl rfl rfl (by decide +kernel) ?_
            refine Draw.split_dec rfl rfl rfl (fun h287 => ?x14) (fun h287 => ?y14)
            case' y14 => exfalso; omega
            case' x14 =>
              refine Draw.take0 rfl (X.move rfl) rfl rfl rfl (by decide +kernel) ?_
              refine Draw.take0 rfl (X.move rfl) rfl rfl rfl (by decide +kernel) ?_
              refine Draw.take0 rfl (X.cmp rfl rfl rfl) rfl rfl rfl (by decide +kernel) ?_
              refine Draw.take0 rfl (X.pick_t rfl rfl) rfl rfl rfl (by decide +kernel) ?_
              refine Draw.take0 rfl (X.move rfl) rfl rfl rfl (by decide +kernel) ?_
              refine Draw.take0 rfl (X.move rfl) rfl rfl rfl (by decide +kernel) ?_
              refine Draw.take0 rfl (X.nilCheck rfl) rfl rfl rfl (by decide +kernel) ?_
              refine Draw.take0 rfl (X.fieldAddr rfl rfl rfl rfl rfl rfl) rfl rfl rfl (by decide +kernel) ?_
              refine Draw.take rfl (X.load1 rfl rfl rfl rfl (.tail (.tail (.tail .head))) rfl) rfl rfl rfl (by decide +kernel) ?_
              refine Draw.take0 rfl (X.fieldAddr rfl rfl rfl rfl rfl rfl) rfl rfl rfl (by decide +kernel) ?_
              refine Draw.take rfl (X.load1 rfl rfl rfl rfl (.tail (.tail .head)) rfl) rfl rfl rfl (by decide +kernel) ?_
              refine Draw.take0 rfl (X.move rfl) rfl rfl rfl (by decide +kernel) ?_
              refine Draw.take0 rfl (X.nilCheck rfl) rfl rfl rfl (by decide +kernel) ?_
              refine Draw.take0 rfl (X.fieldAddr rfl rfl rfl rfl rfl rfl) rfl rfl rfl (by decide +kernel) ?_
              refine Draw.take rfl (X.load1 rfl rfl rfl rfl (.tail (.tail (.tail .head))) rfl) rfl rfl rfl (by decide +kernel) ?_
              refine Draw.take0 rfl (X.fieldAddr rfl rfl rfl rfl rfl rfl) rfl rfl rfl (by decide +kernel) ?_
              refine Draw.take rfl (X.load1 rfl rfl rfl rfl (.tail (.tail .head)) rfl) rfl rfl rfl (by decide +kernel) ?_
              refine Draw.split_dec rfl rfl rfl (fun h298 => ?x15) (fun h298 => ?y15)
              case' y15 => exfalso; omega
        refine Draw.eff rfl rfl (by decide +kernel) (Y.call rfl rfl (by first | assumption | decide +kernel) rfl (Is_at _ g' (j : Nat) hnb (B3.ap.p.ext H.fr)) rfl ?_)
        rintro v w7 ⟨rfl, rfl⟩
        refine ⟨H.at_, ?_⟩
        rw [hab', ht]
        refine Draw.eff rfl rfl (by decide +kernel) (Y.call rfl rfl (by first | assumption | decide +kernel) rfl (rIs_any _ h (j : Nat) rfl (hR.ext H.fr)) rfl ?_)
        rintro v w8 ⟨rfl, rfl⟩
        refine ⟨H.at_, ?_⟩
        rw [hab, ht]
        refine Draw.take0 rfl (X.boolEq rfl rfl rfl rfl rfl) rfl rfl rfl (by decide +kernel) ?_
        refine Draw.take0 rfl (X.pick_t rfl rfl) rfl rfl rfl (by decide +kernel) ?_
        refine Draw.take0 rfl (X.assign rfl) rfl rfl rfl (by decide +kernel) ?_
        (refine Draw.done (by decide +kernel) (hK _ _ ?_); clear hK K)
        (first | refine Fn.ret1 HF rfl rfl ?_ | refine Fn.ret2 HF rfl rfl rfl ?_ | refine Fn.ret3 HF rfl rfl rfl rfl ?_ | refine Fn.ret0 HF rfl ?_ | refine Fn.fin0 HF rfl ?_ | refine Fn.retG (E := env) HF rfl H (by first | exact RVs.cellN rfl rfl rfl (by first | exact .head | exact .tail .head | exact .tail (.tail .head) | exact .tail (.tail (.tail .head)) | exact .tail (.tail (.tail (.tail .head))) | exact .tail (.tail (.tail (.tail (.tail .head)))) | exact .tail (.tail (.tail (.tail (.tail (.tail .head)))))) (by first | assumption | exact Cs.take rfl) RVs.nil | exact RVs.cellN rfl rfl rfl (by first | exact .head | exact .tail .head | exact .tail (.tail .head) | exact .tail (.tail (.tail .head)) | exact .tail (.tail (.tail (.tail .head))) | exact .tail (.tail (.tail (.tail (.tail .head)))) | exact .tail (.tail (.tail (.tail (.tail (.tail .head)))))) (by first | assumption | exact Cs.take rfl) (RVs.tmp rfl RVs.nil) | exact RVs.cellN rfl rfl rfl (by first | exact .head | exact .tail .head | exact .tail (.tail .head) | exact .tail (.tail (.tail .head)) | exact .tail (.tail (.tail (.tail .head))) | exact .tail (.tail (.tail (.tail (.tail .head)))) | exact .tail (.tail (.tail (.tail (.tail (.tail .head)))))) (by first | assumption | exact Cs.take rfl) (RVs.tmp rfl (RVs.tmp rfl RVs.nil))) rfl ?_)
        exact ⟨rfl, g', h, B3.ext H.fr, by rw [hab', hAct], by rw [hab, hAct]⟩
      | false =>
        simp only [ht, Bool.false_eq_true, if_false] at hv
        subst hv
        refine Draw2.take rfl (X.move rfl) rfl rfl rfl (by decide +kernel) ?_
        refine Draw2.take rfl (X.extract rfl rfl) rfl rfl rfl (by decide +kernel) ?_
        refine Draw2.take rfl (X.extract rfl rfl) rfl rfl rfl (by decide +kernel) ?_
        refine Draw2.take rfl (X.assign rfl) rfl rfl rfl (by decide +kernel) ?_
        refine Draw2.take rfl (X.assign rfl) rfl rfl rfl (by decide +kernel) ?_
        (refine Draw2.done (by decide +kernel) (hK _ _ ?_); clear hK K)
        refine Run.seq ?_
        (refine Run.region ?_; intro K hK)
        refine Ops.pure H (X.assign rfl) rfl rfl rfl ?_
        refine Ops.pure H (X.assign rfl) rfl rfl rfl ?_
        (refine Ops.nil (hK _ _ ?_); clear hK K)
        refine Run.seq ?_
        refine Run.seq ?_
        (refine Run.draw H [6] [0, 1, 2, 3, 4, 5, 6] ?_; clear H; intro K hK w H)
        refine Draw.take0 rfl (X.move rfl) rfl rfl rfl (by decide +kernel) ?_
        refine Draw.take0 rfl (X.nilCheck rfl) rfl rfl rfl (by decide +kernel) ?_
        refine Draw.take0 rfl (X.fieldAddr rfl rfl rfl rfl rfl rfl) rfl rfl rfl (by decide +kernel) ?_
        refine Draw.take rfl (X.load1 rfl rfl rfl rfl (.tail (.tail (.tail .head))) rfl) rfl rfl rfl (by decide +kernel) ?_
        refine Draw.take0 rfl (X.fieldAddr rfl rfl rfl rfl rfl rfl) rfl rfl rfl (by decide +kernel) ?_
        refine Draw.take rfl (X.load1 rfl rfl rfl rfl (.tail (.tail .head)) rfl) rfl rfl rfl (by decide +kernel) ?_
        have hR4 := hR.ext H.fr
        refine Draw.last rfl rfl (by decide +kernel) (Y.call rfl rfl (by first | assumption | decide +kernel) rfl (rIs_any _ h c.a rfl hR4) rfl ?_)
        rintro v w6 ⟨rfl, rfl⟩
        rw [hab, ht]
        (refine Draw2.done (by decide +kernel) (hK _ _ ?_); clear hK K)
        refine Run.cond_false rfl ?_
        refine Run.skip ?_
        refine Run.seq ?_
        (refine Run.draw H [] (0 :: 1 :: 2 :: 3 :: 4 :: 5 :: 6 :: 7 :: 8 :: 9 :: 10 :: 11 :: 12 :: 13 :: 14 :: 15 :: 16 :: 17 :: 18 :: 19 :: 20 :: 21 :: 22 :: 23 :: 24 :: 26 :: 27 :: 28 :: 29 :: 30 :: 31 :: 25 :: 32 :: 33 :: 34 :: 35 :: []) ?_; clear H; intro K hK w H)
        refine Draw.take0 rfl (X.move rfl) rfl rfl rfl (by decide +kernel) ?_
        refine Draw.take0 rfl (X.move rfl) rfl rfl rfl (by decide +kernel) ?_
        refine Draw.take0 rfl (X.cmp rfl rfl rfl) rfl rfl rfl (by decide +kernel) ?_
        refine Draw.take0 rfl (X.move rfl) rfl rfl rfl (by decide +kernel) ?_
        refine Draw.split_dec rfl rfl rfl (fun h277 => ?x16) (fun h277 => ?y16)
        case' y16 => exfalso; omega
        case' x16 =>
          refine Draw.take0 rfl (X.move rfl) rfl rfl rfl (by decide +kernel) ?_
          refine Draw.take0 rfl (X.move rfl) rfl rfl rfl (by decide +kernel) ?_
          refine Draw.take0 rfl (X.cmp rfl rfl rfl) rfl rfl rfl (by decide +kernel) ?_
          refine Draw.take0 rfl (X.pick_t rfl rfl) rfl rfl rfl (by decide +kernel) ?_
          refine Draw.take0 rfl (X.move rfl) rfl rfl rfl (by decide +kernel) ?_
          refine Draw.split_dec rfl rfl rfl (fun h282 => ?x17) (fun h282 => ?y17)
          case' y17 => exfalso; omega
          case' x17 =>
            refine Draw.take0 rfl (X.move rfl) rfl rfl rfl (by decide +kernel) ?_
            refine Draw.take0 rfl (X.move rfl) rfl rfl rfl (by decide +kernel) ?_
            refine Draw.take0 rfl (X.cmp rfl rfl rfl) rfl rfl rfl (by decide +kernel) ?_
            refine Draw.take0 rfl (X.pick_t rfl rfl) rfl rfl rfl (by decide +kernel) ?_
            refine Draw.take0 rfl (X.move rfl) rfl rfl rfl (by decide +kernel) ?_
            refine Draw.take0 rfl (X.move rfl) rfl rfl rfl (by decide +kernel) ?_
            refine Draw.take0 rfl (X.move rfl) rfl rfl rfl (by decide +kernel) ?_
            refine Draw.take0 rfl (X.cmp rfl rfl rfl) rfl rfl rfl (by decide +kernel) ?_
            refine Draw.take0 rfl (X.pick_t rfl rfl) rfl rfl rfl (by decide +kernel) ?_
            refine Draw.take0 rfl (X.move rfl) rfl rfl rfl (by decide +kernel) ?_
            refine Draw.take0 rfl (X.move rfl) rfl rfl rfl (by decide +kernel) ?_
            refine Draw.take0 rfl (X.nilCheck rfl) rfl rfl rfl (by decide +kernel) ?_
            refine Draw.take0 rfl (X.fieldAddr rfl rfl rfl rfl rfl rfl) rfl rfl rfl (by decide +kernel) ?_
            refine Draw.take rfl (X.load1 rfl rfl rfl rfl (.tail (.tail (.tail .head))) rfl) rfl rfl rfl (by decide +kernel) ?_
            refine Draw.take0 rfl (X.fieldAddr rfl rfl rfl rfl rfl rfl) rfl rfl rfl (by decide +kernel) ?_
            refine Draw.take rfl (X.load1 rfl rfl rfl rfl (.tail (.tail .head)) rfl) rfl rfl rfl (by decide +kernel) ?_
            refine Draw.take0 rfl (X.move rfl) rfl rfl rfl (by decide +kernel) ?_
            refine Draw.take0 rfl (X.nilCheck rfl) rfl rfl rfl (by decide +kernel) ?_
            refine Draw.take0 rfl (X.fieldAddr rfl rfl rfl rfl rfl rfl) rfl rfl rfl (by decide +kernel) ?_
            refine Draw.take rfl (X.load1 rfl rfl rfl rfl (.tail (.tail (.tail .head))) rfl) rfl rfl rfl (by decide +kernel) ?_
            refine Draw.take0 rfl (X.fieldAddr rfl rfl rfl rfl rfl rfl) rfl rfl rfl (by decide +kernel) ?_
            refine Draw.take rfl (X.load1 rfl rfl rfl rfl (.tail (.tail .head)) rfl) rfl rfl rfl (by decide +kernel) ?_
            refine Draw.split_dec rfl rfl rfl (fun h298 => ?x18) (fun h298 => ?y18)
            case' y18 => exfalso; omega
        refine Draw.eff rfl rfl (by decide +kernel) (Y.call rfl rfl (by first | assumption | decide +kernel) rfl (Is_at _ g' c.a hnb (B3.ap.p.ext H.fr)) rfl ?_)
        rintro v w7 ⟨rfl, rfl⟩
        refine ⟨H.at_, ?_⟩
        rw [hab', ht]
        refine Draw.eff rfl rfl (by decide +kernel) (Y.call rfl rfl (by first | assumption | decide +kernel) rfl (rIs_any _ h c.a rfl (hR.ext H.fr)) rfl ?_)
        rintro v w8 ⟨rfl, rfl⟩
        refine ⟨H.at_, ?_⟩
        rw [hab, ht]
        refine Draw.take0 rfl (X.boolEq rfl rfl rfl rfl rfl) rfl rfl rfl (by decide +kernel) ?_
        refine Draw.take0 rfl (X.pick_t rfl rfl) rfl rfl rfl (by decide +kernel) ?_
        refine Draw.take0 rfl (X.assign rfl) rfl rfl rfl (by decide +kernel) ?_
        (refine Draw.done (by decide +kernel) (hK _ _ ?_); clear hK K)
        (first | refine Fn.ret1 HF rfl rfl ?_ | refine Fn.ret2 HF rfl rfl rfl ?_ | refine Fn.ret3 HF rfl rfl rfl rfl ?_ | refine Fn.ret0 HF rfl ?_ | refine Fn.fin0 HF rfl ?_ | refine Fn.retG (E := env) HF rfl H (by first | exact RVs.cellN rfl rfl rfl (by first | exact .head | exact .tail .head | exact .tail (.tail .head) | exact .tail (.tail (.tail .head)) | exact .tail (.tail (.tail (.tail .head))) | exact .tail (.tail (.tail (.tail (.tail .head)))) | exact .tail (.tail (.tail (.tail (.tail (.tail .head)))))) (by first | assumption | exact Cs.take rfl) RVs.nil | exact RVs.cellN rfl rfl rfl (by first | exact .head | exact .tail .head | exact .tail (.tail .head) | exact .tail (.tail (.tail .head)) | exact .tail (.tail (.tail (.tail .head))) | exact .tail (.tail (.tail (.tail (.tail .head)))) | exact .tail (.tail (.tail (.tail (.tail (.tail .head)))))) (by first | assumption | exact Cs.take rfl) (RVs.tmp rfl RVs.nil) | exact RVs.cellN rfl rfl rfl (by first | exact .head | exact .tail .head | exact .tail (.tail .head) | exact .tail (.tail (.tail .head)) | exact .tail (.tail (.tail (.tail .head))) | exact .tail (.tail (.tail (.tail (.tail .head)))) | exact .tail (.tail (.tail (.tail (.tail (.tail .head)))))) (by first | assumption | exact Cs.take rfl) (RVs.tmp rfl (RVs.tmp rfl RVs.nil))) rfl ?_)
        exact ⟨rfl, g', h, B3.ext H.fr, by rw [hab', hAct], by rw [hab, hAct]⟩
    · have hAct : g.abs.act c = g.abs := by unfold Ns.act; rw [if_neg h40, if_neg h70, if_neg h122, if_neg h137, if_neg h152, if_neg h167, if_neg h184, if_neg h201]
      (first | refine Fn.ret1 HF rfl rfl ?_ | refine Fn.ret2 HF rfl rfl rfl ?_ | refine Fn.ret3 HF rfl rfl rfl rfl ?_ | refine Fn.ret0 HF rfl ?_ | refine Fn.fin0 HF rfl ?_ | refine Fn.retG (E := env) HF rfl H (by first | exact RVs.cellN rfl rfl rfl (by first | exact .head | exact .tail .head | exact .tail (.tail .head) | exact .tail (.tail (.tail .head)) | exact .tail (.tail (.tail (.tail .head))) | exact .tail (.tail (.tail (.tail (.tail .head)))) | exact .tail (.tail (.tail (.tail (.tail (.tail .head)))))) (by first | assumption | exact Cs.take rfl) RVs.nil | exact RVs.cellN rfl rfl rfl (by first | exact .head | exact .tail .head | exact .tail (.tail .head) | exact .tail (.tail (.tail .head)) | exact .tail (.tail (.tail (.tail .head))) | exact .tail (.tail (.tail (.tail (.tail .head)))) | exact .tail (.tail (.tail (.tail (.tail (.tail .head)))))) (by first | assumption | exact Cs.take rfl) (RVs.tmp rfl RVs.nil) | exact RVs.cellN rfl rfl rfl (by first | exact .head | exact .tail .head | exact .tail (.tail .head) | exact .tail (.tail (.tail .head)) | exact .tail (.tail (.tail (.tail .head))) | exact .tail (.tail (.tail (.tail (.tail .head)))) | exact .tail (.tail (.tail (.tail (.tail (.tail .head)))))) (by first | assumption | exact Cs.take rfl) (RVs.tmp rfl (RVs.tmp rfl RVs.nil))) rfl ?_)
      exact ⟨rfl, g, h, B0.ext H.fr, hAct.symm, by rw [hab, hAct]⟩
/-- The pair and its two networks. -/
structure Duo (z w : World) (pb : Nat) (g : PG) (h : RG) (s : Ns) : Prop where
  ap : Apart w g h
  fr : Fr z w []
  pr : w.heap[pb]? = some (row [.pointer (some ⟨g.nb, 0, none⟩), .pointer (some ⟨h.rb, 0, none⟩)] 34)
  pz : z.heap.size ≤ pb
  pf : Free g h pb
  nP : ∀ c, PF g c → z.heap.size ≤ c
  nI : ∀ c, PI g c → z.heap.size ≤ c
  nR : ∀ c, RD h c → z.heap.size ≤ c
  ag : g.abs = s
  ah : h.abs = s
theorem Duo.step {z w w' : World} {pb : Nat} {g g' : PG} {h h' : RG} {s s' : Ns} (D : Duo z w pb g h s) (B : Both w g h w' g' h') (hg : g'.abs = s') (hh : h'.abs = s') : Duo z w' pb g' h' s' := by
  obtain ⟨S, hf, hS⟩ := B.fr
  have hz := D.fr.size
  refine ⟨B.ap, D.fr.trans hf (by simp) (fun x hx hl => ?_), by rw [B.nb, B.rb]; exact B.getF D.pr D.pf, D.pz, B.free (lt_of_at D.pr) D.pf, fun c hc => (B.ownP c hc).elim (D.nP c) (fun e => by omega), fun c hc => (B.immP c hc).elim (D.nI c) (fun e => by omega), fun c hc => (B.ownR c hc).elim (D.nR c) (fun e => by omega), hg, hh⟩
  rcases hS x hx with e | e
  · have := D.nP x e; omega
  · have := D.nR x (.inl e); omega
theorem Duo.ext {z w w' : World} {pb : Nat} {g : PG} {h : RG} {s : Ns} (D : Duo z w pb g h s) (hf : Fr w w' []) : Duo z w' pb g h s := D.step (.rfl' D.ap hf) D.ag D.ah
theorem Duo.old {z w : World} {pb : Nat} {g : PG} {h : RG} {s : Ns} (D : Duo z w pb g h s) {c : Nat} (hc : c < z.heap.size) : Free g h c :=
  ⟨fun hp => by have := D.nP c hp; omega, fun hp => by have := D.nI c hp; omega, fun hp => by have := D.nR c hp; omega⟩
end Go.Proofs.Ytpmihcefjdeonaa
