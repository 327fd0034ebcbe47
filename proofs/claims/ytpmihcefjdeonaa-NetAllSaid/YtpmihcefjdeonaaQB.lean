/- Walks of layer 6: the document's New. -/
import Derived.Test.YtpmihcefjdeonaaQA
namespace Go.Proofs.Ytpmihcefjdeonaa
open Go
set_option maxRecDepth 20000
set_option maxHeartbeats 2000000
attribute [local irreducible] Run Ops Fn Draw Draw2 PureOp StepZ

theorem KeepT.row {el b T : Nat} {w w' : World} {cs : List Value} (h : KeepT el w w') (hb : w.heap[b]? = some (Go.Proofs.Ytpmihcefjdeonaa.row cs T)) (hT : T ≠ el) : w'.heap[b]? = some (Go.Proofs.Ytpmihcefjdeonaa.row cs T) := h b cs T hT hb
theorem Own.kt {w w' : World} {z el el' sz n : Nat} {v : Value} {vs : List Value} (h : Own w z el sz v n vs) (hk : KeepT el' w w') (hT : el ≠ el') : Own w' z el sz v n vs := by
  rcases h with h | ⟨b, cap, cs, h1, h2, h3, h4, h5, h6⟩
  · exact .inl h
  · exact .inr ⟨b, cap, cs, h1, h2, h3, h4, hk.row h5 hT, h6⟩
theorem Lst.kt1 {w w' : World} {v : Value} {ob : Option Nat} {el el' sz n : Nat} {vs : List Value} (h : Lst w v ob el sz n vs) (hk : KeepT el' w w') (hT : el ≠ el') : Lst w' v ob el sz n vs := by
  cases ob with
  | none => exact h
  | some b =>
    obtain ⟨off, cap, cs, h1, h2, h3, h4, h5⟩ := h
    exact ⟨off, cap, cs, h1, h2, h3, hk.row h4 hT, h5⟩
theorem Own.lst {w : World} {z el sz n : Nat} {v : Value} {vs : List Value} (h : Own w z el sz v n vs) (hn : 0 < n) : ∃ b, z ≤ b ∧ Lst w v (some b) el sz n vs := by
  rcases h with ⟨h, _⟩ | ⟨b, cap, cs, h1, h2, h3, h4, h5, h6, h7⟩
  · omega
  · exact ⟨b, h4, 0, cap, cs, h1, h2, h3, h5, by omega, h7⟩
theorem Lst.cast_vs {w : World} {v : Value} {ob : Option Nat} {el sz n : Nat} {vs us : List Value} (h : Lst w v ob el sz n vs) (e : vs = us) : Lst w v ob el sz n us := e ▸ h
def rw1 : RW := ⟨1, 0, 0, .slice none 0 0, none, []⟩
theorem rnew_no (z : World) (n : Int) (h : ¬ (1 ≤ n ∧ n ≤ 64)) : Fn env.P 25 [.int .i64 n] z fun v w' => v = .tuple #[.pointer none, .int .i64 1] ∧ w' = z := by
  have H := Holds.start z []
  have HF := Try.func25; refine Fn.enter Try.func25 Try.ntmps25 rfl rfl rfl ?_
  by_cases h1 : n < 1
  · refine Run.seq ?_
    (refine Run.region ?_; intro K hK)
    refine Ops.pure H (X.assign rfl) rfl rfl rfl ?_
    refine Ops.pure H (X.assign rfl) rfl rfl rfl ?_
    (refine Ops.nil (hK _ _ ?_); clear hK K)
    refine Run.seq ?_
    refine Run.seq ?_
    (refine Run.region ?_; intro K hK)
    refine Ops.pure H (X.move rfl) rfl rfl rfl ?_
    refine Ops.pure H (X.cmp rfl rfl rfl) rfl rfl rfl ?_
    refine Ops.pure H (X.move rfl) rfl rfl rfl ?_
    refine Ops.split_dec rfl rfl (fun h11 => ?x0) (fun h11 => ?y0)
    case' y0 => exfalso; omega
    case' x0 =>
      refine Ops.pass rfl rfl rfl ?_
      refine Ops.pass rfl rfl rfl ?_
      refine Ops.pure H (X.pick_t rfl rfl) rfl rfl rfl ?_
      (refine Ops.nil (hK _ _ ?_); clear hK K)
      refine Run.cond_true rfl ?_
      refine Run.seq ?_
      (refine Run.region ?_; intro K hK)
      refine Ops.pure H (X.assign rfl) rfl rfl rfl ?_
      refine Ops.pure H (X.assign rfl) rfl rfl rfl ?_
      (refine Ops.nil (hK _ _ ?_); clear hK K)
    (first | refine Fn.ret1 HF rfl rfl ?_ | refine Fn.ret2 HF rfl rfl rfl ?_ | refine Fn.ret3 HF rfl rfl rfl rfl ?_ | refine Fn.ret0 HF rfl ?_ | refine Fn.fin0 HF rfl ?_ | refine Fn.retG (E := env) HF rfl H (by first | exact RVs.cellN rfl rfl rfl (by first | exact .head | exact .tail .head | exact .tail (.tail .head) | exact .tail (.tail (.tail .head)) | exact .tail (.tail (.tail (.tail .head))) | exact .tail (.tail (.tail (.tail (.tail .head)))) | exact .tail (.tail (.tail (.tail (.tail (.tail .head)))))) (by first | assumption | exact Cs.take rfl) RVs.nil | exact RVs.cellN rfl rfl rfl (by first | exact .head | exact .tail .head | exact .tail (.tail .head) | exact .tail (.tail (.tail .head)) | exact .tail (.tail (.tail (.tail .head))) | exact .tail (.tail (.tail (.tail (.tail .head)))) | exact .tail (.tail (.tail (.tail (.tail (.tail .head)))))) (by first | assumption | exact Cs.take rfl) (RVs.tmp rfl RVs.nil) | exact RVs.cellN rfl rfl rfl (by first | exact .head | exact .tail .head | exact .tail (.tail .head) | exact .tail (.tail (.tail .head)) | exact .tail (.tail (.tail (.tail .head))) | exact .tail (.tail (.tail (.tail (.tail .head)))) | exact .tail (.tail (.tail (.tail (.tail (.tail .head)))))) (by first | assumption | exact Cs.take rfl) (RVs.tmp rfl (RVs.tmp rfl RVs.nil))) rfl ?_)
    exact ⟨rfl, rfl⟩
  · refine Run.seq ?_
    (refine Run.region ?_; intro K hK)
    refine Ops.pure H (X.assign rfl) rfl rfl rfl ?_
    refine Ops.pure H (X.assign rfl) rfl rfl rfl ?_
    (refine Ops.nil (hK _ _ ?_); clear hK K)
    refine Run.seq ?_
    refine Run.seq ?_
    (refine Run.region ?_; intro K hK)
    refine Ops.pure H (X.move rfl) rfl rfl rfl ?_
    refine Ops.pure H (X.cmp rfl rfl rfl) rfl rfl rfl ?_
    refine Ops.pure H (X.move rfl) rfl rfl rfl ?_
    refine Ops.split_dec rfl rfl (fun h11 => ?x1) (fun h11 => ?y1)
    case' y1 =>
      refine Ops.pure H (X.move rfl) rfl rfl rfl ?_
      refine Ops.pure H (X.cmp rfl rfl rfl) rfl rfl rfl ?_
      refine Ops.pure H (X.pick_f rfl rfl) rfl rfl rfl ?_
      (refine Ops.nil (hK _ _ ?_); clear hK K)
      refine Run.cond_dec rfl (fun h13 => ?x2) (fun h13 => ?y2)
      case' y2 => exfalso; omega
      case' x2 =>
        refine Run.seq ?_
        (refine Run.region ?_; intro K hK)
        refine Ops.pure H (X.assign rfl) rfl rfl rfl ?_
        refine Ops.pure H (X.assign rfl) rfl rfl rfl ?_
        (refine Ops.nil (hK _ _ ?_); clear hK K)
    case' x1 => exfalso; omega
    (first | refine Fn.ret1 HF rfl rfl ?_ | refine Fn.ret2 HF rfl rfl rfl ?_ | refine Fn.ret3 HF rfl rfl rfl rfl ?_ | refine Fn.ret0 HF rfl ?_ | refine Fn.fin0 HF rfl ?_ | refine Fn.retG (E := env) HF rfl H (by first | exact RVs.cellN rfl rfl rfl (by first | exact .head | exact .tail .head | exact .tail (.tail .head) | exact .tail (.tail (.tail .head)) | exact .tail (.tail (.tail (.tail .head))) | exact .tail (.tail (.tail (.tail (.tail .head)))) | exact .tail (.tail (.tail (.tail (.tail (.tail .head)))))) (by first | assumption | exact Cs.take rfl) RVs.nil | exact RVs.cellN rfl rfl rfl (by first | exact .head | exact .tail .head | exact .tail (.tail .head) | exact .tail (.tail (.tail .head)) | exact .tail (.tail (.tail (.tail .head))) | exact .tail (.tail (.tail (.tail (.tail .head)))) | exact .tail (.tail (.tail (.tail (.tail (.tail .head)))))) (by first | assumption | exact Cs.take rfl) (RVs.tmp rfl RVs.nil) | exact RVs.cellN rfl rfl rfl (by first | exact .head | exact .tail .head | exact .tail (.tail .head) | exact .tail (.tail (.tail .head)) | exact .tail (.tail (.tail (.tail .head))) | exact .tail (.tail (.tail (.tail (.tail .head)))) | exact .tail (.tail (.tail (.tail (.tail (.tail .head)))))) (by first | assumption | exact Cs.take rfl) (RVs.tmp rfl (RVs.tmp rfl RVs.nil))) rfl ?_)
    exact ⟨rfl, rfl⟩
theorem rnew_yes (z : World) (n : Nat) (h1 : 1 ≤ n) (h2 : n ≤ 64) : Fn env.P 25 [.int .i64 (n : Nat)] z fun v w' => ∃ g : RG, v = .tuple #[.pointer (some ⟨g.rb, 0, none⟩), .int .i64 0] ∧ RN w' g ∧ g.abs = ns0 n ∧ Fr z w' [] ∧ (∀ b, RD g b → z.heap.size ≤ b) := by
  have H := Holds.start z []
  have HF := Try.func25; refine Fn.enter Try.func25 Try.ntmps25 rfl rfl rfl ?_
  refine Run.seq ?_
  (refine Run.region ?_; intro K hK)
  refine Ops.pure H (X.assign rfl) rfl rfl rfl ?_
  refine Ops.pure H (X.assign rfl) rfl rfl rfl ?_
  (refine Ops.nil (hK _ _ ?_); clear hK K)
  refine Run.seq ?_
  refine Run.seq ?_
  (refine Run.region ?_; intro K hK)
  refine Ops.pure H (X.move rfl) rfl rfl rfl ?_
  refine Ops.pure H (X.cmp rfl rfl rfl) rfl rfl rfl ?_
  refine Ops.pure H (X.move rfl) rfl rfl rfl ?_
  refine Ops.split_dec rfl rfl (fun h11 => ?x3) (fun h11 => ?y3)
  case' y3 =>
    refine Ops.pure H (X.move rfl) rfl rfl rfl ?_
    refine Ops.pure H (X.cmp rfl rfl rfl) rfl rfl rfl ?_
    refine Ops.pure H (X.pick_f rfl rfl) rfl rfl rfl ?_
    (refine Ops.nil (hK _ _ ?_); clear hK K)
    refine Run.cond_dec rfl (fun h13 => ?x4) (fun h13 => ?y4)
    case' y4 =>
      refine Run.skip ?_
      refine Run.seq ?_
      (refine Run.region ?_; intro K hK)
      refine Ops.pure H (X.buildO rfl rfl rfl rfl rfl rfl) rfl rfl rfl ?_
      (refine Ops.eff rfl (Y.box rfl rfl rfl H ?_); intro b15 w H0 hb15; clear H; have H := H0; clear H0)
      refine Ops.pure H (X.assign rfl) rfl rfl rfl ?_
      (refine Ops.nil (hK _ _ ?_); clear hK K)
      refine Run.seq ?_
      refine Run.seq ?_
      (refine Run.region ?_; intro K hK)
      refine Ops.pure H (X.assign rfl) rfl rfl rfl ?_
      (refine Ops.nil (hK _ _ ?_); clear hK K)
      refine Run.block ?_
    case' x4 => exfalso; omega
  case' x3 => exfalso; omega
  obtain ⟨rb, hrb⟩ : ∃ rb, rb = b15 := ⟨_, rfl⟩
  subst hrb
  refine Run.rounds (fun (x : Nat) => [(0, .int .i64 (n : Nat)), (4, .pointer (some ⟨rb, 0, none⟩)), (5, .int .i64 (x : Nat))])
    (fun x w' => x ≤ n ∧ Fr z w' [] ∧ ∃ (tv yv xv : Value) (rv : Nat → Value) (rows : Nat → Nat), w'.heap[rb]? = some (row [tv, yv, xv, .slice none 0 0] 69) ∧ Own w' z.heap.size 4 1 tv x ((List.range x).flatMap fun _ => [.bool true]) ∧ Own w' z.heap.size 96 1 yv x ((List.range x).flatMap fun i => [rv i]) ∧ Own w' z.heap.size 72 1 xv x ((List.range x).flatMap fun _ => [.slice none 0 0]) ∧ (∀ i, i < x → z.heap.size ≤ rows i ∧ Lst w' (rv i) (some (rows i)) 99 4 n ((List.range n).flatMap fun _ => rwC rw1)) ∧ ∀ i j, i < x → j < x → i ≠ j → rows i ≠ rows j)
    (fun x => n - x) 0 (by repeat (first | exact trivial | refine ⟨rfl, ?_⟩)) ⟨by omega, H.fr, .slice none 0 0, .slice none 0 0, .slice none 0 0, fun _ => .slice none 0 0, fun _ => 0, H.pick .head, Own.nil, Own.nil, Own.nil, fun i hi => by omega, fun i j hi => by omega⟩ ?_
  clear H
  rintro x w2 ⟨hx, hF, tv, yv, xv, rv, rows, k0, ot, oy, ox, hrows, hdist⟩ IH
  by_cases hlt : x < n
  · obtain ⟨ta, tc, rfl⟩ := ot.slice
    obtain ⟨ya, yc, rfl⟩ := oy.slice
    obtain ⟨xa, xc, rfl⟩ := ox.slice
    have H := (Holds.start w2 []).add false k0 (by simp) (by simp)
    refine Run.seq ?_
    refine Run.seq ?_
    (refine Run.region ?_; intro K hK)
    refine Ops.pure H (X.move rfl) rfl rfl rfl ?_
    refine Ops.pure H (X.move rfl) rfl rfl rfl ?_
    refine Ops.pure H (X.cmp rfl rfl rfl) rfl rfl rfl ?_
    (refine Ops.nil (hK _ _ ?_); clear hK K)
    refine Run.cond_dec rfl (fun h18 => ?x5) (fun h18 => ?y5)
    case' y5 => exfalso; omega
    case' x5 =>
      refine Run.skip ?_
      refine Run.seq ?_
      refine Run.block ?_
      refine Run.seq ?_
      (refine Run.region ?_; intro K hK)
      refine Ops.pure H (X.move rfl) rfl rfl rfl ?_
      refine Ops.pure H (X.move rfl) rfl rfl rfl ?_
      refine Ops.pure H (X.nilCheck rfl) rfl rfl rfl ?_
      refine Ops.pure H (X.fieldAddr rfl rfl rfl rfl rfl rfl) rfl rfl rfl ?_
      refine Ops.pure H (X.load1 rfl rfl rfl rfl Pick.head rfl) rfl rfl rfl ?_
      (refine Ops.eff rfl (Y.buildSliceO rfl rfl rfl rfl rfl rfl rfl rfl H ?_); intro b26 w H0 hb26; clear H; have H := H0; clear H0)
    refine Ops.eff rfl (Y.appendOwnS (w0 := z) (S := []) (news := [.bool true]) (ot.ext H.fr) rfl rfl rfl rfl rfl rfl (hF.then H.fr) (by omega) rfl (Src.row (m := 1) H .head (Cs.take rfl)) rfl rfl (by dsimp only; omega) (by omega) rfl ?_)
    intro v1 w3 hF3 hK3 hlow3 ot3
    have k3 := hK3.row (H.pick (b := rb) (by first | exact .head | exact .tail .head | exact .tail (.tail .head) | exact .tail (.tail (.tail .head)) | exact .tail (.tail (.tail (.tail .head))) | exact .tail (.tail (.tail (.tail (.tail .head)))) | exact .tail (.tail (.tail (.tail (.tail (.tail .head))))))) (by decide)
    have oy3 := (oy.ext H.fr).kt hK3 (by decide)
    have ox3 := (ox.ext H.fr).kt hK3 (by decide)
    have hr3 : ∀ i, i < x → z.heap.size ≤ rows i ∧ Lst w3 (rv i) (some (rows i)) 99 4 n ((List.range n).flatMap fun _ => rwC rw1) := fun i hi => ⟨(hrows i hi).1, ((hrows i hi).2.ext H.fr).kt1 hK3 (by decide)⟩
    obtain ⟨ta3, tc3, rfl⟩ := ot3.slice
    clear H hK3 hlow3
    have H := (Holds.start w3 [rb]).add true k3 (by simp) (by simp)
    refine Ops.pure H (X.nilCheck rfl) rfl rfl rfl ?_
    refine Ops.pure H (X.fieldAddr rfl rfl rfl rfl rfl rfl) rfl rfl rfl ?_
    (refine Ops.eff rfl (Y.store1 rfl rfl rfl rfl rfl rfl H Upd.head (by repeat (first | exact SetC.zero | apply SetC.succ)) ?_); intro w H0; clear H; have H := H0; clear H0)
    (refine Ops.nil (hK _ _ ?_); clear hK K)
    refine Run.seq ?_
    (refine Run.region ?_; intro K hK)
    refine Ops.pure H (X.move rfl) rfl rfl rfl ?_
    refine Ops.pure H (X.move rfl) rfl rfl rfl ?_
    refine Ops.pure H (X.nilCheck rfl) rfl rfl rfl ?_
    refine Ops.pure H (X.fieldAddr rfl rfl rfl rfl rfl rfl) rfl rfl rfl ?_
    refine Ops.pure H (X.load1 rfl rfl rfl rfl Pick.head rfl) rfl rfl rfl ?_
    (refine Ops.eff rfl (Y.buildSliceO rfl rfl rfl rfl rfl rfl rfl rfl H ?_); intro b35 w H0 hb35; clear H; have H := H0; clear H0)
    have hKr := KeepT.of1 H.fr k3
    have hFr := hF3.trans (U := []) H.fr (by simp) (fun y hy hl => by simp at hy; omega)
    refine Ops.eff rfl (Y.appendOwnS (w0 := z) (S := []) (news := [.slice none 0 0]) (ox3.kt hKr (by decide)) rfl rfl rfl rfl rfl rfl hFr (by omega) rfl (Src.row (m := 1) H .head (Cs.take rfl)) rfl rfl (by dsimp only; omega) (by omega) rfl ?_)
    intro v2 w4 hF4 hK4 hlow4 ox4
    have k4 := hK4.row (H.pick (b := rb) (by first | exact .head | exact .tail .head | exact .tail (.tail .head) | exact .tail (.tail (.tail .head)) | exact .tail (.tail (.tail (.tail .head))) | exact .tail (.tail (.tail (.tail (.tail .head)))) | exact .tail (.tail (.tail (.tail (.tail (.tail .head))))))) (by decide)
    have ot4 := (ot3.kt hKr (by decide)).kt hK4 (by decide)
    have oy4 := (oy3.kt hKr (by decide)).kt hK4 (by decide)
    have hr4 : ∀ i, i < x → z.heap.size ≤ rows i ∧ Lst w4 (rv i) (some (rows i)) 99 4 n ((List.range n).flatMap fun _ => rwC rw1) := fun i hi => ⟨(hr3 i hi).1, ((hr3 i hi).2.kt1 hKr (by decide)).kt1 hK4 (by decide)⟩
    obtain ⟨xa4, xc4, rfl⟩ := ox4.slice
    clear H hK4 hlow4 hKr hFr oy3 ox3 hr3 ot oy ox hrows k0 k3
    have H := (Holds.start w4 [rb]).add true k4 (by simp) (by simp)
    refine Ops.pure H (X.nilCheck rfl) rfl rfl rfl ?_
    refine Ops.pure H (X.fieldAddr rfl rfl rfl rfl rfl rfl) rfl rfl rfl ?_
    (refine Ops.eff rfl (Y.store1 rfl rfl rfl rfl rfl rfl H Upd.head (by repeat (first | exact SetC.zero | apply SetC.succ)) ?_); intro w H0; clear H; have H := H0; clear H0)
    (refine Ops.nil (hK _ _ ?_); clear hK K)
    refine Run.seq ?_
    (refine Run.region ?_; intro K hK)
    refine Ops.pure H (X.assign rfl) rfl rfl rfl ?_
    (refine Ops.nil (hK _ _ ?_); clear hK K)
    refine Run.seq ?_
    refine Run.seq ?_
    (refine Run.region ?_; intro K hK)
    refine Ops.pure H (X.assign rfl) rfl rfl rfl ?_
    (refine Ops.nil (hK _ _ ?_); clear hK K)
    refine Run.block ?_
    have hKr := KeepT.of1 H.fr k4
    have hF5 := hF4.trans (U := []) H.fr (by simp) (fun y hy hl => by simp at hy; omega)
    have k5 := H.pick (b := rb) (by first | exact .head | exact .tail .head | exact .tail (.tail .head) | exact .tail (.tail (.tail .head)) | exact .tail (.tail (.tail (.tail .head))) | exact .tail (.tail (.tail (.tail (.tail .head)))) | exact .tail (.tail (.tail (.tail (.tail (.tail .head))))))
    have ot5 := ot4.kt hKr (by decide)
    have oy5 := oy4.kt hKr (by decide)
    have ox5 := ox4.keepS (S := []) (Fr.refl w4 []) (by simp)
    have ox5 := ox4.kt hKr (by decide)
    have hr5 : ∀ i, i < x → z.heap.size ≤ rows i ∧ Lst w (rv i) (some (rows i)) 99 4 n ((List.range n).flatMap fun _ => rwC rw1) := fun i hi => ⟨(hr4 i hi).1, (hr4 i hi).2.kt1 hKr (by decide)⟩
    clear hKr oy4 hr4 ot4 ox4 hF4 k4 ot3 hF3
    obtain ⟨w5, hw5⟩ : ∃ w5, w5 = w := ⟨_, rfl⟩
    subst hw5
    refine Run.rounds (fun (q : Nat × Value) => [(0, .int .i64 (n : Nat)), (4, .pointer (some ⟨rb, 0, none⟩)), (5, .int .i64 (x : Nat)), (6, q.2), (7, .int .i64 (q.1 : Nat))])
      (fun q w' => q.1 ≤ n ∧ Fr w5 w' [] ∧ Own w' w5.heap.size 99 4 q.2 q.1 ((List.range q.1).flatMap fun _ => rwC rw1))
      (fun q => n - q.1) (0, .slice none 0 0) (by repeat (first | exact trivial | refine ⟨rfl, ?_⟩)) ⟨by simp, Fr.refl _ _, Own.nil⟩ ?_
    clear H
    rintro ⟨y, lv⟩ w6 ⟨hy, hF6, ol⟩ IH2
    dsimp only at hy ol IH2 ⊢
    obtain ⟨la, lc, rfl⟩ := ol.slice
    by_cases hyl : y < n
    · have H := Holds.start w6 []
      refine Run.seq ?_
      refine Run.seq ?_
      (refine Run.region ?_; intro K hK)
      refine Ops.pure H (X.move rfl) rfl rfl rfl ?_
      refine Ops.pure H (X.move rfl) rfl rfl rfl ?_
      refine Ops.pure H (X.cmp rfl rfl rfl) rfl rfl rfl ?_
      (refine Ops.nil (hK _ _ ?_); clear hK K)
      refine Run.cond_dec rfl (fun h41 => ?x6) (fun h41 => ?y6)
      case' y6 => exfalso; omega
      case' x6 =>
        refine Run.skip ?_
        refine Run.seq ?_
        refine Run.block ?_
        (refine Run.region ?_; intro K hK)
        refine Ops.pure H (X.move rfl) rfl rfl rfl ?_
        refine Ops.pure H (X.buildO rfl rfl rfl rfl rfl rfl) rfl rfl rfl ?_
        (refine Ops.eff rfl (Y.buildSliceO rfl rfl rfl rfl rfl rfl rfl rfl H ?_); intro b46 w H0 hb46; clear H; have H := H0; clear H0)
      refine Ops.eff rfl (Y.appendOwn (w0 := w5) (news := rwC rw1) (ol.ext H.fr) rfl rfl rfl rfl rfl rfl (hF6.then H.fr) (by omega) rfl (Src.row (m := 4) H .head (Cs.take rfl)) rfl rfl (by dsimp only; omega) (by omega) rfl ?_)
      intro v7 w7 hF7 hK7 ol7
      clear H
      have H := Holds.start w7 []
      refine Ops.pure H (X.assign rfl) rfl rfl rfl ?_
      (refine Ops.nil (hK _ _ ?_); clear hK K)
      refine Run.inBlock ?_
      (refine Run.region ?_; intro K hK)
      refine Ops.pure H (X.move rfl) rfl rfl rfl ?_
      refine Ops.pure H (X.succ rfl rfl (by omega)) rfl rfl rfl ?_
      refine Ops.pure H (X.assign rfl) rfl rfl rfl ?_
      (refine Ops.nil (hK _ _ ?_); clear hK K)
      exact (IH2 (y + 1, v7) _ (by dsimp only; omega) ⟨by dsimp only; omega, hF7.then H.fr, by rw [flat_succ]; exact ol7.ext H.fr⟩).weak (by repeat (first | exact trivial | refine ⟨rfl, ?_⟩))
    · obtain rfl : y = n := by omega
      obtain ⟨lb, lbz, hLl⟩ := ol.lst (by omega)
      have k6 := hF6.get k5 (by simp)
      have H := (Holds.start w6 [rb]).add true k6 (by simp) (by simp)
      refine Run.seq ?_
      refine Run.seq ?_
      (refine Run.region ?_; intro K hK)
      refine Ops.pure H (X.move rfl) rfl rfl rfl ?_
      refine Ops.pure H (X.move rfl) rfl rfl rfl ?_
      refine Ops.pure H (X.cmp rfl rfl rfl) rfl rfl rfl ?_
      (refine Ops.nil (hK _ _ ?_); clear hK K)
      refine Run.cond_dec rfl (fun h41 => ?x7) (fun h41 => ?y7)
      case' y7 =>
        refine Run.exit rfl ?_
        (refine Run.region ?_; intro K hK)
        refine Ops.pure H (X.move rfl) rfl rfl rfl ?_
        refine Ops.pure H (X.move rfl) rfl rfl rfl ?_
        refine Ops.pure H (X.nilCheck rfl) rfl rfl rfl ?_
        refine Ops.pure H (X.fieldAddr rfl rfl rfl rfl rfl rfl) rfl rfl rfl ?_
        refine Ops.pure H (X.load1 rfl rfl rfl rfl Pick.head rfl) rfl rfl rfl ?_
        refine Ops.pure H (X.move rfl) rfl rfl rfl ?_
        (refine Ops.eff rfl (Y.buildSliceO rfl rfl rfl rfl rfl rfl rfl rfl H ?_); intro b54 w H0 hb54; clear H; have H := H0; clear H0)
      case' x7 => exfalso; omega
      have hd := H.fr.drop1 (by rw [k6]; exact H.pick (b := rb) (by first | exact .head | exact .tail .head | exact .tail (.tail .head) | exact .tail (.tail (.tail .head)) | exact .tail (.tail (.tail (.tail .head))) | exact .tail (.tail (.tail (.tail (.tail .head)))) | exact .tail (.tail (.tail (.tail (.tail (.tail .head)))))))
      have hsz5 := hF5.size
      refine Ops.eff rfl (Y.appendOwnS (w0 := z) (S := []) (news := [.slice la y lc]) ((oy5.ext hF6).ext hd) rfl rfl rfl rfl rfl rfl ((hF5.then hF6).then hd) (by omega) rfl (Src.row (m := 1) H .head (Cs.take rfl)) rfl rfl (by dsimp only; omega) (by omega) rfl ?_)
      intro v8 w8 hF8 hK8 hlow8 oy8
      have k8 := hK8.row (H.pick (b := rb) (by first | exact .head | exact .tail .head | exact .tail (.tail .head) | exact .tail (.tail (.tail .head)) | exact .tail (.tail (.tail (.tail .head))) | exact .tail (.tail (.tail (.tail (.tail .head)))) | exact .tail (.tail (.tail (.tail (.tail (.tail .head))))))) (by decide)
      have hT := hF6.then hd
      have ot8 := (ot5.ext hT).kt hK8 (by decide)
      have ox8 := (ox5.ext hT).kt hK8 (by decide)
      have hr8 : ∀ i, i < x → z.heap.size ≤ rows i ∧ Lst w8 (rv i) (some (rows i)) 99 4 y ((List.range y).flatMap fun _ => rwC rw1) := fun i hi => ⟨(hr5 i hi).1, ((hr5 i hi).2.ext hT).kt1 hK8 (by decide)⟩
      have hl8 := (hLl.ext hd).kt1 hK8 (by decide)
      obtain ⟨ya8, yc8, rfl⟩ := oy8.slice
      clear H hK8 hlow8
      have H := (Holds.start w8 [rb]).add true k8 (by simp) (by simp)
      refine Ops.pure H (X.nilCheck rfl) rfl rfl rfl ?_
      refine Ops.pure H (X.fieldAddr rfl rfl rfl rfl rfl rfl) rfl rfl rfl ?_
      (refine Ops.eff rfl (Y.store1 rfl rfl rfl rfl rfl rfl H Upd.head (by repeat (first | exact SetC.zero | apply SetC.succ)) ?_); intro w H0; clear H; have H := H0; clear H0)
      (refine Ops.nil (hK _ _ ?_); clear hK K)
      refine Run.inBlock ?_
      (refine Run.region ?_; intro K hK)
      refine Ops.pure H (X.move rfl) rfl rfl rfl ?_
      refine Ops.pure H (X.succ rfl rfl (by omega)) rfl rfl rfl ?_
      refine Ops.pure H (X.assign rfl) rfl rfl rfl ?_
      (refine Ops.nil (hK _ _ ?_); clear hK K)
      have hKr := KeepT.of1 H.fr k8
      have hF9 := hF8.trans (U := []) H.fr (by simp) (fun y hy hl => by simp at hy; omega)
      have hlt5 : ∀ i, i < x → rows i < w5.heap.size := fun i hi => (hr5 i hi).2.lt rfl
      refine (IH (x + 1) _ (by omega) ⟨by omega, hF9, .slice ta3 (x + 1) tc3, .slice ya8 (x + 1) yc8, .slice xa4 (x + 1) xc4, updb rv x (.slice la y lc), updb rows x lb, H.pick (b := rb) (by first | exact .head | exact .tail .head | exact .tail (.tail .head) | exact .tail (.tail (.tail .head)) | exact .tail (.tail (.tail (.tail .head))) | exact .tail (.tail (.tail (.tail (.tail .head)))) | exact .tail (.tail (.tail (.tail (.tail (.tail .head)))))), by rw [flat_succ]; exact ot8.kt hKr (by decide), ?_, by rw [flat_succ]; exact ox8.kt hKr (by decide), ?_, ?_⟩).weak (by repeat (first | exact trivial | refine ⟨rfl, ?_⟩))
      · rw [flat_succ, updb_self, flat_congr (g := fun i => [rv i]) (fun i hi => by rw [updb_ne (by omega)])]
        exact oy8.kt hKr (by decide)
      · intro i hi
        by_cases e : i = x
        · subst e
          rw [updb_self, updb_self]
          exact ⟨by omega, hl8.kt1 hKr (by decide)⟩
        · rw [updb_ne e, updb_ne e]
          exact ⟨(hr8 i (by omega)).1, (hr8 i (by omega)).2.kt1 hKr (by decide)⟩
      · intro i j hi hj hij
        by_cases e : i = x
        · subst e
          rw [updb_self, updb_ne (fun e => hij e.symm)]
          have := hlt5 j (by omega)
          omega
        · rw [updb_ne e]
          by_cases e' : j = x
          · subst e'
            rw [updb_self]
            have := hlt5 i (by omega)
            omega
          · rw [updb_ne e']
            exact hdist i j (by omega) (by omega) hij
  · obtain rfl : x = n := by omega
    have H := (Holds.start w2 []).add false k0 (by simp) (by simp)
    refine Run.seq ?_
    refine Run.seq ?_
    (refine Run.region ?_; intro K hK)
    refine Ops.pure H (X.move rfl) rfl rfl rfl ?_
    refine Ops.pure H (X.move rfl) rfl rfl rfl ?_
    refine Ops.pure H (X.cmp rfl rfl rfl) rfl rfl rfl ?_
    (refine Ops.nil (hK _ _ ?_); clear hK K)
    refine Run.cond_dec rfl (fun h18 => ?x8) (fun h18 => ?y8)
    case' y8 =>
      refine Run.exit rfl ?_
      refine Run.seq ?_
      (refine Run.region ?_; intro K hK)
      refine Ops.pure H (X.move rfl) rfl rfl rfl ?_
      refine Ops.pure H (X.assign rfl) rfl rfl rfl ?_
      refine Ops.pure H (X.assign rfl) rfl rfl rfl ?_
      (refine Ops.nil (hK _ _ ?_); clear hK K)
    case' x8 => exfalso; omega
    (first | refine Fn.ret1 HF rfl rfl ?_ | refine Fn.ret2 HF rfl rfl rfl ?_ | refine Fn.ret3 HF rfl rfl rfl rfl ?_ | refine Fn.ret0 HF rfl ?_ | refine Fn.fin0 HF rfl ?_ | refine Fn.retG (E := env) HF rfl H (by first | exact RVs.cellN rfl rfl rfl (by first | exact .head | exact .tail .head | exact .tail (.tail .head) | exact .tail (.tail (.tail .head)) | exact .tail (.tail (.tail (.tail .head))) | exact .tail (.tail (.tail (.tail (.tail .head)))) | exact .tail (.tail (.tail (.tail (.tail (.tail .head)))))) (by first | assumption | exact Cs.take rfl) RVs.nil | exact RVs.cellN rfl rfl rfl (by first | exact .head | exact .tail .head | exact .tail (.tail .head) | exact .tail (.tail (.tail .head)) | exact .tail (.tail (.tail (.tail .head))) | exact .tail (.tail (.tail (.tail (.tail .head)))) | exact .tail (.tail (.tail (.tail (.tail (.tail .head)))))) (by first | assumption | exact Cs.take rfl) (RVs.tmp rfl RVs.nil) | exact RVs.cellN rfl rfl rfl (by first | exact .head | exact .tail .head | exact .tail (.tail .head) | exact .tail (.tail (.tail .head)) | exact .tail (.tail (.tail (.tail .head))) | exact .tail (.tail (.tail (.tail (.tail .head)))) | exact .tail (.tail (.tail (.tail (.tail (.tail .head)))))) (by first | assumption | exact Cs.take rfl) (RVs.tmp rfl (RVs.tmp rfl RVs.nil))) rfl ?_)
    obtain ⟨tb, htz, lt⟩ := (ot.ext H.fr).lst (by omega)
    obtain ⟨yb, hyz, ly⟩ := (oy.ext H.fr).lst (by omega)
    obtain ⟨xb, hxz, lx⟩ := (ox.ext H.fr).lst (by omega)
    refine ⟨⟨x, rb, tb, yb, xb, none, fun i => decide (i < x), rv, rows, fun _ => rw1, fun _ => .slice none 0 0, fun _ => none, fun _ => [], []⟩, rfl, ⟨⟨tv, yv, xv, _, H.pick (b := rb) (by first | exact .head | exact .tail .head | exact .tail (.tail .head) | exact .tail (.tail (.tail .head)) | exact .tail (.tail (.tail (.tail .head))) | exact .tail (.tail (.tail (.tail (.tail .head)))) | exact .tail (.tail (.tail (.tail (.tail (.tail .head)))))), ?_, ly, lx, Lst.nil⟩, fun i hi => (hrows i hi).2.ext H.fr, fun i hi => Lst.nil, fun i j hi hj => Lst.nil, by simp, by simp, by simp [rw1], ⟨h1, h2⟩, hdist⟩, ?_, hF.then H.fr, ?_⟩
    · exact lt.cast_vs (flat_congr fun i hi => by simp [hi])
    · unfold RG.abs ns0
      simp [absR, rw1, wy0]
    · rintro b ((e | e | e | e | e | ⟨i, hi, e | e⟩ | ⟨i, j, hi, hj, e⟩) | (⟨p, hp, e⟩ | ⟨i, p, hi, hp, e⟩ | ⟨i, j, p, hi, hj, hp, e⟩))
      · rw [e]; exact hb15
      · rw [e]; exact htz
      · rw [e]; exact hyz
      · rw [e]; exact hxz
      · cases e
      · rw [e]; exact (hrows i hi).1
      · cases e
      · cases e
      · cases hp
      · cases hp
      · cases hp
end Go.Proofs.Ytpmihcefjdeonaa
