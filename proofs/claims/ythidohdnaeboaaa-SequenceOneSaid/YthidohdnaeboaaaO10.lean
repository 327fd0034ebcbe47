/- Walks: SequenceOne. -/
import Derived.Test.YthidohdnaeboaaaO8
import Derived.Test.YthidohdnaeboaaaO9
namespace Go.Proofs.Ythidohdnaeboaaa
open Go
set_option maxRecDepth 20000
set_option maxHeartbeats 2000000
attribute [local irreducible] Run Ops Fn Draw Draw2 PureOp StepZ

structure AV where
  kind : Int
  part : Int
  client : Int
  seq : Int
  id : Int
  v : Value
  xs : List Int
  how : Bool
def actC (a : AV) : List Value := [.int .i64 a.kind, .int .i64 a.part, .int .u64 a.client, .int .u64 a.seq, .int .u64 a.id, a.v, .bool a.how]
/-- A slice of acts. -/
def Acts (w : World) (a : Option Addr) (n b off : Nat) (cs : List Value) (T : TypeId) (fz : Nat × Nat) (A : Nat → AV) : Prop :=
  n ≤ 9223372036854775807 ∧ (0 < n → a = some ⟨b, off, none⟩ ∧ w.heap[b]? = some (.cells (List.toArray cs) T fz)) ∧ ∀ j, j < n → Cs cs (off + j * 7) 7 (actC (A j)) ∧ Ints w (A j).v (A j).xs ∧ (0 ≤ (A j).id ∧ (A j).id ≤ 18446744073709551615)
theorem Ints.lt {w : World} {v : Value} {xs : List Int} (h : Ints w v xs) (hp : 0 < xs.length) {b off m cap : Nat} (e : v = .slice (some ⟨b, off, none⟩) m cap) : b < w.heap.size := by
  obtain ⟨a, cap, b', off', cs, T, fz, rfl, h2, h3, h4, h5⟩ := h
  obtain ⟨rfl, h6⟩ := h4 hp
  cases e
  exact lt_of_at h6

theorem Ord.real {w : World} {o c : Nat} {n last : Int} {l : List Tk} (h : Ord w o c n last l) (hp : 0 < l.length) : ∃ cs, w.heap[c]? = some (row cs 56) := by
  obtain ⟨v, _, a, cap, cs, rfl, h1, h2, h3, h4⟩ := h
  rcases h3 with ⟨_, rfl⟩ | ⟨_, h3, _⟩
  · omega
  · exact ⟨cs, h3⟩
theorem one_no (z : World) (n : Int) (V1 V2 : Value) (hn : ¬ (1 ≤ n ∧ n ≤ 64)) :
    Fn env.P 5 [.int .i64 n, V1, V2] z fun v w' => v = .bool true ∧ Fr z w' [] := by
  have H := Holds.start z []
  have HF := Try.func5; refine Fn.enter Try.func5 Try.ntmps5 rfl rfl rfl ?_
  refine Run.seq ?_
  (refine Run.region ?_; intro K hK)
  refine Ops.pure H (X.assign rfl) rfl rfl rfl ?_
  (refine Ops.nil (hK _ _ ?_); clear hK K)
  refine Run.seq ?_
  refine Run.seq ?_
  (refine Run.region ?_; intro K hK)
  refine Ops.eff rfl (Y.call rfl rfl (by first | assumption | decide +kernel) rfl (lives_any _) rfl ?_)
  rintro v w1 ⟨rfl, hT1⟩
  replace H := H.ext hT1
  refine Ops.pure H (X.not rfl) rfl rfl rfl ?_
  (refine Ops.nil (hK _ _ ?_); clear hK K)
  refine Run.cond_false rfl ?_
  refine Run.skip ?_
  refine Run.seq ?_
  (refine Run.region ?_; intro K hK)
  refine Ops.pure H (X.move rfl) rfl rfl rfl ?_
  refine Ops.eff rfl (Y.call rfl rfl (by first | assumption | decide +kernel) rfl (orderNew_no _ n hn) rfl ?_)
  rintro v w2 ⟨rfl, rfl⟩
  refine Ops.pure H (X.move rfl) rfl rfl rfl ?_
  refine Ops.pure H (X.extract rfl rfl) rfl rfl rfl ?_
  refine Ops.pure H (X.extract rfl rfl) rfl rfl rfl ?_
  refine Ops.pure H (X.assign rfl) rfl rfl rfl ?_
  refine Ops.pure H (X.assign rfl) rfl rfl rfl ?_
  (refine Ops.nil (hK _ _ ?_); clear hK K)
  refine Run.seq ?_
  refine Run.seq ?_
  (refine Run.region ?_; intro K hK)
  refine Ops.pure H (X.move rfl) rfl rfl rfl ?_
  refine Ops.pure H (X.cmp rfl rfl rfl) rfl rfl rfl ?_
  refine Ops.pure H (X.move rfl) rfl rfl rfl ?_
  refine Ops.pass rfl rfl rfl ?_
  refine Ops.pass rfl rfl rfl ?_
  refine Ops.pure H (X.pick_t rfl rfl) rfl rfl rfl ?_
  (refine Ops.nil (hK _ _ ?_); clear hK K)
  refine Run.cond_true rfl ?_
  refine Run.seq ?_
  (refine Run.region ?_; intro K hK)
  refine Ops.pure H (X.move rfl) rfl rfl rfl ?_
  refine Ops.pure H (X.cmp rfl rfl rfl) rfl rfl rfl ?_
  refine Ops.pure H (X.move rfl) rfl rfl rfl ?_
  refine Ops.pure H (X.move rfl) rfl rfl rfl ?_
  refine Ops.pure H (X.ptrNil rfl rfl rfl rfl rfl) rfl rfl rfl ?_
  refine Ops.pure H (X.pick_t rfl rfl) rfl rfl rfl ?_
  refine Ops.pure H (X.assign rfl) rfl rfl rfl ?_
  (refine Ops.nil (hK _ _ ?_); clear hK K)
  (first | refine Fn.ret1 HF rfl rfl ?_ | refine Fn.ret2 HF rfl rfl rfl ?_ | refine Fn.ret3 HF rfl rfl rfl rfl ?_ | refine Fn.ret0 HF rfl ?_ | refine Fn.fin0 HF rfl ?_ | refine Fn.retG (E := env) HF rfl H (by first | exact RVs.cellN rfl rfl rfl (by first | exact .head | exact .tail .head | exact .tail (.tail .head) | exact .tail (.tail (.tail .head)) | exact .tail (.tail (.tail (.tail .head))) | exact .tail (.tail (.tail (.tail (.tail .head)))) | exact .tail (.tail (.tail (.tail (.tail (.tail .head)))))) (by first | assumption | exact Cs.take rfl) RVs.nil | exact RVs.cellN rfl rfl rfl (by first | exact .head | exact .tail .head | exact .tail (.tail .head) | exact .tail (.tail (.tail .head)) | exact .tail (.tail (.tail (.tail .head))) | exact .tail (.tail (.tail (.tail (.tail .head)))) | exact .tail (.tail (.tail (.tail (.tail (.tail .head)))))) (by first | assumption | exact Cs.take rfl) (RVs.tmp rfl RVs.nil)) rfl ?_)
  exact ⟨rfl, H.fr⟩

theorem one_yes (z : World) (N : Nat) (aa pa : Option Addr) (an acap pn pcap ab aoff pb poff : Nat) (acs pcs : List Value) (aT pT : TypeId) (afz pfz : Nat × Nat) (A : Nat → AV) (ps : Nat → Int) (hA : Acts z aa an ab aoff acs aT afz A) (hP : Bts z pa pn pb poff pcs pT pfz ps) (h1 : 1 ≤ N) (h2 : N ≤ 64) :
    Fn env.P 5 [.int .i64 (N : Nat), .slice aa an acap, .slice pa pn pcap] z fun v w' => v = .bool true ∧ Fr z w' [] := by
  have hanm := hA.1
  have hpnm := hP.1
  have H := Holds.start z []
  have HF := Try.func5; refine Fn.enter Try.func5 Try.ntmps5 rfl rfl rfl ?_
  refine Run.seq ?_
  (refine Run.region ?_; intro K hK)
  refine Ops.pure H (X.assign rfl) rfl rfl rfl ?_
  (refine Ops.nil (hK _ _ ?_); clear hK K)
  refine Run.seq ?_
  refine Run.seq ?_
  (refine Run.region ?_; intro K hK)
  refine Ops.eff rfl (Y.call rfl rfl (by first | assumption | decide +kernel) rfl (lives_any _) rfl ?_)
  rintro v w1 ⟨rfl, hT1⟩
  replace H := H.ext hT1
  refine Ops.pure H (X.not rfl) rfl rfl rfl ?_
  (refine Ops.nil (hK _ _ ?_); clear hK K)
  refine Run.cond_false rfl ?_
  refine Run.skip ?_
  refine Run.seq ?_
  (refine Run.region ?_; intro K hK)
  refine Ops.pure H (X.move rfl) rfl rfl rfl ?_
  refine Ops.eff rfl (Y.call rfl rfl (by first | assumption | decide +kernel) rfl (orderNew_yes _ (N : Int) (by omega) (by omega)) rfl ?_)
  rintro v w2 ⟨o, rfl, hO2, hf2, hoz⟩
  have hoz2 := Nat.le_trans hT1.size hoz
  have hT2 := hT1.then hf2
  clear H
  have H := Holds.start w2 []
  refine Ops.pure H (X.move rfl) rfl rfl rfl ?_
  refine Ops.pure H (X.extract rfl rfl) rfl rfl rfl ?_
  refine Ops.pure H (X.extract rfl rfl) rfl rfl rfl ?_
  refine Ops.pure H (X.assign rfl) rfl rfl rfl ?_
  refine Ops.pure H (X.assign rfl) rfl rfl rfl ?_
  (refine Ops.nil (hK _ _ ?_); clear hK K)
  refine Run.seq ?_
  refine Run.seq ?_
  (refine Run.region ?_; intro K hK)
  refine Ops.pure H (X.move rfl) rfl rfl rfl ?_
  refine Ops.pure H (X.cmp rfl rfl rfl) rfl rfl rfl ?_
  refine Ops.pure H (X.move rfl) rfl rfl rfl ?_
  refine Ops.pure H (X.move rfl) rfl rfl rfl ?_
  refine Ops.pure H (X.ptrNil rfl rfl rfl rfl rfl) rfl rfl rfl ?_
  refine Ops.pure H (X.pick_f rfl rfl) rfl rfl rfl ?_
  (refine Ops.nil (hK _ _ ?_); clear hK K)
  refine Run.cond_false rfl ?_
  refine Run.skip ?_
  refine Run.seq ?_
  refine Run.seq ?_
  (refine Run.region ?_; intro K hK)
  refine Ops.pure H (X.assign rfl) rfl rfl rfl ?_
  (refine Ops.nil (hK _ _ ?_); clear hK K)
  refine Run.block ?_
  refine Run.rounds (fun (i : Nat) => [(0, .int .i64 (N : Nat)), (1, .slice aa an acap), (2, .slice pa pn pcap), (7, .pointer (some ⟨o, 0, none⟩)), (9, .int .i64 (i : Nat))]) (fun i w' => i ≤ an ∧ Fr z w' [] ∧ ∃ c last l, Ord w' o c N last l ∧ z.heap.size ≤ c ∧ LInv N last l) (fun i => an - i) 0 (by repeat (first | exact trivial | refine ⟨rfl, ?_⟩)) ⟨by omega, hT2, o, 0, [], hO2, hoz2, LInv.nil _⟩ ?_
  rintro i w3 ⟨hi, hT3, c, last, l, hO3, hcz, hL⟩ IH
  clear H
  have H := Holds.start w3 []
  by_cases hlt : i < an
  · obtain ⟨hcs, hxs, _⟩ := hA.2.2 i hlt
    obtain ⟨rfl, hab⟩ := hA.2.1 (by omega)
    have c0 : acs[aoff + i * 7 + 0]? = some (.int .i64 (A i).kind) := hcs.get 0 _ rfl
    have c2 : acs[aoff + i * 7 + 2]? = some (.int .u64 (A i).client) := hcs.get 2 _ rfl
    have c3 : acs[aoff + i * 7 + 3]? = some (.int .u64 (A i).seq) := hcs.get 3 _ rfl
    have c5 : acs[aoff + i * 7 + 5]? = some (A i).v := hcs.get 5 _ rfl
    replace H := H.add false (hT3.get hab (by simp)) (by simp) (by simp)
    refine Run.seq ?_
    refine Run.seq ?_
    (refine Run.region ?_; intro K hK)
    refine Ops.pure H (X.move rfl) rfl rfl rfl ?_
    refine Ops.pure H (X.move rfl) rfl rfl rfl ?_
    refine Ops.pure H (X.len_slice rfl rfl rfl) rfl rfl rfl ?_
    refine Ops.pure H (X.cmp rfl rfl rfl) rfl rfl rfl ?_
    (refine Ops.nil (hK _ _ ?_); clear hK K)
    refine Run.cond_dec rfl (fun h45 => ?x0) (fun h45 => ?y0)
    case' y0 => exfalso; omega
    case' x0 =>
      refine Run.skip ?_
      refine Run.seq ?_
      refine Run.block ?_
      refine Run.seq ?_
      (refine Run.region ?_; intro K hK)
      refine Ops.pure H (X.move rfl) rfl rfl rfl ?_
      refine Ops.pure H (X.move rfl) rfl rfl rfl ?_
      refine Ops.pure H (X.indexAddr rfl rfl (by omega) rfl rfl rfl rfl) rfl rfl rfl ?_
      refine Ops.pure H (X.fieldAddr rfl rfl rfl rfl rfl rfl) rfl rfl rfl ?_
      refine Ops.pure H (X.load1 rfl rfl rfl rfl Pick.head (by assumption)) rfl rfl rfl ?_
      refine Ops.pure H (X.cmp rfl rfl rfl) rfl rfl rfl ?_
      (refine Ops.nil (hK _ _ ?_); clear hK K)
      refine Run.cond_dec rfl (fun h53 => ?x1) (fun h53 => ?y1)
      case' y1 =>
        refine Run.skip ?_
        refine Run.inBlock ?_
        (refine Run.region ?_; intro K hK)
        refine Ops.pure H (X.move rfl) rfl rfl rfl ?_
        refine Ops.pure H (X.succ rfl rfl (by omega)) rfl rfl rfl ?_
        refine Ops.pure H (X.assign rfl) rfl rfl rfl ?_
        (refine Ops.nil (hK _ _ ?_); clear hK K)
      case' x1 =>
        (refine Run.draw H [16] [0, 1, 2, 3, 4, 5, 6, 7, 8, 9, 10, 11, 12, 13, 14, 15, 16] ?_; clear H; intro K hK w H)
        refine Draw.take0 rfl (X.move rfl) rfl rfl rfl (by decide +kernel) ?_
        refine Draw.take0 rfl (X.move rfl) rfl rfl rfl (by decide +kernel) ?_
        refine Draw.take0 rfl (X.move rfl) rfl rfl rfl (by decide +kernel) ?_
        refine Draw.take0 rfl (X.indexAddr rfl rfl (by omega) rfl rfl rfl rfl) rfl rfl rfl (by decide +kernel) ?_
        refine Draw.take0 rfl (X.fieldAddr rfl rfl rfl rfl rfl rfl) rfl rfl rfl (by decide +kernel) ?_
        refine Draw.take rfl (X.load1 rfl rfl rfl rfl Pick.head (by assumption)) rfl rfl rfl (by decide +kernel) ?_
        refine Draw.take0 rfl (X.move rfl) rfl rfl rfl (by decide +kernel) ?_
        refine Draw.take0 rfl (X.move rfl) rfl rfl rfl (by decide +kernel) ?_
        refine Draw.take0 rfl (X.indexAddr rfl rfl (by omega) rfl rfl rfl rfl) rfl rfl rfl (by decide +kernel) ?_
        refine Draw.take0 rfl (X.fieldAddr rfl rfl rfl rfl rfl rfl) rfl rfl rfl (by decide +kernel) ?_
        refine Draw.take rfl (X.load1 rfl rfl rfl rfl Pick.head (by assumption)) rfl rfl rfl (by decide +kernel) ?_
        refine Draw.take0 rfl (X.move rfl) rfl rfl rfl (by decide +kernel) ?_
        refine Draw.take0 rfl (X.move rfl) rfl rfl rfl (by decide +kernel) ?_
        refine Draw.take0 rfl (X.indexAddr rfl rfl (by omega) rfl rfl rfl rfl) rfl rfl rfl (by decide +kernel) ?_
        refine Draw.take0 rfl (X.fieldAddr rfl rfl rfl rfl rfl rfl) rfl rfl rfl (by decide +kernel) ?_
        refine Draw.take rfl (X.load1 rfl rfl rfl rfl Pick.head (by assumption)) rfl rfl rfl (by decide +kernel) ?_
    · refine Draw.last rfl rfl (by decide +kernel) (Y.call rfl rfl (by first | assumption | decide +kernel) rfl (submit_any _ o c N last (A i).client (A i).seq l (A i).v (A i).xs (hO3.ext H.fr) (hxs.ext (hT3.then H.fr)) (by intro hp b off m cap e; have := hxs.lt hp e; exact ⟨by omega, fun e2 => by omega⟩) (by omega) hL.last0 hL.lastU) rfl ?_)
      rintro v w4 ⟨rfl, hf4, c', hO4, hc'⟩
      have hT4 := (hT3.then H.fr).grow hf4 (by simp; omega)
      have hs := (hT3.then H.fr).size
      clear H
      have H := Holds.start w4 []
      (refine Draw2.done (by decide +kernel) (hK _ _ ?_); clear hK K)
      refine Run.inBlock ?_
      (refine Run.region ?_; intro K hK)
      refine Ops.pure H (X.move rfl) rfl rfl rfl ?_
      refine Ops.pure H (X.succ rfl rfl (by omega)) rfl rfl rfl ?_
      refine Ops.pure H (X.assign rfl) rfl rfl rfl ?_
      (refine Ops.nil (hK _ _ ?_); clear hK K)
      exact (IH (i + 1) _ (by omega) ⟨by omega, hT4, c', _, _, hO4, by omega, hL.sub _ _ _⟩).weak (by repeat (first | exact trivial | refine ⟨rfl, ?_⟩))
    · exact (IH (i + 1) _ (by omega) ⟨by omega, hT3.then H.fr, c, _, _, hO3.ext H.fr, hcz, hL⟩).weak (by repeat (first | exact trivial | refine ⟨rfl, ?_⟩))
  · clear IH
    refine Run.seq ?_
    refine Run.seq ?_
    (refine Run.region ?_; intro K hK)
    refine Ops.pure H (X.move rfl) rfl rfl rfl ?_
    refine Ops.pure H (X.move rfl) rfl rfl rfl ?_
    refine Ops.pure H (X.len_slice rfl rfl rfl) rfl rfl rfl ?_
    refine Ops.pure H (X.cmp rfl rfl rfl) rfl rfl rfl ?_
    (refine Ops.nil (hK _ _ ?_); clear hK K)
    refine Run.cond_dec rfl (fun h45 => ?x2) (fun h45 => ?y2)
    case' y2 =>
      refine Run.exit rfl ?_
      refine Run.seq ?_
      (refine Run.region ?_; intro K hK)
      refine Ops.pure H (X.move rfl) rfl rfl rfl ?_
    case' x2 => exfalso; omega
    refine Ops.eff rfl (Y.make (len := N) (cap := N) rfl rfl (by omega) rfl rfl rfl rfl (by dsimp only; omega) (by omega) rfl H ?_)
    intro lb lcs w4 H4 hlb hll hlr
    clear H
    have H := H4
    clear H4
    refine Ops.pure H (X.assign rfl) rfl rfl rfl ?_
    (refine Ops.nil (hK _ _ ?_); clear hK K)
    refine Run.seq ?_
    refine Run.seq ?_
    (refine Run.region ?_; intro K hK)
    refine Ops.pure H (X.assign rfl) rfl rfl rfl ?_
    (refine Ops.nil (hK _ _ ?_); clear hK K)
    refine Run.block ?_
    have hl0 := H.pick .head
    have hT4 := hT3.then H.fr
    have hO4 := hO3.ext H.fr
    have hzb : z.heap.size ≤ lb := Nat.le_trans hT3.size hlb
    have hlo : lb ≠ o := by
      obtain ⟨_, ho, _⟩ := hO4
      exact ne_of_ty hl0 ho (by decide)
    have hlc : ∀ ds, w4.heap[lb]? ≠ some (row ds 56) := fun ds hd => ne_of_ty hl0 hd (by decide) rfl
    replace hlr : lcs = List.replicate N (.int .u64 0) := hlr rfl
    have hls : ∀ p, p < N → lcs[0 + p * 1]? = some (.int .u64 ((fun _ => 0 : Nat → Int) p)) := fun p hp => by rw [hlr]; simp [hp]
    refine Run.rounds (fun (x : Nat × List Tk) => [(0, .int .i64 (N : Nat)), (2, .slice pa pn pcap), (7, .pointer (some ⟨o, 0, none⟩)), (10, .slice (some ⟨lb, 0, none⟩) N N), (11, .int .i64 (x.1 : Nat))])
      (fun x w' => Fr z w' [] ∧ x.1 + x.2.length ≤ 4096 ∧ LInv N last x.2 ∧ ∃ c lcs ls, Ord w' o c N last x.2 ∧ z.heap.size ≤ c ∧ w'.heap[lb]? = some (row lcs 30) ∧ lcs.length = N ∧ (∀ p, p < N → lcs[0 + p * 1]? = some (.int .u64 (ls p))) ∧ (∀ i, i < x.2.length → ∀ p : Nat, (p : Int) ∈ (x.2.getD i tk0).parts → ls p < (x.2.getD i tk0).id))
      (fun x => x.2.length) (0, l) (by repeat (first | exact trivial | refine ⟨rfl, ?_⟩)) ⟨hT4, by have := hL.len; dsimp only; omega, hL, c, lcs, fun _ => 0, hO4, hcz, hl0, by simpa using hll, hls, fun i hi p _ => (hL.id1 i hi).1⟩ ?_
    clear hls hlr hlc hlo hO4 hT4 hl0 hll hlb hL hcz hO3 hT3 hi hT2 hoz hf2 hO2 hT1
    clear H
    rintro ⟨i, l⟩ w5 ⟨hT5, hi5, hL, c, lcs, ls, hO5, hcz, hlb5, hll5, hls5, hlt5⟩ IH
    clear hA
    dsimp only at hi5 hL hO5 hlt5 IH ⊢
    have H := Holds.start w5 []
    refine Run.seq ?_
    refine Run.seq ?_
    (refine Run.region ?_; intro K hK)
    refine Ops.pure H (X.move rfl) rfl rfl rfl ?_
    refine Ops.eff rfl (Y.call rfl rfl (by first | assumption | decide +kernel) rfl (pending_any _ o c N last l (hO5.ext H.fr) hL.len) rfl ?_)
    rintro v w6 ⟨hF6, hf6⟩
    have hT6 := hT5.then hf6
    have hO6 := hO5.ext hf6
    obtain ⟨V6, hV6, _⟩ := hF6
    obtain ⟨a6, cap6, rfl⟩ := hV6.slice
    clear H
    have H := Holds.start w6 []
    by_cases hpos : 0 < l.length
    · refine Ops.pure H (X.len_slice rfl rfl rfl) rfl rfl rfl ?_
      refine Ops.pure H (X.cmp rfl rfl rfl) rfl rfl rfl ?_
      (refine Ops.nil (hK _ _ ?_); clear hK K)
      refine Run.cond_dec rfl (fun h76 => ?x3) (fun h76 => ?y3)
      case' y3 => exfalso; omega
      case' x3 =>
        refine Run.skip ?_
        refine Run.seq ?_
        refine Run.block ?_
        refine Run.seq ?_
        (refine Run.region ?_; intro K hK)
        refine Ops.pure H (X.move rfl) rfl rfl rfl ?_
      refine Ops.eff rfl (Y.call rfl rfl (by first | assumption | decide +kernel) rfl (ready_any _ o c N last l hO6 hL.len) rfl ?_)
      rintro v w7 ⟨hR7, hf7⟩
      have hO7 := hO6.ext hf7
      clear H
      have H := Holds.start w7 []
      refine Ops.pure H (X.move rfl) rfl rfl rfl ?_
      refine Ops.eff rfl (Y.call rfl rfl (by first | assumption | decide +kernel) rfl (pending_any _ o c N last l hO7 hL.len) rfl ?_)
      rintro v w8 ⟨hF8, hf8⟩
      have hO8 := hO7.ext hf8
      replace hR7 := hR7.ext hf8
      have hT8 := (hT6.then hf7).then hf8
      obtain ⟨V8, hV8, _⟩ := hF8
      obtain ⟨g, hg⟩ := goL_head hpos
      have hgl : 0 < (readyTo l l.length).length := by rw [ready_goL, hg]; simp
      obtain ⟨rb, rcap, rcs, rfl, hr1, hr2, hr3, hr4, hr5, hr6⟩ := hR7.get hgl
      obtain ⟨qb, qcap, qcs, rfl, hq1, hq2, hq3, hq4, hq5, hq6⟩ := hV8.get hpos
      have hr0 : rcs[0 + 0 * 1]? = some (.int .u64 (l.getD 0 tk0).id) := by
        rw [hr6.toGet (by omega), ready_goL, hg]
        rfl
      have hq0 : qcs[0 + 0 * 4 + 0]? = some (.int .u64 (l.getD 0 tk0).id) := (hq6.flat (sz := 4) (f := fun i => tkC (l.getD i tk0) (V8 i).1) (fun _ => rfl) hpos).get 0 _ rfl
      clear H
      have H := ((Holds.start w8 []).add false hr4 (by simp) (by simp)).add false hq4 (by simpa using ne_of_ty hq4 hr4 (by decide)) (by simp)
      refine Ops.pure H (X.assign rfl) rfl rfl rfl ?_
      refine Ops.pure H (X.assign rfl) rfl rfl rfl ?_
      (refine Ops.nil (hK _ _ ?_); clear hK K)
      refine Run.seq ?_
      refine Run.seq ?_
      (refine Run.draw H [] [0, 1, 2, 3, 4, 5, 6, 7, 8, 9, 10, 11, 12, 13, 14, 15, 16] ?_; clear H; intro K hK w H)
      refine Draw.take0 rfl (X.move rfl) rfl rfl rfl (by decide +kernel) ?_
      refine Draw.take0 rfl (X.len_slice rfl rfl rfl) rfl rfl rfl (by decide +kernel) ?_
      refine Draw.take0 rfl (X.cmp rfl rfl rfl) rfl rfl rfl (by decide +kernel) ?_
      refine Draw.take0 rfl (X.move rfl) rfl rfl rfl (by decide +kernel) ?_
      refine Draw.split_dec rfl rfl rfl (fun h87 => ?x4) (fun h87 => ?y4)
      case' y4 =>
        refine Draw.take0 rfl (X.move rfl) rfl rfl rfl (by decide +kernel) ?_
        refine Draw.take0 rfl (X.indexAddr rfl rfl (by omega) rfl rfl rfl rfl) rfl rfl rfl (by decide +kernel) ?_
        refine Draw.take rfl (X.load1 rfl rfl rfl rfl (.tail .head) (by assumption)) rfl rfl rfl (by decide +kernel) ?_
        refine Draw.take0 rfl (X.move rfl) rfl rfl rfl (by decide +kernel) ?_
        refine Draw.take0 rfl (X.indexAddr rfl rfl (by omega) rfl rfl rfl rfl) rfl rfl rfl (by decide +kernel) ?_
        refine Draw.take0 rfl (X.fieldAddr rfl rfl rfl rfl rfl rfl) rfl rfl rfl (by decide +kernel) ?_
        refine Draw.take rfl (X.load1 rfl rfl rfl rfl Pick.head (by assumption)) rfl rfl rfl (by decide +kernel) ?_
        refine Draw.take0 rfl (X.cmp rfl rfl rfl) rfl rfl rfl (by decide +kernel) ?_
        refine Draw.take0 rfl (X.pick_f rfl rfl) rfl rfl rfl (by decide +kernel) ?_
        refine Draw.take0 rfl (X.move rfl) rfl rfl rfl (by decide +kernel) ?_
        refine Draw.split_ndec rfl rfl rfl (fun h97 => ?x5) (fun h97 => ?y5)
        case' y5 =>
          refine Draw.take0 rfl (X.move rfl) rfl rfl rfl (by decide +kernel) ?_
          refine Draw.take0 rfl (X.cmp rfl rfl rfl) rfl rfl rfl (by decide +kernel) ?_
          refine Draw.take0 rfl (X.pick_f rfl rfl) rfl rfl rfl (by decide +kernel) ?_
          (refine Draw.done (by decide +kernel) (hK _ _ ?_); clear hK K)
          refine Run.cond_dec rfl (fun h99 => ?x6) (fun h99 => ?y6)
          case' y6 =>
            refine Run.skip ?_
            refine Run.seq ?_
            (refine Run.region ?_; intro K hK)
            refine Ops.pure H (X.move rfl) rfl rfl rfl ?_
          case' x6 => exfalso; omega
        case' x5 => exfalso; omega
      case' x4 => exfalso; omega
      have hcnt : (readyTo l l.length).length = (goL l).length := by rw [ready_goL]; simp
      have hrk : ∀ k, k < (goL l).length → rcs[0 + k * 1]? = some (.int .u64 (l.getD ((goL l).getD k 0) tk0).id) ∧ (goL l).getD k 0 < l.length ∧ mayL l ((goL l).getD k 0) = true := by
        intro k hk
        have e : (goL l).getD k 0 = (goL l)[k] := by simp [List.getD_eq_getElem?_getD, hk]
        rw [e]
        refine ⟨?_, goL_mem (List.getElem_mem _)⟩
        rw [Nat.mul_one, hr6.toGet (by omega), ready_goL]
        simp [hk]
      have hpj : ∀ i, i < l.length → ∀ j, j < (l.getD i tk0).parts.length → (l.getD i tk0).parts.getD j 0 = ((((l.getD i tk0).parts.getD j 0).toNat : Nat) : Int) ∧ ((l.getD i tk0).parts.getD j 0).toNat < N := by
        intro i hi j hj
        have := ((hL.can i hi).2 j hj).1
        omega
      have hg4 : (goL l).length ≤ 4096 := by have := readyTo_le l l.length; have := hL.len; omega
      rw [hcnt] at *
      have hf8w := H.fr
      clear H
      have H := Holds.start w []
      refine Ops.eff rfl (Y.make (len := N) (cap := N) rfl rfl (by omega) rfl rfl rfl rfl (by dsimp only; omega) (by omega) rfl H ?_)
      intro bb bcs wb Hb hbb hbl hbr
      clear H
      have H := Hb
      clear Hb
      replace hbr : bcs = List.replicate N (.bool false) := hbr rfl
      have hbs : ∀ p, p < N → bcs[0 + p * 1]? = some (.bool ((fun _ => false : Nat → Bool) p)) := fun p hp => by rw [hbr]; simp [hp]
      have hTw := hT8.then hf8w
      have hOw := hO8.ext hf8w
      have hrw := hf8w.get hr4 (by simp)
      have hlw : w.heap[lb]? = some (row lcs 30) := hf8w.get (hf8.get (hf7.get (hf6.get hlb5 (by simp)) (by simp)) (by simp)) (by simp)
      refine Ops.pure H (X.assign rfl) rfl rfl rfl ?_
      (refine Ops.nil (hK _ _ ?_); clear hK K)
      refine Run.seq ?_
      refine Run.seq ?_
      (refine Run.region ?_; intro K hK)
      refine Ops.pure H (X.assign rfl) rfl rfl rfl ?_
      (refine Ops.nil (hK _ _ ?_); clear hK K)
      refine Run.block ?_
      refine Run.rounds (fun (k : Nat) => [(0, .int .i64 (N : Nat)), (2, .slice pa pn pcap), (7, .pointer (some ⟨o, 0, none⟩)), (10, .slice (some ⟨lb, 0, none⟩) N N), (11, .int .i64 (i : Nat)), (12, .slice (some ⟨rb, 0, none⟩) (goL l).length rcap), (14, .slice (some ⟨bb, 0, none⟩) N N), (15, .int .i64 (k : Nat))])
        (fun k w' => k ≤ (goL l).length ∧ Fr w w' [] ∧ ∃ bcs bz, w'.heap[bb]? = some (row bcs 4) ∧ bcs.length = N ∧ (∀ p, p < N → bcs[0 + p * 1]? = some (.bool (bz p))) ∧ ∀ p : Nat, bz p = true → ∃ k', k' < k ∧ (p : Int) ∈ (l.getD ((goL l).getD k' 0) tk0).parts)
        (fun k => (goL l).length - k) 0 (by repeat (first | exact trivial | refine ⟨rfl, ?_⟩)) ⟨by omega, H.fr, bcs, fun _ => false, H.pick .head, by simpa using hbl, hbs, fun p hp => by cases hp⟩ ?_
      clear hbs hbr hbl
      rintro k w9 ⟨hk, hf9, bcs, bz, hb9, hbl9, hbs9, hbz9⟩ IH3
      clear H hV6 hV8 hq1 hq2 hq3 hq4 hq5 hq6 hr5 hr6 hq0 hr0 hcnt hR7 hO5 hO6 hO7 hO8 hT6 hT8 hf6 hf7 hf8 hf8w hT5 hr4 hr3 hgl hlb5
      by_cases hlt : k < (goL l).length
      · obtain ⟨hrc, hGl, hGm⟩ := hrk k hlt
        obtain ⟨G, hG⟩ : ∃ G, G = (goL l).getD k 0 := ⟨_, rfl⟩
        rw [← hG] at hrc hGl hGm
        have hr9 := hf9.get hrw (by simp)
        have H := (Holds.start w9 [bb]).add false hr9 (by simp) (by simp)
        refine Run.seq ?_
        refine Run.seq ?_
        (refine Run.region ?_; intro K hK)
        refine Ops.pure H (X.move rfl) rfl rfl rfl ?_
        refine Ops.pure H (X.move rfl) rfl rfl rfl ?_
        refine Ops.pure H (X.len_slice rfl rfl rfl) rfl rfl rfl ?_
        refine Ops.pure H (X.cmp rfl rfl rfl) rfl rfl rfl ?_
        (refine Ops.nil (hK _ _ ?_); clear hK K)
        refine Run.cond_dec rfl (fun h105 => ?x7) (fun h105 => ?y7)
        case' y7 => exfalso; omega
        case' x7 =>
          refine Run.skip ?_
          refine Run.seq ?_
          refine Run.block ?_
          refine Run.seq ?_
          (refine Run.region ?_; intro K hK)
          refine Ops.pure H (X.move rfl) rfl rfl rfl ?_
          refine Ops.pure H (X.move rfl) rfl rfl rfl ?_
          refine Ops.pure H (X.move rfl) rfl rfl rfl ?_
          refine Ops.pure H (X.indexAddr rfl rfl (by omega) rfl rfl rfl rfl) rfl rfl rfl ?_
          refine Ops.pure H (X.load1 rfl rfl rfl rfl Pick.head (by assumption)) rfl rfl rfl ?_
        refine Ops.eff rfl (Y.call rfl rfl (by first | assumption | decide +kernel) rfl (ticket_any _ o c N last l (l.getD G tk0).id (hOw.ext hf9)) rfl ?_)
        rintro v w10 ⟨hf10, ht⟩
        have hfind := hL.find hGl
        rcases ht with ⟨hno, _⟩ | ⟨i', hi', hfi, v', tb, rfl, ⟨tcap, tds, rfl, q2, q3, q4, q5, q6⟩, hbz⟩
        · omega
        obtain rfl : i' = G := by omega
        have hpG := hpj i' hGl
        have hcG := hL.can i' hGl
        generalize hT : l.getD i' tk0 = T at *
        have hbl10 := lt_of_at hb9
        clear IH hP hpnm hanm
        clear hlt5 hls5 hll5 hr1 hr2 h87 h97 h99 hg
        have hfw9 := H.fr.size
        replace H := (H.add true hb9 (by simpa using ne_of_ty hb9 hr9 (by decide)) (by simp)).extAdd false hf10 q4 hbz
        refine Ops.pure H (X.move rfl) rfl rfl rfl ?_
        refine Ops.pure H (X.extract rfl rfl) rfl rfl rfl ?_
        refine Ops.pure H (X.extract rfl rfl) rfl rfl rfl ?_
        (refine Ops.eff rfl (Y.alloc rfl rfl rfl H ?_); intro b16 w H0 hb16; clear H; have H := H0; clear H0)
        (refine Ops.eff rfl (Y.storeO rfl rfl rfl rfl rfl rfl H Upd.head rfl ?_); intro w H0; clear H; have H := H0; clear H0)
        refine Ops.pure H (X.assign rfl) rfl rfl rfl ?_
        (refine Ops.nil (hK _ _ ?_); clear hK K)
        refine Run.seq ?_
        refine Run.seq ?_
        (refine Run.region ?_; intro K hK)
        refine Ops.pure H (X.move rfl) rfl rfl rfl ?_
        refine Ops.pure H (X.cmp rfl rfl rfl) rfl rfl rfl ?_
        (refine Ops.nil (hK _ _ ?_); clear hK K)
        refine Run.cond_false rfl ?_
        refine Run.skip ?_
        refine Run.seq ?_
        (refine Run.region ?_; intro K hK)
        refine Ops.pure H (X.assign rfl) rfl rfl rfl ?_
        (refine Ops.nil (hK _ _ ?_); clear hK K)
        refine Run.block ?_
        refine Run.rounds (fun (j : Nat) => [(0, .int .i64 (N : Nat)), (2, .slice pa pn pcap), (7, .pointer (some ⟨o, 0, none⟩)), (10, .slice (some ⟨lb, 0, none⟩) N N), (11, .int .i64 (i : Nat)), (12, .slice (some ⟨rb, 0, none⟩) (goL l).length rcap), (14, .slice (some ⟨bb, 0, none⟩) N N), (15, .int .i64 (k : Nat)), (16, .pointer (some ⟨b16, 0, none⟩)), (18, .int .i64 (j : Nat))])
          (fun j w' => j ≤ T.parts.length ∧ ∃ bcs bz, Holds w9 [bb] w' [⟨b16, row [.int .u64 T.id, .int .u64 T.client, .int .u64 T.seq, .slice (some ⟨tb, 0, none⟩) T.parts.length tcap] 56, true⟩, ⟨tb, row tds 3, false⟩, ⟨bb, row bcs 4, true⟩] ∧ bcs.length = N ∧ (∀ p, p < N → bcs[0 + p * 1]? = some (.bool (bz p))) ∧
            ∀ p : Nat, bz p = true → (∃ k', k' < k ∧ (p : Int) ∈ (l.getD ((goL l).getD k' 0) tk0).parts) ∨ ∃ j', j' < j ∧ (p : Int) = T.parts.getD j' 0)
          (fun j => T.parts.length - j) 0 (by repeat (first | exact trivial | refine ⟨rfl, ?_⟩)) ⟨by omega, bcs, bz, H.sub (.cons_cons _ (.cons_cons _ (.cons_cons _ (.cons _ (.refl _))))), hbl9, hbs9, fun p hp => .inl (hbz9 p hp)⟩ ?_
        clear H hbl9 hbs9 hbz9
        rintro j w11 ⟨hj, bcs, bz, H, hbl, hbs, hbz'⟩ IH4
        by_cases hlj : j < T.parts.length
        · have htc := q5.at1 hlj
          obtain ⟨hpe, hpN⟩ := hpG j hlj
          obtain ⟨p, hp⟩ : ∃ p, p = (T.parts.getD j 0).toNat := ⟨_, rfl⟩
          rw [← hp] at hpe hpN
          have hge : T.parts.getD j 0 = T.parts[j] := by simp [hlj]
          rw [← hge, hpe] at htc
          have hbp := hbs p hpN
          have hno : bz p = false := by
            cases hb : bz p
            · rfl
            · exfalso
              rcases hbz' p hb with ⟨k', hk', hm⟩ | ⟨j', hj', he⟩
              · have e1 : (goL l).getD k' 0 = (goL l)[k'] := by simp [List.getD_eq_getElem?_getD, show k' < (goL l).length by omega]
                have e2 : i' = (goL l)[k] := by rw [hG]; simp [List.getD_eq_getElem?_getD, hlt]
                have h3 := goL_lt (l := l) hk' hlt
                rw [← e2, ← e1] at h3
                refine mayL_apart hGm h3 _ hm ?_
                rw [hT, ← hpe]
                exact getD_mem hlj
              · have := canL_lt hcG hj' hlj
                omega
          rw [hno] at hbp
          refine Run.seq ?_
          refine Run.seq ?_
          (refine Run.region ?_; intro K hK)
          refine Ops.pure H (X.move rfl) rfl rfl rfl ?_
          refine Ops.pure H (X.fieldAddr rfl rfl rfl rfl rfl rfl) rfl rfl rfl ?_
          refine Ops.pure H (X.load1 rfl rfl rfl rfl Pick.head rfl) rfl rfl rfl ?_
          refine Ops.pure H (X.len_slice rfl rfl rfl) rfl rfl rfl ?_
          refine Ops.pure H (X.cmp rfl rfl rfl) rfl rfl rfl ?_
          (refine Ops.nil (hK _ _ ?_); clear hK K)
          refine Run.cond_dec rfl (fun h123 => ?x8) (fun h123 => ?y8)
          case' y8 => exfalso; omega
          case' x8 =>
            refine Run.skip ?_
            refine Run.seq ?_
            refine Run.block ?_
            refine Run.seq ?_
            refine Run.seq ?_
            (refine Run.region ?_; intro K hK)
            refine Ops.pure H (X.fieldAddr rfl rfl rfl rfl rfl rfl) rfl rfl rfl ?_
            refine Ops.pure H (X.load1 rfl rfl rfl rfl Pick.head rfl) rfl rfl rfl ?_
            refine Ops.pure H (X.move rfl) rfl rfl rfl ?_
            refine Ops.pure H (X.indexAddr rfl rfl (by omega) rfl rfl rfl rfl) rfl rfl rfl ?_
            refine Ops.pure H (X.load1 rfl rfl rfl rfl (.tail .head) (by assumption)) rfl rfl rfl ?_
            refine Ops.pure H (X.cmp rfl rfl rfl) rfl rfl rfl ?_
            refine Ops.pure H (X.move rfl) rfl rfl rfl ?_
            refine Ops.pure H (X.fieldAddr rfl rfl rfl rfl rfl rfl) rfl rfl rfl ?_
            refine Ops.pure H (X.load1 rfl rfl rfl rfl Pick.head rfl) rfl rfl rfl ?_
            refine Ops.pure H (X.move rfl) rfl rfl rfl ?_
            refine Ops.pure H (X.indexAddr rfl rfl (by omega) rfl rfl rfl rfl) rfl rfl rfl ?_
            refine Ops.pure H (X.load1 rfl rfl rfl rfl (.tail .head) (by assumption)) rfl rfl rfl ?_
            refine Ops.pure H (X.move rfl) rfl rfl rfl ?_
            refine Ops.pure H (X.cmp rfl rfl rfl) rfl rfl rfl ?_
            refine Ops.pure H (X.pick_f rfl rfl) rfl rfl rfl ?_
            refine Ops.pure H (X.move rfl) rfl rfl rfl ?_
            refine Ops.split_dec rfl rfl (fun h142 => ?x9) (fun h142 => ?y9)
            case' y9 =>
              refine Ops.pure H (X.move rfl) rfl rfl rfl ?_
              refine Ops.pure H (X.fieldAddr rfl rfl rfl rfl rfl rfl) rfl rfl rfl ?_
              refine Ops.pure H (X.load1 rfl rfl rfl rfl Pick.head rfl) rfl rfl rfl ?_
              refine Ops.pure H (X.move rfl) rfl rfl rfl ?_
              refine Ops.pure H (X.indexAddr rfl rfl (by omega) rfl rfl rfl rfl) rfl rfl rfl ?_
              refine Ops.pure H (X.load1 rfl rfl rfl rfl (.tail .head) (by assumption)) rfl rfl rfl ?_
              refine Ops.pure H (X.indexAddr rfl rfl (by omega) rfl rfl rfl rfl) rfl rfl rfl ?_
              refine Ops.pure H (X.load1 rfl rfl rfl rfl (.tail (.tail .head)) (by assumption)) rfl rfl rfl ?_
              refine Ops.pure H (X.pick_f rfl rfl) rfl rfl rfl ?_
              (refine Ops.nil (hK _ _ ?_); clear hK K)
              refine Run.cond_false rfl ?_
              refine Run.skip ?_
              (refine Run.region ?_; intro K hK)
              refine Ops.pure H (X.move rfl) rfl rfl rfl ?_
              refine Ops.pure H (X.fieldAddr rfl rfl rfl rfl rfl rfl) rfl rfl rfl ?_
              refine Ops.pure H (X.load1 rfl rfl rfl rfl Pick.head rfl) rfl rfl rfl ?_
              refine Ops.pure H (X.move rfl) rfl rfl rfl ?_
              refine Ops.pure H (X.indexAddr rfl rfl (by omega) rfl rfl rfl rfl) rfl rfl rfl ?_
              refine Ops.pure H (X.load1 rfl rfl rfl rfl (.tail .head) (by assumption)) rfl rfl rfl ?_
              refine Ops.pure H (X.indexAddr rfl rfl (by omega) rfl rfl rfl rfl) rfl rfl rfl ?_
              (refine Ops.eff rfl (Y.storeI rfl rfl rfl rfl rfl rfl H (.tail (.tail .head)) (by omega) ?_); intro w H0; clear H; have H := H0; clear H0)
              (refine Ops.nil (hK _ _ ?_); clear hK K)
              refine Run.inBlock ?_
              (refine Run.region ?_; intro K hK)
              refine Ops.pure H (X.move rfl) rfl rfl rfl ?_
              refine Ops.pure H (X.succ rfl rfl (by omega)) rfl rfl rfl ?_
              refine Ops.pure H (X.assign rfl) rfl rfl rfl ?_
              (refine Ops.nil (hK _ _ ?_); clear hK K)
            case' x9 => exfalso; omega
          refine (IH4 (j + 1) _ (by omega) ⟨by omega, _, fun x => if x = p then true else bz x, H, by simp [hbl], fun x hx => ?_, fun x hx => ?_⟩).weak (by repeat (first | exact trivial | refine ⟨rfl, ?_⟩))
          · dsimp only
            by_cases h : x = p
            · subst h
              rw [if_pos rfl, List.getElem?_set_self (by omega)]
            · rw [if_neg h, List.getElem?_set_ne (by omega)]
              exact hbs x hx
          · by_cases h : x = p
            · subst h
              exact .inr ⟨j, by omega, hpe.symm⟩
            · simp only [if_neg h] at hx
              rcases hbz' x hx with h | ⟨j', hj', he⟩
              · exact .inl h
              · exact .inr ⟨j', by omega, he⟩
        · refine Run.seq ?_
          refine Run.seq ?_
          (refine Run.region ?_; intro K hK)
          refine Ops.pure H (X.move rfl) rfl rfl rfl ?_
          refine Ops.pure H (X.fieldAddr rfl rfl rfl rfl rfl rfl) rfl rfl rfl ?_
          refine Ops.pure H (X.load1 rfl rfl rfl rfl Pick.head rfl) rfl rfl rfl ?_
          refine Ops.pure H (X.len_slice rfl rfl rfl) rfl rfl rfl ?_
          refine Ops.pure H (X.cmp rfl rfl rfl) rfl rfl rfl ?_
          (refine Ops.nil (hK _ _ ?_); clear hK K)
          refine Run.cond_dec rfl (fun h123 => ?x10) (fun h123 => ?y10)
          case' y10 =>
            refine Run.exit rfl ?_
            refine Run.inBlock ?_
            (refine Run.region ?_; intro K hK)
            refine Ops.pure H (X.move rfl) rfl rfl rfl ?_
            refine Ops.pure H (X.succ rfl rfl (by omega)) rfl rfl rfl ?_
            refine Ops.pure H (X.assign rfl) rfl rfl rfl ?_
            (refine Ops.nil (hK _ _ ?_); clear hK K)
          case' x10 => exfalso; omega
          refine (IH3 (k + 1) _ (by omega) ⟨by omega, hf9.grow H.fr (by simpa using hbb), bcs, bz, H.pick (by first | exact .head | exact .tail .head | exact .tail (.tail .head) | exact .tail (.tail (.tail .head)) | exact .tail (.tail (.tail (.tail .head))) | exact .tail (.tail (.tail (.tail (.tail .head)))) | exact .tail (.tail (.tail (.tail (.tail (.tail .head)))))), hbl, hbs, fun x hx => ?_⟩).weak (by repeat (first | exact trivial | refine ⟨rfl, ?_⟩))
          rcases hbz' x hx with ⟨k', hk', hm⟩ | ⟨j', hj', he⟩
          · exact ⟨k', by omega, hm⟩
          · exact ⟨k, by omega, by rw [← hG, hT, he]; exact getD_mem (by omega)⟩
      · have H := Holds.start w9 []
        clear IH3 hb9 hbl9 hbs9 hbz9
        have hz9 := hTw.then hf9
        have hr9 := hf9.get hrw (by simp)
        have hl9 := hf9.get hlw (by simp)
        have hO9 := hOw.ext hf9
        have hcntp : 0 < (goL l).length := by rw [hg]; simp
        refine Run.seq ?_
        refine Run.seq ?_
        (refine Run.region ?_; intro K hK)
        refine Ops.pure H (X.move rfl) rfl rfl rfl ?_
        refine Ops.pure H (X.move rfl) rfl rfl rfl ?_
        refine Ops.pure H (X.len_slice rfl rfl rfl) rfl rfl rfl ?_
        refine Ops.pure H (X.cmp rfl rfl rfl) rfl rfl rfl ?_
        (refine Ops.nil (hK _ _ ?_); clear hK K)
        refine Run.cond_dec rfl (fun h105 => ?x11) (fun h105 => ?y11)
        case' y11 =>
          refine Run.exit rfl ?_
          refine Run.seq ?_
          (refine Run.region ?_; intro K hK)
          refine Ops.pure H (X.assign rfl) rfl rfl rfl ?_
          (refine Ops.nil (hK _ _ ?_); clear hK K)
        case' x11 => exfalso; omega
        refine Run.seq ?_
        refine Run.meet (fun (q : Nat) => [(0, .int .i64 (N : Nat)), (2, .slice pa pn pcap), (7, .pointer (some ⟨o, 0, none⟩)), (10, .slice (some ⟨lb, 0, none⟩) N N), (11, .int .i64 (i : Nat)), (12, .slice (some ⟨rb, 0, none⟩) (goL l).length rcap), (19, .int .i64 (q : Nat))]) (fun q w' => w' = w9 ∧ q < (goL l).length) ?_ ?_
        · rintro q _ ⟨rfl, hq⟩
          obtain ⟨hrc, hGl, hGm⟩ := hrk q hq
          obtain ⟨G, hG⟩ : ∃ G, G = (goL l).getD q 0 := ⟨_, rfl⟩
          rw [← hG] at hrc hGl hGm
          clear H hP hg h87 h97 hr1 hr2
          have H := (Holds.start _ []).add false hr9 (by simp) (by simp)
          refine Run.seq ?_
          (refine Run.region ?_; intro K hK)
          refine Ops.pure H (X.move rfl) rfl rfl rfl ?_
          refine Ops.pure H (X.move rfl) rfl rfl rfl ?_
          refine Ops.pure H (X.move rfl) rfl rfl rfl ?_
          refine Ops.pure H (X.indexAddr rfl rfl (by omega) rfl rfl rfl rfl) rfl rfl rfl ?_
          refine Ops.pure H (X.load1 rfl rfl rfl rfl Pick.head (by assumption)) rfl rfl rfl ?_
          refine Ops.eff rfl (Y.call rfl rfl (by first | assumption | decide +kernel) rfl (ticket_any _ o c N last l (l.getD G tk0).id hO9) rfl ?_)
          rintro v w10 ⟨hf10, ht⟩
          have hfind := hL.find hGl
          rcases ht with ⟨hno, _⟩ | ⟨i', hi', hfi, v', tb, rfl, ⟨tcap, tds, rfl, q2, q3, q4, q5, q6⟩, htb⟩
          · omega
          obtain rfl : i' = G := by omega
          have hpG := hpj i' hGl
          have hcG := hL.can i' hGl
          generalize hT : l.getD i' tk0 = T at *
          replace H := H.extAdd false hf10 q4 htb
          refine Ops.pure H (X.move rfl) rfl rfl rfl ?_
          refine Ops.pure H (X.extract rfl rfl) rfl rfl rfl ?_
          refine Ops.pure H (X.extract rfl rfl) rfl rfl rfl ?_
          (refine Ops.eff rfl (Y.alloc rfl rfl rfl H ?_); intro b20 w H0 hb20; clear H; have H := H0; clear H0)
          (refine Ops.eff rfl (Y.storeO rfl rfl rfl rfl rfl rfl H Upd.head rfl ?_); intro w H0; clear H; have H := H0; clear H0)
          refine Ops.pure H (X.assign rfl) rfl rfl rfl ?_
          (refine Ops.nil (hK _ _ ?_); clear hK K)
          refine Run.seq ?_
          refine Run.seq ?_
          (refine Run.region ?_; intro K hK)
          refine Ops.pure H (X.move rfl) rfl rfl rfl ?_
          refine Ops.pure H (X.cmp rfl rfl rfl) rfl rfl rfl ?_
          refine Ops.pure H (X.move rfl) rfl rfl rfl ?_
          refine Ops.pure H (X.move rfl) rfl rfl rfl ?_
          refine Ops.pure H (X.move rfl) rfl rfl rfl ?_
          refine Ops.pure H (X.move rfl) rfl rfl rfl ?_
          refine Ops.pure H (X.indexAddr rfl rfl (by omega) rfl rfl rfl rfl) rfl rfl rfl ?_
          refine Ops.pure H (X.load1 rfl rfl rfl rfl (.tail (.tail .head)) (by assumption)) rfl rfl rfl ?_
          refine Ops.split_ndec rfl rfl (fun h189 => ?x12) (fun h189 => ?y12)
          case' x12 => exfalso; omega
          have hO11 := hO9.ext H.fr
          have hT11 := hz9.then H.fr
          have hl11 := H.fr.get hl9 (by simp)
          obtain ⟨ccs, hcc⟩ := hO11.real hpos
          have hcc9 : c < b20 := by
            obtain ⟨_, hcc9⟩ := hO9.real hpos
            have := lt_of_at hcc9
            omega
          have hoc9 : o < b20 := by
            obtain ⟨_, ho9, _⟩ := hO9
            have := lt_of_at ho9
            omega
          have hlo : lb ≠ o := by
            obtain ⟨_, ho9, _⟩ := hO9
            exact ne_of_ty hl9 ho9 (by decide)
          have hlc : lb ≠ c := ne_of_ty hl11 hcc (by decide)
          have htc9 : tb ≠ o ∧ tb ≠ c := by
            obtain ⟨_, ho9, _⟩ := hO11
            exact ⟨ne_of_ty (H.pick (.tail .head)) ho9 (by decide), ne_of_ty (H.pick (.tail .head)) hcc (by decide)⟩
          have hbx := H.pick .head
          have htx := H.pick (.tail .head)
          refine Ops.eff rfl (Y.call rfl rfl (by first | assumption | decide +kernel) rfl (done_any _ o c N last T.id l hO11) rfl ?_)
          rintro v w12 ⟨rfl, hf12, hO12⟩
          obtain ⟨e1, e2⟩ := ends_goes (l := l) (done := true) hfind (fun _ => hGm)
          rw [e1]
          rw [e2] at hO12
          replace hl12 := hf12.get hl11 (by simp; exact ⟨hlo, hlc⟩)
          replace hbx := hf12.get hbx (by simp; omega)
          replace htx := hf12.get htx (by simp; exact htc9)
          have hT12 := hT11.grow hf12 (by simp; omega)
          clear H hO9 hO11 hT11 hl11 hl9 hr9
          have hlx : lb ≠ b20 ∧ lb ≠ tb := ⟨ne_of_ty hl12 hbx (by decide), ne_of_ty hl12 htx (by decide)⟩
          have H := (((Holds.start w12 [lb]).add false htx (by simp) (by simp)).add false hbx (by simpa using ne_of_ty hbx htx (by decide)) (by simp)).add true hl12 (by simpa using hlx) (by simp)
          refine Ops.pure H (X.cmp rfl rfl rfl) rfl rfl rfl ?_
          refine Ops.pure H (X.pick_f rfl rfl) rfl rfl rfl ?_
          (refine Ops.nil (hK _ _ ?_); clear hK K)
          refine Run.cond_false rfl ?_
          refine Run.skip ?_
          refine Run.seq ?_
          (refine Run.region ?_; intro K hK)
          refine Ops.pure H (X.assign rfl) rfl rfl rfl ?_
          (refine Ops.nil (hK _ _ ?_); clear hK K)
          refine Run.block ?_
          refine Run.rounds (fun (j : Nat) => [(0, .int .i64 (N : Nat)), (2, .slice pa pn pcap), (7, .pointer (some ⟨o, 0, none⟩)), (10, .slice (some ⟨lb, 0, none⟩) N N), (11, .int .i64 (i : Nat)), (20, .pointer (some ⟨b20, 0, none⟩)), (22, .int .i64 (j : Nat))])
            (fun j w' => j ≤ T.parts.length ∧ ∃ lcs ls', Holds w12 [lb] w' [⟨lb, row lcs 30, true⟩, ⟨b20, row [.int .u64 T.id, .int .u64 T.client, .int .u64 T.seq, .slice (some ⟨tb, 0, none⟩) T.parts.length tcap] 56, false⟩, ⟨tb, row tds 3, false⟩] ∧ lcs.length = N ∧ (∀ p, p < N → lcs[0 + p * 1]? = some (.int .u64 (ls' p))) ∧
              (∀ j' p : Nat, j' < j → (p : Int) = T.parts.getD j' 0 → ls' p = T.id) ∧ ∀ p : Nat, (∀ j', j' < j → (p : Int) ≠ T.parts.getD j' 0) → ls' p = ls p)
            (fun j => T.parts.length - j) 0 (by repeat (first | exact trivial | refine ⟨rfl, ?_⟩)) ⟨by omega, lcs, ls, H, hll5, hls5, fun j' p hj' => by omega, fun p _ => rfl⟩ ?_
          have hO12lb := hl12
          clear H hls5 hll5
          rintro j w13 ⟨hj, lcs, ls', H, hll, hls, hlA, hlB⟩ IH5
          by_cases hlj : j < T.parts.length
          · have htc := q5.at1 hlj
            obtain ⟨hpe, hpN⟩ := hpG j hlj
            obtain ⟨p, hp⟩ : ∃ p, p = (T.parts.getD j 0).toNat := ⟨_, rfl⟩
            rw [← hp] at hpe hpN
            have hge : T.parts.getD j 0 = T.parts[j] := by simp [hlj]
            rw [← hge, hpe] at htc
            have hlp := hls p hpN
            have hlt : ls' p < T.id := by
              rw [hlB p (fun j' hj' he => by have := canL_lt hcG hj' hlj; omega)]
              have := hlt5 i' hi' p (by rw [hT, ← hpe]; exact getD_mem hlj)
              rwa [hT] at this
            refine Run.seq ?_
            refine Run.seq ?_
            (refine Run.region ?_; intro K hK)
            refine Ops.pure H (X.move rfl) rfl rfl rfl ?_
            refine Ops.pure H (X.fieldAddr rfl rfl rfl rfl rfl rfl) rfl rfl rfl ?_
            refine Ops.pure H (X.load1 rfl rfl rfl rfl (.tail .head) rfl) rfl rfl rfl ?_
            refine Ops.pure H (X.len_slice rfl rfl rfl) rfl rfl rfl ?_
            refine Ops.pure H (X.cmp rfl rfl rfl) rfl rfl rfl ?_
            (refine Ops.nil (hK _ _ ?_); clear hK K)
            refine Run.cond_dec rfl (fun h196 => ?x13) (fun h196 => ?y13)
            case' y13 => exfalso; omega
            case' x13 =>
              refine Run.skip ?_
              refine Run.seq ?_
              refine Run.block ?_
              refine Run.seq ?_
              refine Run.seq ?_
              (refine Run.draw H [] [0, 1, 2, 3, 4, 5, 6, 7, 8, 9, 10, 11, 12, 13, 14, 15, 16, 17, 18, 19, 20, 21, 22, 23, 24, 25, 26, 27] ?_; clear H; intro K hK w H)
              refine Draw.take0 rfl (X.fieldAddr rfl rfl rfl rfl rfl rfl) rfl rfl rfl (by decide +kernel) ?_
              refine Draw.take rfl (X.load1 rfl rfl rfl rfl (.tail .head) rfl) rfl rfl rfl (by decide +kernel) ?_
              refine Draw.take0 rfl (X.move rfl) rfl rfl rfl (by decide +kernel) ?_
              refine Draw.take0 rfl (X.indexAddr rfl rfl (by omega) rfl rfl rfl rfl) rfl rfl rfl (by decide +kernel) ?_
              refine Draw.take rfl (X.load1 rfl rfl rfl rfl (.tail (.tail .head)) (by assumption)) rfl rfl rfl (by decide +kernel) ?_
              refine Draw.take0 rfl (X.cmp rfl rfl rfl) rfl rfl rfl (by decide +kernel) ?_
              refine Draw.take0 rfl (X.move rfl) rfl rfl rfl (by decide +kernel) ?_
              refine Draw.take0 rfl (X.fieldAddr rfl rfl rfl rfl rfl rfl) rfl rfl rfl (by decide +kernel) ?_
              refine Draw.take rfl (X.load1 rfl rfl rfl rfl (.tail .head) rfl) rfl rfl rfl (by decide +kernel) ?_
              refine Draw.take0 rfl (X.move rfl) rfl rfl rfl (by decide +kernel) ?_
              refine Draw.take0 rfl (X.indexAddr rfl rfl (by omega) rfl rfl rfl rfl) rfl rfl rfl (by decide +kernel) ?_
              refine Draw.take rfl (X.load1 rfl rfl rfl rfl (.tail (.tail .head)) (by assumption)) rfl rfl rfl (by decide +kernel) ?_
              refine Draw.take0 rfl (X.move rfl) rfl rfl rfl (by decide +kernel) ?_
              refine Draw.take0 rfl (X.cmp rfl rfl rfl) rfl rfl rfl (by decide +kernel) ?_
              refine Draw.take0 rfl (X.pick_f rfl rfl) rfl rfl rfl (by decide +kernel) ?_
              refine Draw.take0 rfl (X.move rfl) rfl rfl rfl (by decide +kernel) ?_
              refine Draw.split_dec rfl rfl rfl (fun h215 => ?x14) (fun h215 => ?y14)
              case' y14 =>
                refine Draw.take0 rfl (X.move rfl) rfl rfl rfl (by decide +kernel) ?_
                refine Draw.take0 rfl (X.fieldAddr rfl rfl rfl rfl rfl rfl) rfl rfl rfl (by decide +kernel) ?_
                refine Draw.take rfl (X.load1 rfl rfl rfl rfl (.tail .head) rfl) rfl rfl rfl (by decide +kernel) ?_
                refine Draw.take0 rfl (X.move rfl) rfl rfl rfl (by decide +kernel) ?_
                refine Draw.take0 rfl (X.indexAddr rfl rfl (by omega) rfl rfl rfl rfl) rfl rfl rfl (by decide +kernel) ?_
                refine Draw.take rfl (X.load1 rfl rfl rfl rfl (.tail (.tail .head)) (by assumption)) rfl rfl rfl (by decide +kernel) ?_
                refine Draw.take0 rfl (X.indexAddr rfl rfl (by omega) rfl rfl rfl rfl) rfl rfl rfl (by decide +kernel) ?_
                refine Draw.take rfl (X.load1 rfl rfl rfl rfl Pick.head (by assumption)) rfl rfl rfl (by decide +kernel) ?_
                refine Draw.take0 rfl (X.fieldAddr rfl rfl rfl rfl rfl rfl) rfl rfl rfl (by decide +kernel) ?_
                refine Draw.take rfl (X.load1 rfl rfl rfl rfl (.tail .head) rfl) rfl rfl rfl (by decide +kernel) ?_
                refine Draw.take0 rfl (X.cmp rfl rfl rfl) rfl rfl rfl (by decide +kernel) ?_
                refine Draw.take0 rfl (X.pick_f rfl rfl) rfl rfl rfl (by decide +kernel) ?_
                (refine Draw.done (by decide +kernel) (hK _ _ ?_); clear hK K)
                refine Run.cond_dec rfl (fun h226 => ?x15) (fun h226 => ?y15)
                case' y15 =>
                  refine Run.skip ?_
                  (refine Run.draw H [9] [0, 1, 2, 3, 4, 5, 6, 7, 8, 9] ?_; clear H; intro K hK w H)
                  refine Draw.take0 rfl (X.move rfl) rfl rfl rfl (by decide +kernel) ?_
                  refine Draw.take0 rfl (X.fieldAddr rfl rfl rfl rfl rfl rfl) rfl rfl rfl (by decide +kernel) ?_
                  refine Draw.take rfl (X.load1 rfl rfl rfl rfl (.tail .head) rfl) rfl rfl rfl (by decide +kernel) ?_
                  refine Draw.take0 rfl (X.move rfl) rfl rfl rfl (by decide +kernel) ?_
                  refine Draw.take0 rfl (X.indexAddr rfl rfl (by omega) rfl rfl rfl rfl) rfl rfl rfl (by decide +kernel) ?_
                  refine Draw.take rfl (X.load1 rfl rfl rfl rfl (.tail (.tail .head)) (by assumption)) rfl rfl rfl (by decide +kernel) ?_
                  refine Draw.take0 rfl (X.fieldAddr rfl rfl rfl rfl rfl rfl) rfl rfl rfl (by decide +kernel) ?_
                  refine Draw.take rfl (X.load1 rfl rfl rfl rfl (.tail .head) rfl) rfl rfl rfl (by decide +kernel) ?_
                  refine Draw.take0 rfl (X.indexAddr rfl rfl (by omega) rfl rfl rfl rfl) rfl rfl rfl (by decide +kernel) ?_
                  (refine Draw.last rfl rfl (by decide +kernel) (Y.storeI rfl rfl rfl rfl rfl rfl H Upd.head (by omega) ?_); intro w H0; clear H; have H := H0; clear H0)
                  (refine Draw2.done (by decide +kernel) (hK _ _ ?_); clear hK K)
                  refine Run.inBlock ?_
                  (refine Run.region ?_; intro K hK)
                  refine Ops.pure H (X.move rfl) rfl rfl rfl ?_
                  refine Ops.pure H (X.succ rfl rfl (by omega)) rfl rfl rfl ?_
                  refine Ops.pure H (X.assign rfl) rfl rfl rfl ?_
                  (refine Ops.nil (hK _ _ ?_); clear hK K)
                case' x15 => exfalso; omega
              case' x14 => exfalso; omega
            refine (IH5 (j + 1) _ (by omega) ⟨by omega, _, fun x => if x = p then T.id else ls' x, H, by simp [hll], fun x hx => ?_, fun j' x hj' hx => ?_, fun x hx => ?_⟩).weak (by repeat (first | exact trivial | refine ⟨rfl, ?_⟩))
            · dsimp only
              by_cases h : x = p
              · subst h
                rw [if_pos rfl, List.getElem?_set_self (by omega)]
              · rw [if_neg h, List.getElem?_set_ne (by omega)]
                exact hls x hx
            · dsimp only
              by_cases h : x = p
              · rw [if_pos h]
              · rw [if_neg h]
                have : j' ≠ j := fun e => by subst e; omega
                exact hlA j' x (by omega) hx
            · dsimp only
              have h : x ≠ p := fun e => hx j (by omega) (by rw [e, hpe])
              rw [if_neg h]
              exact hlB x (fun j' hj' => hx j' (by omega))
          · refine Run.seq ?_
            refine Run.seq ?_
            (refine Run.region ?_; intro K hK)
            refine Ops.pure H (X.move rfl) rfl rfl rfl ?_
            refine Ops.pure H (X.fieldAddr rfl rfl rfl rfl rfl rfl) rfl rfl rfl ?_
            refine Ops.pure H (X.load1 rfl rfl rfl rfl (.tail .head) rfl) rfl rfl rfl ?_
            refine Ops.pure H (X.len_slice rfl rfl rfl) rfl rfl rfl ?_
            refine Ops.pure H (X.cmp rfl rfl rfl) rfl rfl rfl ?_
            (refine Ops.nil (hK _ _ ?_); clear hK K)
            refine Run.cond_dec rfl (fun h196 => ?x16) (fun h196 => ?y16)
            case' y16 =>
              refine Run.exit rfl ?_
              refine Run.inBlock ?_
              (refine Run.region ?_; intro K hK)
              refine Ops.pure H (X.move rfl) rfl rfl rfl ?_
              refine Ops.pure H (X.succ rfl rfl (by omega)) rfl rfl rfl ?_
              refine Ops.pure H (X.assign rfl) rfl rfl rfl ?_
              (refine Ops.nil (hK _ _ ?_); clear hK K)
            case' x16 => exfalso; omega
            have hlb13 := H.pick .head
            have hO13 := hO12.keep1 (hO12lb) (by decide) (by decide) hlo hlc H.fr
            have hdl : (l.eraseIdx i').length = l.length - 1 := by rw [List.length_eraseIdx, if_pos hi']
            refine (IH (i + 1, l.eraseIdx i') _ (by dsimp only; omega) ⟨hT12.grow H.fr (by simpa using hzb), by dsimp only; omega, hL.del i' hi', c, lcs, ls', hO13, hcz, hlb13, hll, hls, fun x hx p hpm => ?_⟩).weak (by repeat (first | exact trivial | refine ⟨rfl, ?_⟩))
            dsimp only at hx hpm ⊢
            rw [hdl] at hx
            rw [getD_del] at hpm ⊢
            obtain ⟨y, hy, hyl, hyi⟩ : ∃ y, y = (if x < i' then x else x + 1) ∧ y < l.length ∧ y ≠ i' := ⟨_, rfl, by split <;> omega, by split <;> omega⟩
            have ey : (if x < i' then l.getD x tk0 else l.getD (x + 1) tk0) = l.getD y tk0 := by
              subst hy
              split <;> rfl
            rw [ey] at hpm ⊢
            by_cases hpt : (p : Int) ∈ T.parts
            · obtain ⟨j', hj', he⟩ := mem_getD hpt
              rw [hlA j' p (by omega) he.symm, ← hT]
              rcases Nat.lt_or_gt_of_ne hyi with h | h
              · exact absurd (by rw [hT]; exact hpt) (mayL_apart hGm h _ hpm)
              · exact hL.rise i' y h hyl
            · rw [hlB p (fun j' hj' he => hpt (by rw [he]; exact getD_mem (by omega)))]
              exact hlt5 y hyl p hpm
        · intro kk go
          by_cases hpn : 0 < pn
          · obtain ⟨rfl, hpb⟩ := hP.2.1 hpn
            have him : i % pn < pn := Nat.mod_lt _ hpn
            obtain ⟨hpx, hp0, hp1⟩ := hP.2.2 (i % pn) him
            have hm : ((i : Int) % (pn : Int)) = ((i % pn : Nat) : Int) := (Int.natCast_emod i pn).symm
            have hm0 := Int.emod_nonneg (ps (i % pn)) (show ((goL l).length : Int) ≠ 0 by omega)
            have hm1 := Int.emod_lt_of_pos (ps (i % pn)) (show 0 < ((goL l).length : Int) by omega)
            obtain ⟨q, hq, hq2⟩ : ∃ q : Nat, ps (i % pn) % ((goL l).length : Int) = (q : Int) ∧ q < (goL l).length := ⟨(ps (i % pn) % ((goL l).length : Int)).toNat, by omega, by omega⟩
            replace H := H.add false (hz9.get hpb (by simp)) (by simp) (by simp)
            refine Run.seq ?_
            (refine Run.region ?_; intro K hK)
            refine Ops.pure H (X.move rfl) rfl rfl rfl ?_
            refine Ops.pure H (X.len_slice rfl rfl rfl) rfl rfl rfl ?_
            refine Ops.pure H (X.cmp rfl rfl rfl) rfl rfl rfl ?_
            (refine Ops.nil (hK _ _ ?_); clear hK K)
            refine Run.cond_dec rfl (fun h160 => ?x17) (fun h160 => ?y17)
            case' y17 => exfalso; omega
            case' x17 =>
              (refine Run.region ?_; intro K hK)
              refine Ops.pure H (X.move rfl) rfl rfl rfl ?_
              refine Ops.pure H (X.move rfl) rfl rfl rfl ?_
              refine Ops.pure H (X.move rfl) rfl rfl rfl ?_
              refine Ops.pure H (X.len_slice rfl rfl rfl) rfl rfl rfl ?_
              refine Ops.pure H (X.remP rfl rfl (by omega)) rfl rfl rfl ?_
              refine Ops.pure H (X.indexAddr rfl rfl (by assumption) rfl rfl rfl rfl) rfl rfl rfl ?_
              refine Ops.pure H (X.load1 rfl rfl rfl rfl Pick.head (by assumption)) rfl rfl rfl ?_
              refine Ops.pure H (X.conv rfl rfl rfl rfl rfl (IntWalk.i64_in _ (by omega))) rfl rfl rfl ?_
              refine Ops.pure H (X.move rfl) rfl rfl rfl ?_
              refine Ops.pure H (X.len_slice rfl rfl rfl) rfl rfl rfl ?_
              refine Ops.pure H (X.remP rfl rfl (by omega)) rfl rfl rfl ?_
              refine Ops.pure H (X.assign rfl) rfl rfl rfl ?_
              (refine Ops.nil (hK _ _ ?_); clear hK K)
            rw [hm]
            skip
            rw [hq]
            exact go q _ _ ⟨rfl, hq2⟩ (by repeat (first | exact trivial | refine ⟨rfl, ?_⟩))
          · refine Run.seq ?_
            (refine Run.region ?_; intro K hK)
            refine Ops.pure H (X.move rfl) rfl rfl rfl ?_
            refine Ops.pure H (X.len_slice rfl rfl rfl) rfl rfl rfl ?_
            refine Ops.pure H (X.cmp rfl rfl rfl) rfl rfl rfl ?_
            (refine Ops.nil (hK _ _ ?_); clear hK K)
            refine Run.cond_dec rfl (fun h160 => ?x18) (fun h160 => ?y18)
            case' y18 =>
              refine Run.skip ?_
            case' x18 => exfalso; omega
            exact go 0 _ _ ⟨rfl, hcntp⟩ (by repeat (first | exact trivial | refine ⟨rfl, ?_⟩))
    · refine Ops.pure H (X.len_slice rfl rfl rfl) rfl rfl rfl ?_
      refine Ops.pure H (X.cmp rfl rfl rfl) rfl rfl rfl ?_
      (refine Ops.nil (hK _ _ ?_); clear hK K)
      refine Run.cond_dec rfl (fun h76 => ?x19) (fun h76 => ?y19)
      case' y19 =>
        refine Run.exit rfl ?_
        refine Run.seq ?_
        (refine Run.region ?_; intro K hK)
        refine Ops.pure H (X.assign rfl) rfl rfl rfl ?_
        (refine Ops.nil (hK _ _ ?_); clear hK K)
      case' x19 => exfalso; omega
      (first | refine Fn.ret1 HF rfl rfl ?_ | refine Fn.ret2 HF rfl rfl rfl ?_ | refine Fn.ret3 HF rfl rfl rfl rfl ?_ | refine Fn.ret0 HF rfl ?_ | refine Fn.fin0 HF rfl ?_ | refine Fn.retG (E := env) HF rfl H (by first | exact RVs.cellN rfl rfl rfl (by first | exact .head | exact .tail .head | exact .tail (.tail .head) | exact .tail (.tail (.tail .head)) | exact .tail (.tail (.tail (.tail .head))) | exact .tail (.tail (.tail (.tail (.tail .head)))) | exact .tail (.tail (.tail (.tail (.tail (.tail .head)))))) (by first | assumption | exact Cs.take rfl) RVs.nil | exact RVs.cellN rfl rfl rfl (by first | exact .head | exact .tail .head | exact .tail (.tail .head) | exact .tail (.tail (.tail .head)) | exact .tail (.tail (.tail (.tail .head))) | exact .tail (.tail (.tail (.tail (.tail .head)))) | exact .tail (.tail (.tail (.tail (.tail (.tail .head)))))) (by first | assumption | exact Cs.take rfl) (RVs.tmp rfl RVs.nil)) rfl ?_)
      exact ⟨rfl, hT6.then H.fr⟩
end Go.Proofs.Ythidohdnaeboaaa
