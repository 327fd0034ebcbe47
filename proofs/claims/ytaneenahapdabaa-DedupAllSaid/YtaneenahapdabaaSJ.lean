/- The library's keys, walked: Keys and its function, which hands a map's keys on. -/
import Derived.Test.YtaneenahapdabaaSH
import Derived.Test.YtaneenahapdabaaEngS
namespace Go.Proofs.Ytaneenahapdabaa
open Go
set_option maxRecDepth 20000
set_option maxHeartbeats 2000000
attribute [local irreducible] Run Ops Fn Draw Draw2 PureOp StepZ

theorem ins_nil (z : World) : Fn env.P 66 [.slice none 0 0, .int .i64 ((0 : Nat) : Int), .int .i64 ((0 : Nat) : Int)] z fun _ w' => Fr z w' [] := by
  have H := Holds.start z []
  have HF := Try.func66; refine Fn.enter Try.func66 Try.ntmps66 rfl rfl rfl ?_
  (refine Run.seq (Run.region ?_); intro K hK)
  refine Ops.pure H (X.move rfl) rfl rfl rfl ?_
  refine Ops.pure H (X.succ rfl rfl (by omega)) rfl rfl rfl ?_
  refine Ops.pure H (X.assign rfl) rfl rfl rfl ?_
  (refine Ops.nil (hK _ _ ?_); clear hK K)
  refine Run.block ?_
  refine Run.rounds (fun (_ : Unit) => [(2, .int .i64 ((0 : Nat) : Int)), (6, .int .i64 ((0 + 1 : Nat) : Int))]) (fun _ w' => Fr z w' []) (fun _ => 0) () (by repeat (first | exact trivial | refine ⟨rfl, ?_⟩)) H.fr ?_
  clear H
  rintro _ w1 hf1 _
  have H := Holds.start w1 []
  refine Run.seq ?_
  (refine Run.seq (Run.region ?_); intro K hK)
  refine Ops.pure H (X.move rfl) rfl rfl rfl ?_
  refine Ops.pure H (X.move rfl) rfl rfl rfl ?_
  refine Ops.pure H (X.cmp rfl rfl rfl) rfl rfl rfl ?_
  (refine Ops.nil (hK _ _ ?_); clear hK K)
  refine Run.cond_false rfl ?_
  refine Run.exit rfl ?_
  (first | refine Fn.ret0 HF rfl ?_ | refine Fn.fin0 HF rfl ?_)
  exact hf1.then H.fr
theorem pdq_nil (z : World) (lim : Nat) : Fn env.P 64 [.slice none 0 0, .int .i64 ((0 : Nat) : Int), .int .i64 ((0 : Nat) : Int), .int .i64 (lim : Nat)] z fun _ w' => Fr z w' [] := by
  have H := Holds.start z []
  have HF := Try.func64; refine Fn.enter Try.func64 Try.ntmps64 rfl rfl rfl ?_
  (refine Run.seq (Run.region ?_); intro K hK)
  refine Ops.pure H (X.assign rfl) rfl rfl rfl ?_
  (refine Ops.nil (hK _ _ (Run.seq (Run.region ?_))); clear hK K; intro K hK)
  refine Ops.pure H (X.assign rfl) rfl rfl rfl ?_
  (refine Ops.nil (hK _ _ ?_); clear hK K)
  refine Run.block ?_
  refine Run.rounds (fun (_ : Unit) => [(0, .slice none 0 0), (1, .int .i64 ((0 : Nat) : Int)), (2, .int .i64 ((0 : Nat) : Int))]) (fun _ w' => Fr z w' []) (fun _ => 0) () (by repeat (first | exact trivial | refine ⟨rfl, ?_⟩)) H.fr ?_
  clear H
  rintro _ w1 hf1 _
  have H := Holds.start w1 []
  refine Run.block ?_
  (refine Run.seq (Run.region ?_); intro K hK)
  refine Ops.pure H (X.move rfl) rfl rfl rfl ?_
  refine Ops.pure H (X.move rfl) rfl rfl rfl ?_
  refine Ops.pure H (X.subN rfl rfl rfl rfl (by omega) (IntWalk.i64_in _ (by omega))) rfl rfl rfl ?_
  refine Ops.pure H (X.assign rfl) rfl rfl rfl ?_
  (refine Ops.nil (hK _ _ ?_); clear hK K)
  refine Run.seq ?_
  (refine Run.seq (Run.region ?_); intro K hK)
  refine Ops.pure H (X.move rfl) rfl rfl rfl ?_
  refine Ops.pure H (X.cmp rfl rfl rfl) rfl rfl rfl ?_
  (refine Ops.nil (hK _ _ ?_); clear hK K)
  refine Run.cond_true rfl ?_
  (refine Run.seq (Run.region ?_); intro K hK)
  refine Ops.pure H (X.move rfl) rfl rfl rfl ?_
  refine Ops.pure H (X.move rfl) rfl rfl rfl ?_
  refine Ops.pure H (X.move rfl) rfl rfl rfl ?_
  refine Ops.eff rfl (Y.call rfl rfl (by first | assumption | decide +kernel) rfl (ins_nil _) rfl ?_)
  rintro v w2 hf2
  have F2 := hf1.then (H.fr.then hf2)
  clear H
  have H := Holds.start w2 []
  (refine Ops.nil (hK _ _ ?_); clear hK K)
  (first | refine Fn.ret0 HF rfl ?_ | refine Fn.fin0 HF rfl ?_)
  exact F2.then H.fr
theorem sort_nil (z : World) : Fn env.P 61 [.slice none 0 0] z fun _ w' => Fr z w' [] := by
  have H := Holds.start z []
  have HF := Try.func61; refine Fn.enter Try.func61 Try.ntmps61 rfl rfl rfl ?_
  (refine Run.seq (Run.region ?_); intro K hK)
  refine Ops.pure H (X.move rfl) rfl rfl rfl ?_
  refine Ops.pure H (X.len_slice rfl rfl rfl) rfl rfl rfl ?_
  refine Ops.pure H (X.assign rfl) rfl rfl rfl ?_
  (refine Ops.nil (hK _ _ ?_); clear hK K)
  (refine Run.region ?_; intro K hK)
  refine Ops.pure H (X.move rfl) rfl rfl rfl ?_
  refine Ops.pure H (X.move rfl) rfl rfl rfl ?_
  refine Ops.pure H (X.move rfl) rfl rfl rfl ?_
  refine Ops.pure H (X.conv rfl rfl rfl rfl rfl (u64_in _ (by omega))) rfl rfl rfl ?_
  refine Ops.eff rfl (Y.call rfl rfl (by first | assumption | decide +kernel) rfl (len_any _ 0 (by omega)) rfl ?_)
  rintro v w2 ⟨l, rfl, hl, _, hf2⟩
  have F2 := H.fr.then hf2
  clear H
  have H := Holds.start w2 []
  skip
  refine Ops.eff rfl (Y.call rfl rfl (by first | assumption | decide +kernel) rfl (pdq_nil _ l) rfl ?_)
  rintro v w3 hf3
  have F3 := F2.then (H.fr.then hf3)
  clear H
  have H := Holds.start w3 []
  (refine Ops.nil (hK _ _ ?_); clear hK K)
  (first | refine Fn.ret0 HF rfl ?_ | refine Fn.fin0 HF rfl ?_)
  exact F3.then H.fr
theorem sort_any (z : World) (blk off cap : Nat) (d : Array Int) (cs : List Value) {n : Nat} (hn : d.size = n) (h : Ar z blk off d cs) (hm : n ≤ 2305843009213693951) :
    Fn env.P 61 [.slice (some ⟨blk, off, none⟩) n cap] z fun _ w' => ∃ (d' : Array Int) (cs' : List Value), Ar w' blk off d' cs' ∧ Sort.PermIn 0 n d d' ∧ Sort.SortedIn ltU 0 n d' ∧ Fr z w' [blk] := by
  have H := Holds.start z []
  have HF := Try.func61; refine Fn.enter Try.func61 Try.ntmps61 rfl rfl rfl ?_
  (refine Run.seq (Run.region ?_); intro K hK)
  refine Ops.pure H (X.move rfl) rfl rfl rfl ?_
  refine Ops.pure H (X.len_slice rfl rfl rfl) rfl rfl rfl ?_
  refine Ops.pure H (X.assign rfl) rfl rfl rfl ?_
  (refine Ops.nil (hK _ _ ?_); clear hK K)
  (refine Run.region ?_; intro K hK)
  refine Ops.pure H (X.move rfl) rfl rfl rfl ?_
  refine Ops.pure H (X.move rfl) rfl rfl rfl ?_
  refine Ops.pure H (X.move rfl) rfl rfl rfl ?_
  refine Ops.pure H (X.conv rfl rfl rfl rfl rfl (u64_in _ (by omega))) rfl rfl rfl ?_
  refine Ops.eff rfl (Y.call rfl rfl (by first | assumption | decide +kernel) rfl (len_any _ n (by omega)) rfl ?_)
  rintro v w2 ⟨l, rfl, hl, _, hf2⟩
  have F2 := H.fr.then hf2
  clear H
  have H := Holds.start w2 []
  skip
  refine Ops.eff rfl (Y.call rfl rfl (by first | assumption | decide +kernel) rfl (pdq_any blk off cap n hm _ _ d cs 0 n l rfl hn ((h.ext F2).ext H.fr) (by omega) (by omega) hl (.inl rfl)) rfl ?_)
  rintro v w3 ⟨d3, cs3, h3, q1, q2, hf3⟩
  have F3 := F2.trans (U := [blk]) (H.fr.trans (U := [blk]) hf3 (by simp) (by simp)) (by simp) (by simp)
  clear H
  have H := Holds.start w3 []
  (refine Ops.nil (hK _ _ ?_); clear hK K)
  (first | refine Fn.ret0 HF rfl ?_ | refine Fn.fin0 HF rfl ?_)
  exact ⟨d3, _, h3.ext H.fr, q1, q2, F3.trans H.fr (by simp) (by simp)⟩
end Go.Proofs.Ytaneenahapdabaa

namespace Go.Proofs.Ytaneenahapdabaa
open Go
set_option maxRecDepth 20000
set_option maxHeartbeats 2000000
attribute [local irreducible] Run Ops Fn Draw Draw2 PureOp StepZ

def kI : Value → Int
  | .int _ x => x
  | _ => 0
theorem keys_any (z : World) (mb : Nat) : Fn env.P 55 [.map (some mb)] z fun v w' => ∃ xb, v = .func (.func 62) #[] #[.pointer (some ⟨xb, 0, none⟩)] ∧ w'.heap[xb]? = some (row [.map (some mb)] 55) ∧ Fr z w' [] ∧ z.heap.size ≤ xb := by
  have H := Holds.start z []
  have HF := Try.func55; refine Fn.enter Try.func55 Try.ntmps55 rfl rfl rfl ?_
  (refine Run.seq (Run.region ?_); intro K hK)
  (refine Ops.eff rfl (Y.box rfl rfl rfl H ?_); intro b1 w H0 hb1; clear H; have H := H0; clear H0)
  refine Ops.pure H (X.assign rfl) rfl rfl rfl ?_
  (refine Ops.nil (hK _ _ (Run.seq (Run.region ?_))); clear hK K; intro K hK)
  refine Ops.pure H (X.makeFunc rfl rfl) rfl rfl rfl ?_
  refine Ops.pure H (X.assign rfl) rfl rfl rfl ?_
  (refine Ops.nil (hK _ _ ?_); clear hK K)
  refine Fn.ret1 HF rfl rfl ?_
  exact ⟨_, rfl, H.pick .head, H.fr, by omega⟩

theorem nd_born {l : List MapEntry} (h : (l.map (·.born)).Nodup) {x y : MapEntry} (hx : x ∈ l) (hy : y ∈ l) (e : x.born = y.born) : x = y := by
  induction l with
  | nil => simp at hx
  | cons a l ih =>
    simp only [List.map_cons, List.nodup_cons, List.mem_map, not_exists, not_and] at h
    rcases List.mem_cons.1 hx with h1 | h1 <;> rcases List.mem_cons.1 hy with h2 | h2
    · rw [h1, h2]
    · exact absurd (by rw [← e, h1]) (h.1 _ h2)
    · exact absurd (by rw [e, h2]) (h.1 _ h1)
    · exact ih h.2 h1 h2
theorem all_seen (es : Array MapEntry) (s : Array Nat) (ess : List MapEntry) (hn : (es.toList.map (·.born)).Nodup) (h0 : (leftOf es s).size = 0) (he : ess.map (·.born) = s.toList) (hs : (ess.map (·.born)).Nodup) (hm : ∀ e ∈ ess, e ∈ es.toList) : (ess.map fun e => kI e.key).Perm (es.toList.map fun e => kI e.key) := by
  refine List.Perm.map _ ?_
  have nd : ∀ l : List MapEntry, (l.map (·.born)).Nodup → l.Nodup := fun l h => (List.pairwise_map.1 h).imp fun {a b} hab e => hab (by rw [e])
  refine (List.perm_ext_iff_of_nodup (nd _ hs) (nd _ hn)).2 fun x => ⟨hm x, fun hx => ?_⟩
  have h2 : leftOf es s = #[] := Array.eq_empty_of_size_eq_zero h0
  unfold leftOf at h2
  rw [Array.filter_eq_empty_iff] at h2
  have h3 := h2 x (Array.mem_toList_iff.1 hx)
  have h4 : s.contains x.born = true := by
    cases hc : s.contains x.born with
    | true => rfl
    | false => rw [hc] at h3; exact absurd rfl h3
  have h5 : x.born ∈ ess.map (·.born) := by rw [he]; simpa using h4
  obtain ⟨y, hy, hyx⟩ := List.mem_map.1 h5
  have h6 := nd_born hn (hm y hy) hx hyx
  rw [← h6]
  exact hy

theorem left_le (es : Array MapEntry) (s : Array Nat) : (leftOf es s).size ≤ es.size := Array.size_filter_le
theorem each_any (z : World) (lb xb mb k : Nat) (es : Array MapEntry) (rc : Loop) (I : List Int → World → Prop) (S : List Nat) (hst : MapKept.Stamped es k) (hk : ∀ e ∈ es.toList, ∃ x, e.key = .int .u64 x) (hps : rc.params = #[7]) (hl : ∀ xs (w : World), I xs w → w.heap[lb]? = some (.loop rc))
    (hx : z.heap[xb]? = some (row [.map (some mb)] 55)) (hm : z.heap[mb]? = some (.map es k)) (hxS : xb ∉ S) (hmS : mb ∉ S) (h0 : I [] z)
    (hI : ∀ xs (w w' : World), I xs w → (∀ (b : Nat) (o : Obj), w.heap[b]? = some o → (∀ a c d e, o ≠ Obj.mapIter a c d e) → w'.heap[b]? = some o) → I xs w')
    (hround : ∀ x xs (w : World), I xs w → Fr z w S → xs.length < es.size → RoundIn Fence.wide 0 env.P lb rc.fn (rc.tmps.setIfInBounds 7 (.int .u64 x)) rc.assign rc.body w fun e w' => e = .returned (.bool true) ∧ I (xs ++ [x]) w' ∧ Fr z w' S ∧ ∀ (b : Nat) a c d e, w.heap[b]? = some (Obj.mapIter a c d e) → w'.heap[b]? = some (Obj.mapIter a c d e)) :
    Fn env.P 62 [.func (.yield lb) #[] #[], .pointer (some ⟨xb, 0, none⟩)] z fun _ w' => ∃ xs, xs.Perm (es.toList.map fun e => kI e.key) ∧ I xs w' ∧ Fr z w' S := by
  have hne : xb ≠ mb := fun e => by rw [e, hm] at hx; cases hx
  have H := ((Holds.start z []).add false hx (by simp) (by simp)).add false hm (by simpa using hne.symm) (by simp)
  have HF := Try.func62; refine Fn.enter Try.func62 Try.ntmps62 rfl rfl rfl ?_
  (refine Run.seq (Run.region ?_); intro K hK)
  refine Ops.pure H (X.load1 rfl rfl rfl rfl (.tail .head) rfl) rfl rfl rfl ?_
  refine Ops.eff rfl (Y.range rfl rfl rfl (H.pick .head) H rfl ?_)
  intro it w H hit
  (refine Ops.nil (hK _ _ ?_); clear hK K)
  refine Run.block ?_
  refine Run.rounds (fun (s : Array Nat) => [(0, .func (.yield lb) #[] #[]), (5, .pointer (some ⟨it, 0, none⟩))]) (fun s w' => ∃ c0 ess, k ≤ c0 ∧ w'.heap[it]? = some (.mapIter (some mb) k s c0) ∧ ess.map (·.born) = s.toList ∧ (ess.map (·.born)).Nodup ∧ (∀ e ∈ ess, e ∈ es.toList) ∧ ess.length + (leftOf es s).size ≤ es.size ∧ I (ess.map fun e => kI e.key) w' ∧ Fr z w' S) (fun s => (leftOf es s).size) #[] (by repeat (first | exact trivial | refine ⟨rfl, ?_⟩))
    ⟨k, [], Nat.le_refl _, H.pick .head, rfl, List.nodup_nil, by simp, by simpa using left_le es #[], hI _ _ _ h0 fun b o hb _ => H.fr.get hb (by simp), H.fr.mono (by simp)⟩ ?_
  clear H
  rintro s w1 ⟨c0, ess, hc0, hi, he, hs, hme, hlen, hIw, hF⟩ IH
  have hm1 := hF.get hm hmS
  have H := ((Holds.start w1 [it]).add true hi (by simp) (by simp)).add false hm1 (by
    simp
    have := lt_of_at hm
    omega) (by simp)
  (refine Run.seq (Run.region ?_); intro K hK)
  refine Ops.eff rfl (Y.next H (.tail .head) (H.pick .head) hst.1 hc0 rfl rfl (fun h0 => ?_) (fun e hel w2 H2 => ?_))
  · refine Ops.pure H (X.extract rfl rfl) rfl rfl rfl ?_
    (refine Ops.nil (hK _ _ ?_); clear hK K)
    refine Run.seq ?_
    refine Run.cond_false rfl ?_
    refine Run.exit rfl ?_
    (first | refine Fn.ret0 HF rfl ?_ | refine Fn.fin0 HF rfl ?_)
    exact ⟨_, all_seen es s ess hst.2.1 h0 he hs hme, hI _ _ _ hIw fun b o hb hno => H.fr.get hb (by
      simp
      rintro rfl
      rw [hi] at hb
      cases hb
      exact hno _ _ _ _ rfl), hF.trans H.fr (fun x h => h) (fun x h hl => by simp at h; omega)⟩
  · clear H
    have H := H2
    obtain ⟨hn1, hn2⟩ := mem_left hel
    obtain ⟨x, hkx⟩ := hk e hn1
    refine Ops.pure H (X.extract rfl rfl) rfl rfl rfl ?_
    (refine Ops.nil (hK _ _ ?_); clear hK K)
    refine Run.seq ?_
    refine Run.cond_true rfl ?_
    refine Run.skip ?_
    refine Run.block ?_
    (refine Run.seq (Run.region ?_); intro K hK)
    refine Ops.pure H (X.entry rfl .head (.tail .head) hn1 hst) rfl rfl rfl ?_
    rw [hkx]
    refine Ops.pure H (X.extract rfl rfl) rfl rfl rfl ?_
    refine Ops.pure H (X.assign rfl) rfl rfl rfl ?_
    (refine Ops.nil (hK _ _ ?_); clear hK K)
    have hF2 : Fr z w2 S := hF.trans H.fr (fun x h => h) (fun x h hl => by simp at h; omega)
    have hI2 := hI _ _ w2 hIw fun b o hb hno => H.fr.get hb (by
      simp
      rintro rfl
      rw [hi] at hb
      cases hb
      exact hno _ _ _ _ rfl)
    have hsz := left_shrinks es s e hel
    have hit2 := H.pick (b := it) .head
    refine Run.seq ?_
    refine Run.yield4 (E := env) rfl rfl rfl rfl rfl rfl rfl (hl _ _ hI2) hps ((hround x _ w2 hI2 hF2 (by simp; omega)).mono ?_)
    rintro _ w3 ⟨rfl, hI3, hF3, hit3⟩
    refine ⟨true, rfl, ?_⟩
    clear H H2
    have H := Holds.start w3 []
    refine Run.cond_false rfl ?_
    refine Run.skip ?_
    refine Run.inBlock ?_
    refine (IH (s.push e.born) _ hsz ⟨k, ess ++ [e], Nat.le_refl _, hit3 _ _ _ _ _ hit2, by simp [he], ?_, ?_, by simp; omega, ?_, hF3⟩).weak (by repeat (first | exact trivial | refine ⟨rfl, ?_⟩))
    · rw [List.map_append, he]
      refine List.nodup_append.2 ⟨by rw [← he]; exact hs, by simp, ?_⟩
      intro a ha b hb hab
      simp at hb
      subst hb
      subst hab
      have hc : s.contains e.born = true := by simpa using ha
      rw [hc] at hn2
      cases hn2
    · intro y hy
      rcases List.mem_append.1 hy with hy | hy
      · exact hme y hy
      · simp at hy
        rw [hy]
        exact hn1
    · simpa [hkx, kI] using hI3
end Go.Proofs.Ytaneenahapdabaa
