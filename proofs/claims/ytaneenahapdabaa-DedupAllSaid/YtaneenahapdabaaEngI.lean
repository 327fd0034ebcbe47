/- The engine of the proofs, part I: a loop over a map. No statement of the seat is proved here. -/
import Derived.Test.YtaneenahapdabaaEngN
import Derived.Laws.IdiomRangeMap
namespace Go.Proofs.Ytaneenahapdabaa
open Go
section
variable {E : Env} {n : Nat} {L : Sl} {w w0 : World} {S : List Nat} {G G0 G1 : List Ent} {d T : Nat} {pos : String} {e : Array Edge} {g : Option (Nat × Bool)} {x y : Operand} {QQ : Exit → Act → World → Prop} {Z : Sl → World → Prop}
theorem Y.range {t k el bm c : Nat} {es : Array MapEntry} {ti : TyI} (hx : ev L x = some (.map (some bm))) (ht : nth E.T t = some (some ti)) (hd : ti.d = .map k el) (hb : w.heap[bm]? = some (.map es c)) (H : Holds w0 S w G) (hn : Nat.blt d n = true)
    (next : ∀ it w', Holds w0 S w' (⟨it, .mapIter (some bm) c #[] c, true⟩ :: G) → w0.heap.size ≤ it → Z ((d, .pointer (some ⟨it, 0, none⟩)) :: L) w') : StepZ E QQ n ⟨some d, .range t x, T, pos, e, g⟩ Z L w := by
  obtain ⟨hg, _⟩ := E.ok t ti ht
  rw [hd] at hg
  have h := run_range_map (P := E.P) w t k el bm es c hg hb
  refine StepZ.val (w' := w.alloc (.mapIter (some bm) c #[] c)) rfl hn (fun a ha => ?_) (next _ _ (H.alloc _ true) H.fr.size)
  simp [execOp, ha.eval hx, h]
theorem run_nextIt {P : Program} (w : World) (ty : TypeId) (it bm since c0 : Nat) (seen : Array Nat) (es : Array MapEntry) (clock : Nat) (hi : w.heap[it]? = some (.mapIter (some bm) since seen c0)) (hb : w.heap[bm]? = some (.map es clock)) (hold : ∀ x ∈ es.toList, x.born < since) (hsc : since ≤ c0) :
    ((leftOf es seen).size = 0 ∧ (Instr.next (.pointer (some ⟨it, 0, none⟩)) false ty).run P w = .ok (.tuple #[.bool false]) w) ∨
    ∃ e ∈ (leftOf es seen).toList, ∃ w1 : World, (w1 = w ∨ w1 = w.drew) ∧ (Instr.next (.pointer (some ⟨it, 0, none⟩)) false ty).run P w = .ok (.tuple #[.bool true, e.key, e.val]) { w1 with heap := w1.heap.setIfInBounds it (.mapIter (some bm) since (seen.push e.born) clock) } := by
  simp only [Instr.next, getObj, Sem.run_bind, Sem.run, hi, hb, Result.andThen, next_test_false seen es since c0 hold hsc, Bool.false_eq_true, if_false]
  unfold leftOf
  have hmem : ∀ x ∈ (Array.filter (fun e => !seen.contains e.born) es).toList, x.born < since := fun x hx => hold x (by simp at hx ⊢; exact hx.1)
  generalize Array.filter (fun e => !seen.contains e.born) es = L at hmem ⊢
  have e1 : L.filter (fun x => decide (x.born < since)) = L := Array.filter_eq_self.2 (fun x hx => by simpa using hmem x (by simpa using hx))
  have e2 : L.filter (fun x => decide (x.born ≥ since)) = #[] := by
    rw [Array.filter_eq_empty_iff]
    intro x hx
    have := hmem x (by simpa using hx)
    simp
    omega
  simp only [e1, e2, Array.append_empty]
  by_cases h0 : L.size = 0
  · left
    have : L = #[] := Array.eq_empty_of_size_eq_zero h0
    subst this
    refine ⟨rfl, ?_⟩
    simp [choose, Sem.run, Question.forced]
  · right
    have hne : L.isEmpty = false := by simp [Array.isEmpty, h0]
    simp only [hne, Bool.false_eq_true, if_false, Array.empty_append, Array.size_map]
    have hch : ∃ (j : Nat) (w1 : World), j < L.size ∧ (w1 = w ∨ w1 = w.drew) ∧ (choose (Question.mapNext L.size)).run P w = .ok j w1 := by
      by_cases hf : L.size ≤ 1
      · exact ⟨0, w, by omega, .inl rfl, by simp [choose, Sem.run, Question.forced, hf]⟩
      · exact ⟨_, w.drew, Nat.mod_lt _ (by omega), .inr rfl, by
          simp only [choose, Sem.run, Question.forced, decide_eq_true_eq, hf, if_false, Question.cut]
          rfl⟩
    obtain ⟨j, w1, hj, hw1, hrun⟩ := hch
    refine ⟨L[j], by simp, w1, hw1, ?_⟩
    have hi1 : w1.heap[it]? = some (.mapIter (some bm) since seen c0) := by rcases hw1 with rfl | rfl <;> exact hi
    have hset : ∀ o' : Obj, (setObj it o').run P w1 = .ok () { w1 with heap := w1.heap.setIfInBounds it o' } := fun o' => by
      simp only [setObj, Sem.run, hi1]
    simp only [hrun, Array.getElem?_map, Array.getElem?_eq_getElem hj, Option.map_some, Sem.run_bind, hset, Result.andThen]
    rfl
theorem Y.next {it bm since c0 clock : Nat} {seen : Array Nat} {es : Array MapEntry} (H : Holds w0 S w G) (hp : Pick G it (.mapIter (some bm) since seen c0) true G0) (hb : w.heap[bm]? = some (.map es clock)) (hold : ∀ x ∈ es.toList, x.born < since) (hsc : since ≤ c0) (hx : ev L x = some (.pointer (some ⟨it, 0, none⟩))) (hn : Nat.blt d n = true)
    (done : (leftOf es seen).size = 0 → Z ((d, .tuple #[.bool false]) :: L) w)
    (next : ∀ e ∈ (leftOf es seen).toList, ∀ w', Holds w0 S w' (⟨it, .mapIter (some bm) since (seen.push e.born) clock, true⟩ :: G0) → Z ((d, .tuple #[.bool true, e.key, e.val]) :: L) w') : StepZ E QQ n ⟨some d, .next x false, T, pos, e, g⟩ Z L w := by
  have HP := H.perm hp.perm
  have hi := HP.at_ _ (List.mem_cons_self ..)
  rcases run_nextIt (P := E.P) w T it bm since c0 seen es clock hi hb hold hsc with ⟨h1, h2⟩ | ⟨e', he, w1, hw1, h2⟩
  · refine StepZ.val rfl hn (fun a ha => ?_) (done h1)
    simp [execOp, ha.eval hx, h2]
  · have HP1 : Holds w0 S w1 (⟨it, .mapIter (some bm) since seen c0, true⟩ :: G0) := by rcases hw1 with rfl | rfl; exact HP; exact HP.drew
    have hi1 := HP1.at_ _ (List.mem_cons_self ..)
    obtain ⟨k1, k2, k3⟩ := heapSet (o' := .mapIter (some bm) since (seen.push e'.born) clock) hi1
    refine StepZ.val rfl hn (fun a ha => ?_) (next e' he _ (HP1.put (w' := { w1 with heap := w1.heap.setIfInBounds it (.mapIter (some bm) since (seen.push e'.born) clock) }) rfl rfl rfl k3 k1 k2))
    simp [execOp, ha.eval hx, h2]
theorem X.entry {it bm since clock : Nat} {seen : Array Nat} {es : Array MapEntry} {en : MapEntry} {m1 m2 : Bool} (hx : ev L x = some (.pointer (some ⟨it, 0, none⟩))) (hp : Pick G it (.mapIter (some bm) since (seen.push en.born) clock) m1 G0) (hq : Pick G bm (.map es clock) m2 G1) (he : en ∈ es.toList) (hs : MapKept.Stamped es clock) :
    PureOp E n L G ⟨some d, .entry x, T, pos, e, g⟩ (.tuple #[en.key, en.val]) := by
  intro w hG a ha
  have hi := pick_at hG hp
  have hb := pick_at hG hq
  have hf : es.find? (·.born == en.born) = some en := by rw [← Array.find?_toList]; exact find_born en es.toList hs.2.1 he
  have h : (Instr.entry (.pointer (some ⟨it, 0, none⟩))).run E.P w = .ok (.tuple #[en.key, en.val]) w := by
    simp only [Instr.entry, getObj, Sem.run_bind, Sem.run, hi, hb, Result.andThen, Array.back?_push, bne_self_eq_false, Bool.false_eq_true, if_false, hf]
    rfl
  simp [execOp, ha.eval hx, h]
end
/-- A sum over what has been seen. -/
def seenS (f : MapEntry → Nat) : List MapEntry → Array Nat → Nat
  | [], _ => 0
  | x :: l, seen => (if seen.contains x.born then f x else 0) + seenS f l seen
theorem seenS_other (f : MapEntry → Nat) (seen : Array Nat) (b : Nat) : ∀ (es : List MapEntry), b ∉ es.map (·.born) → seenS f es (seen.push b) = seenS f es seen
  | [], _ => rfl
  | x :: l, h => by
    have hx : (x.born == b) = false := by
      cases hc : x.born == b with
      | false => rfl
      | true => exact absurd (List.mem_cons.2 (Or.inl (beq_iff_eq.1 hc).symm)) h
    have ih := seenS_other f seen b l (fun e => h (List.mem_cons.2 (Or.inr e)))
    simp only [seenS, contains_push, hx, Bool.or_false, ih]
theorem seenS_push (f : MapEntry → Nat) (seen : Array Nat) (e : MapEntry) (hs : seen.contains e.born = false) : ∀ (es : List MapEntry), (es.map (·.born)).Nodup → e ∈ es → seenS f es (seen.push e.born) = seenS f es seen + f e
  | x :: l, hn, he => by
    have hn' : x.born ∉ l.map (·.born) ∧ (l.map (·.born)).Nodup := List.nodup_cons.1 hn
    rcases List.mem_cons.1 he with rfl | h
    · simp only [seenS, contains_push, hs, beq_self_eq_true, Bool.or_true, if_true, Bool.false_eq_true, if_false, seenS_other f seen e.born l hn'.1]
      omega
    · have hx : (x.born == e.born) = false := by
        cases hc : x.born == e.born with
        | false => rfl
        | true => exact absurd (by rw [beq_iff_eq.1 hc]; exact List.mem_map.2 ⟨e, h, rfl⟩) hn'.1
      simp only [seenS, contains_push, hx, Bool.or_false, seenS_push f seen e hs l hn'.2 h]
      omega
theorem seenS_le (f : MapEntry → Nat) (seen : Array Nat) : ∀ (es : List MapEntry), seenS f es seen ≤ (es.map f).sum
  | [] => by simp [seenS]
  | x :: l => by
    have := seenS_le f seen l
    simp only [seenS, List.map_cons, List.sum_cons]
    split <;> omega
theorem seenS_none (f : MapEntry → Nat) : ∀ (es : List MapEntry), seenS f es #[] = 0
  | [] => rfl
  | x :: l => by simp [seenS, seenS_none f l]
theorem seenS_full (f : MapEntry → Nat) (seen : Array Nat) : ∀ (es : List MapEntry), (∀ x ∈ es, seen.contains x.born = true) → seenS f es seen = (es.map f).sum
  | [], _ => rfl
  | x :: l, h => by
    simp only [seenS, h x (List.mem_cons.2 (Or.inl rfl)), if_true, List.map_cons, List.sum_cons, seenS_full f seen l (fun y hy => h y (List.mem_cons.2 (Or.inr hy)))]
theorem seenS_all (f : MapEntry → Nat) (es : Array MapEntry) (seen : Array Nat) (h : (leftOf es seen).size = 0) : seenS f es.toList seen = (es.toList.map f).sum := by
  refine seenS_full f seen es.toList (fun x hx => ?_)
  have h2 : leftOf es seen = #[] := Array.eq_empty_of_size_eq_zero h
  unfold leftOf at h2
  rw [Array.filter_eq_empty_iff] at h2
  have h3 := h2 x (Array.mem_toList_iff.1 hx)
  cases hc : seen.contains x.born with
  | true => rfl
  | false => rw [hc] at h3; exact absurd rfl h3
end Go.Proofs.Ytaneenahapdabaa
