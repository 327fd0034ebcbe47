/- Layer 20: lists in memory, cut and joined, plain. -/
import Derived.Test.YtaneenahapdabaaT5
namespace Go.Proofs.Ytaneenahapdabaa
open Go

theorem Vw.drop {w : World} {b off n cap ty sz j : Nat} {F : Nat → List Value} (h : Vw w (.slice (some ⟨b, off, none⟩) n cap) ty sz n F) (hj : j ≤ n) :
    Vw w (.slice (some ⟨b, if cap = j then off else off + j * sz, none⟩) (n - j) (cap - j)) ty sz (n - j) (fun t => F (j + t)) := by
  obtain ⟨a', cap', h1, h2, h3, h4 | ⟨b', off', h4, h5⟩⟩ := h
  · cases h1
    cases h4.1
  · cases h1
    cases h4
    refine ⟨_, _, rfl, by omega, by omega, .inr ⟨b, _, rfl, fun hp => ?_⟩⟩
    obtain ⟨cs, h6, h7⟩ := h5 (by omega)
    rw [if_neg (by omega)]
    exact ⟨cs, h6, fun t ht => by
      have := h7 (j + t) (by omega)
      rw [Nat.add_mul, ← Nat.add_assoc] at this
      exact this⟩
theorem Vw.pre {w : World} {a : Option Addr} {n cap ty sz k : Nat} {F : Nat → List Value} (h : Vw w (.slice a n cap) ty sz n F) (hk : k ≤ n) : Vw w (.slice a k cap) ty sz k F := by
  obtain ⟨a', cap', h1, h2, h3, h4 | ⟨b', off', h4, h5⟩⟩ := h
  · cases h1
    exact ⟨_, _, rfl, by omega, h3, .inl h4⟩
  · cases h1
    refine ⟨_, _, rfl, by omega, h3, .inr ⟨b', off', h4, fun hp => ?_⟩⟩
    obtain ⟨cs, h6, h7⟩ := h5 (by omega)
    exact ⟨cs, h6, fun t ht => h7 t (by omega)⟩
theorem Vw.none0 {w : World} {ty sz : Nat} {F : Nat → List Value} : Vw w (.slice none 0 0) ty sz 0 F := ⟨none, 0, rfl, Nat.le_refl _, by omega, .inl ⟨rfl, rfl⟩⟩
theorem flat_len {F : Nat → List Value} {sz : Nat} (hF : ∀ i, (F i).length = sz) : ∀ n, ((List.range n).flatMap F).length = n * sz
  | 0 => by simp
  | n + 1 => by rw [flat_succ, List.length_append, flat_len hF n, hF, Nat.add_mul, Nat.one_mul]
theorem Vw.src {w : World} {a : Option Addr} {n cap ty sz : Nat} {F : Nat → List Value} (h : Vw w (.slice a n cap) ty sz n F) (hF : ∀ i, (F i).length = sz) (h0 : 0 < sz) : Src w a ((List.range n).flatMap F) := by
  intro j v hj
  have hlt : j < n * sz := by
    have := (List.getElem?_eq_some_iff.1 hj).1
    rwa [flat_len hF] at this
  have hn : 0 < n := by
    rcases Nat.eq_zero_or_pos n with h | h
    · subst h; omega
    · exact h
  obtain ⟨b, off, cs, rfl, hb, hcs⟩ := h.pos hn
  refine ⟨_, rfl, ?_⟩
  rw [Addr.add_lit]
  refine (cell_cells hb).trans ?_
  have hd : j / sz < n := by rw [Nat.div_lt_iff_lt_mul h0]; exact hlt
  have hm : j % sz < sz := Nat.mod_lt _ h0
  have hjj : j / sz * sz + j % sz = j := Nat.div_add_mod' j sz
  have h1 := (hcs (j / sz) hd).toGet hm
  have h2 := flat_get hF n (j / sz) (j % sz) hd hm
  rw [hjj] at h2
  rw [Nat.add_assoc, hjj, ← h2, hj] at h1
  exact h1
theorem flat3 {F : Nat → List Value} (k r : Nat) : (List.range (k + 1 + r)).flatMap F = (List.range k).flatMap F ++ F k ++ (List.range r).flatMap fun t => F (k + 1 + t) := by
  rw [List.range_add, List.flatMap_append, flat_succ, List.flatMap_map]
/-- Two lists with one thing between them. -/
def mid3 (k : Nat) (F : Nat → List Value) (x : List Value) (G : Nat → List Value) : Nat → List Value := fun t => if t < k then F t else if t = k then x else G (t - (k + 1))
theorem mid3_flat {k r : Nat} {F G : Nat → List Value} {x : List Value} : (List.range (k + 1 + r)).flatMap (mid3 k F x G) = (List.range k).flatMap F ++ x ++ (List.range r).flatMap G := by
  rw [flat3]
  congr 1
  · congr 1
    · exact flat_congr fun i hi => by simp [mid3, hi]
    · simp [mid3]
  · refine flat_congr fun i _ => ?_
    simp only [mid3]
    rw [if_neg (by omega), if_neg (by omega)]
    congr 1
    omega
theorem Vw.mk {w : World} {b cap ty sz N : Nat} {cs : List Value} {F : Nat → List Value} (hb : w.heap[b]? = some (row cs ty)) (hc : Cs cs 0 (N * sz) ((List.range N).flatMap F)) (hF : ∀ i, (F i).length = sz) (h1 : N ≤ cap) (h2 : cap ≤ 9223372036854775807) : Vw w (.slice (some ⟨b, 0, none⟩) N cap) ty sz N F :=
  ⟨_, cap, rfl, h1, h2, .inr ⟨b, 0, rfl, fun _ => ⟨cs, hb, fun j hj => Cs.flat hF hc hj⟩⟩⟩
theorem mid3_len {k sz : Nat} {F G : Nat → List Value} {x : List Value} (h1 : ∀ i, (F i).length = sz) (h2 : x.length = sz) (h3 : ∀ i, (G i).length = sz) (i : Nat) : (mid3 k F x G i).length = sz := by
  unfold mid3
  split
  · exact h1 i
  · split
    · exact h2
    · exact h3 _
theorem flat_one {F : Nat → List Value} {n : Nat} (hF : ∀ i, i < n → ∀ v ∈ F i, v.oneCell' = true) : ∀ v ∈ (List.range n).flatMap F, v.oneCell' = true := by
  intro v hv
  obtain ⟨i, hi, hm⟩ := List.mem_flatMap.1 hv
  exact hF i (by simpa using hi) v hm
/-- In a list that rises, both searches find the same. -/
theorem idxL_bs {xs : List Int} (h : xs.Pairwise (· < ·)) (t : Int) : idxL xs t = bsL xs t := by
  obtain ⟨h1, h2⟩ := bsL_spec xs t h
  have hle := bsL_le xs t
  refine idxL_eq hle (fun j hj => ?_) (fun hlt => ?_)
  · refine h1 _ ?_
    rw [List.mem_iff_getElem?]
    exact ⟨j, by rw [List.getElem?_take_of_lt hj]; simp [show j < xs.length by omega]⟩
  · have := h2 (xs.getD (bsL xs t) 0) (by
      rw [List.mem_iff_getElem?]
      exact ⟨0, by rw [List.getElem?_drop]; simp [hlt]⟩)
    omega
theorem insL_get {k : Nat} {x : Int} {xs : List Int} (hk : k ≤ xs.length) (j : Nat) : (insL k x xs).getD j 0 = if j < k then xs.getD j 0 else if j = k then x else xs.getD (j - 1) 0 := by
  unfold insL
  simp only [List.getD_eq_getElem?_getD]
  by_cases h : j < k
  · rw [if_pos h, List.getElem?_append_left (by simp; omega), List.getElem?_take_of_lt h]
  · rw [if_neg h, List.getElem?_append_right (by simp; omega)]
    simp only [List.length_take, Nat.min_eq_left hk]
    by_cases e : j = k
    · subst e; simp
    · obtain ⟨q, hq⟩ : ∃ q, j - k = q + 1 := ⟨j - k - 1, by omega⟩
      rw [if_neg e, hq, List.getElem?_cons_succ, List.getElem?_drop]
      congr 2
      omega
/-- The clients' numbers, with one at its place. -/
def putIds (ids : List Int) (id : Int) : List Int := if id ∈ ids then ids else insL (idxL ids id) id ids
theorem putIds_mem (ids : List Int) (id x : Int) : x ∈ putIds ids id ↔ x = id ∨ x ∈ ids := by
  unfold putIds
  split
  · rename_i h
    exact ⟨.inr, fun h' => h'.elim (fun e => by rw [e]; exact h) (fun h => h)⟩
  · exact insL_mem
theorem putIds_up {ids : List Int} (h : ids.Pairwise (· < ·)) (id : Int) : (putIds ids id).Pairwise (· < ·) := by
  unfold putIds
  split
  · exact h
  · rename_i hn
    rw [idxL_bs h]
    exact insL_up h hn
theorem putIds_len (ids : List Int) (id : Int) : (putIds ids id).length = if id ∈ ids then ids.length else ids.length + 1 := by
  unfold putIds
  split
  · rfl
  · exact insL_len (idxL_le _ _)
theorem putIds_get {ids : List Int} (hs : ids.Pairwise (· < ·)) (id : Int) (t : Nat) : (putIds ids id).getD t 0 = if t < idxL ids id then ids.getD t 0 else if t = idxL ids id then id else ids.getD ((if id ∈ ids then idxL ids id + 1 else idxL ids id) + (t - (idxL ids id + 1))) 0 := by
  unfold putIds
  by_cases h : id ∈ ids
  · obtain ⟨h1, h2⟩ := (idxL_mem hs id).1 h
    rw [if_pos h, if_pos h]
    by_cases e1 : t < idxL ids id
    · rw [if_pos e1]
    · rw [if_neg e1]
      by_cases e2 : t = idxL ids id
      · rw [if_pos e2, e2, h2]
      · rw [if_neg e2]
        congr 1
        omega
  · rw [if_neg h, if_neg h, insL_get (idxL_le _ _)]
    by_cases e1 : t < idxL ids id
    · rw [if_pos e1, if_pos e1]
    · rw [if_neg e1, if_neg e1]
      by_cases e2 : t = idxL ids id
      · rw [if_pos e2, if_pos e2]
      · rw [if_neg e2, if_neg e2]
        congr 1
        omega
/-- The rest of a slice. -/
def dropA (a : Option Addr) (cap j sz : Nat) : Option Addr := a.map fun x => ⟨x.block, if cap = j then x.off else x.off + j * sz, none⟩
def AOk (a : Option Addr) (cap : Nat) : Prop := (a = none ∧ cap = 0) ∨ ∃ b off, a = some ⟨b, off, none⟩
theorem Vw.aok {w : World} {a : Option Addr} {n n' cap ty sz : Nat} {F : Nat → List Value} (h : Vw w (.slice a n' cap) ty sz n F) : AOk a cap := by
  obtain ⟨a', cap', h1, h2, h3, h4 | ⟨b', off', h4, h5⟩⟩ := h
  · cases h1; exact .inl h4
  · cases h1; exact .inr ⟨b', off', h4⟩
theorem Vw.dropA {w : World} {a : Option Addr} {n cap ty sz j : Nat} {F : Nat → List Value} (h : Vw w (.slice a n cap) ty sz n F) (hj : j ≤ n) :
    Vw w (.slice (dropA a cap j sz) (n - j) (cap - j)) ty sz (n - j) (fun t => F (j + t)) := by
  rcases h.aok with ⟨rfl, rfl⟩ | ⟨b, off, rfl⟩
  · have := h.len
    refine ⟨none, 0 - j, rfl, by omega, by omega, .inl ⟨rfl, by omega⟩⟩
  · exact h.drop hj
section
variable {E : Env} {n : Nat} {L : Sl} {G : List Ent} {d T : Nat} {pos : String} {e : Array Edge} {g : Option (Nat × Bool)} {x y : Operand}
theorem X.slice_lA {t el len cap j : Nat} {sz : Nat} {kd : IntKind} {a : Option Addr} {ti te : TyI} (ha : AOk a cap) (hc : len ≤ cap) (hx : ev L x = some (.slice a len cap)) (hy : ev L y = some (.int kd (j : Nat))) (hj : j ≤ len) (ht : nth E.T t = some (some ti)) (hd : ti.d = .slice el) (hte : nth E.T el = some (some te)) (hsz : tySize E.T el = some sz) :
    PureOp E n L G ⟨some d, .slice t x (some y) none none, T, pos, e, g⟩ (.slice (dropA a cap j sz) (len - j) (cap - j)) := by
  rcases ha with ⟨rfl, rfl⟩ | ⟨b, off, rfl⟩
  · obtain rfl : len = 0 := by omega
    obtain rfl : j = 0 := by omega
    exact X.slice_l0 hx hy rfl ht hd hte
  · exact X.slice_l hx hy hj ht hd hte hsz
theorem X.slice_hA {t el len cap j : Nat} {kd : IntKind} {a : Option Addr} {ti te : TyI} (hx : ev L x = some (.slice a len cap)) (hy : ev L y = some (.int kd (j : Nat))) (hj : j ≤ cap) (ht : nth E.T t = some (some ti)) (hd : ti.d = .slice el) (hte : nth E.T el = some (some te)) :
    PureOp E n L G ⟨some d, .slice t x none (some y) none, T, pos, e, g⟩ (.slice a j cap) := X.slice_h hx hy hj ht hd hte
end
/-- What is no row of the kind is as it was. -/
def Up (el : Nat) (w w' : World) : Prop := ∀ (b : Nat) (o : Obj), w.heap[b]? = some o → (∀ cs, o ≠ row cs el) → w'.heap[b]? = some o
theorem Up.of {el : Nat} {w w' : World} (h : Fr w w' []) : Up el w w' := fun _ _ ho _ => h.get ho (by simp)
theorem Up.trans {el : Nat} {w w' w'' : World} (h : Up el w w') (h' : Up el w' w'') : Up el w w'' := fun b o ho hn => h' b o (h b o ho hn) hn
theorem Up.row {el t b : Nat} {w w' : World} {cs : List Value} (h : Up el w w') (hb : w.heap[b]? = some (row cs t)) (ht : t ≠ el) : w'.heap[b]? = some (row cs t) := h _ _ hb fun ds hd => by simp at hd; exact ht hd.2
theorem Vw.up {el ty : Nat} {w w' : World} {v : Value} {sz n : Nat} {F : Nat → List Value} (h : Vw w v ty sz n F) (hu : Up el w w') (ht : ty ≠ el) : Vw w' v ty sz n F := by
  obtain ⟨a, cap, h1, h2, h3, h4 | ⟨b, off, h4, h5⟩⟩ := h
  · exact ⟨a, cap, h1, h2, h3, .inl h4⟩
  · refine ⟨a, cap, h1, h2, h3, .inr ⟨b, off, h4, fun hp => ?_⟩⟩
    obtain ⟨cs, h6, h7⟩ := h5 hp
    exact ⟨cs, hu.row h6 ht, h7⟩
theorem Ans.up {el : Nat} {w w' : World} {v : Value} {xs : List Int} (h : Ans w v xs) (hu : Up el w w') (ht : 5 ≠ el) : Ans w' v xs := by
  obtain ⟨a, cap, b, cs, fz, h1, h2, h3, h4, h5⟩ := h
  exact ⟨a, cap, b, cs, fz, h1, h2, h3, fun hp => ⟨(h4 hp).1, hu _ _ (h4 hp).2 fun ds hd => by simp at hd; exact ht hd.2.1⟩, h5⟩
theorem RL.up {el : Nat} {w w' : World} {v : Value} {s : CS} (h : RL w v s) (hu : Up el w w') (h5 : 5 ≠ el) (h96 : 96 ≠ el) : RL w' v s := by
  obtain ⟨bv, h1, h2⟩ := h
  exact ⟨bv, h1.up hu h96, fun j hj => (h2 j hj).up hu h5⟩
section
variable {E : Env} {n : Nat} {L : Sl} {w w0 : World} {S : List Nat} {G G0 G1 : List Ent} {d T : Nat} {pos : String} {e : Array Edge} {g : Option (Nat × Bool)} {x y s : Operand} {QQ : Exit → Act → World → Prop} {Z : Sl → World → Prop}
/-- A list with a block of its own, from the start. -/
theorem Y.appendOwnC {t el sz len m xc b cap : Nat} {cs : List Value} {xa : Option Addr} {ti te : TyI} {olds news : List Value} (h2 : len ≤ cap) (h3 : cap ≤ 9223372036854775807) (h4 : w0.heap.size ≤ b) (h5 : w.heap[b]? = some (row cs el)) (h6 : cs.length = cap * sz) (h7 : Cs cs 0 (len * sz) olds)
    (hs : ev L s = some (.slice (some ⟨b, 0, none⟩) len cap)) (hx : ev L x = some (.slice xa m xc))
    (ht : nth E.T t = some (some ti)) (hd : ti.d = .slice el) (hte : nth E.T el = some (some te)) (hsz : te.size = sz) (hF : Fr w0 w S)
    (hl : news.length = m * sz) (hsrc : Src w xa news) (hz : (cellsL te.zero).length = te.size) (h1 : ∀ v ∈ news, v.oneCell' = true)
    (hb : (len + m) * te.bytes ≤ 140737488355328) (h63 : len + m ≤ 9223372036854775807) (hn : Nat.blt d n = true)
    (next : ∀ b' cap' cs' w', Fr w0 w' S → Up el w w' → Fr w w' [b] → (b' = b ∨ w.heap.size ≤ b') → len + m ≤ cap' → cap' ≤ 9223372036854775807 → w0.heap.size ≤ b' → w'.heap[b']? = some (row cs' el) → cs'.length = cap' * sz → Cs cs' 0 ((len + m) * sz) (olds ++ news) → Z ((d, .slice (some ⟨b', 0, none⟩) (len + m) cap') :: L) w') :
    StepZ E QQ n ⟨some d, .call { callee := .builtin .append, args := #[s, x], argTypes := #[t, t] }, T, pos, e, g⟩ Z L w := by
  subst hsz
  have hol := h7.length
  by_cases hr : len + m ≤ cap
  · have H := (Holds.start w [b]).add true h5 (by simp) (by simp)
    have hfit : len * te.size + news.length ≤ cs.length := by
      rw [hl, h6, ← Nat.add_mul]
      exact Nat.mul_le_mul_right _ hr
    refine Y.append_room hs hx ht hd hte H .head hr (by rw [h6]; omega) hl hsrc h1 hn ?_
    intro w' H'
    refine next b cap _ w' (hF.trans H'.fr (fun _ h => h) (by intro x hx hlt; simp at hx; omega)) (fun c o ho hno => H'.fr.get ho (by simp; rintro rfl; rw [h5] at ho; cases ho; exact hno _ rfl)) H'.fr (.inl rfl) hr h3 h4 (H'.at_ _ (List.mem_cons_self ..)) (by rw [putC_length]; exact h6) ?_
    rw [Nat.zero_add]
    have e1 := h7.apart (us := news) (k := len * te.size) hfit (.inl (by omega))
    have e2 := Cs.put hfit
    rw [Nat.add_mul]
    rw [hl] at e2
    exact e1.append (by simpa using e2)
  · have H := (Holds.start w []).add false h5 (by simp) (by simp)
    refine Y.append_grow hs hx ht hd hte H (by omega) (Src.row H .head h7) hol hl hsrc hz hb h63 hn ?_
    intro b' cap' sp w' H' hbw hc hmx hsp
    refine next b' cap' (olds ++ news ++ sp) w' (hF.trans H'.fr (fun _ h => h) (by simp)) (fun c o ho _ => H'.fr.get ho (by simp)) (H'.fr.mono (by simp)) (.inr hbw) hc hmx (Nat.le_trans hF.size hbw) (H'.at_ _ (List.mem_cons_self ..)) ?_ ?_
    · simp only [List.length_append, hl, hsp, hol]
      rw [← Nat.add_mul, ← Nat.add_mul]
      congr 1
      omega
    · have := Cs.mid [] (olds ++ news) sp
      simpa [hl, hol, Nat.add_mul] using this
end
/-- A client's answers, with one more at its place. -/
def bvM (K : Nat) (bv : Nat → Value) (x : Value) : Nat → Value := fun j => if j < K then bv j else if j = K then x else bv (j - 1)
theorem mid3_ans {K : Nat} {xs : List Int} {bv : Nat → Value} {x : Value} {seq : Int} (hK : K ≤ xs.length) : mid3 K (fun j => [.int .u64 (xs.getD j 0), bv j]) [.int .u64 seq, x] (fun t => [.int .u64 (xs.getD (K + t) 0), bv (K + t)]) = fun j => [Value.int .u64 ((insL K seq xs).getD j 0), bvM K bv x j] := by
  funext j
  rw [insL_get hK]
  unfold mid3 bvM
  by_cases e1 : j < K
  · rw [if_pos e1, if_pos e1, if_pos e1]
  · rw [if_neg e1, if_neg e1, if_neg e1]
    by_cases e2 : j = K
    · rw [if_pos e2, if_pos e2, if_pos e2]
    · rw [if_neg e2, if_neg e2, if_neg e2]
      dsimp only
      rw [show K + (j - (K + 1)) = j - 1 by omega]
theorem bvM_ans {w : World} {s : CS} {seq : Int} {bs : List Int} {bv : Nat → Value} {x : Value} (hup : s.seqs.Pairwise (· < ·)) (hno : seq ∉ s.seqs) (hA : ∀ j, j < s.seqs.length → Ans w (bv j) ((s.ans (s.seqs.getD j 0)).getD [])) (hx : Ans w x bs) (j : Nat) (hj : j < s.seqs.length + 1) :
    Ans w (bvM (idxL s.seqs seq) bv x j) ((updA s.ans seq (some bs) ((insL (idxL s.seqs seq) seq s.seqs).getD j 0)).getD []) := by
  have hK := idxL_le seq s.seqs
  rw [insL_get hK]
  unfold bvM
  have hne : ∀ q, q < s.seqs.length → s.seqs.getD q 0 ≠ seq := fun q hq e => hno (by rw [← e]; simp [hq])
  by_cases e1 : j < idxL s.seqs seq
  · rw [if_pos e1, if_pos e1, updA, if_neg (hne j (by omega))]
    exact hA j (by omega)
  · rw [if_neg e1, if_neg e1]
    by_cases e2 : j = idxL s.seqs seq
    · rw [if_pos e2, if_pos e2, updA, if_pos rfl]
      exact hx
    · rw [if_neg e2, if_neg e2, updA, if_neg (hne (j - 1) (by omega))]
      exact hA (j - 1) (by omega)
end Go.Proofs.Ytaneenahapdabaa
