/- The engine of the proofs, part G: lists that a function builds for itself; cells written over. No statement of the seat is proved here. -/
import Derived.Test.YtaneenahapdabaaEngF
namespace Go.Proofs.Ytaneenahapdabaa
open Go

theorem putC_get : ∀ (vs cs : List Value) (i : Nat), i + vs.length ≤ cs.length → ∀ j, (putC cs i vs)[j]? = if i ≤ j ∧ j < i + vs.length then vs[j - i]? else cs[j]?
  | [], cs, i, _, j => by simp only [putC, List.length_nil, Nat.add_zero]; rw [if_neg (by omega)]
  | v :: vs, cs, i, h, j => by
    simp only [List.length_cons] at h
    show (putC (cs.set i v) (i + 1) vs)[j]? = _
    rw [putC_get vs (cs.set i v) (i + 1) (by simp; omega) j]
    simp only [List.length_cons]
    by_cases h1 : i + 1 ≤ j ∧ j < i + 1 + vs.length
    · rw [if_pos h1, if_pos (by omega)]
      obtain ⟨k, rfl⟩ : ∃ k, j = i + 1 + k := ⟨j - (i + 1), by omega⟩
      rw [show i + 1 + k - (i + 1) = k by omega, show i + 1 + k - i = k + 1 by omega]
      simp
    · rw [if_neg h1]
      by_cases h2 : i = j
      · subst h2
        rw [if_pos (by omega), List.getElem?_set_self (by omega)]
        simp
      · rw [if_neg (by omega)]
        rw [List.getElem?_set_ne h2]
theorem Cs.toGet {cs : List Value} {i n : Nat} {vs : List Value} (h : Cs cs i n vs) {j : Nat} (hj : j < n) : cs[i + j]? = vs[j]? := by
  have hl := h.length
  have h1 : vs[j]? = some (vs[j]'(by omega)) := List.getElem?_eq_getElem _
  rw [h1]
  exact h.get j _ h1
theorem Cs.append {cs : List Value} {i n m : Nat} {vs us : List Value} (h : Cs cs i n vs) (h' : Cs cs (i + n) m us) : Cs cs i (n + m) (vs ++ us) := by
  have hl := h.length
  have hl' := h'.length
  refine Cs.ofGet _ _ _ (by simp; omega) fun j hj => ?_
  by_cases hjn : j < n
  · rw [h.toGet hjn, List.getElem?_append_left (by omega)]
  · rw [List.getElem?_append_right (by omega), hl, ← h'.toGet (by omega)]
    congr 1
    omega
theorem Cs.sub {cs : List Value} {i n : Nat} {vs : List Value} (h : Cs cs i n vs) (a m : Nat) (ham : a + m ≤ n) : Cs cs (i + a) m ((vs.drop a).take m) := by
  have hl := h.length
  refine Cs.ofGet _ _ _ (by simp; omega) fun j hj => ?_
  rw [Nat.add_assoc, h.toGet (by omega)]
  simp [hj]
/-- Behind a writing over: what was written, and what lies apart from it. -/
theorem Cs.put {cs : List Value} {i : Nat} {vs : List Value} (h : i + vs.length ≤ cs.length) : Cs (putC cs i vs) i vs.length vs := by
  refine Cs.ofGet _ _ _ rfl fun j hj => ?_
  rw [putC_get _ _ _ h, if_pos (by omega)]
  congr 1
  omega
theorem Cs.apart {cs us : List Value} {i k n : Nat} {vs : List Value} (h : Cs cs i n vs) (hp : k + us.length ≤ cs.length) (ha : i + n ≤ k ∨ k + us.length ≤ i) : Cs (putC cs k us) i n vs := by
  refine Cs.ofGet _ _ _ h.length fun j hj => ?_
  rw [putC_get _ _ _ hp, if_neg (by omega), h.toGet hj]

theorem Cs.pre {cs us : List Value} {i n k : Nat} {vs : List Value} (h : Cs cs i n vs) (hk : i + n ≤ k) (hl : k ≤ cs.length) : Cs (cs.take k ++ us) i n vs := by
  refine Cs.ofGet _ _ _ h.length fun j hj => ?_
  rw [List.getElem?_append_left (by simp; omega), List.getElem?_take, if_pos (by omega), h.toGet hj]
theorem Fr.grow {w a b : World} {S : List Nat} (h : Fr w a []) (h' : Fr a b S) (hS : ∀ x ∈ S, w.heap.size ≤ x) : Fr w b [] := h.trans h' (by simp) (fun x hx hl => by have := hS x hx; omega)
inductive Flags : List Ent → List Ent → Prop
  | nil : Flags [] []
  | cons {b : Nat} {o : Obj} {m m' : Bool} {G G' : List Ent} (h : Flags G G') : Flags (⟨b, o, m⟩ :: G) (⟨b, o, m'⟩ :: G')
theorem Flags.bs {G G' : List Ent} (h : Flags G G') : G.map (·.b) = G'.map (·.b) := by
  induction h with
  | nil => rfl
  | cons _ ih => simp [ih]
theorem Flags.mem {G G' : List Ent} (h : Flags G G') : ∀ e ∈ G', ∃ e' ∈ G, e'.b = e.b ∧ e'.o = e.o := by
  induction h with
  | nil => simp
  | cons _ ih =>
    intro e he
    rcases List.mem_cons.1 he with rfl | he
    · exact ⟨_, List.mem_cons_self .., rfl, rfl⟩
    · obtain ⟨e', h1, h2⟩ := ih e he
      exact ⟨e', List.mem_cons_of_mem _ h1, h2⟩
/-- From here on, anew. -/
theorem Holds.anew {w0 w : World} {S S' : List Nat} {G G' : List Ent} (H : Holds w0 S w G) (h : Flags G G') (hm : ∀ e ∈ G', e.m = true → e.b ∈ S' ∨ w.heap.size ≤ e.b) : Holds w S' w G' := by
  refine ⟨Fr.refl _ _, fun e he => ?_, ?_, hm⟩
  · obtain ⟨e', h1, h2, h3⟩ := h.mem e he
    rw [← h2, ← h3]
    exact H.at_ e' h1
  · have h1 : (G.map (·.b)).Pairwise (· ≠ ·) := List.pairwise_map.2 H.nd
    rw [h.bs] at h1
    exact List.pairwise_map.1 h1
/-- Ways that meet behind a piece of code: what follows is walked once. -/
theorem Run.meet {P : Program} {f : FuncId} {R : Ending → World → Prop} {n : Nat} {k : List Item} {l : Sl} {w : World} {c : Code} {ds : List Deferred} {α : Type} (live : α → Sl) (J : α → World → Prop) (h : ∀ x w, J x w → Run P f R n k (live x) w ds)
    (go : ∀ kk, (∀ x l w, J x w → Subs l (live x) → Run P f R n kk l w ds) → Run P f R n (.code c :: kk) l w ds) : Run P f R n (.code c :: k) l w ds := go k fun x _ w hj hs => (h x w hj).weak hs
/-- A list that the function builds for itself: nil, or at the head of a block that is newer than z. -/
def Own (w : World) (z el sz : Nat) (v : Value) (n : Nat) (vs : List Value) : Prop :=
  (n = 0 ∧ vs = [] ∧ v = .slice none 0 0) ∨ ∃ b cap cs, v = .slice (some ⟨b, 0, none⟩) n cap ∧ n ≤ cap ∧ cap ≤ 9223372036854775807 ∧ z ≤ b ∧ w.heap[b]? = some (row cs el) ∧ cs.length = cap * sz ∧ Cs cs 0 (n * sz) vs
theorem Own.nil {w : World} {z el sz : Nat} : Own w z el sz (.slice none 0 0) 0 [] := .inl ⟨rfl, rfl, rfl⟩
theorem Own.ext {w w' : World} {z el sz n : Nat} {v : Value} {vs : List Value} (h : Own w z el sz v n vs) (hf : Fr w w' []) : Own w' z el sz v n vs := by
  rcases h with h | ⟨b, cap, cs, h1, h2, h3, h4, h5, h6, h7⟩
  · exact .inl h
  · exact .inr ⟨b, cap, cs, h1, h2, h3, h4, hf.get h5 (by simp), h6, h7⟩
theorem Own.keepS {w w' : World} {z el sz n : Nat} {v : Value} {vs : List Value} {S : List Nat} (h : Own w z el sz v n vs) (hf : Fr w w' S) (hS : ∀ x ∈ S, x < z) : Own w' z el sz v n vs := by
  rcases h with h | ⟨b, cap, cs, h1, h2, h3, h4, h5, h6, h7⟩
  · exact .inl h
  · exact .inr ⟨b, cap, cs, h1, h2, h3, h4, hf.get h5 (fun hb => by have := hS b hb; omega), h6, h7⟩
theorem Own.get {w : World} {z el sz n : Nat} {v : Value} {vs : List Value} (h : Own w z el sz v n vs) (hn : 0 < n) : ∃ b cap cs, v = .slice (some ⟨b, 0, none⟩) n cap ∧ n ≤ cap ∧ cap ≤ 9223372036854775807 ∧ z ≤ b ∧ w.heap[b]? = some (row cs el) ∧ cs.length = cap * sz ∧ Cs cs 0 (n * sz) vs := by
  rcases h with ⟨rfl, _⟩ | h
  · omega
  · exact h
theorem Own.len {w : World} {z el sz n : Nat} {v : Value} {vs : List Value} (h : Own w z el sz v n vs) : vs.length = n * sz := by
  rcases h with ⟨rfl, rfl, _⟩ | ⟨b, cap, cs, h1, h2, h3, h4, h5, h6, h7⟩
  · simp
  · exact h7.length
theorem Own.slice {w : World} {z el sz n : Nat} {v : Value} {vs : List Value} (h : Own w z el sz v n vs) : ∃ a cap, v = .slice a n cap := by
  rcases h with ⟨rfl, rfl, rfl⟩ | ⟨b, cap, cs, rfl, _⟩
  · exact ⟨_, _, rfl⟩
  · exact ⟨_, _, rfl⟩

/-- The blocks of other types are as they were. -/
def KeepT (el : Nat) (w w' : World) : Prop := ∀ (b : Nat) (cs : List Value) (T : Nat), T ≠ el → w.heap[b]? = some (row cs T) → w'.heap[b]? = some (row cs T)
theorem KeepT.of {el : Nat} {w w' : World} (h : Fr w w' []) : KeepT el w w' := fun _ _ _ _ hb => h.get hb (by simp)
theorem KeepT.of1 {el c : Nat} {cs : List Value} {w w' : World} (h : Fr w w' [c]) (hc : w.heap[c]? = some (row cs el)) : KeepT el w w' := fun b ds T hT hb => h.get hb (by
  intro hm
  simp at hm
  subst hm
  rw [hc] at hb
  simp at hb
  exact hT hb.2.symm)
theorem flat_get {sz : Nat} {f : Nat → List Value} (hf : ∀ i, (f i).length = sz) : ∀ (n i j : Nat), i < n → j < sz → ((List.range n).flatMap f)[i * sz + j]? = (f i)[j]?
  | 0, i, j, hi, _ => by omega
  | n + 1, i, j, hi, hj => by
    have hl : ∀ m, ((List.range m).flatMap f).length = m * sz := by
      intro m
      induction m with
      | zero => simp
      | succ m ih => rw [List.range_succ, List.flatMap_append, List.length_append, ih]; simp [hf, Nat.add_mul]
    rw [List.range_succ, List.flatMap_append]
    by_cases h : i < n
    · rw [List.getElem?_append_left (by rw [hl]; have : (i + 1) * sz ≤ n * sz := Nat.mul_le_mul_right _ h; rw [Nat.add_mul] at this; omega)]
      exact flat_get hf n i j h hj
    · obtain rfl : i = n := by omega
      rw [List.getElem?_append_right (by rw [hl]; omega), hl]
      simp
theorem flat_succ {f : Nat → List Value} (n : Nat) : (List.range (n + 1)).flatMap f = (List.range n).flatMap f ++ f n := by
  rw [List.range_succ, List.flatMap_append]
  simp
theorem flat_congr {f g : Nat → List Value} {n : Nat} (h : ∀ i, i < n → f i = g i) : (List.range n).flatMap f = (List.range n).flatMap g := by
  induction n with
  | zero => rfl
  | succ n ih => rw [flat_succ, flat_succ, ih (fun i hi => h i (by omega)), h n (by omega)]
theorem Cs.flat {cs : List Value} {sz n off : Nat} {f : Nat → List Value} (hf : ∀ i, (f i).length = sz) (h : Cs cs off (n * sz) ((List.range n).flatMap f)) {i : Nat} (hi : i < n) : Cs cs (off + i * sz) sz (f i) := by
  refine Cs.ofGet _ _ _ (hf i) fun j hj => ?_
  rw [← flat_get hf n i j hi hj, Nat.add_assoc]
  refine h.toGet ?_
  have : (i + 1) * sz ≤ n * sz := Nat.mul_le_mul_right _ hi
  rw [Nat.add_mul] at this
  omega

section
variable {E : Env} {n : Nat} {L : Sl} {w w0 : World} {S : List Nat} {G G0 G1 : List Ent} {d T : Nat} {pos : String} {e : Array Edge} {g : Option (Nat × Bool)} {x y s : Operand} {QQ : Exit → Act → World → Prop} {Z : Sl → World → Prop}
/-- An index that goes one down. -/
theorem X.pred {t t' j : Nat} (hx : ev L x = some (.int .i64 ((j + 1 : Nat) : Nat))) (hy : ev L y = some (.int .i64 1)) (hj : j < 9223372036854775807) :
    PureOp E n L G ⟨some d, .binOp .sub t x y t', T, pos, e, g⟩ (.int .i64 (j : Nat)) := by
  refine X.arith hx hy (r := (j : Int)) ?_
  simp only [Option.some.injEq]
  rw [show ((j + 1 : Nat) : Int) - 1 = (j : Int) by omega]
  exact IntWalk.i64_in _ (by omega)
def natOf : Int → Option Nat
  | .ofNat n => some n
  | _ => none
theorem natOf_eq {i : Int} {j : Nat} (h : natOf i = some j) : i = (j : Nat) := by
  cases i with
  | ofNat n => simp [natOf] at h; subst h; rfl
  | negSucc n => simp [natOf] at h
/-- Index by a constant. -/
theorem X.indexAddrK {t b off j len cap el sz : Nat} {i : Int} {kd : IntKind} {ti te : TyI} (hx : ev L x = some (.slice (some ⟨b, off, none⟩) len cap)) (hy : ev L y = some (.int kd i)) (hi : natOf i = some j) (hj : j < len) (ht : nth E.T t = some (some ti)) (hd : ti.d = .slice el) (hte : nth E.T el = some (some te)) (hsz : tySize E.T el = some sz) :
    PureOp E n L G ⟨some d, .indexAddr t x y, T, pos, e, g⟩ (.pointer (some ⟨b, off + j * sz, none⟩)) := by
  rw [natOf_eq hi] at hy
  exact X.indexAddr hx hy hj ht hd hte hsz
theorem X.buildO {t : Nat} {fs : List (Nat × Nat)} {ti : TyI} {z : List Value} {ps : List (Nat × Operand)} {cs cs' : List Value} (ht : nth E.T t = some (some ti)) (hd : ti.d = .agg fs) (hz : ti.zero = .agg z.toArray) (hf : fieldsOK E.T fs = true) (hb : bld E.T fs L ps z = some cs) (hc : normL cs = some cs') :
    PureOp E n L G ⟨some d, .build t ps.toArray, T, pos, e, g⟩ (.agg cs'.toArray) := by
  rw [normL_eq] at hc
  cases hc
  exact X.build ht hd hz hf hb
theorem Y.appendOwnS {t el sz len m xc : Nat} {v : Value} {xa : Option Addr} {ti te : TyI} {olds news : List Value} (hO : Own w w0.heap.size el sz v len olds) (hs : ev L s = some v) (hx : ev L x = some (.slice xa m xc))
    (ht : nth E.T t = some (some ti)) (hd : ti.d = .slice el) (hte : nth E.T el = some (some te)) (hsz : te.size = sz) (hF : Fr w0 w S) (hm : 0 < m)
    (hl : news.length = m * te.size) (hsrc : Src w xa news) (hz : (cellsL te.zero).length = te.size) (h1 : news.all Value.oneCell' = true)
    (hb : (len + m) * te.bytes ≤ 140737488355328) (h63 : len + m ≤ 9223372036854775807) (hn : Nat.blt d n = true)
    (next : ∀ v' w', Fr w0 w' S → KeepT el w w' → (∀ b, b < w0.heap.size → w'.heap[b]? = w.heap[b]?) → Own w' w0.heap.size el sz v' (len + m) (olds ++ news) → Z ((d, v') :: L) w') :
    StepZ E QQ n ⟨some d, .call { callee := .builtin .append, args := #[s, x], argTypes := #[t, t] }, T, pos, e, g⟩ Z L w := by
  subst hsz
  have hol := hO.len
  rcases hO with ⟨rfl, rfl, rfl⟩ | ⟨b, cap, cs, rfl, h2, h3, h4, h5, h6, h7⟩
  · refine Y.append_grow (olds := []) hs hx ht hd hte (Holds.start w []) (by omega) Src.nil (by simp) hl hsrc hz hb h63 hn ?_
    intro b cap' sp w' H hbw hc hmx hsp
    refine next _ _ (hF.trans H.fr (fun _ h => h) (by simp)) (KeepT.of H.fr) (fun b hb => H.fr.same b (Nat.lt_of_lt_of_le hb hF.size) (by simp)) (.inr ⟨b, cap', [] ++ news ++ sp, rfl, hc, hmx, Nat.le_trans hF.size hbw, H.at_ _ (List.mem_cons_self ..), ?_, ?_⟩)
    · simp only [List.nil_append, List.length_append, hl, hsp, Nat.zero_add]
      rw [← Nat.add_mul]
      congr 1
      omega
    · simpa [hl] using Cs.mid [] news sp
  · by_cases hr : len + m ≤ cap
    · have H := (Holds.start w [b]).add true h5 (by simp) (by simp)
      have hfit : len * te.size + news.length ≤ cs.length := by
        rw [hl, h6, ← Nat.add_mul]
        exact Nat.mul_le_mul_right _ hr
      refine Y.append_room hs hx ht hd hte H .head hr (by rw [h6]; omega) hl hsrc (by simpa using h1) hn ?_
      intro w' H'
      refine next _ _ (hF.trans H'.fr (fun _ h => h) (by intro x hx hlt; simp at hx; omega)) (KeepT.of1 H'.fr h5) (fun c hc => H'.fr.same c (Nat.lt_of_lt_of_le hc hF.size) (by simp; omega)) (.inr ⟨b, cap, _, rfl, hr, h3, h4, H'.at_ _ (List.mem_cons_self ..), by rw [putC_length]; exact h6, ?_⟩)
      rw [Nat.zero_add]
      have e1 := h7.apart (us := news) (k := len * te.size) hfit (.inl (by omega))
      have e2 := Cs.put hfit
      rw [Nat.add_mul]
      rw [hl] at e2
      exact e1.append (by simpa using e2)
    · have H := (Holds.start w []).add false h5 (by simp) (by simp)
      refine Y.append_grow hs hx ht hd hte H (by omega) (Src.row H .head h7) hol hl hsrc hz hb h63 hn ?_
      intro b' cap' sp w' H' hbw hc hmx hsp
      refine next _ _ (hF.trans H'.fr (fun _ h => h) (by simp)) (KeepT.of H'.fr) (fun b hb => H'.fr.same b (Nat.lt_of_lt_of_le hb hF.size) (by simp)) (.inr ⟨b', cap', olds ++ news ++ sp, rfl, hc, hmx, Nat.le_trans hF.size hbw, H'.at_ _ (List.mem_cons_self ..), ?_, ?_⟩)
      · simp only [List.length_append, hl, hsp, hol]
        rw [← Nat.add_mul, ← Nat.add_mul]
        congr 1
        omega
      · have := Cs.mid [] (olds ++ news) sp
        simpa [hl, hol, Nat.add_mul] using this
theorem Y.appendOwn {t el sz len m xc : Nat} {v : Value} {xa : Option Addr} {ti te : TyI} {olds news : List Value} (hO : Own w w0.heap.size el sz v len olds) (hs : ev L s = some v) (hx : ev L x = some (.slice xa m xc))
    (ht : nth E.T t = some (some ti)) (hd : ti.d = .slice el) (hte : nth E.T el = some (some te)) (hsz : te.size = sz) (hF : Fr w0 w []) (hm : 0 < m)
    (hl : news.length = m * te.size) (hsrc : Src w xa news) (hz : (cellsL te.zero).length = te.size) (h1 : news.all Value.oneCell' = true)
    (hb : (len + m) * te.bytes ≤ 140737488355328) (h63 : len + m ≤ 9223372036854775807) (hn : Nat.blt d n = true)
    (next : ∀ v' w', Fr w0 w' [] → KeepT el w w' → Own w' w0.heap.size el sz v' (len + m) (olds ++ news) → Z ((d, v') :: L) w') :
    StepZ E QQ n ⟨some d, .call { callee := .builtin .append, args := #[s, x], argTypes := #[t, t] }, T, pos, e, g⟩ Z L w :=
  Y.appendOwnS hO hs hx ht hd hte hsz hF hm hl hsrc hz h1 hb h63 hn (fun v' w' h1 h2 _ h4 => next v' w' h1 h2 h4)
/-- A list with a block of its own, from the start. -/
theorem Y.appendOwnB {t el sz len m xc b cap : Nat} {cs : List Value} {xa : Option Addr} {ti te : TyI} {olds news : List Value} (h2 : len ≤ cap) (h3 : cap ≤ 9223372036854775807) (h4 : w0.heap.size ≤ b) (h5 : w.heap[b]? = some (row cs el)) (h6 : cs.length = cap * sz) (h7 : Cs cs 0 (len * sz) olds)
    (hs : ev L s = some (.slice (some ⟨b, 0, none⟩) len cap)) (hx : ev L x = some (.slice xa m xc))
    (ht : nth E.T t = some (some ti)) (hd : ti.d = .slice el) (hte : nth E.T el = some (some te)) (hsz : te.size = sz) (hF : Fr w0 w S)
    (hl : news.length = m * te.size) (hsrc : Src w xa news) (hz : (cellsL te.zero).length = te.size) (h1 : ∀ v ∈ news, v.oneCell' = true)
    (hb : (len + m) * te.bytes ≤ 140737488355328) (h63 : len + m ≤ 9223372036854775807) (hn : Nat.blt d n = true)
    (next : ∀ b' cap' cs' w', Fr w0 w' S → KeepT el w w' → (∀ b, b < w0.heap.size → w'.heap[b]? = w.heap[b]?) → len + m ≤ cap' → cap' ≤ 9223372036854775807 → w0.heap.size ≤ b' → w'.heap[b']? = some (row cs' el) → cs'.length = cap' * sz → Cs cs' 0 ((len + m) * sz) (olds ++ news) → Z ((d, .slice (some ⟨b', 0, none⟩) (len + m) cap') :: L) w') :
    StepZ E QQ n ⟨some d, .call { callee := .builtin .append, args := #[s, x], argTypes := #[t, t] }, T, pos, e, g⟩ Z L w := by
  subst hsz
  have hol := h7.length
  by_cases hr : len + m ≤ cap
  · have H := (Holds.start w [b]).add true h5 (by simp) (by simp)
    have hfit : len * te.size + news.length ≤ cs.length := by
      rw [hl, h6, ← Nat.add_mul]
      exact Nat.mul_le_mul_right _ hr
    refine Y.append_room hs hx ht hd hte H .head hr (by rw [h6]; omega) hl hsrc h1 hn ?_
    intro w' H'
    refine next b cap _ w' (hF.trans H'.fr (fun _ h => h) (by intro x hx hlt; simp at hx; omega)) (KeepT.of1 H'.fr h5) (fun c hc => H'.fr.same c (Nat.lt_of_lt_of_le hc hF.size) (by simp; omega)) hr h3 h4 (H'.at_ _ (List.mem_cons_self ..)) (by rw [putC_length]; exact h6) ?_
    rw [Nat.zero_add]
    have e1 := h7.apart (us := news) (k := len * te.size) hfit (.inl (by omega))
    have e2 := Cs.put hfit
    rw [Nat.add_mul]
    rw [hl] at e2
    exact e1.append (by simpa using e2)
  · have H := (Holds.start w []).add false h5 (by simp) (by simp)
    refine Y.append_grow hs hx ht hd hte H (by omega) (Src.row H .head h7) hol hl hsrc hz hb h63 hn ?_
    intro b' cap' sp w' H' hbw hc hmx hsp
    refine next b' cap' (olds ++ news ++ sp) w' (hF.trans H'.fr (fun _ h => h) (by simp)) (KeepT.of H'.fr) (fun b hb => H'.fr.same b (Nat.lt_of_lt_of_le hb hF.size) (by simp)) hc hmx (Nat.le_trans hF.size hbw) (H'.at_ _ (List.mem_cons_self ..)) ?_ ?_
    · simp only [List.length_append, hl, hsp, hol]
      rw [← Nat.add_mul, ← Nat.add_mul]
      congr 1
      omega
    · have := Cs.mid [] (olds ++ news) sp
      simpa [hl, hol, Nat.add_mul] using this
end
end Go.Proofs.Ytaneenahapdabaa
