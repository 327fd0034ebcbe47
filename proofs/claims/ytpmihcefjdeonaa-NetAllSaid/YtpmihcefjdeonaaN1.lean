/- Lists and bytes in memory; what is appended to them; the library's clones. No statement of the seat is proved here. -/
import Derived.Test.YtpmihcefjdeonaaK1
import Derived.Test.YtpmihcefjdeonaaEngI
namespace Go.Proofs.Ytpmihcefjdeonaa
open Go
set_option maxRecDepth 20000
set_option maxHeartbeats 2000000
attribute [local irreducible] Run Ops Fn Draw Draw2 PureOp StepZ

abbrev u8s (xs : List Int) : List Value := xs.map (Value.int .u8)
theorem ne_of_ty {w : World} {b b' t t' : Nat} {cs cs' : List Value} (h : w.heap[b]? = some (row cs t)) (h' : w.heap[b']? = some (row cs' t')) (ht : t ≠ t') : b ≠ b' := by
  intro e
  subst e
  rw [h] at h'
  simp at h'
  exact ht h'.2
theorem ne_of_map {w : World} {b b' t k : Nat} {cs : List Value} {es : Array MapEntry} (h : w.heap[b]? = some (row cs t)) (h' : w.heap[b']? = some (.map es k)) : b ≠ b' := by
  intro e
  subst e
  rw [h] at h'
  cases h'
theorem Fr.drop1 {a b : World} {x : Nat} (h : Fr a b [x]) (hx : b.heap[x]? = a.heap[x]?) : Fr a b [] := ⟨h.os, h.tape, h.output, h.size, fun y hy _ => by
  by_cases e : y = x
  · subst e; exact hx
  · exact h.same y hy (by simpa using e)⟩
theorem u8s_one (xs : List Int) : (u8s xs).all Value.oneCell' = true := by
  rw [List.all_eq_true]
  intro v hv
  obtain ⟨x, _, rfl⟩ := List.mem_map.1 hv
  rfl
/-- A slice of bytes. -/
def Bys (w : World) (v : Value) (xs : List Int) : Prop :=
  ∃ a cap b off cs T fz, v = .slice a xs.length cap ∧ xs.length ≤ cap ∧ cap ≤ 9223372036854775807 ∧ (0 < xs.length → a = some ⟨b, off, none⟩ ∧ w.heap[b]? = some (.cells (List.toArray cs) T fz)) ∧ Cs cs off xs.length (u8s xs)
theorem Bys.src {w : World} {xa : Option Addr} {m xc : Nat} {xs : List Int} (h : Bys w (.slice xa m xc) xs) : Src w xa (u8s xs) := by
  obtain ⟨a, cap, b, off, cs, T, fz, e, h2, h3, h4, h5⟩ := h
  cases e
  intro j v hj
  have hj' : j < xs.length := by simpa using (List.getElem?_eq_some_iff.1 hj).1
  obtain ⟨rfl, h6⟩ := h4 (by omega)
  exact ⟨_, rfl, by rw [Addr.add_lit]; exact (cell_cells h6).trans (h5.get j v hj)⟩
theorem Bys.keep {w w' : World} {S : List Nat} {v : Value} {xs : List Int} (h : Bys w v xs) (hf : Fr w w' S) (hS : ∀ b ∈ S, ∀ a n c, v = .slice (some a) n c → a.block ≠ b) : Bys w' v xs := by
  obtain ⟨a, cap, b, off, cs, T, fz, rfl, h2, h3, h4, h5⟩ := h
  exact ⟨a, cap, b, off, cs, T, fz, rfl, h2, h3, fun hp => ⟨(h4 hp).1, hf.get (h4 hp).2 (fun hm => by obtain ⟨rfl, _⟩ := h4 hp; exact hS b hm _ _ _ rfl rfl)⟩, h5⟩
theorem Bys.ext {w w' : World} {v : Value} {xs : List Int} (h : Bys w v xs) (hf : Fr w w' []) : Bys w' v xs := h.keep hf (by simp)
theorem not5 {w : World} {b T : Nat} {cs : List Value} (h : w.heap[b]? = some (row cs T)) (hT : T ≠ 5) : ∀ cs', w.heap[b]? ≠ some (row cs' 5) := fun cs' h' => by
  rw [h] at h'
  simp at h'
  exact hT h'.2
/-- A list in memory: in no block, or in a block of its kind. -/
def Lst (w : World) (v : Value) (ob : Option Nat) (el sz n : Nat) (vs : List Value) : Prop :=
  match ob with
  | none => n = 0 ∧ vs = [] ∧ ∃ a, v = .slice a 0 0
  | some b => ∃ off cap cs, v = .slice (some ⟨b, off, none⟩) n cap ∧ n ≤ cap ∧ cap ≤ 9223372036854775807 ∧ w.heap[b]? = some (row cs el) ∧ off + cap * sz ≤ cs.length ∧ Cs cs off (n * sz) vs
theorem Lst.keep {w w' : World} {S : List Nat} {v : Value} {ob : Option Nat} {el sz n : Nat} {vs : List Value} (h : Lst w v ob el sz n vs) (hf : Fr w w' S) (hS : ∀ b, ob = some b → b ∉ S) : Lst w' v ob el sz n vs := by
  cases ob with
  | none => exact h
  | some b =>
    obtain ⟨off, cap, cs, h1, h2, h3, h4, h5⟩ := h
    exact ⟨off, cap, cs, h1, h2, h3, hf.get h4 (hS b rfl), h5⟩
theorem Lst.ext {w w' : World} {v : Value} {ob : Option Nat} {el sz n : Nat} {vs : List Value} (h : Lst w v ob el sz n vs) (hf : Fr w w' []) : Lst w' v ob el sz n vs := h.keep hf (by simp)
theorem Lst.nil {w : World} {el sz : Nat} : Lst w (.slice none 0 0) none el sz 0 [] := ⟨rfl, rfl, none, rfl⟩
theorem Lst.ty {w : World} {v : Value} {b el sz n : Nat} {vs : List Value} (h : Lst w v (some b) el sz n vs) : ∃ cs, w.heap[b]? = some (row cs el) := by
  obtain ⟨off, cap, cs, h1, h2, h3, h4, h5⟩ := h
  exact ⟨cs, h4⟩
theorem Lst.lt {w : World} {v : Value} {ob : Option Nat} {b el sz n : Nat} {vs : List Value} (h : Lst w v ob el sz n vs) (hb : ob = some b) : b < w.heap.size := by
  subst hb
  obtain ⟨cs, h4⟩ := h.ty
  exact lt_of_at h4
theorem Lst.slice {w : World} {v : Value} {ob : Option Nat} {el sz n : Nat} {vs : List Value} (h : Lst w v ob el sz n vs) : ∃ a cap, v = .slice a n cap ∧ n ≤ cap := by
  cases ob with
  | none => obtain ⟨rfl, _, a, rfl⟩ := h; exact ⟨a, 0, rfl, Nat.le_refl _⟩
  | some b => obtain ⟨off, cap, cs, h1, h2, _⟩ := h; exact ⟨_, cap, h1, h2⟩
theorem Lst.src {w : World} {xa : Option Addr} {m xc : Nat} {ob : Option Nat} {el sz n : Nat} {vs : List Value} (h : Lst w (.slice xa m xc) ob el sz n vs) : Src w xa vs := by
  cases ob with
  | none => obtain ⟨_, rfl, _⟩ := h; exact Src.nil
  | some b =>
    obtain ⟨off, cap, cs, e, h2, h3, h4, h5, h6⟩ := h
    cases e
    intro j v hj
    exact ⟨_, rfl, by rw [Addr.add_lit]; exact (cell_cells h4).trans (h6.get j v hj)⟩
theorem Lst.len {w : World} {v : Value} {ob : Option Nat} {el sz n : Nat} {vs : List Value} (h : Lst w v ob el sz n vs) : vs.length = n * sz := by
  cases ob with
  | none => obtain ⟨rfl, rfl, _⟩ := h; simp
  | some b => obtain ⟨off, cap, cs, e, h2, h3, h4, h5, h6⟩ := h; exact h6.length
/-- The head of a list. -/
theorem Lst.pos {w : World} {v : Value} {ob : Option Nat} {el sz n : Nat} {vs : List Value} (h : Lst w v ob el sz n vs) (hn : 0 < n) : ∃ b off cap cs, ob = some b ∧ v = .slice (some ⟨b, off, none⟩) n cap ∧ n ≤ cap ∧ cap ≤ 9223372036854775807 ∧ w.heap[b]? = some (row cs el) ∧ off + cap * sz ≤ cs.length ∧ Cs cs off (n * sz) vs := by
  cases ob with
  | none => obtain ⟨rfl, _⟩ := h; omega
  | some b => obtain ⟨off, cap, cs, h⟩ := h; exact ⟨b, off, cap, cs, rfl, h⟩
/-- Bytes in a block of their own (or none). -/
def Bts (w : World) (v : Value) (xs : List Int) : Prop :=
  ∃ a cap b off cs, v = .slice a xs.length cap ∧ xs.length ≤ cap ∧ cap ≤ 9223372036854775807 ∧ (0 < cap → a = some ⟨b, off, none⟩ ∧ w.heap[b]? = some (row cs 5) ∧ off + cap ≤ cs.length ∧ Cs cs off xs.length (u8s xs))
/-- The block of a slice that has room. -/
def blkV : Value → Option Nat
  | .slice (some a) _ cap => if cap = 0 then none else some a.block
  | _ => none
theorem Bts.keep {w w' : World} {S : List Nat} {v : Value} {xs : List Int} (h : Bts w v xs) (hf : Fr w w' S) (hS : ∀ b, blkV v = some b → b ∉ S) : Bts w' v xs := by
  obtain ⟨a, cap, b, off, cs, rfl, h2, h3, h4⟩ := h
  refine ⟨a, cap, b, off, cs, rfl, h2, h3, fun hp => ?_⟩
  obtain ⟨rfl, h5, h6⟩ := h4 hp
  exact ⟨rfl, hf.get h5 (hS b (by simp [blkV]; omega)), h6⟩
theorem Bts.ext {w w' : World} {v : Value} {xs : List Int} (h : Bts w v xs) (hf : Fr w w' []) : Bts w' v xs := h.keep hf (by simp)
theorem Bts.ty {w : World} {v : Value} {xs : List Int} {b : Nat} (h : Bts w v xs) (hb : blkV v = some b) : ∃ cs, w.heap[b]? = some (row cs 5) := by
  obtain ⟨a, cap, b', off, cs, rfl, h2, h3, h4⟩ := h
  cases a with
  | none => cases hb
  | some a =>
    by_cases h0 : cap = 0
    · simp [blkV, h0] at hb
    · obtain ⟨e, h5, _⟩ := h4 (by omega)
      cases e
      simp [blkV, h0] at hb
      subst hb
      exact ⟨cs, h5⟩
theorem Bts.lt {w : World} {v : Value} {xs : List Int} {b : Nat} (h : Bts w v xs) (hb : blkV v = some b) : b < w.heap.size := by
  obtain ⟨cs, hc⟩ := h.ty hb
  exact lt_of_at hc
theorem Bts.keepT {w w' : World} {S : List Nat} {v : Value} {xs : List Int} (h : Bts w v xs) (hf : Fr w w' S) (hS : ∀ b ∈ S, ∀ cs, w.heap[b]? ≠ some (row cs 5)) : Bts w' v xs := h.keep hf (fun b hb hm => by obtain ⟨cs, hc⟩ := h.ty hb; exact hS b hm cs hc)
theorem Bts.bys {w : World} {v : Value} {xs : List Int} (h : Bts w v xs) : Bys w v xs := by
  obtain ⟨a, cap, b, off, cs, rfl, h2, h3, h4⟩ := h
  by_cases h0 : 0 < cap
  · obtain ⟨rfl, h5, h6, h7⟩ := h4 h0
    exact ⟨_, cap, b, off, cs, 5, (0, 0), rfl, h2, h3, fun _ => ⟨rfl, h5⟩, h7⟩
  · have hx : xs = [] := List.eq_nil_of_length_eq_zero (by omega)
    subst hx
    exact ⟨a, cap, 0, 0, [], 0, (0, 0), rfl, h2, h3, fun h => absurd h (Nat.lt_irrefl 0), .nil⟩
theorem Bts.slice {w : World} {v : Value} {xs : List Int} (h : Bts w v xs) : ∃ a cap, v = .slice a xs.length cap := by
  obtain ⟨a, cap, _, _, _, h1, _⟩ := h
  exact ⟨a, cap, h1⟩
theorem Bts.nil {w : World} {a : Option Addr} : Bts w (.slice a 0 0) [] := ⟨a, 0, 0, 0, [], rfl, by simp, by omega, fun h => absurd h (Nat.lt_irrefl 0)⟩
theorem Bts.one {w : World} {v : Value} {xs : List Int} (h : Bts w v xs) : v.oneCell' = true := by
  obtain ⟨a, cap, rfl⟩ := h.slice
  rfl

theorem Holds.extF {w0 w w' : World} {S S' : List Nat} {G : List Ent} (H : Holds w0 S w G) (hf : Fr w w' S') (hS : ∀ x ∈ S', x ∈ S ∨ w0.heap.size ≤ x) (hG : ∀ e ∈ G, e.b ∉ S') : Holds w0 S w' G :=
  ⟨H.fr.trans hf (fun _ h => h) (fun x hx hl => (hS x hx).resolve_right (by omega)), fun e he => hf.get (H.at_ e he) (hG e he), H.nd, H.wr⟩
theorem Holds.ltG {w0 w : World} {S : List Nat} {G : List Ent} (H : Holds w0 S w G) : ∀ e ∈ G, e.b < w.heap.size := fun e he => lt_of_at (H.at_ e he)
section
variable {E : Env} {n : Nat} {L : Sl} {w w0 : World} {S : List Nat} {G G0 G1 : List Ent} {d T : Nat} {pos : String} {e : Array Edge} {g : Option (Nat × Bool)} {x y s : Operand} {QQ : Exit → Act → World → Prop} {Z : Sl → World → Prop}
theorem Holds.drop0 {b : Nat} {o : Obj} {m : Bool} (H : Holds w0 S w G) (hp : Pick G b o m G0) : Holds w0 S w G0 := (H.perm hp.perm).tail
/-- What is appended to a list. -/
theorem Y.push {t el sz len m xc : Nat} {v : Value} {ob : Option Nat} {xa : Option Addr} {ti te : TyI} {olds news : List Value} (hL : Lst w v ob el sz len olds) (hs : ev L s = some v) (hx : ev L x = some (.slice xa m xc))
    (ht : nth E.T t = some (some ti)) (hd : ti.d = .slice el) (hte : nth E.T el = some (some te)) (hsz : te.size = sz) (H : Holds w0 S w G) (hG : ∀ b, ob = some b → ∀ e ∈ G, b ≠ e.b) (hm : 0 < m)
    (hl : news.length = m * te.size) (hsrc : Src w xa news) (hz : (cellsL te.zero).length = te.size) (h1 : news.all Value.oneCell' = true)
    (hb : (len + m) * te.bytes ≤ 140737488355328) (h63 : len + m ≤ 9223372036854775807) (hn : Nat.blt d n = true)
    (next : ∀ b' off' cap' cs' w', Holds w0 (ob.toList ++ S) w' (⟨b', row cs' el, true⟩ :: G) → len + m ≤ cap' → cap' ≤ 9223372036854775807 → off' + cap' * sz ≤ cs'.length → Cs cs' off' ((len + m) * sz) (olds ++ news) → (ob = some b' ∨ w.heap.size ≤ b') → Z ((d, .slice (some ⟨b', off', none⟩) (len + m) cap') :: L) w') :
    StepZ E QQ n ⟨some d, .call { callee := .builtin .append, args := #[s, x], argTypes := #[t, t] }, T, pos, e, g⟩ Z L w := by
  subst hsz
  have hol := hL.len
  have hlt : ∀ e ∈ G, e.b < w.heap.size := fun e he => lt_of_at (H.at_ e he)
  have hgrow : ∀ {b' : Nat} {w' : World} {cs' : List Value} {S' : List Nat}, Fr w w' [] → w'.heap[b']? = some (row cs' el) → w.heap.size ≤ b' → Holds w0 (S' ++ S) w' (⟨b', row cs' el, true⟩ :: G) := fun {b' w' cs' S'} hf hb hw => by
    have H1 := H.ext hf
    have H2 : Holds w0 (S' ++ S) w' G := ⟨H1.fr.mono (fun x hx _ => List.mem_append_right _ hx), H1.at_, H1.nd, fun e he hm => (H1.wr e he hm).imp (fun h => List.mem_append_right _ h) (fun h => h)⟩
    exact H2.add true hb (fun e he => by have := hlt e he; omega) (fun _ => .inr (Nat.le_trans H.fr.size hw))
  cases ob with
  | none =>
    obtain ⟨rfl, rfl, a, rfl⟩ := hL
    refine Y.append_grow (olds := []) hs hx ht hd hte (Holds.start w []) (by omega) Src.nil (by simp) hl hsrc hz hb h63 hn ?_
    intro b' cap' sp w' H' hbw hc hmx hsp
    refine next b' 0 cap' _ w' (hgrow H'.fr (H'.at_ _ (List.mem_cons_self ..)) hbw) hc hmx ?_ ?_ (.inr hbw)
    · simp only [List.nil_append, List.length_append, hl, hsp, Nat.zero_add]
      rw [← Nat.add_mul, show m + (cap' - m) = cap' by omega]
      exact Nat.le_refl _
    · simpa [hl] using Cs.mid [] news sp
  | some b =>
    obtain ⟨off, cap, cs, rfl, h2, h3, h4, h5, h6⟩ := hL
    have hG1 := hG b rfl
    by_cases hr : len + m ≤ cap
    · have H2 := (Holds.start w [b]).add true h4 (by simp) (by simp)
      have hfit : off + len * te.size + news.length ≤ cs.length := by
        rw [hl, Nat.add_assoc, ← Nat.add_mul]
        exact Nat.le_trans (Nat.add_le_add_left (Nat.mul_le_mul_right _ hr) _) h5
      refine Y.append_room hs hx ht hd hte H2 .head hr h5 hl hsrc (by simpa using h1) hn ?_
      intro w' H'
      have H3 : Holds w0 ((some b).toList ++ S) w' G := ⟨H.fr.trans H'.fr (fun _ h => by simp [h]) (fun c hc _ => by simpa using .inl (by simpa using hc)), fun e he => H'.fr.get (H.at_ e he) (by simpa using fun h => hG1 e he h.symm), H.nd, fun e he hm => (H.wr e he hm).imp (fun h => by simp [h]) (fun h => h)⟩
      refine next b off cap _ w' (H3.add true (H'.at_ _ (List.mem_cons_self ..)) hG1 (fun _ => .inl (by simp))) hr h3 (by rw [putC_length]; exact h5) ?_ (.inl rfl)
      have e1 := h6.apart (us := news) (k := off + len * te.size) hfit (.inl (Nat.le_refl _))
      have e2 := Cs.put hfit
      rw [hl] at e2
      rw [Nat.add_mul]
      exact e1.append e2
    · have H2 := (Holds.start w []).add false h4 (by simp) (by simp)
      refine Y.append_grow hs hx ht hd hte H2 (by omega) (Src.row H2 .head h6) hol hl hsrc hz hb h63 hn ?_
      intro b' cap' sp w' H' hbw hc hmx hsp
      refine next b' 0 cap' _ w' (hgrow H'.fr (H'.at_ _ (List.mem_cons_self ..)) hbw) hc hmx ?_ ?_ (.inr hbw)
      · simp only [List.length_append, hl, hsp, hol, Nat.zero_add]
        rw [← Nat.add_mul, ← Nat.add_mul, show len + m + (cap' - (len + m)) = cap' by omega]
        exact Nat.le_refl _
      · have := Cs.mid [] (olds ++ news) sp
        simpa [hl, hol, Nat.add_mul] using this
/-- A list put behind an empty literal. -/
theorem Y.copyOf2 {t el sz m xc b0 : Nat} {xa : Option Addr} {ti te : TyI} {news : List Value} (hs : ev L s = some (.slice (some ⟨b0, 0, none⟩) 0 0)) (hx : ev L x = some (.slice xa m xc))
    (ht : nth E.T t = some (some ti)) (hd : ti.d = .slice el) (hte : nth E.T el = some (some te)) (hsz : te.size = sz) (H : Holds w0 S w G) (hp : Pick G b0 (row [] el) true G0) (hnew : w0.heap.size ≤ b0)
    (hl : news.length = m * te.size) (hsrc : Src w xa news) (hz : (cellsL te.zero).length = te.size)
    (hb : m * te.bytes ≤ 140737488355328) (h63 : m ≤ 9223372036854775807) (hn : Nat.blt d n = true)
    (next : ∀ v' b' w', Holds w0 S w' G0 → Fr w w' [] → Lst w' v' (some b') el sz m news → w0.heap.size ≤ b' → (b' = b0 ∨ w.heap.size ≤ b') → Z ((d, v') :: L) w') :
    StepZ E QQ n ⟨some d, .call { callee := .builtin .append, args := #[s, x], argTypes := #[t, t] }, T, pos, e, g⟩ Z L w := by
  subst hsz
  have hb0 := H.pick hp
  by_cases hm : 0 < m
  · refine Y.append_grow (olds := []) hs hx ht hd hte (Holds.start w []) (by omega) Src.nil (by simp) hl hsrc hz (by simpa using hb) (by omega) hn ?_
    intro b' cap' sp w' H' hbw hc hmx hsp
    rw [Nat.zero_add] at *
    refine next _ b' w' ((H.drop0 hp).ext H'.fr) H'.fr ⟨0, cap', _, rfl, hc, hmx, H'.at_ _ (List.mem_cons_self ..), ?_, ?_⟩ (Nat.le_trans H.fr.size hbw) (.inr hbw)
    · simp only [List.nil_append, List.length_append, hl, hsp, Nat.zero_add]
      rw [← Nat.add_mul, show m + (cap' - m) = cap' by omega]
      exact Nat.le_refl _
    · simpa [hl] using Cs.mid [] news sp
  · obtain rfl : m = 0 := by omega
    have hnn : news = [] := List.eq_nil_of_length_eq_zero (by simpa using hl)
    subst hnn
    refine Y.append_room (news := []) hs hx ht hd hte ((Holds.start w [b0]).add true hb0 (by simp) (by simp)) .head (by simp) (by simp) (by simp) Src.nil (by simp) hn ?_
    intro w' H'
    have hF : Fr w w' [] := by
      refine ⟨H'.fr.os, H'.fr.tape, H'.fr.output, H'.fr.size, fun b hb _ => ?_⟩
      by_cases e : b = b0
      · subst e
        rw [hb0]
        simpa [putC] using H'.at_ _ (List.mem_cons_self ..)
      · exact H'.fr.same b hb (by simpa using e)
    refine next _ b0 w' ((H.drop0 hp).ext hF) hF ⟨0, 0, [], rfl, by simp, by simp, by simpa [putC] using H'.at_ _ (List.mem_cons_self ..), by simp, ?_⟩ hnew (.inl rfl)
    simpa using Cs.nil
theorem Y.copyOf {t el sz m xc b0 : Nat} {xa : Option Addr} {ti te : TyI} {news : List Value} (hs : ev L s = some (.slice (some ⟨b0, 0, none⟩) 0 0)) (hx : ev L x = some (.slice xa m xc))
    (ht : nth E.T t = some (some ti)) (hd : ti.d = .slice el) (hte : nth E.T el = some (some te)) (hsz : te.size = sz) (H : Holds w0 S w G) (hp : Pick G b0 (row [] el) true G0) (hnew : w0.heap.size ≤ b0)
    (hl : news.length = m * te.size) (hsrc : Src w xa news) (hz : (cellsL te.zero).length = te.size)
    (hb : m * te.bytes ≤ 140737488355328) (h63 : m ≤ 9223372036854775807) (hn : Nat.blt d n = true)
    (next : ∀ v' b' w', Holds w0 S w' G0 → Fr w w' [] → Lst w' v' (some b') el sz m news → w0.heap.size ≤ b' → Z ((d, v') :: L) w') :
    StepZ E QQ n ⟨some d, .call { callee := .builtin .append, args := #[s, x], argTypes := #[t, t] }, T, pos, e, g⟩ Z L w :=
  Y.copyOf2 hs hx ht hd hte hsz H hp hnew hl hsrc hz hb h63 hn (fun v' b' w' h1 h2 h3 h4 _ => next v' b' w' h1 h2 h3 h4)
end
theorem pclone_any (z : World) (v : Value) (ob : Option Nat) (n : Nat) (vs : List Value) (hv : Lst z v ob 81 6 n vs) (hb : n * 64 ≤ 140737488355328) :
    Fn env.P 44 [v] z fun r w' => Fr z w' [] ∧ ∃ ob', Lst w' r ob' 81 6 n vs ∧ ∀ b, ob' = some b → z.heap.size ≤ b := by
  have hv' := hv
  have hlen := hv.len
  obtain ⟨a, cap, rfl, hnc⟩ := hv.slice
  have H := Holds.start z []
  cases a with
  | none =>
    have h0 : n = 0 ∧ vs = [] := by
      cases ob with
      | none => exact ⟨hv.1, hv.2.1⟩
      | some b => obtain ⟨_, _, _, e, _⟩ := hv; cases e
    obtain ⟨rfl, rfl⟩ := h0
    have HF := Try.func44; refine Fn.enter Try.func44 Try.ntmps44 rfl rfl rfl ?_
    refine Run.seq ?_
    (refine Run.region ?_; intro K hK)
    refine Ops.pure H (X.assign rfl) rfl rfl rfl ?_
    (refine Ops.nil (hK _ _ ?_); clear hK K)
    refine Run.seq ?_
    refine Run.seq ?_
    (refine Run.region ?_; intro K hK)
    refine Ops.pure H (X.move rfl) rfl rfl rfl ?_
    refine Ops.pure H (X.sliceNil rfl rfl rfl rfl rfl) rfl rfl rfl ?_
    (refine Ops.nil (hK _ _ ?_); clear hK K)
    refine Run.cond_true rfl ?_
    refine Run.seq ?_
    (refine Run.region ?_; intro K hK)
    refine Ops.pure H (X.assign rfl) rfl rfl rfl ?_
    (refine Ops.nil (hK _ _ ?_); clear hK K)
    (first | refine Fn.ret1 HF rfl rfl ?_ | refine Fn.ret2 HF rfl rfl rfl ?_ | refine Fn.ret3 HF rfl rfl rfl rfl ?_ | refine Fn.ret0 HF rfl ?_ | refine Fn.fin0 HF rfl ?_ | refine Fn.retG (E := env) HF rfl H (by first | exact RVs.cellN rfl rfl rfl (by first | exact .head | exact .tail .head | exact .tail (.tail .head) | exact .tail (.tail (.tail .head)) | exact .tail (.tail (.tail (.tail .head))) | exact .tail (.tail (.tail (.tail (.tail .head)))) | exact .tail (.tail (.tail (.tail (.tail (.tail .head)))))) (by first | assumption | exact Cs.take rfl) RVs.nil | exact RVs.cellN rfl rfl rfl (by first | exact .head | exact .tail .head | exact .tail (.tail .head) | exact .tail (.tail (.tail .head)) | exact .tail (.tail (.tail (.tail .head))) | exact .tail (.tail (.tail (.tail (.tail .head)))) | exact .tail (.tail (.tail (.tail (.tail (.tail .head)))))) (by first | assumption | exact Cs.take rfl) (RVs.tmp rfl RVs.nil) | exact RVs.cellN rfl rfl rfl (by first | exact .head | exact .tail .head | exact .tail (.tail .head) | exact .tail (.tail (.tail .head)) | exact .tail (.tail (.tail (.tail .head))) | exact .tail (.tail (.tail (.tail (.tail .head)))) | exact .tail (.tail (.tail (.tail (.tail (.tail .head)))))) (by first | assumption | exact Cs.take rfl) (RVs.tmp rfl (RVs.tmp rfl RVs.nil))) rfl ?_)
    exact ⟨H.fr, none, Lst.nil, by simp⟩
  | some a =>
    have HF := Try.func44; refine Fn.enter Try.func44 Try.ntmps44 rfl rfl rfl ?_
    refine Run.seq ?_
    (refine Run.region ?_; intro K hK)
    refine Ops.pure H (X.assign rfl) rfl rfl rfl ?_
    (refine Ops.nil (hK _ _ ?_); clear hK K)
    refine Run.seq ?_
    refine Run.seq ?_
    (refine Run.region ?_; intro K hK)
    refine Ops.pure H (X.move rfl) rfl rfl rfl ?_
    refine Ops.pure H (X.sliceNil rfl rfl rfl rfl rfl) rfl rfl rfl ?_
    (refine Ops.nil (hK _ _ ?_); clear hK K)
    refine Run.cond_false rfl ?_
    refine Run.skip ?_
    refine Run.seq ?_
    (refine Run.region ?_; intro K hK)
    (refine Ops.eff rfl (Y.buildSliceO rfl rfl rfl rfl rfl rfl rfl rfl H ?_); intro b5 w H0 hb5; clear H; have H := H0; clear H0)
    refine Ops.pure H (X.move rfl) rfl rfl rfl ?_
    refine Ops.eff rfl (Y.copyOf (news := vs) rfl rfl rfl rfl rfl rfl H .head hb5 hlen ((hv'.ext H.fr).src) rfl (by dsimp only; omega) (by omega) rfl ?_)
    intro v' b' w H hF hL hb'
    refine Ops.pure H (X.assign rfl) rfl rfl rfl ?_
    (refine Ops.nil (hK _ _ ?_); clear hK K)
    (first | refine Fn.ret1 HF rfl rfl ?_ | refine Fn.ret2 HF rfl rfl rfl ?_ | refine Fn.ret3 HF rfl rfl rfl rfl ?_ | refine Fn.ret0 HF rfl ?_ | refine Fn.fin0 HF rfl ?_ | refine Fn.retG (E := env) HF rfl H (by first | exact RVs.cellN rfl rfl rfl (by first | exact .head | exact .tail .head | exact .tail (.tail .head) | exact .tail (.tail (.tail .head)) | exact .tail (.tail (.tail (.tail .head))) | exact .tail (.tail (.tail (.tail (.tail .head)))) | exact .tail (.tail (.tail (.tail (.tail (.tail .head)))))) (by first | assumption | exact Cs.take rfl) RVs.nil | exact RVs.cellN rfl rfl rfl (by first | exact .head | exact .tail .head | exact .tail (.tail .head) | exact .tail (.tail (.tail .head)) | exact .tail (.tail (.tail (.tail .head))) | exact .tail (.tail (.tail (.tail (.tail .head)))) | exact .tail (.tail (.tail (.tail (.tail (.tail .head)))))) (by first | assumption | exact Cs.take rfl) (RVs.tmp rfl RVs.nil) | exact RVs.cellN rfl rfl rfl (by first | exact .head | exact .tail .head | exact .tail (.tail .head) | exact .tail (.tail (.tail .head)) | exact .tail (.tail (.tail (.tail .head))) | exact .tail (.tail (.tail (.tail (.tail .head)))) | exact .tail (.tail (.tail (.tail (.tail (.tail .head)))))) (by first | assumption | exact Cs.take rfl) (RVs.tmp rfl (RVs.tmp rfl RVs.nil))) rfl ?_)
    have := H.fr.size
    exact ⟨H.fr, some b', hL, fun b hb => by cases hb; omega⟩
theorem uclone_any (z : World) (v : Value) (ob : Option Nat) (n : Nat) (vs : List Value) (hv : Lst z v ob 4 1 n vs) (hb : n * 1 ≤ 140737488355328) :
    Fn env.P 51 [v] z fun r w' => Fr z w' [] ∧ ∃ ob', Lst w' r ob' 4 1 n vs ∧ ∀ b, ob' = some b → z.heap.size ≤ b := by
  have hv' := hv
  have hlen := hv.len
  obtain ⟨a, cap, rfl, hnc⟩ := hv.slice
  have H := Holds.start z []
  cases a with
  | none =>
    have h0 : n = 0 ∧ vs = [] := by
      cases ob with
      | none => exact ⟨hv.1, hv.2.1⟩
      | some b => obtain ⟨_, _, _, e, _⟩ := hv; cases e
    obtain ⟨rfl, rfl⟩ := h0
    have HF := Try.func51; refine Fn.enter Try.func51 Try.ntmps51 rfl rfl rfl ?_
    refine Run.seq ?_
    (refine Run.region ?_; intro K hK)
    refine Ops.pure H (X.assign rfl) rfl rfl rfl ?_
    (refine Ops.nil (hK _ _ ?_); clear hK K)
    refine Run.seq ?_
    refine Run.seq ?_
    (refine Run.region ?_; intro K hK)
    refine Ops.pure H (X.move rfl) rfl rfl rfl ?_
    refine Ops.pure H (X.sliceNil rfl rfl rfl rfl rfl) rfl rfl rfl ?_
    (refine Ops.nil (hK _ _ ?_); clear hK K)
    refine Run.cond_true rfl ?_
    refine Run.seq ?_
    (refine Run.region ?_; intro K hK)
    refine Ops.pure H (X.assign rfl) rfl rfl rfl ?_
    (refine Ops.nil (hK _ _ ?_); clear hK K)
    (first | refine Fn.ret1 HF rfl rfl ?_ | refine Fn.ret2 HF rfl rfl rfl ?_ | refine Fn.ret3 HF rfl rfl rfl rfl ?_ | refine Fn.ret0 HF rfl ?_ | refine Fn.fin0 HF rfl ?_ | refine Fn.retG (E := env) HF rfl H (by first | exact RVs.cellN rfl rfl rfl (by first | exact .head | exact .tail .head | exact .tail (.tail .head) | exact .tail (.tail (.tail .head)) | exact .tail (.tail (.tail (.tail .head))) | exact .tail (.tail (.tail (.tail (.tail .head)))) | exact .tail (.tail (.tail (.tail (.tail (.tail .head)))))) (by first | assumption | exact Cs.take rfl) RVs.nil | exact RVs.cellN rfl rfl rfl (by first | exact .head | exact .tail .head | exact .tail (.tail .head) | exact .tail (.tail (.tail .head)) | exact .tail (.tail (.tail (.tail .head))) | exact .tail (.tail (.tail (.tail (.tail .head)))) | exact .tail (.tail (.tail (.tail (.tail (.tail .head)))))) (by first | assumption | exact Cs.take rfl) (RVs.tmp rfl RVs.nil) | exact RVs.cellN rfl rfl rfl (by first | exact .head | exact .tail .head | exact .tail (.tail .head) | exact .tail (.tail (.tail .head)) | exact .tail (.tail (.tail (.tail .head))) | exact .tail (.tail (.tail (.tail (.tail .head)))) | exact .tail (.tail (.tail (.tail (.tail (.tail .head)))))) (by first | assumption | exact Cs.take rfl) (RVs.tmp rfl (RVs.tmp rfl RVs.nil))) rfl ?_)
    exact ⟨H.fr, none, Lst.nil, by simp⟩
  | some a =>
    have HF := Try.func51; refine Fn.enter Try.func51 Try.ntmps51 rfl rfl rfl ?_
    refine Run.seq ?_
    (refine Run.region ?_; intro K hK)
    refine Ops.pure H (X.assign rfl) rfl rfl rfl ?_
    (refine Ops.nil (hK _ _ ?_); clear hK K)
    refine Run.seq ?_
    refine Run.seq ?_
    (refine Run.region ?_; intro K hK)
    refine Ops.pure H (X.move rfl) rfl rfl rfl ?_
    refine Ops.pure H (X.sliceNil rfl rfl rfl rfl rfl) rfl rfl rfl ?_
    (refine Ops.nil (hK _ _ ?_); clear hK K)
    refine Run.cond_false rfl ?_
    refine Run.skip ?_
    refine Run.seq ?_
    (refine Run.region ?_; intro K hK)
    (refine Ops.eff rfl (Y.buildSliceO rfl rfl rfl rfl rfl rfl rfl rfl H ?_); intro b5 w H0 hb5; clear H; have H := H0; clear H0)
    refine Ops.pure H (X.move rfl) rfl rfl rfl ?_
    refine Ops.eff rfl (Y.copyOf (news := vs) rfl rfl rfl rfl rfl rfl H .head hb5 hlen ((hv'.ext H.fr).src) rfl (by dsimp only; omega) (by omega) rfl ?_)
    intro v' b' w H hF hL hb'
    refine Ops.pure H (X.assign rfl) rfl rfl rfl ?_
    (refine Ops.nil (hK _ _ ?_); clear hK K)
    (first | refine Fn.ret1 HF rfl rfl ?_ | refine Fn.ret2 HF rfl rfl rfl ?_ | refine Fn.ret3 HF rfl rfl rfl rfl ?_ | refine Fn.ret0 HF rfl ?_ | refine Fn.fin0 HF rfl ?_ | refine Fn.retG (E := env) HF rfl H (by first | exact RVs.cellN rfl rfl rfl (by first | exact .head | exact .tail .head | exact .tail (.tail .head) | exact .tail (.tail (.tail .head)) | exact .tail (.tail (.tail (.tail .head))) | exact .tail (.tail (.tail (.tail (.tail .head)))) | exact .tail (.tail (.tail (.tail (.tail (.tail .head)))))) (by first | assumption | exact Cs.take rfl) RVs.nil | exact RVs.cellN rfl rfl rfl (by first | exact .head | exact .tail .head | exact .tail (.tail .head) | exact .tail (.tail (.tail .head)) | exact .tail (.tail (.tail (.tail .head))) | exact .tail (.tail (.tail (.tail (.tail .head)))) | exact .tail (.tail (.tail (.tail (.tail (.tail .head)))))) (by first | assumption | exact Cs.take rfl) (RVs.tmp rfl RVs.nil) | exact RVs.cellN rfl rfl rfl (by first | exact .head | exact .tail .head | exact .tail (.tail .head) | exact .tail (.tail (.tail .head)) | exact .tail (.tail (.tail (.tail .head))) | exact .tail (.tail (.tail (.tail (.tail .head)))) | exact .tail (.tail (.tail (.tail (.tail (.tail .head)))))) (by first | assumption | exact Cs.take rfl) (RVs.tmp rfl (RVs.tmp rfl RVs.nil))) rfl ?_)
    have := H.fr.size
    exact ⟨H.fr, some b', hL, fun b hb => by cases hb; omega⟩
theorem sclone_any (z : World) (v : Value) (ob : Option Nat) (n : Nat) (vs : List Value) (hv : Lst z v ob 28 1 n vs) (hb : n * 24 ≤ 140737488355328) :
    Fn env.P 53 [v] z fun r w' => Fr z w' [] ∧ ∃ ob', Lst w' r ob' 28 1 n vs ∧ ∀ b, ob' = some b → z.heap.size ≤ b := by
  have hv' := hv
  have hlen := hv.len
  obtain ⟨a, cap, rfl, hnc⟩ := hv.slice
  have H := Holds.start z []
  cases a with
  | none =>
    have h0 : n = 0 ∧ vs = [] := by
      cases ob with
      | none => exact ⟨hv.1, hv.2.1⟩
      | some b => obtain ⟨_, _, _, e, _⟩ := hv; cases e
    obtain ⟨rfl, rfl⟩ := h0
    have HF := Try.func53; refine Fn.enter Try.func53 Try.ntmps53 rfl rfl rfl ?_
    refine Run.seq ?_
    (refine Run.region ?_; intro K hK)
    refine Ops.pure H (X.assign rfl) rfl rfl rfl ?_
    (refine Ops.nil (hK _ _ ?_); clear hK K)
    refine Run.seq ?_
    refine Run.seq ?_
    (refine Run.region ?_; intro K hK)
    refine Ops.pure H (X.move rfl) rfl rfl rfl ?_
    refine Ops.pure H (X.sliceNil rfl rfl rfl rfl rfl) rfl rfl rfl ?_
    (refine Ops.nil (hK _ _ ?_); clear hK K)
    refine Run.cond_true rfl ?_
    refine Run.seq ?_
    (refine Run.region ?_; intro K hK)
    refine Ops.pure H (X.assign rfl) rfl rfl rfl ?_
    (refine Ops.nil (hK _ _ ?_); clear hK K)
    (first | refine Fn.ret1 HF rfl rfl ?_ | refine Fn.ret2 HF rfl rfl rfl ?_ | refine Fn.ret3 HF rfl rfl rfl rfl ?_ | refine Fn.ret0 HF rfl ?_ | refine Fn.fin0 HF rfl ?_ | refine Fn.retG (E := env) HF rfl H (by first | exact RVs.cellN rfl rfl rfl (by first | exact .head | exact .tail .head | exact .tail (.tail .head) | exact .tail (.tail (.tail .head)) | exact .tail (.tail (.tail (.tail .head))) | exact .tail (.tail (.tail (.tail (.tail .head)))) | exact .tail (.tail (.tail (.tail (.tail (.tail .head)))))) (by first | assumption | exact Cs.take rfl) RVs.nil | exact RVs.cellN rfl rfl rfl (by first | exact .head | exact .tail .head | exact .tail (.tail .head) | exact .tail (.tail (.tail .head)) | exact .tail (.tail (.tail (.tail .head))) | exact .tail (.tail (.tail (.tail (.tail .head)))) | exact .tail (.tail (.tail (.tail (.tail (.tail .head)))))) (by first | assumption | exact Cs.take rfl) (RVs.tmp rfl RVs.nil) | exact RVs.cellN rfl rfl rfl (by first | exact .head | exact .tail .head | exact .tail (.tail .head) | exact .tail (.tail (.tail .head)) | exact .tail (.tail (.tail (.tail .head))) | exact .tail (.tail (.tail (.tail (.tail .head)))) | exact .tail (.tail (.tail (.tail (.tail (.tail .head)))))) (by first | assumption | exact Cs.take rfl) (RVs.tmp rfl (RVs.tmp rfl RVs.nil))) rfl ?_)
    exact ⟨H.fr, none, Lst.nil, by simp⟩
  | some a =>
    have HF := Try.func53; refine Fn.enter Try.func53 Try.ntmps53 rfl rfl rfl ?_
    refine Run.seq ?_
    (refine Run.region ?_; intro K hK)
    refine Ops.pure H (X.assign rfl) rfl rfl rfl ?_
    (refine Ops.nil (hK _ _ ?_); clear hK K)
    refine Run.seq ?_
    refine Run.seq ?_
    (refine Run.region ?_; intro K hK)
    refine Ops.pure H (X.move rfl) rfl rfl rfl ?_
    refine Ops.pure H (X.sliceNil rfl rfl rfl rfl rfl) rfl rfl rfl ?_
    (refine Ops.nil (hK _ _ ?_); clear hK K)
    refine Run.cond_false rfl ?_
    refine Run.skip ?_
    refine Run.seq ?_
    (refine Run.region ?_; intro K hK)
    (refine Ops.eff rfl (Y.buildSliceO rfl rfl rfl rfl rfl rfl rfl rfl H ?_); intro b5 w H0 hb5; clear H; have H := H0; clear H0)
    refine Ops.pure H (X.move rfl) rfl rfl rfl ?_
    refine Ops.eff rfl (Y.copyOf (news := vs) rfl rfl rfl rfl rfl rfl H .head hb5 hlen ((hv'.ext H.fr).src) rfl (by dsimp only; omega) (by omega) rfl ?_)
    intro v' b' w H hF hL hb'
    refine Ops.pure H (X.assign rfl) rfl rfl rfl ?_
    (refine Ops.nil (hK _ _ ?_); clear hK K)
    (first | refine Fn.ret1 HF rfl rfl ?_ | refine Fn.ret2 HF rfl rfl rfl ?_ | refine Fn.ret3 HF rfl rfl rfl rfl ?_ | refine Fn.ret0 HF rfl ?_ | refine Fn.fin0 HF rfl ?_ | refine Fn.retG (E := env) HF rfl H (by first | exact RVs.cellN rfl rfl rfl (by first | exact .head | exact .tail .head | exact .tail (.tail .head) | exact .tail (.tail (.tail .head)) | exact .tail (.tail (.tail (.tail .head))) | exact .tail (.tail (.tail (.tail (.tail .head)))) | exact .tail (.tail (.tail (.tail (.tail (.tail .head)))))) (by first | assumption | exact Cs.take rfl) RVs.nil | exact RVs.cellN rfl rfl rfl (by first | exact .head | exact .tail .head | exact .tail (.tail .head) | exact .tail (.tail (.tail .head)) | exact .tail (.tail (.tail (.tail .head))) | exact .tail (.tail (.tail (.tail (.tail .head)))) | exact .tail (.tail (.tail (.tail (.tail (.tail .head)))))) (by first | assumption | exact Cs.take rfl) (RVs.tmp rfl RVs.nil) | exact RVs.cellN rfl rfl rfl (by first | exact .head | exact .tail .head | exact .tail (.tail .head) | exact .tail (.tail (.tail .head)) | exact .tail (.tail (.tail (.tail .head))) | exact .tail (.tail (.tail (.tail (.tail .head)))) | exact .tail (.tail (.tail (.tail (.tail (.tail .head)))))) (by first | assumption | exact Cs.take rfl) (RVs.tmp rfl (RVs.tmp rfl RVs.nil))) rfl ?_)
    have := H.fr.size
    exact ⟨H.fr, some b', hL, fun b hb => by cases hb; omega⟩
theorem mclone_any (z : World) (v : Value) (ob : Option Nat) (n : Nat) (vs : List Value) (hv : Lst z v ob 52 2 n vs) (hb : n * 32 ≤ 140737488355328) :
    Fn env.P 54 [v] z fun r w' => Fr z w' [] ∧ ∃ ob', Lst w' r ob' 52 2 n vs ∧ ∀ b, ob' = some b → z.heap.size ≤ b := by
  have hv' := hv
  have hlen := hv.len
  obtain ⟨a, cap, rfl, hnc⟩ := hv.slice
  have H := Holds.start z []
  cases a with
  | none =>
    have h0 : n = 0 ∧ vs = [] := by
      cases ob with
      | none => exact ⟨hv.1, hv.2.1⟩
      | some b => obtain ⟨_, _, _, e, _⟩ := hv; cases e
    obtain ⟨rfl, rfl⟩ := h0
    have HF := Try.func54; refine Fn.enter Try.func54 Try.ntmps54 rfl rfl rfl ?_
    refine Run.seq ?_
    (refine Run.region ?_; intro K hK)
    refine Ops.pure H (X.assign rfl) rfl rfl rfl ?_
    (refine Ops.nil (hK _ _ ?_); clear hK K)
    refine Run.seq ?_
    refine Run.seq ?_
    (refine Run.region ?_; intro K hK)
    refine Ops.pure H (X.move rfl) rfl rfl rfl ?_
    refine Ops.pure H (X.sliceNil rfl rfl rfl rfl rfl) rfl rfl rfl ?_
    (refine Ops.nil (hK _ _ ?_); clear hK K)
    refine Run.cond_true rfl ?_
    refine Run.seq ?_
    (refine Run.region ?_; intro K hK)
    refine Ops.pure H (X.assign rfl) rfl rfl rfl ?_
    (refine Ops.nil (hK _ _ ?_); clear hK K)
    (first | refine Fn.ret1 HF rfl rfl ?_ | refine Fn.ret2 HF rfl rfl rfl ?_ | refine Fn.ret3 HF rfl rfl rfl rfl ?_ | refine Fn.ret0 HF rfl ?_ | refine Fn.fin0 HF rfl ?_ | refine Fn.retG (E := env) HF rfl H (by first | exact RVs.cellN rfl rfl rfl (by first | exact .head | exact .tail .head | exact .tail (.tail .head) | exact .tail (.tail (.tail .head)) | exact .tail (.tail (.tail (.tail .head))) | exact .tail (.tail (.tail (.tail (.tail .head)))) | exact .tail (.tail (.tail (.tail (.tail (.tail .head)))))) (by first | assumption | exact Cs.take rfl) RVs.nil | exact RVs.cellN rfl rfl rfl (by first | exact .head | exact .tail .head | exact .tail (.tail .head) | exact .tail (.tail (.tail .head)) | exact .tail (.tail (.tail (.tail .head))) | exact .tail (.tail (.tail (.tail (.tail .head)))) | exact .tail (.tail (.tail (.tail (.tail (.tail .head)))))) (by first | assumption | exact Cs.take rfl) (RVs.tmp rfl RVs.nil) | exact RVs.cellN rfl rfl rfl (by first | exact .head | exact .tail .head | exact .tail (.tail .head) | exact .tail (.tail (.tail .head)) | exact .tail (.tail (.tail (.tail .head))) | exact .tail (.tail (.tail (.tail (.tail .head)))) | exact .tail (.tail (.tail (.tail (.tail (.tail .head)))))) (by first | assumption | exact Cs.take rfl) (RVs.tmp rfl (RVs.tmp rfl RVs.nil))) rfl ?_)
    exact ⟨H.fr, none, Lst.nil, by simp⟩
  | some a =>
    have HF := Try.func54; refine Fn.enter Try.func54 Try.ntmps54 rfl rfl rfl ?_
    refine Run.seq ?_
    (refine Run.region ?_; intro K hK)
    refine Ops.pure H (X.assign rfl) rfl rfl rfl ?_
    (refine Ops.nil (hK _ _ ?_); clear hK K)
    refine Run.seq ?_
    refine Run.seq ?_
    (refine Run.region ?_; intro K hK)
    refine Ops.pure H (X.move rfl) rfl rfl rfl ?_
    refine Ops.pure H (X.sliceNil rfl rfl rfl rfl rfl) rfl rfl rfl ?_
    (refine Ops.nil (hK _ _ ?_); clear hK K)
    refine Run.cond_false rfl ?_
    refine Run.skip ?_
    refine Run.seq ?_
    (refine Run.region ?_; intro K hK)
    (refine Ops.eff rfl (Y.buildSliceO rfl rfl rfl rfl rfl rfl rfl rfl H ?_); intro b5 w H0 hb5; clear H; have H := H0; clear H0)
    refine Ops.pure H (X.move rfl) rfl rfl rfl ?_
    refine Ops.eff rfl (Y.copyOf (news := vs) rfl rfl rfl rfl rfl rfl H .head hb5 hlen ((hv'.ext H.fr).src) rfl (by dsimp only; omega) (by omega) rfl ?_)
    intro v' b' w H hF hL hb'
    refine Ops.pure H (X.assign rfl) rfl rfl rfl ?_
    (refine Ops.nil (hK _ _ ?_); clear hK K)
    (first | refine Fn.ret1 HF rfl rfl ?_ | refine Fn.ret2 HF rfl rfl rfl ?_ | refine Fn.ret3 HF rfl rfl rfl rfl ?_ | refine Fn.ret0 HF rfl ?_ | refine Fn.fin0 HF rfl ?_ | refine Fn.retG (E := env) HF rfl H (by first | exact RVs.cellN rfl rfl rfl (by first | exact .head | exact .tail .head | exact .tail (.tail .head) | exact .tail (.tail (.tail .head)) | exact .tail (.tail (.tail (.tail .head))) | exact .tail (.tail (.tail (.tail (.tail .head)))) | exact .tail (.tail (.tail (.tail (.tail (.tail .head)))))) (by first | assumption | exact Cs.take rfl) RVs.nil | exact RVs.cellN rfl rfl rfl (by first | exact .head | exact .tail .head | exact .tail (.tail .head) | exact .tail (.tail (.tail .head)) | exact .tail (.tail (.tail (.tail .head))) | exact .tail (.tail (.tail (.tail (.tail .head)))) | exact .tail (.tail (.tail (.tail (.tail (.tail .head)))))) (by first | assumption | exact Cs.take rfl) (RVs.tmp rfl RVs.nil) | exact RVs.cellN rfl rfl rfl (by first | exact .head | exact .tail .head | exact .tail (.tail .head) | exact .tail (.tail (.tail .head)) | exact .tail (.tail (.tail (.tail .head))) | exact .tail (.tail (.tail (.tail (.tail .head)))) | exact .tail (.tail (.tail (.tail (.tail (.tail .head)))))) (by first | assumption | exact Cs.take rfl) (RVs.tmp rfl (RVs.tmp rfl RVs.nil))) rfl ?_)
    have := H.fr.size
    exact ⟨H.fr, some b', hL, fun b hb => by cases hb; omega⟩
theorem bclone_any (z : World) (v : Value) (xs : List Int) (hv : Bys z v xs) (hb : xs.length ≤ 140737488355327) :
    Fn env.P 45 [v] z fun r w' => Bts w' r xs ∧ Fr z w' [] ∧ ∀ b, blkV r = some b → z.heap.size ≤ b := by
  have hv' := hv
  obtain ⟨a, cap, b, off, cs, T, fz, rfl, h2, h3, h4, h5⟩ := hv
  cases a with
  | none =>
    have h0 : xs.length = 0 := by
      rcases Nat.eq_zero_or_pos xs.length with h | h
      · exact h
      · have := (h4 h).1; cases this
    have hx : xs = [] := List.eq_nil_of_length_eq_zero h0
    subst hx
    have H := Holds.start z []
    have HF := Try.func45; refine Fn.enter Try.func45 Try.ntmps45 rfl rfl rfl ?_
    refine Run.seq ?_
    (refine Run.region ?_; intro K hK)
    refine Ops.pure H (X.assign rfl) rfl rfl rfl ?_
    (refine Ops.nil (hK _ _ ?_); clear hK K)
    refine Run.seq ?_
    refine Run.seq ?_
    (refine Run.region ?_; intro K hK)
    refine Ops.pure H (X.move rfl) rfl rfl rfl ?_
    refine Ops.pure H (X.sliceNil rfl rfl rfl rfl rfl) rfl rfl rfl ?_
    (refine Ops.nil (hK _ _ ?_); clear hK K)
    refine Run.cond_true rfl ?_
    refine Run.seq ?_
    (refine Run.region ?_; intro K hK)
    refine Ops.pure H (X.assign rfl) rfl rfl rfl ?_
    (refine Ops.nil (hK _ _ ?_); clear hK K)
    (first | refine Fn.ret1 HF rfl rfl ?_ | refine Fn.ret2 HF rfl rfl rfl ?_ | refine Fn.ret3 HF rfl rfl rfl rfl ?_ | refine Fn.ret0 HF rfl ?_ | refine Fn.fin0 HF rfl ?_ | refine Fn.retG (E := env) HF rfl H (by first | exact RVs.cellN rfl rfl rfl (by first | exact .head | exact .tail .head | exact .tail (.tail .head) | exact .tail (.tail (.tail .head)) | exact .tail (.tail (.tail (.tail .head))) | exact .tail (.tail (.tail (.tail (.tail .head)))) | exact .tail (.tail (.tail (.tail (.tail (.tail .head)))))) (by first | assumption | exact Cs.take rfl) RVs.nil | exact RVs.cellN rfl rfl rfl (by first | exact .head | exact .tail .head | exact .tail (.tail .head) | exact .tail (.tail (.tail .head)) | exact .tail (.tail (.tail (.tail .head))) | exact .tail (.tail (.tail (.tail (.tail .head)))) | exact .tail (.tail (.tail (.tail (.tail (.tail .head)))))) (by first | assumption | exact Cs.take rfl) (RVs.tmp rfl RVs.nil) | exact RVs.cellN rfl rfl rfl (by first | exact .head | exact .tail .head | exact .tail (.tail .head) | exact .tail (.tail (.tail .head)) | exact .tail (.tail (.tail (.tail .head))) | exact .tail (.tail (.tail (.tail (.tail .head)))) | exact .tail (.tail (.tail (.tail (.tail (.tail .head)))))) (by first | assumption | exact Cs.take rfl) (RVs.tmp rfl (RVs.tmp rfl RVs.nil))) rfl ?_)
    exact ⟨Bts.nil, H.fr, by simp [blkV]⟩
  | some a =>
    have H := Holds.start z []
    have HF := Try.func45; refine Fn.enter Try.func45 Try.ntmps45 rfl rfl rfl ?_
    refine Run.seq ?_
    (refine Run.region ?_; intro K hK)
    refine Ops.pure H (X.assign rfl) rfl rfl rfl ?_
    (refine Ops.nil (hK _ _ ?_); clear hK K)
    refine Run.seq ?_
    refine Run.seq ?_
    (refine Run.region ?_; intro K hK)
    refine Ops.pure H (X.move rfl) rfl rfl rfl ?_
    refine Ops.pure H (X.sliceNil rfl rfl rfl rfl rfl) rfl rfl rfl ?_
    (refine Ops.nil (hK _ _ ?_); clear hK K)
    refine Run.cond_false rfl ?_
    refine Run.skip ?_
    refine Run.seq ?_
    (refine Run.region ?_; intro K hK)
    (refine Ops.eff rfl (Y.buildSliceO rfl rfl rfl rfl rfl rfl rfl rfl H ?_); intro b5 w H0 hb5; clear H; have H := H0; clear H0)
    refine Ops.pure H (X.move rfl) rfl rfl rfl ?_
    refine Ops.eff rfl (Y.copyOf (sz := 1) (news := u8s xs) rfl rfl rfl rfl rfl rfl H .head hb5 (by simp) ((hv'.ext H.fr).src) rfl (by dsimp only; omega) (by omega) rfl ?_)
    intro v' b' w H hF hL hb'
    refine Ops.pure H (X.assign rfl) rfl rfl rfl ?_
    (refine Ops.nil (hK _ _ ?_); clear hK K)
    (first | refine Fn.ret1 HF rfl rfl ?_ | refine Fn.ret2 HF rfl rfl rfl ?_ | refine Fn.ret3 HF rfl rfl rfl rfl ?_ | refine Fn.ret0 HF rfl ?_ | refine Fn.fin0 HF rfl ?_ | refine Fn.retG (E := env) HF rfl H (by first | exact RVs.cellN rfl rfl rfl (by first | exact .head | exact .tail .head | exact .tail (.tail .head) | exact .tail (.tail (.tail .head)) | exact .tail (.tail (.tail (.tail .head))) | exact .tail (.tail (.tail (.tail (.tail .head)))) | exact .tail (.tail (.tail (.tail (.tail (.tail .head)))))) (by first | assumption | exact Cs.take rfl) RVs.nil | exact RVs.cellN rfl rfl rfl (by first | exact .head | exact .tail .head | exact .tail (.tail .head) | exact .tail (.tail (.tail .head)) | exact .tail (.tail (.tail (.tail .head))) | exact .tail (.tail (.tail (.tail (.tail .head)))) | exact .tail (.tail (.tail (.tail (.tail (.tail .head)))))) (by first | assumption | exact Cs.take rfl) (RVs.tmp rfl RVs.nil) | exact RVs.cellN rfl rfl rfl (by first | exact .head | exact .tail .head | exact .tail (.tail .head) | exact .tail (.tail (.tail .head)) | exact .tail (.tail (.tail (.tail .head))) | exact .tail (.tail (.tail (.tail (.tail .head)))) | exact .tail (.tail (.tail (.tail (.tail (.tail .head)))))) (by first | assumption | exact Cs.take rfl) (RVs.tmp rfl (RVs.tmp rfl RVs.nil))) rfl ?_)
    obtain ⟨off, cap, cs, rfl, l2, l3, l4, l5, l6⟩ := hL
    refine ⟨⟨_, cap, b', off, cs, rfl, l2, l3, fun _ => ⟨rfl, l4, by omega, l6.cast rfl (by omega) rfl⟩⟩, H.fr, fun b hb => ?_⟩
    simp [blkV] at hb
    have := H.fr.size
    omega
end Go.Proofs.Ytpmihcefjdeonaa
