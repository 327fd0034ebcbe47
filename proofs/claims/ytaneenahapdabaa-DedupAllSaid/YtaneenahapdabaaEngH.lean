/- The engine of the proofs, part H: two operations ready at once. No statement of the seat is proved here. -/
import Derived.Test.YtaneenahapdabaaEngG
namespace Go.Proofs.Ytaneenahapdabaa
open Go
section
variable {E : Env} {f : FuncId} {R : Ending → World → Prop} {n : Nat} {ops : List Oper} {k : Sl → World → Prop} {L : Sl} {w : World} {G : List Ent} {tl td td1 td2 : List Nat} {m i j : Nat} {oi oj : Oper} {listed : Array Bool} {ds : List Deferred}
theorem Draw.eff2 (td1 td2 : List Nat) (hi : nth ops i = some oi) (gi : gok ops L oi = some true) (hj : nth ops j = some oj) (gj : gok ops L oj = some true) (hr : (Region.ready .any ops.toArray listed == [i, j] && !tl.contains i && !tl.contains j) = true)
    (h1 : StepZ E (QKd E.P f R n k ds) n oi (fun L' w' => Kept G w' ∧ Draw E f R n ops k G tl td1 m (listed.setIfInBounds i true) L' w' ds) L w)
    (h2 : StepZ E (QKd E.P f R n k ds) n oj (fun L' w' => Kept G w' ∧ Draw E f R n ops k G tl td2 m (listed.setIfInBounds j true) L' w' ds) L w) : Draw E f R n ops k G tl td (m + 1) listed L w ds := by
  intro hS a ha
  simp only [Bool.and_eq_true, beq_iff_eq] at hr
  obtain ⟨⟨hr1, hr2⟩, hr3⟩ := hr
  refine ⟨fun h0 => (by rw [hr1] at h0; cases h0), fun q hq => ?_⟩
  rw [hr1] at hq
  simp only [List.mem_cons, List.not_mem_nil, or_false] at hq
  rcases hq with rfl | rfl
  · refine wpOp_of hi (gok_wanted ha.toSt0 gi) (h1 a _ ds ha fun L' w' a' hz hs => ?_)
    rw [if_pos hr2]
    exact ⟨hz.1, hz.2 hz.1 a' hs⟩
  · refine wpOp_of hj (gok_wanted ha.toSt0 gj) (h2 a _ ds ha fun L' w' a' hz hs => ?_)
    rw [if_pos hr3]
    exact ⟨hz.1, hz.2 hz.1 a' hs⟩
/-- Another list of slots, another way of telling what has come up. -/
theorem Draw.weak {L' : Sl} {listed' : Array Bool} {td' : List Nat} (h : Draw E f R n ops k G tl td' m listed' L' w ds) (hs : Subs L L') (hl : listed = listed') : Draw E f R n ops k G tl td m listed L w ds := by
  subst hl
  intro hS a ha
  exact h hS a (ha.sub hs.all)
end
section
variable {E : Env} {n : Nat} {L : Sl} {w w0 : World} {S : List Nat} {G G0 G1 : List Ent} {d T : Nat} {pos : String} {e : Array Edge} {g : Option (Nat × Bool)} {x y s : Operand} {QQ : Exit → Act → World → Prop} {Z : Sl → World → Prop}
/-- What is appended to a list with a block of its own: nothing but that block is written. -/
theorem Y.appendB {t el len m xc b cap : Nat} {cs : List Value} {xa : Option Addr} {ti te : TyI} {olds news : List Value} (sz : Nat) (h2 : len ≤ cap) (h3 : cap ≤ 9223372036854775807) (h5 : w.heap[b]? = some (row cs el)) (h6 : cs.length = cap * sz) (h7 : Cs cs 0 (len * sz) olds)
    (hs : ev L s = some (.slice (some ⟨b, 0, none⟩) len cap)) (hx : ev L x = some (.slice xa m xc))
    (ht : nth E.T t = some (some ti)) (hd : ti.d = .slice el) (hte : nth E.T el = some (some te)) (hsz : te.size = sz)
    (hl : news.length = m * te.size) (hsrc : Src w xa news) (hz : (cellsL te.zero).length = te.size) (h1 : ∀ v ∈ news, v.oneCell' = true)
    (hb : (len + m) * te.bytes ≤ 140737488355328) (h63 : len + m ≤ 9223372036854775807) (hn : Nat.blt d n = true)
    (next : ∀ b' cap' cs' w', Fr w w' [b] → (b' = b ∨ w.heap.size ≤ b') → len + m ≤ cap' → cap' ≤ 9223372036854775807 → w'.heap[b']? = some (row cs' el) → cs'.length = cap' * sz → Cs cs' 0 ((len + m) * sz) (olds ++ news) → Z ((d, .slice (some ⟨b', 0, none⟩) (len + m) cap') :: L) w') :
    StepZ E QQ n ⟨some d, .call { callee := .builtin .append, args := #[s, x], argTypes := #[t, t] }, T, pos, e, g⟩ Z L w := by
  subst hsz
  have hol := h7.length
  by_cases hr : len + m ≤ cap
  · have H := (Holds.start w [b]).add true h5 (by simp) (by simp)
    have hfit : len * te.size + news.length ≤ cs.length := by
      rw [hl, h6, ← Nat.add_mul]
      exact Nat.mul_le_mul_right _ hr
    refine Y.append_room hs hx ht hd hte H .head hr (by rw [h6]; omega) hl hsrc h1 hn ?_
    intro w' H'
    refine next b cap _ w' H'.fr (.inl rfl) hr h3 (H'.at_ _ (List.mem_cons_self ..)) (by rw [putC_length]; exact h6) ?_
    rw [Nat.zero_add]
    have e1 := h7.apart (us := news) (k := len * te.size) hfit (.inl (by omega))
    have e2 := Cs.put hfit
    rw [Nat.add_mul]
    rw [hl] at e2
    exact e1.append (by simpa using e2)
  · have H := (Holds.start w []).add false h5 (by simp) (by simp)
    refine Y.append_grow hs hx ht hd hte H (by omega) (Src.row H .head h7) hol hl hsrc hz hb h63 hn ?_
    intro b' cap' sp w' H' hbw hc hmx hsp
    refine next b' cap' (olds ++ news ++ sp) w' (H'.fr.mono (by simp)) (.inr hbw) hc hmx (H'.at_ _ (List.mem_cons_self ..)) ?_ ?_
    · simp only [List.length_append, hl, hsp, hol]
      rw [← Nat.add_mul, ← Nat.add_mul]
      congr 1
      omega
    · have := Cs.mid [] (olds ++ news) sp
      simpa [hl, hol, Nat.add_mul] using this
end
end Go.Proofs.Ytaneenahapdabaa
