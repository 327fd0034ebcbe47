/- The engine of the proofs, part J: operations that only make new things, in whatever order they come up. No statement of the seat is proved here. -/
import Derived.Test.YtaneenahapdabaaEngH
namespace Go.Proofs.Ytaneenahapdabaa
open Go

/-- What binds number i. -/
def predsOf (ops : List Oper) (i : Nat) : List Nat :=
  match nth ops i with
  | some o => (o.after.toList.filter (Region.binds .any)).map (·.on)
  | none => []
def clos (pre : Nat → List Nat) : Nat → List Nat → List Nat
  | 0, l => l
  | m + 1, l => clos pre m (l ++ l.flatMap pre)
theorem clos_sub {pre : Nat → List Nat} {D : List Nat} (h : ∀ i ∈ D, ∀ p ∈ pre i, p ∈ D) : ∀ m l, (∀ x ∈ l, x ∈ D) → ∀ x ∈ clos pre m l, x ∈ D := by
  intro m
  induction m with
  | zero => intro l hl x hx; exact hl x hx
  | succ m ih =>
    intro l hl x hx
    refine ih _ (fun y hy => ?_) x hx
    rcases List.mem_append.1 hy with hy | hy
    · exact hl y hy
    · obtain ⟨i, hi, hp⟩ := List.mem_flatMap.1 hy
      exact h i (hl i hi) y hp
def anyOK (ops : List Oper) (tl : List Nat) (listed : Array Bool) (A : List Nat) (pre : Nat → List Nat) (dst : Nat → Nat) (n : Nat) : Bool :=
  decide ((A.map dst).Nodup) &&
  A.all (fun i => !tl.contains i && !listed.getD i true && Nat.blt (dst i) n && (match nth ops i with | some o => o.guard.isNone && (o.dst == some (dst i)) | none => false) && (pre i).all (fun p => (predsOf ops i).contains p && A.contains p) && (predsOf ops i).all (fun p => listed.getD p false || (A.contains p && Nat.blt p i))) &&
  (List.range ops.length).all (fun j => A.contains j || listed.getD j true || (predsOf ops j).any (fun p => !A.contains p && !listed.getD p false) || A.all (fun a => (clos pre A.length ((predsOf ops j).filter A.contains)).contains a))
theorem few_of {a : Nat} : ∀ (D A : List Nat), D.Nodup → (∀ x ∈ D, x ∈ A) → a ∈ A → a ∉ D → D.length < A.length := by
  intro D
  induction D with
  | nil => intro A _ _ ha _; simpa using List.length_pos_of_mem ha
  | cons x D ih =>
    intro A hn hs ha hd
    have hn := List.nodup_cons.1 hn
    have hx := hs x (List.mem_cons_self ..)
    have h1 := ih (A.erase x) hn.2 (fun y hy => (List.mem_erase_of_ne (fun e => hn.1 (by rw [← e]; exact hy))).2 (hs y (List.mem_cons_of_mem _ hy))) ((List.mem_erase_of_ne (fun e => hd (by rw [e]; exact List.mem_cons_self ..))).2 ha) (fun h => hd (List.mem_cons_of_mem _ h))
    rw [List.length_erase_of_mem hx] at h1
    have := List.length_pos_of_mem hx
    simp only [List.length_cons]
    omega
section
variable {dst : Nat → Nat} {ρ : Nat → Value} {L : Sl}
theorem look_in {D : List Nat} {x : Nat} (hx : x ∈ D) (hinj : ∀ y ∈ D, dst y = dst x → y = x) : look (D.map (fun j => (dst j, ρ j)) ++ L) (dst x) = some (ρ x) := by
  induction D with
  | nil => simp at hx
  | cons y D ih =>
    simp only [List.map_cons, List.cons_append, look]
    by_cases e : dst x = dst y
    · rw [e, Nat.beq_refl]
      have := hinj y (List.mem_cons_self ..) e.symm
      rw [this]
    · rw [beq_no e]
      rcases List.mem_cons.1 hx with rfl | hx
      · exact absurd rfl e
      · exact ih hx (fun z hz => hinj z (List.mem_cons_of_mem _ hz))
theorem look_out {D : List Nat} {i : Nat} (h : ∀ y ∈ D, dst y ≠ i) : look (D.map (fun j => (dst j, ρ j)) ++ L) i = look L i := by
  induction D with
  | nil => rfl
  | cons y D ih =>
    simp only [List.map_cons, List.cons_append, look]
    rw [beq_no (fun e => h y (List.mem_cons_self ..) e.symm)]
    exact ih (fun z hz => h z (List.mem_cons_of_mem _ hz))
/-- Fewer of them. -/
theorem St.fewer {n : Nat} {a : Act} {ds : List Deferred} {D B : List Nat} (hs : St n (D.map (fun j => (dst j, ρ j)) ++ L) a ds) (hB : ∀ x ∈ B, x ∈ D) (hinj : ∀ x ∈ D, ∀ y ∈ D, dst y = dst x → y = x) (hL : ∀ x ∈ D, look L (dst x) = Option.none) : St n (B.map (fun j => (dst j, ρ j)) ++ L) a ds := by
  refine ⟨⟨hs.s, fun i v hv => hs.l i v ?_⟩, hs.d⟩
  by_cases hi : ∃ x ∈ B, dst x = i
  · obtain ⟨x, hx, rfl⟩ := hi
    rw [look_in hx (fun y hy e => hinj x (hB x hx) y (hB y hy) e)] at hv
    rw [look_in (hB x hx) (fun y hy e => hinj x (hB x hx) y hy e)]
    exact hv
  · rw [look_out (fun y hy e => hi ⟨y, hy, e⟩)] at hv
    rw [look_out (fun y hy e => by rw [← e, hL y hy] at hv; cases hv)]
    exact hv
end
theorem upon_put {P : Program} {o : Oper} {a : Act} {K : Act → World → Prop} {Q : Exit → Act → World → Prop} {r : Result Next} (h : o.upon P a K Q r) : o.upon P a (fun a' w' => K a' w' ∧ ∃ v, a'.tmps = (a.put o.dst v).tmps) Q r := by
  cases r with
  | ok n w' =>
    cases n <;> simp only [Oper.upon] at h ⊢ <;>
      first
        | exact ⟨h, _, rfl⟩
        | exact ⟨h, undef, by cases o.dst <;> rfl⟩
        | exact Calls.mono h (fun e w'' he => by cases e <;> first | exact ⟨he, _, rfl⟩ | exact he)
        | exact Rows.mono h (fun _ _ he => ⟨he, _, rfl⟩)
  | halt x w' => cases x <;> simp only [Oper.upon] at h ⊢ <;> exact h
theorem markFold_size (A : List Nat) : ∀ listed : Array Bool, (A.foldl (fun l i => l.setIfInBounds i true) listed).size = listed.size := by
  induction A with
  | nil => intro l; rfl
  | cons x A ih => intro l; rw [List.foldl_cons, ih]; simp
theorem markFold_get (A : List Nat) (j : Nat) (b : Bool) : ∀ listed : Array Bool, j < listed.size → (A.foldl (fun l i => l.setIfInBounds i true) listed).getD j b = if j ∈ A then true else listed.getD j b := by
  induction A with
  | nil => intro l _; simp
  | cons x A ih =>
    intro l hl
    rw [List.foldl_cons, ih _ (by simpa using hl)]
    by_cases h1 : j ∈ A
    · simp [h1]
    · by_cases h2 : j = x
      · subst h2; simp [h1, hl]
      · have h3 : x ≠ j := fun e => h2 e.symm
        simp [h1, h2, hl, Array.getElem_setIfInBounds, h3]
section
variable {E : Env} {f : FuncId} {R : Ending → World → Prop} {n : Nat} {ops : List Oper} {k : Sl → World → Prop} {L : Sl} {w : World} {G : List Ent} {tl td : List Nat} {m : Nat} {listed : Array Bool} {ds : List Deferred}

/-- The operations A only make new things: whatever order they come up in, what each one's own fact (Φ) says holds behind them all. -/
theorem Draw.anyOrder (A : List Nat) (pre : Nat → List Nat) (dst : Nat → Nat) (td' : List Nat) (Φ : Nat → Value → World → Prop) (hok : anyOK ops tl listed A pre dst n = true) (hL : A.all (fun i => (look L (dst i)).isNone) = true)
    (mono : ∀ i ∈ A, ∀ v w1 w2, Fr w1 w2 [] → Φ i v w1 → Φ i v w2)
    (step : ∀ i ∈ A, ∀ o, nth ops i = some o → ∀ (ρ : Nat → Value) (w1 : World), Fr w w1 [] → (∀ j ∈ pre i, Φ j (ρ j) w1) →
      StepZ E (QKd E.P f R n k ds) n o (fun L' w2 => Fr w1 w2 [] ∧ ∃ v, L' = (dst i, v) :: ((pre i).map (fun j => (dst j, ρ j)) ++ L) ∧ Φ i v w2) ((pre i).map (fun j => (dst j, ρ j)) ++ L) w1)
    (fin : ∀ (ρ : Nat → Value) (w1 : World), Fr w w1 [] → (∀ j ∈ A, Φ j (ρ j) w1) → Draw E f R n ops k G tl td' m (A.foldl (fun l i => l.setIfInBounds i true) listed) (A.map (fun j => (dst j, ρ j)) ++ L) w1 ds) :
    Draw E f R n ops k G tl td (m + A.length) listed L w ds := by
  intro hS a ha
  simp only [anyOK, Bool.and_eq_true, decide_eq_true_eq, List.all_eq_true] at hok
  obtain ⟨⟨hnd, hA⟩, hj⟩ := hok
  have hnA : A.Nodup := by
    clear hA hj hL mono step fin
    induction A with
    | nil => exact List.nodup_nil
    | cons c A ih =>
      rw [List.map_cons] at hnd
      obtain ⟨n1, n2⟩ := List.nodup_cons.1 hnd
      exact List.nodup_cons.2 ⟨fun h => n1 (List.mem_map.2 ⟨c, h, rfl⟩), ih n2⟩
  have hinj : ∀ x ∈ A, ∀ y ∈ A, dst y = dst x → y = x := by
    intro x hx y hy e
    clear hA hj hL mono step fin ha hnA
    induction A with
    | nil => simp at hx
    | cons c A ih =>
      rw [List.map_cons] at hnd
      obtain ⟨n1, n2⟩ := List.nodup_cons.1 hnd
      rcases List.mem_cons.1 hx with hx | hx <;> rcases List.mem_cons.1 hy with hy | hy
      · rw [hx, hy]
      · exact absurd (List.mem_map.2 ⟨y, hy, by rw [e, hx]⟩) n1
      · exact absurd (List.mem_map.2 ⟨x, hx, by rw [← e, hy]⟩) n1
      · exact ih n2 hx hy
  have hLn : ∀ x ∈ A, look L (dst x) = none := fun x hx => by
    rw [List.all_eq_true] at hL
    simpa using hL x hx
  have hkept : ∀ w1, Fr w w1 [] → Kept G w1 := fun w1 hf e he => hf.get (hS e he) (by simp)
  have hlt : ∀ i ∈ A, i < listed.size ∧ listed.getD i false = false := fun i hi => by
    have h1 := (hA i hi).1.1.1.1.2
    rcases Nat.lt_or_ge i listed.size with h | h
    · simp [h] at h1 ⊢; exact h1
    · simp [Array.getElem?_eq_none h] at h1
  suffices H : ∀ (r : Nat) (D : List Nat) (ρ : Nat → Value) (w1 : World) (a : Act) (l' : Array Bool), D.Nodup → (∀ x ∈ D, x ∈ A) → (∀ i ∈ D, ∀ p ∈ pre i, p ∈ D) → D.length + r = A.length → l'.size = listed.size →
      (∀ j b, j < listed.size → l'.getD j b = if j ∈ D then true else listed.getD j b) → Fr w w1 [] → (∀ j ∈ D, Φ j (ρ j) w1) → St n (D.map (fun j => (dst j, ρ j)) ++ L) a ds →
      AnyS E.P ops.toArray (QKd E.P f R n k ds) (Kept G) (fun j => !tl.contains j) (m + r) l' a w1 by
    exact H A.length [] (fun _ => undef) w a listed List.nodup_nil (by simp) (by simp) (by simp) rfl (by simp) (Fr.refl w []) (by simp) (by simpa using ha)
  intro r
  induction r with
  | zero =>
    intro D ρ w1 a l' hD hDA hpre hlen hsz hl' hF hΦ hst
    have hAD : ∀ x ∈ A, x ∈ D := fun x hx => Classical.byContradiction fun hn => by
      have := few_of D A hD hDA hx hn
      omega
    have hl : l' = A.foldl (fun l i => l.setIfInBounds i true) listed := by
      apply Array.ext
      · rw [markFold_size, hsz]
      · intro j h1 h2
        have hjs : j < listed.size := by omega
        have e1 := hl' j true hjs
        have e2 := markFold_get A j true listed hjs
        have e3 : (if j ∈ D then true else listed.getD j true) = if j ∈ A then true else listed.getD j true := by
          by_cases h : j ∈ D
          · rw [if_pos h, if_pos (hDA j h)]
          · rw [if_neg h, if_neg (fun h' => h (hAD j h'))]
        rw [e3, ← e2] at e1
        simpa [Array.getD_eq_getD_getElem?, h1, h2] using e1
    rw [hl]
    exact fin ρ w1 hF (fun j hj => hΦ j (hAD j hj)) (hkept w1 hF) a (hst.fewer hAD (fun x hx y hy => hinj x (hDA x hx) y (hDA y hy)) (fun x hx => hLn x (hDA x hx)))
  | succ r ih =>
    intro D ρ w1 a l' hD hDA hpre hlen hsz hl' hF hΦ hst
    obtain ⟨c, hcA, hcD⟩ : ∃ c ∈ A, c ∉ D := Classical.byContradiction fun hn => by
      have hAD : ∀ x ∈ A, x ∈ D := fun x hx => Classical.byContradiction fun h => hn ⟨x, hx, h⟩
      have key : ∀ (B D : List Nat), B.Nodup → (∀ x ∈ B, x ∈ D) → B.length ≤ D.length := by
        intro B
        induction B with
        | nil => intro D _ _; simp
        | cons x B ihB =>
          intro D hn hs
          have hn := List.nodup_cons.1 hn
          have := few_of B D hn.2 (fun y hy => hs y (List.mem_cons_of_mem _ hy)) (hs x (List.mem_cons_self ..)) hn.1
          simp only [List.length_cons]
          omega
      have := key A D hnA hAD
      omega
    have hready : ∀ i ∈ Region.ready .any ops.toArray l', i ∈ A ∧ i ∉ D ∧ ∀ p ∈ pre i, p ∈ D := by
      intro i hi
      obtain ⟨hun, oi, hoi, hall⟩ := mem_ready.1 hi
      have hnth : nth ops i = some oi := by rw [nth_eq]; simpa using hoi
      have hil : i < ops.length := by
        have := (Array.getElem?_eq_some_iff.1 hoi).1
        simpa using this
      have hpp : ∀ p ∈ predsOf ops i, l'.getD p false = true := by
        intro p hp
        unfold predsOf at hp
        rw [hnth] at hp
        dsimp only at hp
        obtain ⟨e, he, rfl⟩ := List.mem_map.1 hp
        obtain ⟨he1, he2⟩ := List.mem_filter.1 he
        exact hall e (by simpa using he1) he2
      have hpA : ∀ p ∈ predsOf ops i, p ∈ A → p ∈ D := by
        intro p hp hpA
        have h1 := hpp p hp
        rw [hl' p false (hlt p hpA).1, (hlt p hpA).2] at h1
        by_cases h : p ∈ D
        · exact h
        · simp [h] at h1
      have hiA : i ∈ A := by
        have := hj i (List.mem_range.2 hil)
        simp only [Bool.or_eq_true] at this
        rcases this with ((h | h) | h) | h
        · simpa using h
        · exfalso
          rcases Nat.lt_or_ge i listed.size with h' | h'
          · rw [hl' i true h', h] at hun
            simp at hun
          · have : l'.size ≤ i := by omega
            simp [Array.getD_eq_getD_getElem?, Array.getElem?_eq_none this] at hun
        · exfalso
          obtain ⟨p, hp, h⟩ := List.any_eq_true.1 h
          simp only [Bool.and_eq_true, Bool.not_eq_true'] at h
          have h1 := hpp p hp
          rcases Nat.lt_or_ge p listed.size with h' | h'
          · rw [hl' p false h', h.2] at h1
            by_cases hd : p ∈ D
            · have := hDA p hd
              simp [this] at h
            · simp [hd] at h1
          · have : l'.size ≤ p := by omega
            simp [Array.getD_eq_getD_getElem?, Array.getElem?_eq_none this] at h1
        · exfalso
          rw [List.all_eq_true] at h
          have h1 := h c hcA
          exact hcD (clos_sub hpre A.length _ (fun x hx => by
            obtain ⟨h2, h3⟩ := List.mem_filter.1 hx
            exact hpA x h2 (List.contains_iff_mem.1 h3)) c (List.contains_iff_mem.1 h1))
      refine ⟨hiA, fun hd => ?_, fun p hp => ?_⟩
      · rw [hl' i true (hlt i hiA).1, if_pos hd] at hun
        cases hun
      · have h1 := (hA i hiA).1.2
        have h2 := h1 p hp
        exact hpA p (by simpa using h2.1) (by simpa using h2.2)
    refine ⟨fun h0 => ?_, fun i hi => ?_⟩
    · exfalso
      -- the least of those that are left
      have hmin : ∀ (q : Nat), ∀ c ∈ A, c ∉ D → c ≤ q → ∃ i ∈ A, i ∉ D ∧ ∀ p ∈ A, p < i → p ∈ D := by
        intro q
        induction q with
        | zero => intro c hc hd hq; exact ⟨c, hc, hd, fun p _ hp => by omega⟩
        | succ q ihq =>
          intro c hc hd hq
          by_cases h : ∃ p ∈ A, p < c ∧ p ∉ D
          · obtain ⟨p, h1, h2, h3⟩ := h
            exact ihq p h1 h3 (by omega)
          · exact ⟨c, hc, hd, fun p hp hl => Classical.byContradiction fun hn => h ⟨p, hp, hl, hn⟩⟩
      obtain ⟨i, hiA, hiD, him⟩ := hmin c c hcA hcD (Nat.le_refl c)
      obtain ⟨⟨⟨_, h4⟩, _⟩, h6⟩ := hA i hiA
      cases ho : nth ops i with
      | none => rw [ho] at h4; simp at h4
      | some o =>
        have hmem : i ∈ Region.ready .any ops.toArray l' := by
          refine mem_ready.2 ⟨?_, o, by rw [nth_eq] at ho; simpa using ho, fun e he hb => ?_⟩
          · rw [hl' i true (hlt i hiA).1, if_neg hiD]
            have := (hA i hiA).1.1.1.1.2
            simpa using this
          · have hp : e.on ∈ predsOf ops i := by
              unfold predsOf
              rw [ho]
              exact List.mem_map.2 ⟨e, List.mem_filter.2 ⟨by simpa using he, hb⟩, rfl⟩
            have h7 := h6 _ hp
            simp only [Bool.or_eq_true, Bool.and_eq_true] at h7
            rcases h7 with h7 | ⟨h7, h8⟩
            · rcases Nat.lt_or_ge e.on listed.size with h' | h'
              · rw [hl' e.on false h', h7]; simp
              · simp [Array.getD_eq_getD_getElem?, Array.getElem?_eq_none h'] at h7
            · have hpA : e.on ∈ A := by simpa using h7
              have hpi : e.on < i := by simpa using h8
              rw [hl' e.on false (hlt _ hpA).1, if_pos (him _ hpA hpi)]
        rw [h0] at hmem
        cases hmem
    · obtain ⟨hiA, hiD, hip⟩ := hready i hi
      obtain ⟨⟨⟨⟨⟨h1, h2⟩, h3⟩, h4⟩, h5⟩, _⟩ := hA i hiA
      cases ho : nth ops i with
      | none => rw [ho] at h4; simp at h4
      | some o =>
        rw [ho] at h4
        dsimp only at h4
        simp only [Bool.and_eq_true] at h4
        have hg : o.guard = none := by simpa using h4.1
        have hd : o.dst = some (dst i) := by simpa using h4.2
        have hstp : St n ((pre i).map (fun j => (dst j, ρ j)) ++ L) a ds := hst.fewer hip (fun x hx y hy => hinj x (hDA x hx) y (hDA y hy)) (fun x hx => hLn x (hDA x hx))
        have hz := step i hiA o ho ρ w1 hF (fun j hj => hΦ j (hip j hj)) a (fun a' w' => ∃ v, Fr w1 w' [] ∧ Φ i v w' ∧ St n ((dst i, v) :: ((pre i).map (fun j => (dst j, ρ j)) ++ L)) a' ds) ds hstp (fun L' w2 a' ⟨hf, v, hL', hv⟩ hs => ⟨v, hf, hv, hL' ▸ hs⟩)
        refine wpOp_of ho (gok_wanted hstp.toSt0 (by simp [gok, hg])) (Oper.wp_mono ?_ (upon_put hz))
        rintro a' w2 ⟨⟨v, hf, hv, hs⟩, v', hput⟩
        rw [if_pos h1]
        have hF2 := hF.then hf
        have hdn : dst i < n := by simpa using h3
        have hput2 : a'.tmps = a.tmps.setIfInBounds (dst i) v' := by rw [hput, hd]; rfl
        have hvv : v' = v := by
          have e1 := hs.l (dst i) v (by simp [look])
          rw [hput2] at e1
          simp [hst.s, hdn] at e1
          exact e1
        subst hvv
        refine ⟨hkept w2 hF2, ih (i :: D) (fun j => if j = i then v' else ρ j) w2 a' _ (List.nodup_cons.2 ⟨hiD, hD⟩) (fun x hx => ?_) (fun x hx p hp => ?_) (by simp only [List.length_cons]; omega) (by simp [hsz]) (fun j b hjl => ?_) hF2 (fun j hj => ?_) ?_⟩
        · rcases List.mem_cons.1 hx with rfl | hx
          · exact hiA
          · exact hDA x hx
        · rcases List.mem_cons.1 hx with rfl | hx
          · exact List.mem_cons_of_mem _ (hip p hp)
          · exact List.mem_cons_of_mem _ (hpre x hx p hp)
        · by_cases e : j = i
          · subst e
            simp [hsz, hjl]
          · rw [getD_set_ne b (fun h => e h.symm), hl' j b hjl]
            simp [e]
        · rcases List.mem_cons.1 hj with rfl | hj
          · simpa using hv
          · have : j ≠ i := fun e => hiD (e ▸ hj)
            simp only [if_neg this]
            exact mono j (hDA j hj) _ _ _ hf (hΦ j hj)
        · have e : (i :: D).map (fun j => (dst j, (fun j => if j = i then v' else ρ j) j)) = (dst i, v') :: D.map (fun j => (dst j, ρ j)) := by
            simp only [List.map_cons, if_true]
            congr 1
            refine List.map_congr_left fun j hj => ?_
            have : j ≠ i := fun e => hiD (e ▸ hj)
            simp [this]
          rw [e, List.cons_append]
          refine ⟨⟨hs.s, fun j u hu => ?_⟩, hs.d⟩
          simp only [look] at hu
          by_cases e : j = dst i
          · subst e
            simp at hu
            subst hu
            exact hs.l (dst i) v' (by simp [look])
          · rw [beq_no e] at hu
            rw [hput2, Array.getElem?_setIfInBounds_ne (fun h => e h.symm)]
            exact hst.l j u hu
/-- The same, from a table: number, slot, what stands before it. -/
def tabD (A : List (Nat × Nat × List Nat)) (i : Nat) : Nat := match A.find? (fun p => p.1 == i) with | some p => p.2.1 | none => 0
def tabP (A : List (Nat × Nat × List Nat)) (i : Nat) : List Nat := match A.find? (fun p => p.1 == i) with | some p => p.2.2 | none => []
def tabOK (ops : List Oper) (tl : List Nat) (listed : Array Bool) (A : List (Nat × Nat × List Nat)) (n : Nat) : Bool :=
  A.all (fun p => tabD A p.1 == p.2.1 && tabP A p.1 == p.2.2) && anyOK ops tl listed (A.map (·.1)) (tabP A) (tabD A) n
def slotsOf (A : List (Nat × Nat × List Nat)) (ρ : Nat → Value) : List Nat → Sl
  | [] => []
  | j :: r => (tabD A j, ρ j) :: slotsOf A ρ r
theorem slotsOf_eq {A : List (Nat × Nat × List Nat)} {ρ : Nat → Value} : ∀ l, slotsOf A ρ l = l.map (fun j => (tabD A j, ρ j))
  | [] => rfl
  | j :: r => by simp [slotsOf, slotsOf_eq r]
theorem Draw.anyTab (A : List (Nat × Nat × List Nat)) (td' : List Nat) (m : Nat) (Φ : Nat → Value → World → Prop) (hok : tabOK ops tl listed A n = true) (hL : A.all (fun p => (look L p.2.1).isNone) = true)
    (mono : ∀ p ∈ A, ∀ v w1 w2, Fr w1 w2 [] → Φ p.1 v w1 → Φ p.1 v w2)
    (step : ∀ p ∈ A, ∀ o, nth ops p.1 = some o → ∀ (ρ : Nat → Value) (w1 : World), Fr w w1 [] → (∀ j ∈ p.2.2, Φ j (ρ j) w1) →
      StepZ E (QKd E.P f R n k ds) n o (fun L' w2 => Fr w1 w2 [] ∧ ∃ v, L' = (p.2.1, v) :: (slotsOf A ρ p.2.2 ++ L) ∧ Φ p.1 v w2) (slotsOf A ρ p.2.2 ++ L) w1)
    (fin : ∀ (ρ : Nat → Value) (w1 : World), Fr w w1 [] → (∀ p ∈ A, Φ p.1 (ρ p.1) w1) → Draw E f R n ops k G tl td' m ((A.map (·.1)).foldl (fun l i => l.setIfInBounds i true) listed) (A.map (fun p => (p.2.1, ρ p.1)) ++ L) w1 ds) :
    Draw E f R n ops k G tl td (m + A.length) listed L w ds := by
  simp only [tabOK, Bool.and_eq_true] at hok
  obtain ⟨h1, h2⟩ := hok
  rw [List.all_eq_true] at h1
  have hD : ∀ p ∈ A, tabD A p.1 = p.2.1 := fun p hp => by
    have := h1 p hp
    simp only [Bool.and_eq_true, beq_iff_eq] at this
    exact this.1
  have hP : ∀ p ∈ A, tabP A p.1 = p.2.2 := fun p hp => by
    have := h1 p hp
    simp only [Bool.and_eq_true, beq_iff_eq] at this
    exact this.2
  have hl : m + A.length = m + (A.map (·.1)).length := by simp
  rw [hl]
  refine Draw.anyOrder (A.map (·.1)) (tabP A) (tabD A) td' Φ h2 ?_ ?_ ?_ ?_
  · rw [List.all_eq_true] at hL ⊢
    intro i hi
    obtain ⟨p, hp, rfl⟩ := List.mem_map.1 hi
    rw [hD p hp]
    exact hL p hp
  · intro i hi
    obtain ⟨p, hp, rfl⟩ := List.mem_map.1 hi
    exact mono p hp
  · intro i hi o ho ρ w1 hf hpre
    obtain ⟨p, hp, rfl⟩ := List.mem_map.1 hi
    have := step p hp o ho ρ w1 hf (by rw [hP p hp] at hpre; exact hpre)
    rw [slotsOf_eq] at this
    rw [hD p hp, hP p hp]
    exact this
  · intro ρ w1 hf hall
    have := fin ρ w1 hf (fun p hp => hall p.1 (List.mem_map.2 ⟨p, hp, rfl⟩))
    have e : (A.map (·.1)).map (fun j => (tabD A j, ρ j)) = A.map (fun p => (p.2.1, ρ p.1)) := by
      rw [List.map_map]
      refine List.map_congr_left fun p hp => ?_
      simp [hD p hp]
    rw [e]
    exact this
theorem wpOp_not {K : Act → World → Prop} {a : Act} {QQ : Exit → Act → World → Prop} {P : Program} {ops : List Oper} {i : Nat} {o : Oper} {w : World} (hi : nth ops i = some o) (hw : Region.wanted o (yielded ops.toArray a.tmps) = false) (h : K (a.put o.dst undef) w) : wpOp P ops.toArray QQ i K a w := by
  have hi' : ops.toArray[i]? = some o := by rw [nth_eq] at hi; simpa using hi
  unfold wpOp
  rw [hi']
  dsimp only
  rw [hw]
  exact h
/-- The one operation that may come up now is not wanted. -/
theorem Draw.passL {i d : Nat} {o : Oper} (hi : nth ops i = some o) (hd : o.dst = some d) (hn : Nat.blt d n = true) (hg : gok ops L o = some false) (hr : (Region.ready .any ops.toArray listed == [i] && tl.contains i) = true)
    (next : Draw2 E f R n ops k td m (listed.setIfInBounds i true) ((d, undef) :: L) w ds) : Draw E f R n ops k G tl (i :: td) (m + 1) listed L w ds := by
  intro hS a ha
  simp only [Bool.and_eq_true, beq_iff_eq] at hr
  refine ⟨fun h0 => (by rw [hr.1] at h0; cases h0), fun j hj => ?_⟩
  rw [hr.1] at hj
  obtain rfl : j = i := by simpa using hj
  refine wpOp_not hi (gok_wanted ha.toSt0 hg) ?_
  rw [if_neg (by have h2 := hr.2; simp at h2 ⊢; exact h2), hd]
  exact next _ (ha.put undef hn)
theorem Draw.passE {i d : Nat} {o : Oper} (hi : nth ops i = some o) (hd : o.dst = some d) (hn : Nat.blt d n = true) (hg : gok ops L o = some false) (hr : (Region.ready .any ops.toArray listed == [i] && !tl.contains i) = true)
    (next : Draw E f R n ops k G tl td m (listed.setIfInBounds i true) ((d, undef) :: L) w ds) : Draw E f R n ops k G tl (i :: td) (m + 1) listed L w ds := by
  intro hS a ha
  simp only [Bool.and_eq_true, beq_iff_eq] at hr
  refine ⟨fun h0 => (by rw [hr.1] at h0; cases h0), fun j hj => ?_⟩
  rw [hr.1] at hj
  obtain rfl : j = i := by simpa using hj
  refine wpOp_not hi (gok_wanted ha.toSt0 hg) ?_
  rw [if_pos hr.2, hd]
  exact ⟨hS, next hS _ (ha.put undef hn)⟩
theorem Draw2.passE {i d : Nat} {o : Oper} (hi : nth ops i = some o) (hd : o.dst = some d) (hn : Nat.blt d n = true) (hg : gok ops L o = some false) (hr : (Region.ready .any ops.toArray listed == [i]) = true)
    (next : Draw2 E f R n ops k td m (listed.setIfInBounds i true) ((d, undef) :: L) w ds) : Draw2 E f R n ops k (i :: td) (m + 1) listed L w ds := by
  intro a ha
  simp only [beq_iff_eq] at hr
  refine ⟨fun h0 => (by rw [hr] at h0; cases h0), fun j hj => ?_⟩
  rw [hr] at hj
  obtain rfl : j = i := by simpa using hj
  refine wpOp_not hi (gok_wanted ha.toSt0 hg) ?_
  rw [hd]
  exact next _ (ha.put undef hn)
end
/-! Natural numbers: what comes out is one again. -/
section
variable {E : Env} {n : Nat} {L : Sl} {G : List Ent} {d T : Nat} {pos : String} {e : Array Edge} {g : Option (Nat × Bool)} {x y : Operand}
theorem X.addN {t t' i j : Nat} {kd : IntKind} {a b : Int} (hx : ev L x = some (.int kd a)) (hy : ev L y = some (.int kd b)) (ha : natOf a = some i) (hb : natOf b = some j) (hw : kd.wrap ((i : Int) + j) = (i : Int) + j) :
    PureOp E n L G ⟨some d, .binOp .add t x y t', T, pos, e, g⟩ (.int kd ((i + j : Nat) : Nat)) := by
  rw [natOf_eq ha] at hx
  rw [natOf_eq hb] at hy
  exact X.arith hx hy (r := ((i + j : Nat) : Int)) (by simp only [hw]; simp)
theorem X.subN {t t' i j : Nat} {kd : IntKind} {a b : Int} (hx : ev L x = some (.int kd a)) (hy : ev L y = some (.int kd b)) (ha : natOf a = some i) (hb : natOf b = some j) (hij : j ≤ i) (hw : kd.wrap ((i : Int) - j) = (i : Int) - j) :
    PureOp E n L G ⟨some d, .binOp .sub t x y t', T, pos, e, g⟩ (.int kd ((i - j : Nat) : Nat)) := by
  rw [natOf_eq ha] at hx
  rw [natOf_eq hb] at hy
  exact X.arith hx hy (r := ((i - j : Nat) : Int)) (by simp only [hw]; congr 1; omega)
theorem X.mulN {t t' i j : Nat} {kd : IntKind} {a b : Int} (hx : ev L x = some (.int kd a)) (hy : ev L y = some (.int kd b)) (ha : natOf a = some i) (hb : natOf b = some j) (hw : kd.wrap ((i : Int) * j) = (i : Int) * j) :
    PureOp E n L G ⟨some d, .binOp .mul t x y t', T, pos, e, g⟩ (.int kd ((i * j : Nat) : Nat)) := by
  rw [natOf_eq ha] at hx
  rw [natOf_eq hb] at hy
  exact X.arith hx hy (r := ((i * j : Nat) : Int)) (by simp only [hw]; simp)
theorem X.quoN {t t' i j : Nat} {kd : IntKind} {a b : Int} (hx : ev L x = some (.int kd a)) (hy : ev L y = some (.int kd b)) (ha : natOf a = some i) (hb : natOf b = some j) (hj : 0 < j) (hw : kd.wrap ((i : Int) / j) = (i : Int) / j) :
    PureOp E n L G ⟨some d, .binOp .quo t x y t', T, pos, e, g⟩ (.int kd ((i / j : Nat) : Nat)) := by
  rw [natOf_eq ha] at hx
  rw [natOf_eq hb] at hy
  have := X.quoP (E := E) (n := n) (L := L) (G := G) (d := d) (T := T) (pos := pos) (e := e) (g := g) (t := t) (t' := t') (x := x) (y := y) hx hy ⟨by omega, by omega⟩ hw
  rw [show ((i / j : Nat) : Int) = (i : Int) / (j : Int) from rfl]
  exact this
end
end Go.Proofs.Ytaneenahapdabaa
