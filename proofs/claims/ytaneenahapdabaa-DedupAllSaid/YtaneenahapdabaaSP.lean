/- Layer 20's reader, walked: take, number. -/
import Derived.Test.YtaneenahapdabaaSN
import Derived.Test.YtaneenahapdabaaEngT
namespace Go.Proofs.Ytaneenahapdabaa
open Go
set_option maxRecDepth 20000
set_option maxHeartbeats 2000000
attribute [local irreducible] Run Ops Fn Draw Draw2 PureOp StepZ

def encA (s : CS) (x : Int) : List Int := beL 8 x.toNat ++ beL 4 ((s.ans x).getD []).length ++ (s.ans x).getD []
def encS (s : CS) : List Int := beL 8 s.floor.toNat ++ beL 4 s.seqs.length ++ s.seqs.flatMap (encA s)
def encC (m : Int → Option CS) (id : Int) : List Int := beL 8 id.toNat ++ encS ((m id).getD cs0)
def encB (size N : Nat) (m : Int → Option CS) (ids : List Int) : List Int := beL 4 size ++ beL 4 N ++ ids.flatMap (encC m)
def encW (size N : Nat) (m : Int → Option CS) (ids : List Int) : List Int := encB size N m ids ++ beL 8 (fnvL (encB size N m ids))
/-- The numbers are those that Go's types hold. -/
def U64 (x : Int) : Prop := 0 ≤ x ∧ x < 18446744073709551616
structure COk (s : CS) : Prop where
  fl : U64 s.floor
  sq : ∀ x ∈ s.seqs, U64 x
  an : ∀ x a, s.ans x = some a → Byt a ∧ a.length ≤ 65536
structure WOk (W : WS) : Prop where
  size : 1 ≤ W.size ∧ W.size ≤ 64
  N : W.N ≤ 1024
  cl : ∀ x c, W.m x = some c → U64 x ∧ COk c.s

theorem Kept.up {G : List Ent} {w w' : World} (h : ∀ e ∈ G, w.heap[e.b]? = some e.o) (hk : ∀ (b : Nat) (o : Obj), w.heap[b]? = some o → (∀ cs, o ≠ row cs 5) → w'.heap[b]? = some o) (hn : G.all (fun e => match e.o with | .cells _ t _ => t != 5 | _ => true) = true) : Kept G w' := by
  intro e he
  refine hk _ _ (h e he) fun cs hc => ?_
  have := List.all_eq_true.1 hn e he
  rw [hc] at this
  simp at this
theorem Own.cast {w : World} {z el sz n n' : Nat} {v : Value} {vs vs' : List Value} (h : Own w z el sz v n vs) (hn : n = n') (hv : vs = vs') : Own w z el sz v n' vs' := by
  subst hn
  subst hv
  exact h
theorem Own.bys {w : World} {z : Nat} {v : Value} {xs : List Int} (h : Own w z 5 1 v xs.length (u8s xs)) : Bys w v xs := by
  rcases h with ⟨h1, h2, rfl⟩ | ⟨b, cap, cs, rfl, h2, h3, h4, h5, h6, h7⟩
  · have hx : xs = [] := List.eq_nil_of_length_eq_zero h1
    subst hx
    exact ⟨none, 0, 0, 0, [], 0, (0, 0), rfl, by simp, by omega, fun h => absurd h (by simp), .nil⟩
  · exact ⟨_, cap, b, 0, cs, 5, (0, 0), rfl, h2, h3, fun _ => ⟨rfl, h5⟩, by simpa using h7⟩
theorem Byt.append {xs ys : List Int} (h : Byt xs) (h' : Byt ys) : Byt (xs ++ ys) := fun x hx => (List.mem_append.1 hx).elim (h x) (h' x)
theorem Byt.flat {α : Type} {f : α → List Int} {l : List α} (h : ∀ x ∈ l, Byt (f x)) : Byt (l.flatMap f) := fun y hy => by
  obtain ⟨x, hx, hy⟩ := List.mem_flatMap.1 hy
  exact h x hx y hy
theorem Byt.be (k n : Nat) : Byt (beL k n) := by
  induction k with
  | zero => intro x hx; simp [beL] at hx
  | succ k ih =>
    intro x hx
    rcases List.mem_cons.1 hx with rfl | hx
    · have := Nat.mod_lt (n / 256 ^ k) (by decide : 0 < 256)
      omega
    · exact ih x hx
theorem Byt.encA {s : CS} (h : COk s) (x : Int) : Byt (encA s x) := by
  refine Byt.append (Byt.append (Byt.be _ _) (Byt.be _ _)) ?_
  cases hx : s.ans x with
  | none => intro y hy; simp at hy
  | some a => exact (h.an x a hx).1
theorem Byt.encS {s : CS} (h : COk s) : Byt (encS s) := Byt.append (Byt.append (Byt.be _ _) (Byt.be _ _)) (Byt.flat fun x _ => Byt.encA h x)
theorem Byt.encB {W : WS} (h : WOk W) (a b : Nat) (ids : List Int) (hi : ∀ x ∈ ids, (W.m x).isSome = true) : Byt (encB a b (st W) ids) := by
  refine Byt.append (Byt.append (Byt.be _ _) (Byt.be _ _)) (Byt.flat fun x hx => Byt.append (Byt.be _ _) ?_)
  obtain ⟨c, hc⟩ := Option.isSome_iff_exists.1 (hi x hx)
  simp only [st, hc, Option.map_some, Option.getD_some]
  exact Byt.encS (h.cl x c hc).2
theorem len_flat {α β : Type} (f : α → List β) (B : Nat) (l : List α) (h : ∀ x ∈ l, (f x).length ≤ B) : (l.flatMap f).length ≤ l.length * B := by
  induction l with
  | nil => simp
  | cons x l ih =>
    have h1 := h x (by simp)
    have h2 := ih (fun y hy => h y (by simp [hy]))
    simp only [List.flatMap_cons, List.length_append, List.length_cons, Nat.add_mul]
    omega
theorem encA_le {s : CS} (h : COk s) (x : Int) : (encA s x).length ≤ 65548 := by
  have : ((s.ans x).getD []).length ≤ 65536 := by
    cases hx : s.ans x with
    | none => simp
    | some a => exact (h.an x a hx).2
  simp [encA, beL_len]
  omega
theorem encS_le {s : CS} (h : COk s) (hl : s.seqs.length ≤ 64) : (encS s).length ≤ 4195084 := by
  have := len_flat (encA s) 65548 s.seqs (fun x _ => encA_le h x)
  simp only [encS, List.length_append, beL_len]
  omega
theorem take_flat {α β : Type} (f : α → List β) (l : List α) (i : Nat) (hi : i < l.length) : (l.take (i + 1)).flatMap f = (l.take i).flatMap f ++ f l[i] := by
  rw [List.take_succ_eq_append_getElem hi, List.flatMap_append]
  simp
theorem enc_all (z : World) (W : WS) (h : Wn z W) (hk : WOk W) : Fn env.P 21 [.pointer (some ⟨W.wb, 0, none⟩)] z fun v w' => ∃ ids : List Int, (∀ x, x ∈ ids ↔ (W.m x).isSome = true) ∧ ids.Pairwise (· < ·) ∧ ids.length = W.N ∧ Own w' z.heap.size 5 1 v (encW W.size.toNat W.N (st W) ids).length (u8s (encW W.size.toNat W.N (st W) ids)) ∧ Fr z w' [] := by
  obtain ⟨es, k, f, h2, h3, h4, h5⟩ := h.mp
  obtain ⟨size, hsz⟩ : ∃ n : Nat, W.size = (n : Int) := ⟨W.size.toNat, by have := hk.size; omega⟩
  have hsz2 := hk.size
  have hN := hk.N
  have ha := h.at_
  rw [hsz] at ha hsz2
  have H := ((Holds.start z []).add false ha (by simp) (by simp)).add false h2 (by simp; intro e; rw [e] at h2; rw [h2] at ha; cases ha) (by simp)
  have HF := Try.func21; refine Fn.enter Try.func21 Try.ntmps21 rfl rfl rfl ?_
  (refine Run.seq (Run.region ?_); intro K hK)
  refine Ops.pure H (X.assign rfl) rfl rfl rfl ?_
  (refine Ops.nil (hK _ _ ?_); clear hK K)
  refine Run.seq ?_
  (refine Run.draw H [] [0, 1, 2, 3, 4, 6, 7, 8, 9, 5, 10, 11, 12, 13] ?_; clear H; intro K hK w H)
  refine Draw.take0 rfl (X.move rfl) rfl rfl rfl (by decide +kernel) ?_
  refine Draw.take0 rfl (X.nilCheck rfl) rfl rfl rfl (by decide +kernel) ?_
  refine Draw.take0 rfl (X.fieldAddr rfl rfl rfl rfl rfl rfl) rfl rfl rfl (by decide +kernel) ?_
  refine Draw.take rfl (X.load1 rfl rfl rfl rfl (.tail .head) rfl) rfl rfl rfl (by decide +kernel) ?_
  refine Draw.take0 rfl (X.conv rfl rfl rfl rfl rfl (u64_in _ (by omega))) rfl rfl rfl (by decide +kernel) ?_
  refine Draw.take0 rfl (X.move rfl) rfl rfl rfl (by decide +kernel) ?_
  refine Draw.take0 rfl (X.nilCheck rfl) rfl rfl rfl (by decide +kernel) ?_
  refine Draw.take0 rfl (X.fieldAddr rfl rfl rfl rfl rfl rfl) rfl rfl rfl (by decide +kernel) ?_
  refine Draw.take rfl (X.load1 rfl rfl rfl rfl (.tail .head) rfl) rfl rfl rfl (by decide +kernel) ?_
  refine Draw.eff rfl rfl (by decide +kernel) (Y.call rfl rfl (by first | assumption | decide +kernel) rfl (enc_any z _ _ [] size 4 Own.nil H.fr (by omega) (by omega) (by simp)) rfl ?_)
  rintro v1 w1 ⟨hO1, hf1, _⟩
  refine ⟨fun e he => by
    simp at he
    rcases he with rfl | rfl
    · exact hf1.get h2 (by simp)
    · exact hf1.get ha (by simp), ?_⟩
  refine Draw.take rfl (X.len_map rfl rfl rfl .head) rfl rfl rfl (by decide +kernel) ?_
  refine Draw.take0 rfl (X.conv rfl rfl rfl rfl rfl (u64_in _ (by omega))) rfl rfl rfl (by decide +kernel) ?_
  refine Draw.eff rfl rfl (by decide +kernel) (Y.call rfl rfl (by first | assumption | decide +kernel) rfl (enc_any z _ _ ([] ++ beL 4 size) es.size 4 hO1 hf1 (by omega) (by omega) (by simp [beL_len])) rfl ?_)
  rintro v2 w2 ⟨hO2, hf2, _⟩
  refine ⟨fun e he => by
    simp at he
    rcases he with rfl | rfl
    · exact hf2.get h2 (by simp)
    · exact hf2.get ha (by simp), ?_⟩
  clear H
  have H := Holds.start w2 []
  refine Draw.take0 rfl (X.assign rfl) rfl rfl rfl (by decide +kernel) ?_
  (refine Draw.done (by decide +kernel) (hK _ _ ?_); clear hK K)
  refine Run.seq ?_
  (refine Run.seq (Run.region ?_); intro K hK)
  refine Ops.pure H (X.move rfl) rfl rfl rfl ?_
  refine Ops.eff rfl (Y.call rfl rfl (by first | assumption | decide +kernel) rfl (known_any _ W (h.ext (hf2.then H.fr)) (by omega)) rfl ?_)
  rintro v3 w3 ⟨ids, hi1, hi2, hi3, hi4, hf3⟩
  have F3 := hf2.then (H.fr.then hf3)
  have hO3 := hO2.ext (H.fr.then hf3)
  obtain ⟨ia, icap, rfl, hia⟩ := hi4
  clear H
  have H := Holds.start w3 []
  refine Ops.pure H (X.len_slice rfl rfl rfl) rfl rfl rfl ?_
  refine Ops.pure H (X.move rfl) rfl rfl rfl ?_
  (refine Ops.nil (hK _ _ ?_); clear hK K)
  refine Run.block ?_
  have hm3 := F3.get h2 (by simp)
  have hncs : ∀ c, W.m c = none ∨ ∃ x, W.m c = some x := fun c => by cases W.m c <;> simp
  obtain ⟨pre, hpre⟩ : ∃ pre, pre = beL 4 size ++ beL 4 es.size := ⟨_, rfl⟩
  have hprel : pre.length = 8 := by rw [hpre]; simp [beL_len]
  have hflat : ∀ i, i ≤ ids.length → ((ids.take i).flatMap (encC (st W))).length ≤ 1024 * 4195092 := fun i hi => by
    have h1 := len_flat (encC (st W)) 4195092 (ids.take i) (fun x hx => by
      have hx' := (hi1 x).1 (List.mem_of_mem_take hx)
      obtain ⟨c, hc⟩ := Option.isSome_iff_exists.1 hx'
      have := encS_le (hk.cl x c hc).2 (h.len x c hc)
      simp only [encC, st, hc, List.length_append, beL_len, Option.map_some, Option.getD_some]
      omega)
    have h2 : (ids.take i).length ≤ 1024 := by simp; omega
    exact Nat.le_trans h1 (Nat.mul_le_mul_right _ h2)
  refine Run.rounds (fun (x : Nat × Value) => [(0, .pointer (some ⟨W.wb, 0, none⟩)), (3, x.2), (24, .slice ia ids.length icap), (25, .int .i64 (ids.length : Nat)), (26, .int .i64 (x.1 : Nat))])
    (fun x w' => x.1 ≤ ids.length ∧ Fr z w' [] ∧ Own w' z.heap.size 5 1 x.2 (pre ++ (ids.take x.1).flatMap (encC (st W))).length (u8s (pre ++ (ids.take x.1).flatMap (encC (st W)))) ∧ ∀ (b : Nat) (o : Obj), w3.heap[b]? = some o → (∀ cs, o ≠ row cs 5) → w'.heap[b]? = some o) (fun x => ids.length - x.1) (0, v2) (by repeat (first | exact trivial | refine ⟨rfl, ?_⟩))
    ⟨by dsimp only; omega, F3.then H.fr, by
      have := hO3.ext H.fr
      rw [hpre]
      simpa using this, fun b o hb _ => H.fr.get hb (by simp)⟩ ?_
  clear H
  rintro ⟨i, v⟩ w4 ⟨hil, F4, hO4, hk4⟩ IH
  dsimp only at hil hO4 IH ⊢
  by_cases hi : i < ids.length
  · obtain ⟨ib, ics, rfl, _, hib, hic⟩ := hia (by omega)
    have hib4 := hk4 _ _ hib (by intros; simp)
    obtain ⟨c, hc⟩ := Option.isSome_iff_exists.1 ((hi1 ids[i]).1 (List.getElem_mem hi))
    obtain ⟨hu, hco⟩ := hk.cl _ _ hc
    have hle64 := h.len _ _ hc
    obtain ⟨idn, hid⟩ : ∃ n : Nat, ids[i] = (n : Int) := ⟨ids[i].toNat, by have := hu.1; omega⟩
    have hidl : idn < 18446744073709551616 := by have := hu.2; omega
    have c1 : ics[0 + i * 1]? = some (.int .u64 ((idn : Nat) : Int)) := by
      rw [Nat.mul_one, hic.toGet hi]
      simp [u64s, hi, hid]
    obtain ⟨⟨sv, a1, a2⟩, ces, ck, cf, a3, a4, a5⟩ := h.cl _ c hc
    obtain ⟨fl, hfl⟩ : ∃ n : Nat, c.s.floor = (n : Int) := ⟨c.s.floor.toNat, by have := hco.fl.1; omega⟩
    have hfll : fl < 18446744073709551616 := by have := hco.fl.2; omega
    rw [hfl] at a1
    obtain ⟨sa, scap, soff, scs, rfl, hsc1, hsc2, hsq⟩ := a2
    have hst2 : st W ids[i] = some c.s := by simp [st, hc]
    have hfx : f (idn : Int) = some (.pointer (some ⟨c.cb, 0, none⟩)) := by rw [← hid, h5, hc]; rfl
    have hfl4 := hflat i (by omega)
    have a14 := F4.get a1 (by simp)
    have ha4 := F4.get ha (by simp)
    have hm4 := F4.get h2 (by simp)
    have n1 : c.cb ≠ W.wb := ne_of_ty a1 ha (by decide)
    have n2 : c.cb ≠ ib := ne_of_ty a14 hib4 (by decide)
    have n3 : W.wb ≠ ib := ne_of_ty ha4 hib4 (by decide)
    have H := (((Holds.start w4 []).add false a14 (by simp) (by simp)).add false ha4 (by simpa using n1.symm) (by simp)).add false hib4 (by simp; exact ⟨n3.symm, n2.symm⟩) (by simp)
    have hicl : 0 + i * 1 < ics.length := (List.getElem?_eq_some_iff.1 c1).1
    (refine Run.seq (Run.region ?_); intro K hK)
    refine Ops.pure H (X.cmp rfl rfl rfl) rfl rfl rfl ?_
    (refine Ops.nil (hK _ _ ?_); clear hK K)
    refine Run.seq ?_
    refine Run.cond_dec rfl (fun h27 => ?x0) (fun h27 => ?y0)
    case' y0 => exfalso; omega
    case' x0 =>
      refine Run.skip ?_
      refine Run.seq ?_
      refine Run.block ?_
      (refine Run.seq (Run.region ?_); intro K hK)
      refine Ops.pure H (X.indexAddr rfl rfl (by omega) rfl rfl rfl rfl) rfl rfl rfl ?_
      refine Ops.pure H (X.load1 rfl rfl rfl rfl Pick.head (by assumption)) rfl rfl rfl ?_
      refine Ops.pure H (X.assign rfl) rfl rfl rfl ?_
      (refine Ops.nil (hK _ _ (Run.seq (Run.region ?_))); clear hK K; intro K hK)
      refine Ops.pure H (X.move rfl) rfl rfl rfl ?_
      refine Ops.pure H (X.nilCheck rfl) rfl rfl rfl ?_
      refine Ops.pure H (X.fieldAddr rfl rfl rfl rfl rfl rfl) rfl rfl rfl ?_
      refine Ops.pure H (X.load1 rfl rfl rfl rfl (.tail .head) rfl) rfl rfl rfl ?_
      refine Ops.pure H (X.move rfl) rfl rfl rfl ?_
    refine Ops.pure ((Holds.start w4 []).add false hm4 (by simp) (by simp)) (X.lookup (v := .pointer (some ⟨c.cb, 0, none⟩)) h3 .head rfl rfl rfl rfl rfl rfl rfl (by rw [hfx]; rfl)) rfl rfl rfl ?_
    refine Ops.pure H (X.assign rfl) rfl rfl rfl ?_
    (refine Ops.nil (hK _ _ ?_); clear hK K)
    refine Run.seq ?_
    (refine Run.draw H [] [0, 1, 3, 4, 5, 6, 8, 9, 10, 11, 12, 13, 2, 7, 14, 15] ?_; clear H; intro K hK w H)
    refine Draw.take0 rfl (X.move rfl) rfl rfl rfl (by decide +kernel) ?_
    refine Draw.take0 rfl (X.move rfl) rfl rfl rfl (by decide +kernel) ?_
    refine Draw.take0 rfl (X.move rfl) rfl rfl rfl (by decide +kernel) ?_
    refine Draw.take0 rfl (X.nilCheck rfl) rfl rfl rfl (by decide +kernel) ?_
    refine Draw.take0 rfl (X.fieldAddr rfl rfl rfl rfl rfl rfl) rfl rfl rfl (by decide +kernel) ?_
    refine Draw.take rfl (X.load1 rfl rfl rfl rfl (.tail (.tail .head)) rfl) rfl rfl rfl (by decide +kernel) ?_
    refine Draw.take0 rfl (X.move rfl) rfl rfl rfl (by decide +kernel) ?_
    refine Draw.take0 rfl (X.nilCheck rfl) rfl rfl rfl (by decide +kernel) ?_
    refine Draw.take0 rfl (X.fieldAddr rfl rfl rfl rfl rfl rfl) rfl rfl rfl (by decide +kernel) ?_
    refine Draw.take rfl (X.load1 rfl rfl rfl rfl (.tail (.tail .head)) rfl) rfl rfl rfl (by decide +kernel) ?_
    refine Draw.take0 rfl (X.len_slice rfl rfl rfl) rfl rfl rfl (by decide +kernel) ?_
    refine Draw.take0 rfl (X.conv rfl rfl rfl rfl rfl (u64_in _ (by omega))) rfl rfl rfl (by decide +kernel) ?_
    obtain ⟨P0, hP0⟩ : ∃ P, P = pre ++ (ids.take i).flatMap (encC (st W)) := ⟨_, rfl⟩
    have hP0l : P0.length ≤ 4295774216 := by rw [hP0, List.length_append]; omega
    rw [← hP0] at hO4
    refine Draw.eff rfl rfl (by decide +kernel) (Y.call rfl rfl (by first | assumption | decide +kernel) rfl (enc_any z _ _ P0 idn 8 (hO4.ext H.fr) (F4.then H.fr) hidl (by omega) (by omega)) rfl ?_)
    rintro vA wA ⟨hOA, fA, kA⟩
    have hKA := Kept.up H.at_ kA rfl
    refine ⟨hKA, ?_⟩
    skip
    refine Draw.eff rfl rfl (by decide +kernel) (Y.call rfl rfl (by first | assumption | decide +kernel) rfl (enc_any z _ _ (P0 ++ beL 8 idn) fl 8 hOA fA hfll (by omega) (by simp [beL_len]; omega)) rfl ?_)
    rintro vB wB ⟨hOB, fB, kB⟩
    have hKB := Kept.up hKA kB rfl
    refine ⟨hKB, ?_⟩
    skip
    refine Draw.eff rfl rfl (by decide +kernel) (Y.call rfl rfl (by first | assumption | decide +kernel) rfl (enc_any z _ _ (P0 ++ beL 8 idn ++ beL 8 fl) c.s.seqs.length 4 hOB fB (by omega) (by omega) (by simp [beL_len]; omega)) rfl ?_)
    rintro vC wC ⟨hOC, fC, kC⟩
    have hKC := Kept.up hKB kC rfl
    refine ⟨hKC, ?_⟩
    obtain ⟨va, vcap, rfl⟩ := hOC.slice
    have hk5 : ∀ (b : Nat) (o : Obj), w3.heap[b]? = some o → (∀ cs, o ≠ row cs 5) → wC.heap[b]? = some o := fun b o hb hno => kC b o (kB b o (kA b o (H.fr.get (hk4 b o hb hno) (by simp)) hno) hno) hno
    have hb5 := fC.get a1 (by simp)
    have hib5 := hKC _ (List.mem_cons_self ..)
    clear H
    have H := (Holds.start wC []).add false hb5 (by simp) (by simp)
    refine Draw.take0 rfl (X.assign rfl) rfl rfl rfl (by decide +kernel) ?_
    (refine Draw.done (by decide +kernel) (hK _ _ ?_); clear hK K)
    (refine Run.seq (Run.region ?_); intro K hK)
    refine Ops.pure H (X.move rfl) rfl rfl rfl ?_
    refine Ops.pure H (X.nilCheck rfl) rfl rfl rfl ?_
    refine Ops.pure H (X.fieldAddr rfl rfl rfl rfl rfl rfl) rfl rfl rfl ?_
    refine Ops.pure H (X.load1 rfl rfl rfl rfl Pick.head rfl) rfl rfl rfl ?_
    refine Ops.pure H (X.len_slice rfl rfl rfl) rfl rfl rfl ?_
    refine Ops.pure H (X.move rfl) rfl rfl rfl ?_
    (refine Ops.nil (hK _ _ ?_); clear hK K)
    refine Run.block ?_
    obtain ⟨P1, hP1⟩ : ∃ P, P = P0 ++ beL 8 idn ++ beL 8 fl ++ beL 4 c.s.seqs.length := ⟨_, rfl⟩
    have hP1l : P1.length ≤ 4295774236 := by rw [hP1]; simp [beL_len]; omega
    have hP1p : 0 < P1.length := by rw [hP1]; simp [beL_len]
    rw [← hP1] at hOC ⊢
    have hfla : ∀ j, j ≤ c.s.seqs.length → ((c.s.seqs.take j).flatMap (encA c.s)).length ≤ 4195072 := fun j hj => by
      have h1 := len_flat (encA c.s) 65548 (c.s.seqs.take j) (fun x _ => encA_le hco x)
      have h2 : (c.s.seqs.take j).length ≤ 64 := by simp; omega
      omega
    refine Run.rounds (fun (x : Nat × Value) => [(0, .pointer (some ⟨W.wb, 0, none⟩)), (3, x.2), (6, .pointer (some ⟨c.cb, 0, none⟩)), (24, .slice (some ⟨ib, 0, none⟩) ids.length icap), (25, .int .i64 (ids.length : Nat)), (26, .int .i64 (i : Nat)), (54, .slice sa c.s.seqs.length scap), (55, .int .i64 (c.s.seqs.length : Nat)), (56, .int .i64 (x.1 : Nat))])
      (fun x w' => x.1 ≤ c.s.seqs.length ∧ Fr z w' [] ∧ Own w' z.heap.size 5 1 x.2 (P1 ++ (c.s.seqs.take x.1).flatMap (encA c.s)).length (u8s (P1 ++ (c.s.seqs.take x.1).flatMap (encA c.s))) ∧ ∀ (b : Nat) (o : Obj), w3.heap[b]? = some o → (∀ cs, o ≠ row cs 5) → w'.heap[b]? = some o) (fun x => c.s.seqs.length - x.1) (0, .slice va P1.length vcap) (by repeat (first | exact trivial | refine ⟨rfl, ?_⟩))
      ⟨by dsimp only; omega, fC.then H.fr, by simpa using hOC.ext H.fr, fun b o hb hno => H.fr.get (hk5 b o hb hno) (by simp)⟩ ?_
    clear H
    rintro ⟨j, u⟩ w5 ⟨hjl, F5, hO5, hk6⟩ IH2
    dsimp only at hjl hO5 IH2 ⊢
    by_cases hj : j < c.s.seqs.length
    · obtain ⟨rfl, hsb, hsl, hscs⟩ : sa = some ⟨c.sb, soff, none⟩ ∧ z.heap[c.sb]? = some (row scs 28) ∧ soff + scap ≤ scs.length ∧ Cs scs soff c.s.seqs.length (u64s c.s.seqs) := by
        rcases hsq with ⟨_, h0⟩ | h0
        · omega
        · exact h0
      obtain ⟨sq, hsqn⟩ : ∃ n : Nat, c.s.seqs[j] = (n : Int) := ⟨c.s.seqs[j].toNat, by have := (hco.sq _ (List.getElem_mem hj)).1; omega⟩
      have hsql : sq < 18446744073709551616 := by have := (hco.sq _ (List.getElem_mem hj)).2; omega
      have c2 : scs[soff + j * 1]? = some (.int .u64 ((sq : Nat) : Int)) := by
        rw [Nat.mul_one, hscs.toGet hj]
        simp [u64s, hj, hsqn]
      have a16 := F5.get a1 (by simp)
      have a36 := F5.get a3 (by simp)
      have hsb6 := F5.get hsb (by simp)
      have n5 : c.cb ≠ c.sb := ne_of_ty a1 hsb (by decide)
      have n6 : c.ab ≠ c.cb := fun e => by rw [e, a1] at a3; cases a3
      have hfl5 := hfla j hjl
      have H := ((Holds.start w5 []).add false a16 (by simp) (by simp)).add false hsb6 (by simpa using n5.symm) (by simp)
      obtain ⟨P2, hP2⟩ : ∃ P, P = P1 ++ (c.s.seqs.take j).flatMap (encA c.s) := ⟨_, rfl⟩
      have hP2l : P2.length ≤ 4299969308 := by rw [hP2, List.length_append]; omega
      have hP2p : 0 < P2.length := by rw [hP2, List.length_append]; omega
      rw [← hP2] at hO5
      obtain ⟨av, xs, hav, hans, hA⟩ : ∃ av xs, (cf (sq : Int)).getD (.slice none 0 0) = av ∧ (c.s.ans (sq : Int)).getD [] = xs ∧ Ans z av xs := by
        rcases a5 (sq : Int) with ⟨e1, e2⟩ | ⟨v, xs, e1, e2, e3⟩
        · exact ⟨_, _, rfl, rfl, by rw [e1, e2]; exact Ans.nil⟩
        · exact ⟨_, _, rfl, rfl, by rw [e1, e2]; exact e3⟩
      have hxl : xs.length ≤ 65536 := by
        rw [← hans]
        cases hx : c.s.ans (sq : Int) with
        | none => simp
        | some a => exact (hco.an _ a hx).2
      (refine Run.seq (Run.region ?_); intro K hK)
      refine Ops.pure H (X.cmp rfl rfl rfl) rfl rfl rfl ?_
      (refine Ops.nil (hK _ _ ?_); clear hK K)
      refine Run.seq ?_
      refine Run.cond_dec rfl (fun h57 => ?x1) (fun h57 => ?y1)
      case' y1 => exfalso; omega
      case' x1 =>
        refine Run.skip ?_
        refine Run.seq ?_
        refine Run.block ?_
        (refine Run.seq (Run.region ?_); intro K hK)
        refine Ops.pure H (X.indexAddr rfl rfl (by omega) rfl rfl rfl rfl) rfl rfl rfl ?_
        refine Ops.pure H (X.load1 rfl rfl rfl rfl Pick.head (by assumption)) rfl rfl rfl ?_
        refine Ops.pure H (X.assign rfl) rfl rfl rfl ?_
        (refine Ops.nil (hK _ _ (Run.seq (Run.region ?_))); clear hK K; intro K hK)
        refine Ops.pure H (X.move rfl) rfl rfl rfl ?_
        refine Ops.pure H (X.nilCheck rfl) rfl rfl rfl ?_
        refine Ops.pure H (X.fieldAddr rfl rfl rfl rfl rfl rfl) rfl rfl rfl ?_
        refine Ops.pure H (X.load1 rfl rfl rfl rfl (.tail .head) rfl) rfl rfl rfl ?_
        refine Ops.pure H (X.move rfl) rfl rfl rfl ?_
      refine Ops.pure ((Holds.start w5 []).add false a36 (by simp) (by simp)) (X.lookup (v := av) a4 .head rfl rfl rfl rfl rfl rfl rfl hav) rfl rfl rfl ?_
      obtain ⟨aa, acap, rfl⟩ := hA.slice
      refine Ops.pure H (X.assign rfl) rfl rfl rfl ?_
      (refine Ops.nil (hK _ _ ?_); clear hK K)
      (refine Run.region ?_; intro K hK)
      refine Ops.pure H (X.move rfl) rfl rfl rfl ?_
      refine Ops.pure H (X.move rfl) rfl rfl rfl ?_
      refine Ops.eff rfl (Y.call rfl rfl (by first | assumption | decide +kernel) rfl (enc_any z _ _ P2 sq 8 (hO5.ext H.fr) (F5.then H.fr) hsql (by omega) (by omega)) rfl ?_)
      rintro vD wD ⟨hOD, fD, kD⟩
      have hk7 : ∀ (b : Nat) (o : Obj), w3.heap[b]? = some o → (∀ cs, o ≠ row cs 5) → wD.heap[b]? = some o := fun b o hb hno => kD b o (H.fr.get (hk6 b o hb hno) (by simp)) hno
      clear H
      have H := Holds.start wD []
      refine Ops.pure H (X.move rfl) rfl rfl rfl ?_
      refine Ops.pure H (X.len_slice rfl rfl rfl) rfl rfl rfl ?_
      refine Ops.pure H (X.conv rfl rfl rfl rfl rfl (u64_in _ (by omega))) rfl rfl rfl ?_
      refine Ops.eff rfl (Y.call rfl rfl (by first | assumption | decide +kernel) rfl (enc_any z _ _ (P2 ++ beL 8 sq) xs.length 4 (hOD.ext H.fr) (fD.then H.fr) (by omega) (by omega) (by simp [beL_len]; omega)) rfl ?_)
      rintro vE wE ⟨hOE, fE, kE⟩
      have hk8 : ∀ (b : Nat) (o : Obj), w3.heap[b]? = some o → (∀ cs, o ≠ row cs 5) → wE.heap[b]? = some o := fun b o hb hno => kE b o (H.fr.get (hk7 b o hb hno) (by simp)) hno
      obtain ⟨ea, ecap, rfl⟩ := hOE.slice
      clear H
      have H := Holds.start wE []
      refine Ops.pure H (X.move rfl) rfl rfl rfl ?_
      refine Ops.eff rfl (Y.appendOwnK (w0 := z) (S := []) (news := u8s xs) (hOE.ext H.fr) rfl rfl rfl rfl rfl rfl (fE.then H.fr) (by simp [beL_len]; omega) (by simp [u8s]) ((hA.bys.ext (fE.then H.fr)).src) rfl (List.all_eq_true.2 (u8s_one xs)) (by simp [beL_len]; omega) (by simp [beL_len]; omega) rfl ?_)
      intro vF wF fF kF hOF
      have hk9 : ∀ (b : Nat) (o : Obj), w3.heap[b]? = some o → (∀ cs, o ≠ row cs 5) → wF.heap[b]? = some o := fun b o hb hno => kF b o (H.fr.get (hk8 b o hb hno) (by simp)) hno
      clear H
      have H := Holds.start wF []
      refine Ops.pure H (X.assign rfl) rfl rfl rfl ?_
      (refine Ops.nil (hK _ _ ?_); clear hK K)
      refine Run.inBlock ?_
      (refine Run.region ?_; intro K hK)
      refine Ops.pure H (X.succ rfl rfl (by omega)) rfl rfl rfl ?_
      refine Ops.pure H (X.move rfl) rfl rfl rfl ?_
      (refine Ops.nil (hK _ _ ?_); clear hK K)
      have hnew : P1 ++ (c.s.seqs.take (j + 1)).flatMap (encA c.s) = P2 ++ beL 8 sq ++ beL 4 xs.length ++ xs := by
        rw [take_flat _ _ _ hj, hP2, encA, hsqn, hans, Int.toNat_natCast]
        simp
      refine (IH2 (j + 1, vF) _ (by dsimp only; omega) ⟨by dsimp only; omega, fF.then H.fr, ?_, fun b o hb hno => H.fr.get (hk9 b o hb hno) (by simp)⟩).weak (by repeat (first | exact trivial | refine ⟨rfl, ?_⟩))
      dsimp only
      rw [hnew]
      exact (hOF.ext H.fr).cast (by simp; omega) (by simp [u8s])
    · obtain rfl : j = c.s.seqs.length := by omega
      rw [List.take_length] at hO5
      have H := Holds.start w5 []
      (refine Run.seq (Run.region ?_); intro K hK)
      refine Ops.pure H (X.cmp rfl rfl rfl) rfl rfl rfl ?_
      (refine Ops.nil (hK _ _ ?_); clear hK K)
      refine Run.seq ?_
      refine Run.cond_dec rfl (fun h57 => ?x2) (fun h57 => ?y2)
      case' y2 =>
        refine Run.exit rfl ?_
        refine Run.inBlock ?_
        (refine Run.region ?_; intro K hK)
        refine Ops.pure H (X.succ rfl rfl (by omega)) rfl rfl rfl ?_
        refine Ops.pure H (X.move rfl) rfl rfl rfl ?_
        (refine Ops.nil (hK _ _ ?_); clear hK K)
      case' x2 => exfalso; omega
      have hnew : pre ++ (ids.take (i + 1)).flatMap (encC (st W)) = P1 ++ c.s.seqs.flatMap (encA c.s) := by
        rw [take_flat _ _ _ hi, hP1, hP0, encC, hst2, encS]
        simp [hid, hfl]
      refine (IH (i + 1, u) _ (by dsimp only; omega) ⟨by dsimp only; omega, F5.then H.fr, ?_, fun b o hb hno => H.fr.get (hk6 b o hb hno) (by simp)⟩).weak (by repeat (first | exact trivial | refine ⟨rfl, ?_⟩))
      dsimp only
      rw [hnew]
      exact hO5.ext H.fr
  · obtain rfl : i = ids.length := by omega
    rw [List.take_length] at hO4
    obtain ⟨P, hP⟩ : ∃ P, P = encB size W.N (st W) ids := ⟨_, rfl⟩
    have hPe : pre ++ ids.flatMap (encC (st W)) = P := by rw [hP, hpre, h4]; rfl
    have hfl4 := hflat ids.length (Nat.le_refl _)
    rw [List.take_length] at hfl4
    have hPl : P.length ≤ 4295774216 := by rw [← hPe, List.length_append]; omega
    rw [hPe] at hO4
    have H := Holds.start w4 []
    (refine Run.seq (Run.region ?_); intro K hK)
    refine Ops.pure H (X.cmp rfl rfl rfl) rfl rfl rfl ?_
    (refine Ops.nil (hK _ _ ?_); clear hK K)
    refine Run.seq ?_
    refine Run.cond_dec rfl (fun h27 => ?x3) (fun h27 => ?y3)
    case' y3 =>
      refine Run.exit rfl ?_
      (refine Run.seq (Run.region ?_); intro K hK)
      refine Ops.pure H (X.move rfl) rfl rfl rfl ?_
      refine Ops.pure H (X.move rfl) rfl rfl rfl ?_
    case' x3 => exfalso; omega
    have hbytP : Byt P := by rw [hP]; exact Byt.encB hk _ _ _ (fun x hx => (hi1 x).1 hx)
    refine Ops.eff rfl (Y.call rfl rfl (by first | assumption | decide +kernel) rfl (hash_any _ v P ((hO4.ext H.fr).bys) hbytP) rfl ?_)
    rintro r wG ⟨rfl, fG⟩
    have FG := F4.then (H.fr.then fG)
    have hOG := hO4.ext (H.fr.then fG)
    clear H
    have H := Holds.start wG []
    skip
    refine Ops.eff rfl (Y.call rfl rfl (by first | assumption | decide +kernel) rfl (enc_any z _ _ P (fnvL P) 8 (hOG.ext H.fr) (FG.then H.fr) (fnvL_lt P) (by omega) (by omega)) rfl ?_)
    rintro vH wH ⟨hOH, fH, _⟩
    clear H
    have H := Holds.start wH []
    refine Ops.pure H (X.assign rfl) rfl rfl rfl ?_
    (refine Ops.nil (hK _ _ ?_); clear hK K)
    refine Fn.ret1 HF rfl rfl ?_
    refine ⟨ids, hi1, hi2, hi3, ?_, fH.then H.fr⟩
    have hsN : W.size.toNat = size := by rw [hsz]; exact Int.toNat_natCast size
    rw [hsN, encW, ← hP]
    exact hOH.ext H.fr
theorem Bytes_any (z : World) (W : WS) (h : Wn z W) (hk : WOk W) : Fn env.P 9 [.pointer (some ⟨W.wb, 0, none⟩)] z fun v w' => ∃ ids : List Int, (∀ x, x ∈ ids ↔ (W.m x).isSome = true) ∧ ids.Pairwise (· < ·) ∧ ids.length = W.N ∧ Own w' z.heap.size 5 1 v (encW W.size.toNat W.N (st W) ids).length (u8s (encW W.size.toNat W.N (st W) ids)) ∧ Fr z w' [] := by
  have H := Holds.start z []
  have HF := Try.func9; refine Fn.enter Try.func9 Try.ntmps9 rfl rfl rfl ?_
  (refine Run.seq (Run.region ?_); intro K hK)
  refine Ops.pure H (X.assign rfl) rfl rfl rfl ?_
  (refine Ops.nil (hK _ _ (Run.seq (Run.region ?_))); clear hK K; intro K hK)
  refine Ops.pure H (X.move rfl) rfl rfl rfl ?_
  refine Ops.eff rfl (Y.call rfl rfl (by first | assumption | decide +kernel) rfl (enc_all _ W (h.ext H.fr) hk) rfl ?_)
  rintro v w2 ⟨ids, h1, h2, h3, hO, hf2⟩
  have F2 := H.fr.then hf2
  have hz := H.fr.size
  clear H
  have H := Holds.start w2 []
  refine Ops.pure H (X.assign rfl) rfl rfl rfl ?_
  (refine Ops.nil (hK _ _ ?_); clear hK K)
  refine Fn.ret1 HF rfl rfl ?_
  refine ⟨ids, h1, h2, h3, ?_, F2.then H.fr⟩
  rcases hO.ext H.fr with h | ⟨b, cap, cs, h1, h2, h3, h4, h5⟩
  · exact .inl h
  · exact .inr ⟨b, cap, cs, h1, h2, h3, by omega, h5⟩
end Go.Proofs.Ytaneenahapdabaa

namespace Go.Proofs.Ytaneenahapdabaa
open Go
set_option maxRecDepth 20000
set_option maxHeartbeats 2000000
attribute [local irreducible] Run Ops Fn Draw Draw2 PureOp StepZ

/-- A reader at bytes: its block holds a slice of what is left. -/
structure Rd (w : World) (rb : Nat) (xs : List Int) : Prop where
  at_ : ∃ cap b off cs T fz, w.heap[rb]? = some (row [.slice (some ⟨b, off, none⟩) xs.length cap] 69) ∧ xs.length ≤ cap ∧ cap ≤ 9223372036854775807 ∧ w.heap[b]? = some (.cells (List.toArray cs) T fz) ∧ T = 5 ∧ Cs cs off xs.length (u8s xs)
theorem Rd.ext {w w' : World} {rb : Nat} {xs : List Int} (h : Rd w rb xs) (hf : Fr w w' []) : Rd w' rb xs := by
  obtain ⟨cap, b, off, cs, T, fz, h1, h2, h3, h4, h5, h6⟩ := h
  exact ⟨cap, b, off, cs, T, fz, hf.get h1 (by simp), h2, h3, hf.get h4 (by simp), h5, h6⟩
def noneV : Value := .iface 66 (.agg #[])
def Gives (z : World) (rb : Nat) (ch : List PanicEntry) (w' : World) : Prop := ch = [{ v := noneV, recovered := false }] ∧ Fr z w' [rb]

theorem take_any (z : World) (rb n : Nat) (xs : List Int) (h : Rd z rb xs) (hn : n < 18446744073709551616) :
    FnP env.P 44 [.pointer (some ⟨rb, 0, none⟩), .int .u64 (n : Nat)] z (fun v w' => n ≤ xs.length ∧ Bys w' v (xs.take n) ∧ Rd w' rb (xs.drop n) ∧ Fr z w' [rb]) (fun ch w' => ¬ n ≤ xs.length ∧ Gives z rb ch w') := by
  obtain ⟨cap, b, off, cs, T, fz, hb, h1, h2, h3, hT, h4⟩ := h
  have hne : rb ≠ b := fun e => by
    rw [e, h3] at hb
    cases hb
    exact absurd hT (by decide)
  have H := (Holds.start z [rb]).add true hb (by simp) (by simp)
  have HF := Try.func44
  refine FnP.enter Try.func44 Try.ntmps44 rfl rfl rfl ?_
  by_cases hle : n ≤ xs.length
  · refine Run.seq ?_
    (refine Run.region ?_; intro K hK)
    refine Ops.pure H (X.assign rfl) rfl rfl rfl ?_
    (refine Ops.nil (hK _ _ ?_); clear hK K)
    refine Run.seq ?_
    (refine Run.seq (Run.region ?_); intro K hK)
    refine Ops.pure H (X.move rfl) rfl rfl rfl ?_
    refine Ops.pure H (X.move rfl) rfl rfl rfl ?_
    refine Ops.pure H (X.nilCheck rfl) rfl rfl rfl ?_
    refine Ops.pure H (X.fieldAddr rfl rfl rfl rfl rfl rfl) rfl rfl rfl ?_
    refine Ops.pure H (X.load1 rfl rfl rfl rfl Pick.head rfl) rfl rfl rfl ?_
    refine Ops.pure H (X.len_slice rfl rfl rfl) rfl rfl rfl ?_
    refine Ops.pure H (X.conv rfl rfl rfl rfl rfl (u64_in _ (by omega))) rfl rfl rfl ?_
    refine Ops.pure H (X.cmp rfl rfl rfl) rfl rfl rfl ?_
    (refine Ops.nil (hK _ _ ?_); clear hK K)
    refine Run.cond_dec rfl (fun h13 => ?x0) (fun h13 => ?y0)
    case' y0 =>
      refine Run.skip ?_
      (refine Run.seq (Run.region ?_); intro K hK)
      refine Ops.pure H (X.move rfl) rfl rfl rfl ?_
      refine Ops.pure H (X.nilCheck rfl) rfl rfl rfl ?_
      refine Ops.pure H (X.fieldAddr rfl rfl rfl rfl rfl rfl) rfl rfl rfl ?_
      refine Ops.pure H (X.load1 rfl rfl rfl rfl Pick.head rfl) rfl rfl rfl ?_
      refine Ops.pure H (X.move rfl) rfl rfl rfl ?_
      refine Ops.pure H (X.slice_h rfl rfl (by omega) rfl rfl rfl) rfl rfl rfl ?_
      refine Ops.pure H (X.assign rfl) rfl rfl rfl ?_
      (refine Ops.nil (hK _ _ (Run.seq (Run.region ?_))); clear hK K; intro K hK)
      refine Ops.pure H (X.move rfl) rfl rfl rfl ?_
      refine Ops.pure H (X.move rfl) rfl rfl rfl ?_
      refine Ops.pure H (X.nilCheck rfl) rfl rfl rfl ?_
      refine Ops.pure H (X.fieldAddr rfl rfl rfl rfl rfl rfl) rfl rfl rfl ?_
      refine Ops.pure H (X.load1 rfl rfl rfl rfl Pick.head rfl) rfl rfl rfl ?_
      refine Ops.pure H (X.move rfl) rfl rfl rfl ?_
      refine Ops.pure H (X.slice_l rfl rfl (by omega) rfl rfl rfl rfl) rfl rfl rfl ?_
      refine Ops.pure H (X.nilCheck rfl) rfl rfl rfl ?_
      refine Ops.pure H (X.fieldAddr rfl rfl rfl rfl rfl rfl) rfl rfl rfl ?_
      (refine Ops.eff rfl (Y.store1 rfl rfl rfl rfl rfl rfl H Upd.head (by repeat (first | exact SetC.zero | apply SetC.succ)) ?_); intro w H0; clear H; have H := H0; clear H0)
      (refine Ops.nil (hK _ _ (Run.seq (Run.region ?_))); clear hK K; intro K hK)
      refine Ops.pure H (X.move rfl) rfl rfl rfl ?_
      refine Ops.pure H (X.assign rfl) rfl rfl rfl ?_
      (refine Ops.nil (hK _ _ ?_); clear hK K)
    case' x0 => exfalso; omega
    refine FnP.ret1 HF rfl rfl ⟨hle, ?_, ?_, H.fr⟩
    · have h3' := H.fr.get h3 (by simpa using hne.symm)
      have h5 := h4.sub 0 n (by omega)
      exact ⟨_, cap, b, off, cs, T, fz, by simp; omega, by simp; omega, h2, fun _ => ⟨rfl, h3'⟩, by simpa [u8s, hle, Nat.min_eq_left hle] using h5⟩
    · have h3' := H.fr.get h3 (by simpa using hne.symm)
      have h5 := h4.sub n (xs.length - n) (by omega)
      refine ⟨cap - n, b, (if cap = n then off else off + n * 1), cs, T, fz, ?_, by simp; omega, by omega, h3', hT, ?_⟩
      · have h6 := H.pick (b := rb) .head
        simpa using h6
      · by_cases hc : cap = n
        · have h7 : xs.drop n = [] := List.drop_eq_nil_of_le (by omega)
          rw [if_pos hc, h7]
          exact .nil
        · rw [if_neg hc]
          have h8 : ((u8s xs).drop n).take (xs.length - n) = (u8s xs).drop n := List.take_of_length_le (by simp [u8s])
          rw [h8] at h5
          simpa [u8s] using h5
  · refine Run.seq ?_
    (refine Run.region ?_; intro K hK)
    refine Ops.pure H (X.assign rfl) rfl rfl rfl ?_
    (refine Ops.nil (hK _ _ ?_); clear hK K)
    refine Run.seq ?_
    (refine Run.seq (Run.region ?_); intro K hK)
    refine Ops.pure H (X.move rfl) rfl rfl rfl ?_
    refine Ops.pure H (X.move rfl) rfl rfl rfl ?_
    refine Ops.pure H (X.nilCheck rfl) rfl rfl rfl ?_
    refine Ops.pure H (X.fieldAddr rfl rfl rfl rfl rfl rfl) rfl rfl rfl ?_
    refine Ops.pure H (X.load1 rfl rfl rfl rfl Pick.head rfl) rfl rfl rfl ?_
    refine Ops.pure H (X.len_slice rfl rfl rfl) rfl rfl rfl ?_
    refine Ops.pure H (X.conv rfl rfl rfl rfl rfl (u64_in _ (by omega))) rfl rfl rfl ?_
    refine Ops.pure H (X.cmp rfl rfl rfl) rfl rfl rfl ?_
    (refine Ops.nil (hK _ _ ?_); clear hK K)
    refine Run.cond_dec rfl (fun h13 => ?x1) (fun h13 => ?y1)
    case' y1 => exfalso; omega
    case' x1 =>
      (refine Run.region ?_; intro K hK)
      refine Ops.pure H (X.buildO rfl rfl rfl rfl rfl rfl) rfl rfl rfl ?_
    refine Ops.pure H (X.mkIface rfl rfl rfl) rfl rfl rfl ?_
    refine Ops.effP rfl (Y.panic rfl fun a ha => QK.none HF ha (.inr ⟨_, rfl, hle, rfl, H.fr⟩))
/-- The number that bytes are. -/
def beV (l : List Int) : Nat := l.foldl (fun n x => n * 256 + x.toNat) 0
theorem beV_succ (xs : List Int) (i : Nat) (hi : i < xs.length) : beV (xs.take (i + 1)) = beV (xs.take i) * 256 + xs[i].toNat := by
  rw [List.take_succ_eq_append_getElem hi, beV, beV, List.foldl_append, List.foldl_cons, List.foldl_nil]
theorem beV_lt (xs : List Int) (h : Byt xs) : ∀ i, i ≤ xs.length → beV (xs.take i) < 256 ^ i := by
  intro i
  induction i with
  | zero => intro _; simp [beV]
  | succ i ih =>
    intro hi
    have h1 := ih (by omega)
    have h2 := h xs[i] (List.getElem_mem (by omega))
    rw [beV_succ xs i (by omega), Nat.pow_succ]
    omega
theorem or_step (n y : Nat) (hn : n < 72057594037927936) (hy : y ≤ 255) : n * 2 ^ 8 % 18446744073709551616 ||| y = n * 256 + y := by
  rw [Nat.mod_eq_of_lt (by omega), Nat.mul_comm, ← Nat.two_pow_add_eq_or_of_lt (by omega : y < 2 ^ 8) n]
theorem number_any (z : World) (rb many : Nat) (xs : List Int) (h : Rd z rb xs) (hx : Byt xs) (hm : many ≤ 8) :
    FnP env.P 23 [.pointer (some ⟨rb, 0, none⟩), .int .u64 (many : Nat)] z (fun v w' => many ≤ xs.length ∧ v = .int .u64 (beV (xs.take many) : Nat) ∧ Rd w' rb (xs.drop many) ∧ Fr z w' [rb]) (fun ch w' => ¬ many ≤ xs.length ∧ Gives z rb ch w') := by
  have H := Holds.start z []
  have HF := Try.func23
  refine FnP.enter Try.func23 Try.ntmps23 rfl rfl rfl ?_
  (refine Run.seq (Run.region ?_); intro K hK)
  refine Ops.pure H (X.assign rfl) rfl rfl rfl ?_
  (refine Ops.nil (hK _ _ (Run.seq (Run.region ?_))); clear hK K; intro K hK)
  refine Ops.pure H (X.assign rfl) rfl rfl rfl ?_
  (refine Ops.nil (hK _ _ ?_); clear hK K)
  refine Run.seq ?_
  (refine Run.seq (Run.region ?_); intro K hK)
  refine Ops.pure H (X.move rfl) rfl rfl rfl ?_
  refine Ops.pure H (X.move rfl) rfl rfl rfl ?_
  refine Ops.effP rfl (Y.callP rfl rfl (by decide +kernel) rfl (take_any _ rb many xs (h.ext H.fr) (by omega)) rfl (fun ch w' hp a ha => QK.none HF ha (.inr ⟨ch, rfl, hp.1, hp.2.1, H.fr.trans hp.2.2 (by simp) (by simp)⟩)) ?_)
  rintro v w2 ⟨hle, hB, hR, hf2⟩
  have F2 := H.fr.trans (U := [rb]) hf2 (by simp) (by simp)
  obtain ⟨ys, hys⟩ : ∃ ys, ys = xs.take many := ⟨_, rfl⟩
  have hyl : ys.length = many := by rw [hys]; simp; omega
  have hyb : Byt ys := fun x hx' => hx x (List.mem_of_mem_take (by rw [← hys]; exact hx'))
  rw [← hys] at hB ⊢
  obtain ⟨a, cap, b, off, cs, T, fz, rfl, h1, h2, h3, h4⟩ := hB
  clear H
  have H := Holds.start w2 []
  refine Ops.pure H (X.len_slice rfl rfl rfl) rfl rfl rfl ?_
  refine Ops.pure H (X.move rfl) rfl rfl rfl ?_
  (refine Ops.nil (hK _ _ ?_); clear hK K)
  refine Run.block ?_
  refine Run.rounds (fun (i : Nat) => [(5, .int .u64 (beV (ys.take i) : Nat)), (10, .slice a ys.length cap), (11, .int .i64 (ys.length : Nat)), (12, .int .i64 (i : Nat))]) (fun i w' => i ≤ ys.length ∧ Fr w2 w' []) (fun i => ys.length - i) 0 (by repeat (first | exact trivial | refine ⟨rfl, ?_⟩)) ⟨by omega, H.fr⟩ ?_
  clear H
  rintro i w3 ⟨hi, hf3⟩ IH
  by_cases hil : i < ys.length
  · obtain ⟨rfl, hbz⟩ := h3 (by omega)
    obtain ⟨y, hy⟩ : ∃ y : Nat, ys[i] = (y : Int) := ⟨ys[i].toNat, by have := hyb ys[i] (List.getElem_mem hil); omega⟩
    have hy2 : y ≤ 255 := by have := hyb ys[i] (List.getElem_mem hil); omega
    have c1 : cs[off + i * 1]? = some (.int .u8 ((y : Nat) : Int)) := by
      rw [Nat.mul_one, h4.toGet hil]
      simp [u8s, hil, hy]
    have hcl : off + i < cs.length := (List.getElem?_eq_some_iff.1 (by rw [← Nat.mul_one i]; exact c1)).1
    have H := (Holds.start w3 []).add false (hf3.get hbz (by simp)) (by simp) (by simp)
    (refine Run.seq (Run.region ?_); intro K hK)
    refine Ops.pure H (X.cmp rfl rfl rfl) rfl rfl rfl ?_
    (refine Ops.nil (hK _ _ ?_); clear hK K)
    refine Run.seq ?_
    refine Run.cond_dec rfl (fun h13 => ?x2) (fun h13 => ?y2)
    case' y2 => exfalso; omega
    case' x2 =>
      refine Run.skip ?_
      refine Run.seq ?_
      refine Run.block ?_
      (refine Run.seq (Run.region ?_); intro K hK)
      refine Ops.pure H (X.indexAddr rfl rfl (by omega) rfl rfl rfl rfl) rfl rfl rfl ?_
      refine Ops.pure H (X.load1 rfl rfl rfl rfl Pick.head (by assumption)) rfl rfl rfl ?_
      refine Ops.pure H (X.assign rfl) rfl rfl rfl ?_
      (refine Ops.nil (hK _ _ ?_); clear hK K)
      (refine Run.region ?_; intro K hK)
      refine Ops.pure H (X.move rfl) rfl rfl rfl ?_
      refine Ops.pure H (X.shlN (s := 8) rfl rfl rfl rfl (by decide)) rfl rfl rfl ?_
      refine Ops.pure H (X.move rfl) rfl rfl rfl ?_
      refine Ops.pure H (X.conv rfl rfl rfl rfl rfl (u64_in _ (by omega))) rfl rfl rfl ?_
      refine Ops.pure H (X.orN rfl rfl rfl rfl (by omega) (by omega)) rfl rfl rfl ?_
      refine Ops.pure H (X.assign rfl) rfl rfl rfl ?_
      (refine Ops.nil (hK _ _ ?_); clear hK K)
      refine Run.inBlock ?_
      (refine Run.region ?_; intro K hK)
      refine Ops.pure H (X.succ rfl rfl (by omega)) rfl rfl rfl ?_
      refine Ops.pure H (X.move rfl) rfl rfl rfl ?_
      (refine Ops.nil (hK _ _ ?_); clear hK K)
    have hlt : beV (ys.take i) < 72057594037927936 := Nat.lt_of_lt_of_le (beV_lt ys hyb i (by omega)) (Nat.pow_le_pow_right (n := 256) (j := 7) (by decide) (by omega))
    rw [or_step _ _ hlt hy2]
    refine (IH (i + 1) _ (by omega) ⟨by omega, hf3.then H.fr⟩).weak ?_
    rw [beV_succ ys i hil, hy, Int.toNat_natCast]
    exact (by repeat (first | exact trivial | refine ⟨rfl, ?_⟩))
  · obtain rfl : i = ys.length := by omega
    rw [List.take_length]
    have H := Holds.start w3 []
    (refine Run.seq (Run.region ?_); intro K hK)
    refine Ops.pure H (X.cmp rfl rfl rfl) rfl rfl rfl ?_
    (refine Ops.nil (hK _ _ ?_); clear hK K)
    refine Run.seq ?_
    refine Run.cond_dec rfl (fun h13 => ?x3) (fun h13 => ?y3)
    case' y3 =>
      refine Run.exit rfl ?_
      (refine Run.seq (Run.region ?_); intro K hK)
      refine Ops.pure H (X.move rfl) rfl rfl rfl ?_
      refine Ops.pure H (X.assign rfl) rfl rfl rfl ?_
      (refine Ops.nil (hK _ _ ?_); clear hK K)
    case' x3 => exfalso; omega
    refine FnP.ret1 HF rfl rfl ⟨hle, by rw [hys], hR.ext (hf3.then H.fr), F2.trans (hf3.then H.fr) (by simp) (by simp)⟩
end Go.Proofs.Ytaneenahapdabaa
