/- Walks of layer 20: the document reads a client. -/
import Derived.Test.YtaneenahapdabaaT9
namespace Go.Proofs.Ytaneenahapdabaa
open Go
section
variable {E : Env} {n : Nat} {L : Sl} {w w0 : World} {S : List Nat} {G G0 G1 : List Ent} {d T : Nat} {pos : String} {e : Array Edge} {g : Option (Nat × Bool)} {x y s : Operand} {QQ : Exit → Act → World → Prop} {Z : Sl → World → Prop}
/-- An append that writes only the list's own row. -/
theorem Y.appendOwnF {t el sz len m xc : Nat} {v : Value} {xa : Option Addr} {ti te : TyI} {olds news : List Value} (hO : Own w w0.heap.size el sz v len olds) (hs : ev L s = some v) (hx : ev L x = some (.slice xa m xc))
    (ht : nth E.T t = some (some ti)) (hd : ti.d = .slice el) (hte : nth E.T el = some (some te)) (hsz : te.size = sz) (hF : Fr w0 w S) (hm : 0 < len + m)
    (hl : news.length = m * te.size) (hsrc : Src w xa news) (hz : (cellsL te.zero).length = te.size) (h1 : news.all Value.oneCell' = true)
    (hb : (len + m) * te.bytes ≤ 140737488355328) (h63 : len + m ≤ 9223372036854775807) (hn : Nat.blt d n = true)
    (next : ∀ v' w' B, Fr w0 w' S → Fr w w' B → (∀ b ∈ B, w0.heap.size ≤ b ∧ (∃ cs, w.heap[b]? = some (row cs el)) ∧ ∃ c, v = .slice (some ⟨b, 0, none⟩) len c) → Own w' w0.heap.size el sz v' (len + m) (olds ++ news) → Z ((d, v') :: L) w') :
    StepZ E QQ n ⟨some d, .call { callee := .builtin .append, args := #[s, x], argTypes := #[t, t] }, T, pos, e, g⟩ Z L w := by
  subst hsz
  have hol := hO.len
  rcases hO with ⟨rfl, rfl, rfl⟩ | ⟨b, cap, cs, rfl, h2, h3, h4, h5, h6, h7⟩
  · refine Y.append_grow (olds := []) hs hx ht hd hte (Holds.start w []) (by omega) Src.nil (by simp) hl hsrc hz hb h63 hn ?_
    intro b cap' sp w' H hbw hc hmx hsp
    refine next _ _ [] (hF.trans H.fr (fun _ h => h) (by simp)) H.fr (by simp) (.inr ⟨b, cap', [] ++ news ++ sp, rfl, hc, hmx, Nat.le_trans hF.size hbw, H.at_ _ (List.mem_cons_self ..), ?_, ?_⟩)
    · simp only [List.nil_append, List.length_append, hl, hsp, Nat.zero_add]
      rw [← Nat.add_mul]
      congr 1
      omega
    · simpa [hl] using Cs.mid [] news sp
  · by_cases hr : len + m ≤ cap
    · have H := (Holds.start w [b]).add true h5 (by simp) (by simp)
      have hfit : len * te.size + news.length ≤ cs.length := by
        rw [hl, h6, ← Nat.add_mul]
        exact Nat.mul_le_mul_right _ hr
      refine Y.append_room hs hx ht hd hte H .head hr (by rw [h6]; omega) hl hsrc (by simpa using h1) hn ?_
      intro w' H'
      refine next _ _ [b] (hF.trans H'.fr (fun _ h => h) (by intro x hx hlt; simp at hx; omega)) H'.fr (by simp; exact ⟨h4, _, h5⟩) (.inr ⟨b, cap, _, rfl, hr, h3, h4, H'.at_ _ (List.mem_cons_self ..), by rw [putC_length]; exact h6, ?_⟩)
      rw [Nat.zero_add]
      have e1 := h7.apart (us := news) (k := len * te.size) hfit (.inl (by omega))
      have e2 := Cs.put hfit
      rw [Nat.add_mul]
      rw [hl] at e2
      exact e1.append (by simpa using e2)
    · have H := (Holds.start w []).add false h5 (by simp) (by simp)
      refine Y.append_grow hs hx ht hd hte H (by omega) (Src.row H .head h7) hol hl hsrc hz hb h63 hn ?_
      intro b' cap' sp w' H' hbw hc hmx hsp
      refine next _ _ [] (hF.trans H'.fr (fun _ h => h) (by simp)) H'.fr (by simp) (.inr ⟨b', cap', olds ++ news ++ sp, rfl, hc, hmx, Nat.le_trans hF.size hbw, H'.at_ _ (List.mem_cons_self ..), ?_, ?_⟩)
      · simp only [List.length_append, hl, hsp, hol]
        rw [← Nat.add_mul, ← Nat.add_mul]
        congr 1
        omega
      · have := Cs.mid [] (olds ++ news) sp
        simpa [hl, hol, Nat.add_mul] using this
end
set_option maxRecDepth 20000
set_option maxHeartbeats 2000000
attribute [local irreducible] Run Ops Fn Draw Draw2 PureOp StepZ

def AnsN (B : Nat) (w : World) (v : Value) (xs : List Int) : Prop := Ans w v xs ∧ NewV B v
theorem AnsN.keep {B : Nat} {w w' : World} {S : List Nat} {v : Value} {xs : List Int} (h : AnsN B w v xs) (hf : Fr w w' S) (hS : ∀ b ∈ S, No5 w b) : AnsN B w' v xs := ⟨h.1.keep hf hS, h.2⟩
/-- A client's answers, all in new blocks. -/
def RLN (B : Nat) (w : World) (v : Value) (s : CS) : Prop :=
  ∃ bv : Nat → Value, Vw w v 96 2 s.seqs.length (fun j => [.int .u64 (s.seqs.getD j 0), bv j]) ∧ ∀ j, j < s.seqs.length → AnsN B w (bv j) ((s.ans (s.seqs.getD j 0)).getD [])
theorem RLN.rl {B : Nat} {w : World} {v : Value} {s : CS} (h : RLN B w v s) : RL w v s := by
  obtain ⟨bv, h1, h2⟩ := h
  exact ⟨bv, h1, fun j hj => (h2 j hj).1⟩
theorem RLN.keep {B : Nat} {w w' : World} {S : List Nat} {v : Value} {s : CS} (h : RLN B w v s) (hf : Fr w w' S) (hS : ∀ b ∈ S, NoR w b) : RLN B w' v s := by
  obtain ⟨bv, h1, h2⟩ := h
  exact ⟨bv, h1.keep hf (fun b hb => (hS b hb).n96), fun j hj => (h2 j hj).keep hf (fun b hb => (hS b hb).n5)⟩
theorem RLN.ext {B : Nat} {w w' : World} {v : Value} {s : CS} (h : RLN B w v s) (hf : Fr w w' []) : RLN B w' v s := h.keep hf (by simp)
/-- The window that is being read. -/
def RW (z0 : Nat) (w : World) (db : Nat) (size : Int) (ids : List Int) (m : Int → Option CS) : Prop :=
  ∃ v, w.heap[db]? = some (row [.int .i64 size, v] 80) ∧ ∃ lv : Nat → Value, Own w z0 84 3 v ids.length ((List.range ids.length).flatMap fun i => [.int .u64 (ids.getD i 0), .int .u64 (gm m ids i).floor, lv i]) ∧ ∀ i, i < ids.length → RLN z0 w (lv i) (gm m ids i)
theorem Own.vw {w : World} {z el sz n : Nat} {v : Value} {F : Nat → List Value} (h : Own w z el sz v n ((List.range n).flatMap F)) (hF : ∀ i, (F i).length = sz) : Vw w v el sz n F := by
  rcases h with ⟨rfl, _, rfl⟩ | ⟨b, cap, cs, rfl, h2, h3, h4, h5, h6, h7⟩
  · exact Vw.none0
  · exact Vw.mk h5 h7 hF h2 h3
theorem RW.rd {z0 : Nat} {w : World} {db : Nat} {size : Int} {ids : List Int} {m : Int → Option CS} (h : RW z0 w db size ids m) : RD w db size ids m := by
  obtain ⟨v, h1, lv, h2, h3⟩ := h
  exact ⟨v, h1, lv, h2.vw (fun _ => rfl), fun i hi => (h3 i hi).rl⟩
theorem Own.keepT {w w' : World} {z el sz n : Nat} {v : Value} {vs : List Value} {S : List Nat} (h : Own w z el sz v n vs) (hf : Fr w w' S) (hS : ∀ b ∈ S, ∀ cs, w.heap[b]? ≠ some (row cs el)) : Own w' z el sz v n vs :=
  h.rows fun b cs hb => hf.get hb fun hm => hS b hm cs hb
theorem RLN.keep3 {B : Nat} {w w' : World} {S : List Nat} {v : Value} {s : CS} (h : RLN B w v s) (hf : Fr w w' S) (h96 : ∀ b ∈ S, ∀ cs, w.heap[b]? ≠ some (row cs 96)) (h5 : ∀ b ∈ S, No5 w b) : RLN B w' v s := by
  obtain ⟨bv, h1, h2⟩ := h
  exact ⟨bv, h1.keep hf h96, fun j hj => (h2 j hj).keep hf h5⟩
/-- The document's window, its answers in new blocks. -/
def RDN (B : Nat) (w : World) (db : Nat) (n : Int) (ids : List Int) (m : Int → Option CS) : Prop :=
  ∃ v, w.heap[db]? = some (row [.int .i64 n, v] 80) ∧ ∃ lv : Nat → Value, Vw w v 84 3 ids.length (fun i => [.int .u64 (ids.getD i 0), .int .u64 (gm m ids i).floor, lv i]) ∧ ∀ i, i < ids.length → RLN B w (lv i) (gm m ids i)
theorem RW.rdn {z0 : Nat} {w : World} {db : Nat} {size : Int} {ids : List Int} {m : Int → Option CS} (h : RW z0 w db size ids m) : RDN z0 w db size ids m := by
  obtain ⟨v, h1, lv, h2, h3⟩ := h
  exact ⟨v, h1, lv, h2.vw (fun _ => rfl), h3⟩
theorem RDN.ext {B : Nat} {w w' : World} {db : Nat} {n : Int} {ids : List Int} {m : Int → Option CS} (h : RDN B w db n ids m) (hf : Fr w w' []) : RDN B w' db n ids m := by
  obtain ⟨v, h1, lv, h2, h3⟩ := h
  exact ⟨v, hf.get h1 (by simp), lv, h2.keep hf (by simp), fun i hi => (h3 i hi).ext hf⟩
/-- Older rows of bytes may be written. -/
theorem RDN.old {B : Nat} {w w' : World} {S : List Nat} {db : Nat} {n : Int} {ids : List Int} {m : Int → Option CS} (h : RDN B w db n ids m) (hf : Fr w w' S) (hS : ∀ b ∈ S, b < B ∧ ∃ cs, w.heap[b]? = some (row cs 5)) : RD w' db n ids m := by
  have hne : ∀ b ∈ S, ∀ t cs, t ≠ 5 → w.heap[b]? ≠ some (row cs t) := fun b hb t cs ht hc => by
    obtain ⟨_, cs', hc'⟩ := hS b hb
    exact ne_of_ty hc hc' ht rfl
  obtain ⟨v, h1, lv, h2, h3⟩ := h
  refine ⟨v, hf.get h1 (fun hm => hne db hm 80 _ (by decide) h1), lv, h2.keep hf (fun b hb cs => hne b hb 84 cs (by decide)), fun i hi => ?_⟩
  obtain ⟨bv, g1, g2⟩ := h3 i hi
  refine ⟨bv, g1.keep hf (fun b hb cs => hne b hb 96 cs (by decide)), fun j hj => ?_⟩
  obtain ⟨⟨a, cap, b, cs, fz, e, e2, e3, e4, e5⟩, hN⟩ := g2 j hj
  refine ⟨a, cap, b, cs, fz, e, e2, e3, fun hp => ?_, e5⟩
  obtain ⟨rfl, e6⟩ := e4 hp
  exact ⟨rfl, hf.get e6 (fun hm => by
    have := hN _ hp _ _ e
    have := (hS b hm).1
    omega)⟩
theorem RW.keep {z0 : Nat} {w w' : World} {S : List Nat} {db : Nat} {size : Int} {ids : List Int} {m : Int → Option CS} (h : RW z0 w db size ids m) (hf : Fr w w' S) (hd : db ∉ S) (hS : ∀ b ∈ S, NoR w b) : RW z0 w' db size ids m := by
  obtain ⟨v, h1, lv, h2, h3⟩ := h
  exact ⟨v, hf.get h1 hd, lv, h2.keepT hf (fun b hb => (hS b hb).n84), fun i hi => (h3 i hi).keep hf hS⟩
theorem RW.keepB {z0 : Nat} {w w' : World} {S : List Nat} {db : Nat} {size : Int} {ids : List Int} {m : Int → Option CS} (h : RW z0 w db size ids m) (hf : Fr w w' S) (hd : db ∉ S) (h5 : ∀ b ∈ S, No5 w b) (h96 : ∀ b ∈ S, ∀ cs, w.heap[b]? ≠ some (row cs 96))
    (h84 : ∀ b ∈ S, (∀ cs, w.heap[b]? ≠ some (row cs 84)) ∨ ∀ b' off n cap, w.heap[db]? = some (row [.int .i64 size, .slice (some ⟨b', off, none⟩) n cap] 80) → b' ≠ b) : RW z0 w' db size ids m := by
  obtain ⟨v, h1, lv, h2, h3⟩ := h
  refine ⟨v, hf.get h1 hd, lv, ?_, fun i hi => ?_⟩
  · rcases h2 with h2 | ⟨b, cap, cs, e1, e2, e3, e4, e5, e6, e7⟩
    · exact .inl h2
    · refine .inr ⟨b, cap, cs, e1, e2, e3, e4, hf.get e5 (fun hm => ?_), e6, e7⟩
      rcases h84 b hm with h | h
      · exact h _ e5
      · exact h b _ _ _ (by rw [h1, e1]) rfl
  · obtain ⟨bv, g1, g2⟩ := h3 i hi
    exact ⟨bv, g1.keep hf h96, fun j hj => (g2 j hj).keep hf h5⟩
/-- The client, by what the reader gives. -/
theorem clientP_by (size : Nat) (xs : List Int) (s1 s2 s3 : Option (List Int)) (h1 : s1 = nxt (some xs) 8) (h2 : s2 = nxt s1 8) (h3 : s3 = nxt s2 4) :
    clientP size xs = s3.bind fun ys => if beV (got s2 4) < 1 ∨ size < beV (got s2 4) ∨ (beV (got s1 8) ≠ 0 ∧ beV (got s2 4) ≠ size) then none else (seqsP (beV (got s2 4)) (beV (got s1 8)) [] (fun _ => none) ys).map fun r => (beV (got (some xs) 8), ⟨((beV (got s1 8) : Nat) : Int), r.1, r.2.1⟩, r.2.2) := by
  rw [clientP]
  simp only [nxt, Option.bind_some] at h1
  by_cases a1 : 8 ≤ xs.length
  · rw [if_pos a1] at h1 ⊢
    subst h1
    simp only [nxt, Option.bind_some] at h2
    by_cases a2 : 8 ≤ (xs.drop 8).length
    · rw [if_pos a2] at h2 ⊢
      subst h2
      simp only [nxt, Option.bind_some] at h3
      by_cases a3 : 4 ≤ ((xs.drop 8).drop 8).length
      · rw [if_pos a3] at h3 ⊢
        subst h3
        simp only [got, if_pos a1, if_pos a2, if_pos a3, Option.bind_some]
      · rw [if_neg a3] at h3 ⊢
        subst h3
        rfl
    · rw [if_neg a2] at h2 ⊢
      subst h2
      subst h3
      rfl
  · rw [if_neg a1] at h1 ⊢
    subst h1
    subst h2
    subst h3
    rfl
/-- One more call, by what the reader gives. -/
theorem seqsP_by (q last : Nat) (qs : List Int) (an : Int → Option (List Int)) (ys : List Int) (sa sb sc sd : Option (List Int)) (sq k : Nat) (h1 : sa = nxt (some ys) 8) (h2 : sb = nxt sa 4) (hsq : sq = beV (got (some ys) 8)) (hk : k = beV (got sa 4)) (hca : (65536 < k ∨ sq ≤ last) → sc = none) (hcb : ¬ (65536 < k ∨ sq ≤ last) → sc = sb) (h3 : sd = nxt sc k) :
    seqsP (q + 1) last qs an ys = sd.bind fun zs => seqsP q sq (qs ++ [(sq : Int)]) (updA an (sq : Int) (some (got sc k))) zs := by
  have hnone : sb = none → sd = none := fun h => by
    by_cases hC : 65536 < k ∨ sq ≤ last
    · rw [h3, hca hC]; rfl
    · rw [h3, hcb hC, h]; rfl
  rw [seqsP]
  simp only [nxt, Option.bind_some] at h1
  by_cases a1 : 8 ≤ ys.length
  · rw [if_pos a1] at h1 ⊢
    subst h1
    simp only [got, if_pos a1] at hsq
    rw [← hsq]
    by_cases a2 : sq ≤ last
    · rw [if_pos a2, h3, hca (.inr a2)]
      rfl
    · rw [if_neg a2]
      simp only [nxt, Option.bind_some] at h2
      by_cases a3 : 4 ≤ (ys.drop 8).length
      · rw [if_pos a3] at h2 ⊢
        subst h2
        simp only [got, if_pos a3] at hk
        rw [← hk]
        by_cases a4 : 65536 < k
        · rw [if_pos a4, h3, hca (.inl a4)]
          rfl
        · rw [if_neg a4]
          have hc := hcb (by omega)
          subst hc
          simp only [nxt, Option.bind_some] at h3
          by_cases a5 : k ≤ ((ys.drop 8).drop 4).length
          · rw [if_pos a5] at h3 ⊢
            subst h3
            simp only [got, if_pos a5, Option.bind_some]
          · rw [if_neg a5] at h3 ⊢
            subst h3
            rfl
      · rw [if_neg a3] at h2 ⊢
        rw [hnone h2]
        rfl
  · rw [if_neg a1] at h1 ⊢
    subst h1
    rw [hnone (by rw [h2]; rfl)]
    rfl
/-- What comes of a reading. -/
def DCl (z0 : Nat) (w0 : World) (rb db size : Nat) (ids : List Int) (m : Int → Option CS) (xs : List Int) (w' : World) : Prop :=
  Fr w0 w' [] ∧ match clientP size xs with
  | some (id, s, r) => if (∃ q, ids.getLast? = some q ∧ (id : Int) ≤ q) then Rx w' rb else RS z0 w' rb (some r) ∧ RW z0 w' db size (ids ++ [(id : Int)]) (fun y => if y = (id : Int) then some s else m y)
  | none => Rx w' rb
theorem dclient_any (w0 z : World) (rb db size : Nat) (ids : List Int) (m : Int → Option CS) (xs : List Int) (hF : Fr w0 z []) (hR : RS w0.heap.size z rb (some xs)) (hW : RW w0.heap.size z db size ids m) (hr : w0.heap.size ≤ rb) (hd : w0.heap.size ≤ db) (hx : Byt xs) (h1 : 1 ≤ size) (h2 : size ≤ 64) (hN : ids.length ≤ 1024) (hu : ∀ x ∈ ids, U64 x) (hup : ids.Pairwise (· < ·)) :
    Fn env.P 49 [.pointer (some ⟨rb, 0, none⟩), .pointer (some ⟨db, 0, none⟩)] z fun _ w' => DCl w0.heap.size w0 rb db size ids m xs w' := by
  have hrd : rb ≠ db := fun e => by
    obtain ⟨v, h, _⟩ := hW
    obtain ⟨cap, b, off, cs, T, fz, h', _⟩ := hR
    rw [e] at h'
    exact ne_of_ty h h' (by decide) rfl
  obtain ⟨σ0, hσ0⟩ : ∃ σ, σ = some xs := ⟨_, rfl⟩
  rw [← hσ0] at hR
  have hb0 : SByt σ0 := fun ys hy => by rw [hσ0] at hy; cases hy; exact hx
  have hn101 : ∀ {w : World} {σ : Option (List Int)}, RS w0.heap.size w rb σ → NoR w rb := fun {w σ} h => by
    cases σ with
    | some ys => obtain ⟨cap, b, off, cs, T, fz, h', _⟩ := h; exact NoR.row h' (by decide) (by decide) (by decide)
    | none => obtain ⟨v, h'⟩ := h; exact NoR.row h' (by decide) (by decide) (by decide)
  have H := Holds.start z []
  have HF := Try.func49; refine Fn.enter Try.func49 Try.ntmps49 rfl rfl rfl ?_
  (refine Run.seq (Run.region ?_); intro K hK)
  refine Ops.pure H (X.move rfl) rfl rfl rfl ?_
  refine Ops.eff rfl (Y.call rfl rfl (by first | assumption | decide +kernel) rfl (dnumber_any _ w0.heap.size rb 8 σ0 (hR.ext H.fr) hr (by omega) hb0) rfl ?_)
  rintro v w1 ⟨rfl, hR1, hf1⟩
  have F1 := hF.trans (H.fr.trans (U := [rb]) hf1 (by simp) (by simp)) (U := []) (by simp) (fun x hx hl => by simp at hx; omega)
  have hW1 := (hW.keep H.fr (by simp) (by simp)).keep hf1 (by simpa using hrd.symm) (by simpa using hn101 (hR.ext H.fr))
  clear H
  have H := Holds.start w1 []
  refine Ops.pure H (X.move rfl) rfl rfl rfl ?_
  refine Ops.eff rfl (Y.call rfl rfl (by first | assumption | decide +kernel) rfl (dnumber_any _ w0.heap.size rb 8 (nxt σ0 8) (hR1.ext H.fr) hr (by omega) (hb0.nxt 8)) rfl ?_)
  rintro v w2 ⟨rfl, hR2, hf2⟩
  have F2 := F1.trans (H.fr.trans (U := [rb]) hf2 (by simp) (by simp)) (U := []) (by simp) (fun x hx hl => by simp at hx; omega)
  have hW2 := (hW1.keep H.fr (by simp) (by simp)).keep hf2 (by simpa using hrd.symm) (by simpa using hn101 (hR1.ext H.fr))
  obtain ⟨id, hid⟩ : ∃ q, q = beV (got σ0 8) := ⟨_, rfl⟩
  obtain ⟨σ1, hσ1⟩ : ∃ q, q = nxt σ0 8 := ⟨_, rfl⟩
  rw [← hσ1] at hR1 hR2 ⊢
  have hb1 : SByt σ1 := by rw [hσ1]; exact hb0.nxt 8
  obtain ⟨fl, hfl⟩ : ∃ q, q = beV (got σ1 8) := ⟨_, rfl⟩
  obtain ⟨σ2, hσ2⟩ : ∃ q, q = nxt σ1 8 := ⟨_, rfl⟩
  rw [← hσ2] at hR2
  rw [← hid, ← hfl]
  have hb2 : SByt σ2 := by rw [hσ2]; exact hb1.nxt 8
  clear H
  have H := Holds.start w2 []
  refine Ops.pure H (X.buildO rfl rfl rfl rfl rfl rfl) rfl rfl rfl ?_
  (refine Ops.eff rfl (Y.alloc rfl rfl rfl H ?_); intro b4 w H0 hb4; clear H; have H := H0; clear H0)
  (refine Ops.eff rfl (Y.storeO rfl rfl rfl rfl rfl rfl H Upd.head rfl ?_); intro w H0; clear H; have H := H0; clear H0)
  (refine Ops.nil (hK _ _ (Run.seq (Run.region ?_))); clear hK K; intro K hK)
  refine Ops.pure H (X.move rfl) rfl rfl rfl ?_
  refine Ops.eff rfl (Y.call rfl rfl (by first | assumption | decide +kernel) rfl (dnumber_any _ w0.heap.size rb 4 σ2 (hR2.ext H.fr) hr (by omega) hb2) rfl ?_)
  rintro v w3 ⟨rfl, hR3, hf3⟩
  have hnb4 : b4 ∉ [rb] := by
    obtain ⟨v, hw, _⟩ := hW2
    have h8 := H.fr.size
    have hrl : rb < w2.heap.size := by
      cases σ2 with
      | some ys => obtain ⟨cap, b, off, cs, T, fz, h', _⟩ := hR2; exact lt_of_at h'
      | none => obtain ⟨v, h'⟩ := hR2; exact lt_of_at h'
    simp
    omega
  have hb4r : b4 ≠ rb := by simpa using hnb4
  have hb4d : b4 ≠ db := by
    obtain ⟨v, hw, _⟩ := hW2
    have := lt_of_at hw
    omega
  have hb4z : w0.heap.size ≤ b4 := by have := F2.size; omega
  have hc4 := hf3.get (H.pick (b := b4) (by repeat (first | exact .head | apply Pick.tail))) hnb4
  have F3 := F2.trans (H.fr.trans (U := [rb]) hf3 (by simp) (by simp)) (U := []) (by simp) (fun x hx hl => by simp at hx; omega)
  have hW3 := (hW2.keep H.fr (by simp) (by simp)).keep hf3 (by simpa using hrd.symm) (by simpa using hn101 (hR2.ext H.fr))
  obtain ⟨nn, hnn⟩ : ∃ q, q = beV (got σ2 4) := ⟨_, rfl⟩
  obtain ⟨σ3, hσ3⟩ : ∃ q, q = nxt σ2 4 := ⟨_, rfl⟩
  rw [← hσ3] at hR3
  rw [← hnn]
  have hb3 : SByt σ3 := by rw [hσ3]; exact hb2.nxt 4
  have hnnl : nn < 4294967296 := by
    rw [hnn]
    have := beV_lt (got σ2 4) (hb2.got 4) (got σ2 4).length (Nat.le_refl _)
    rw [List.take_length] at this
    exact Nat.lt_of_lt_of_le this (Nat.pow_le_pow_right (n := 256) (j := 4) (by decide) (got_le σ2 4))
  have hWl : ∀ b off n cap, w3.heap[db]? = some (row [.int .i64 size, .slice (some ⟨b, off, none⟩) n cap] 80) → b < b4 := by
    intro b off n cap hw
    obtain ⟨v2, hd2, lv2, hO2, _⟩ := hW2
    have hd3 := hf3.get (H.fr.get hd2 (by simp)) (by simpa using hrd.symm)
    rw [hw] at hd3
    rcases hO2 with ⟨_, _, rfl⟩ | ⟨b', cap', cs', e, _, _, _, hb', _⟩
    · simp at hd3
    · rw [e] at hd3
      simp at hd3
      obtain ⟨⟨rfl, _⟩, _⟩ := hd3
      have := lt_of_at hb'
      omega
  clear H hW hW1 hW2 hR hR1 hR2
  have H := Holds.start w3 []
  refine Ops.pure H (X.conv rfl rfl rfl rfl rfl (IntWalk.i64_in _ (by omega))) rfl rfl rfl ?_
  refine Ops.pure H (X.assign rfl) rfl rfl rfl ?_
  (refine Ops.nil (hK _ _ ?_); clear hK K)
  clear H
  refine Run.seq ?_
  refine Run.meet (fun (_ : Option (List Int)) => [(0, .pointer (some ⟨rb, 0, none⟩)), (1, .pointer (some ⟨db, 0, none⟩)), (4, .pointer (some ⟨b4, 0, none⟩)), (5, .int .i64 (nn : Nat))])
    (fun σ4 w' => ((nn < 1 ∨ size < nn ∨ (0 < fl ∧ nn ≠ size) ∨ ∃ q, ids.getLast? = some q ∧ (id : Int) ≤ q) → σ4 = none) ∧ (¬ (nn < 1 ∨ size < nn ∨ (0 < fl ∧ nn ≠ size) ∨ ∃ q, ids.getLast? = some q ∧ (id : Int) ≤ q) → σ4 = σ3) ∧ RS w0.heap.size w' rb σ4 ∧ RW w0.heap.size w' db size ids m ∧ w'.heap[b4]? = some (row [.int .u64 (id : Nat), .int .u64 (fl : Nat), .slice none 0 0] 84) ∧ Fr w0 w' [] ∧ ∀ b off n cap, w'.heap[db]? = some (row [.int .i64 size, .slice (some ⟨b, off, none⟩) n cap] 80) → b < b4) ?_ ?_
  rotate_left
  · intro kk go
    have hW3' := hW3
    obtain ⟨wv, hwd, lv, hwO, hwL⟩ := hW3
    obtain ⟨rv, rq, hrb⟩ : ∃ rv rq, w3.heap[rb]? = some (row [rv, .bool rq] 101) := by
      cases σ3 with
      | some ys => obtain ⟨cap, b, off, cs, T, fz, h', _⟩ := hR3; exact ⟨_, _, h'⟩
      | none => obtain ⟨v, h'⟩ := hR3; exact ⟨_, _, h'⟩
    obtain ⟨wa, wcap, rfl⟩ := hwO.slice
    have bad : ∀ w', Fr w3 w' [rb] → w'.heap[rb]? = some (row [rv, .bool true] 101) → RS w0.heap.size w' rb none ∧ RW w0.heap.size w' db size ids m ∧ w'.heap[b4]? = some (row [.int .u64 (id : Nat), .int .u64 (fl : Nat), .slice none 0 0] 84) ∧ Fr w0 w' [] ∧ ∀ b off n cap, w'.heap[db]? = some (row [.int .i64 size, .slice (some ⟨b, off, none⟩) n cap] 80) → b < b4 := fun w' hf hb => ⟨⟨_, hb⟩, hW3'.keep hf (by simpa using hrd.symm) (by simpa using hn101 hR3), hf.get hc4 hnb4, F3.trans hf (U := []) (by simp) (fun x hx hl => by simp at hx; omega), fun b off n cap hw => hWl b off n cap (by rw [hf.get hwd (by simpa using hrd.symm)] at hw; rw [hwd]; exact hw)⟩
    have H := (((Holds.start w3 [rb]).add false hwd (by simp) (by simp)).add false hc4 (by simpa using hb4d) (by simp)).add true hrb (by simpa using ⟨hb4r.symm, hrd⟩) (by simp)
    by_cases c1 : nn < 1
    · refine Run.seq ?_
      (refine Run.draw H [] (0 :: 1 :: 2 :: 3 :: 4 :: 5 :: 6 :: 7 :: 8 :: 9 :: 10 :: 11 :: 12 :: 13 :: 14 :: 15 :: 16 :: 17 :: 18 :: 19 :: 20 :: 21 :: 22 :: 23 :: 24 :: 25 :: 26 :: 27 :: 28 :: 29 :: 30 :: 31 :: 32 :: 33 :: 34 :: 35 :: 36 :: 37 :: 38 :: 39 :: 40 :: 41 :: 42 :: 43 :: 44 :: 45 :: 46 :: 47 :: 48 :: []) ?_; clear H; intro K hK w H)
      refine Draw.take0 rfl (X.move rfl) rfl rfl rfl (by decide +kernel) ?_
      refine Draw.take0 rfl (X.cmp rfl rfl rfl) rfl rfl rfl (by decide +kernel) ?_
      refine Draw.take0 rfl (X.move rfl) rfl rfl rfl (by decide +kernel) ?_
      refine Draw.split_dec rfl rfl rfl (fun h21 => ?x0) (fun h21 => ?y0)
      case' y0 => exfalso; omega
      case' x0 =>
        refine Draw.pass rfl rfl rfl rfl (by decide +kernel) ?_
        refine Draw.pass rfl rfl rfl rfl (by decide +kernel) ?_
        refine Draw.pass rfl rfl rfl rfl (by decide +kernel) ?_
        refine Draw.pass rfl rfl rfl rfl (by decide +kernel) ?_
        refine Draw.pass rfl rfl rfl rfl (by decide +kernel) ?_
        refine Draw.pass rfl rfl rfl rfl (by decide +kernel) ?_
        refine Draw.take0 rfl (X.pick_t rfl rfl) rfl rfl rfl (by decide +kernel) ?_
        refine Draw.take0 rfl (X.move rfl) rfl rfl rfl (by decide +kernel) ?_
        refine Draw.pass rfl rfl rfl rfl (by decide +kernel) ?_
        refine Draw.pass rfl rfl rfl rfl (by decide +kernel) ?_
        refine Draw.pass rfl rfl rfl rfl (by decide +kernel) ?_
        refine Draw.pass rfl rfl rfl rfl (by decide +kernel) ?_
        refine Draw.pass rfl rfl rfl rfl (by decide +kernel) ?_
        refine Draw.pass rfl rfl rfl rfl (by decide +kernel) ?_
        refine Draw.pass rfl rfl rfl rfl (by decide +kernel) ?_
        refine Draw.pass rfl rfl rfl rfl (by decide +kernel) ?_
        refine Draw.pass rfl rfl rfl rfl (by decide +kernel) ?_
        refine Draw.pass rfl rfl rfl rfl (by decide +kernel) ?_
        refine Draw.pass rfl rfl rfl rfl (by decide +kernel) ?_
        refine Draw.take0 rfl (X.pick_t rfl rfl) rfl rfl rfl (by decide +kernel) ?_
        refine Draw.take0 rfl (X.move rfl) rfl rfl rfl (by decide +kernel) ?_
        refine Draw.pass rfl rfl rfl rfl (by decide +kernel) ?_
        refine Draw.pass rfl rfl rfl rfl (by decide +kernel) ?_
        refine Draw.pass rfl rfl rfl rfl (by decide +kernel) ?_
        refine Draw.pass rfl rfl rfl rfl (by decide +kernel) ?_
        refine Draw.pass rfl rfl rfl rfl (by decide +kernel) ?_
        refine Draw.pass rfl rfl rfl rfl (by decide +kernel) ?_
        refine Draw.pass rfl rfl rfl rfl (by decide +kernel) ?_
        refine Draw.pass rfl rfl rfl rfl (by decide +kernel) ?_
        refine Draw.pass rfl rfl rfl rfl (by decide +kernel) ?_
        refine Draw.pass rfl rfl rfl rfl (by decide +kernel) ?_
        refine Draw.pass rfl rfl rfl rfl (by decide +kernel) ?_
        refine Draw.pass rfl rfl rfl rfl (by decide +kernel) ?_
        refine Draw.pass rfl rfl rfl rfl (by decide +kernel) ?_
        refine Draw.pass rfl rfl rfl rfl (by decide +kernel) ?_
        refine Draw.pass rfl rfl rfl rfl (by decide +kernel) ?_
        refine Draw.pass rfl rfl rfl rfl (by decide +kernel) ?_
        refine Draw.pass rfl rfl rfl rfl (by decide +kernel) ?_
        refine Draw.pass rfl rfl rfl rfl (by decide +kernel) ?_
        refine Draw.pass rfl rfl rfl rfl (by decide +kernel) ?_
        refine Draw.pass rfl rfl rfl rfl (by decide +kernel) ?_
        refine Draw.pass rfl rfl rfl rfl (by decide +kernel) ?_
        refine Draw.pass rfl rfl rfl rfl (by decide +kernel) ?_
        refine Draw.pass rfl rfl rfl rfl (by decide +kernel) ?_
        refine Draw.pass rfl rfl rfl rfl (by decide +kernel) ?_
        refine Draw.take0 rfl (X.pick_t rfl rfl) rfl rfl rfl (by decide +kernel) ?_
        (refine Draw.done (by decide +kernel) (hK _ _ ?_); clear hK K)
        refine Run.cond_true rfl ?_
        (refine Run.region ?_; intro K hK)
        refine Ops.pure H (X.move rfl) rfl rfl rfl ?_
        refine Ops.pure H (X.nilCheck rfl) rfl rfl rfl ?_
        refine Ops.pure H (X.fieldAddr rfl rfl rfl rfl rfl rfl) rfl rfl rfl ?_
        (refine Ops.eff rfl (Y.store1 rfl rfl rfl rfl rfl rfl H Upd.head (by repeat (first | exact SetC.zero | apply SetC.succ)) ?_); intro w H0; clear H; have H := H0; clear H0)
        (refine Ops.nil (hK _ _ ?_); clear hK K)
      exact go none _ _ ⟨fun _ => rfl, fun h => absurd (.inl c1) h, bad _ H.fr (H.pick (b := rb) (by repeat (first | exact .head | apply Pick.tail)))⟩ (by repeat (first | exact trivial | refine ⟨rfl, ?_⟩))
    by_cases c2 : size < nn
    · refine Run.seq ?_
      (refine Run.draw H [] (0 :: 1 :: 2 :: 3 :: 4 :: 5 :: 6 :: 7 :: 8 :: 9 :: 10 :: 11 :: 12 :: 13 :: 14 :: 15 :: 16 :: 17 :: 18 :: 19 :: 20 :: 21 :: 22 :: 23 :: 24 :: 25 :: 26 :: 27 :: 28 :: 29 :: 30 :: 31 :: 32 :: 33 :: 34 :: 35 :: 36 :: 37 :: 38 :: 39 :: 40 :: 41 :: 42 :: 43 :: 44 :: 45 :: 46 :: 47 :: 48 :: []) ?_; clear H; intro K hK w H)
      refine Draw.take0 rfl (X.move rfl) rfl rfl rfl (by decide +kernel) ?_
      refine Draw.take0 rfl (X.cmp rfl rfl rfl) rfl rfl rfl (by decide +kernel) ?_
      refine Draw.take0 rfl (X.move rfl) rfl rfl rfl (by decide +kernel) ?_
      refine Draw.split_dec rfl rfl rfl (fun h21 => ?x1) (fun h21 => ?y1)
      case' y1 =>
        refine Draw.take0 rfl (X.move rfl) rfl rfl rfl (by decide +kernel) ?_
        refine Draw.take0 rfl (X.move rfl) rfl rfl rfl (by decide +kernel) ?_
        refine Draw.take0 rfl (X.nilCheck rfl) rfl rfl rfl (by decide +kernel) ?_
        refine Draw.take0 rfl (X.fieldAddr rfl rfl rfl rfl rfl rfl) rfl rfl rfl (by decide +kernel) ?_
        refine Draw.take rfl (X.load1 rfl rfl rfl rfl (.tail (.tail .head)) rfl) rfl rfl rfl (by decide +kernel) ?_
        refine Draw.take0 rfl (X.cmp rfl rfl rfl) rfl rfl rfl (by decide +kernel) ?_
        refine Draw.take0 rfl (X.pick_f rfl rfl) rfl rfl rfl (by decide +kernel) ?_
        refine Draw.take0 rfl (X.move rfl) rfl rfl rfl (by decide +kernel) ?_
        refine Draw.split_dec rfl rfl rfl (fun h29 => ?x2) (fun h29 => ?y2)
        case' y2 => exfalso; omega
        case' x2 =>
          refine Draw.pass rfl rfl rfl rfl (by decide +kernel) ?_
          refine Draw.pass rfl rfl rfl rfl (by decide +kernel) ?_
          refine Draw.pass rfl rfl rfl rfl (by decide +kernel) ?_
          refine Draw.pass rfl rfl rfl rfl (by decide +kernel) ?_
          refine Draw.pass rfl rfl rfl rfl (by decide +kernel) ?_
          refine Draw.pass rfl rfl rfl rfl (by decide +kernel) ?_
          refine Draw.pass rfl rfl rfl rfl (by decide +kernel) ?_
          refine Draw.pass rfl rfl rfl rfl (by decide +kernel) ?_
          refine Draw.pass rfl rfl rfl rfl (by decide +kernel) ?_
          refine Draw.pass rfl rfl rfl rfl (by decide +kernel) ?_
          refine Draw.pass rfl rfl rfl rfl (by decide +kernel) ?_
          refine Draw.take0 rfl (X.pick_t rfl rfl) rfl rfl rfl (by decide +kernel) ?_
          refine Draw.take0 rfl (X.move rfl) rfl rfl rfl (by decide +kernel) ?_
          refine Draw.pass rfl rfl rfl rfl (by decide +kernel) ?_
          refine Draw.pass rfl rfl rfl rfl (by decide +kernel) ?_
          refine Draw.pass rfl rfl rfl rfl (by decide +kernel) ?_
          refine Draw.pass rfl rfl rfl rfl (by decide +kernel) ?_
          refine Draw.pass rfl rfl rfl rfl (by decide +kernel) ?_
          refine Draw.pass rfl rfl rfl rfl (by decide +kernel) ?_
          refine Draw.pass rfl rfl rfl rfl (by decide +kernel) ?_
          refine Draw.pass rfl rfl rfl rfl (by decide +kernel) ?_
          refine Draw.pass rfl rfl rfl rfl (by decide +kernel) ?_
          refine Draw.pass rfl rfl rfl rfl (by decide +kernel) ?_
          refine Draw.pass rfl rfl rfl rfl (by decide +kernel) ?_
          refine Draw.pass rfl rfl rfl rfl (by decide +kernel) ?_
          refine Draw.pass rfl rfl rfl rfl (by decide +kernel) ?_
          refine Draw.pass rfl rfl rfl rfl (by decide +kernel) ?_
          refine Draw.pass rfl rfl rfl rfl (by decide +kernel) ?_
          refine Draw.pass rfl rfl rfl rfl (by decide +kernel) ?_
          refine Draw.pass rfl rfl rfl rfl (by decide +kernel) ?_
          refine Draw.pass rfl rfl rfl rfl (by decide +kernel) ?_
          refine Draw.pass rfl rfl rfl rfl (by decide +kernel) ?_
          refine Draw.pass rfl rfl rfl rfl (by decide +kernel) ?_
          refine Draw.pass rfl rfl rfl rfl (by decide +kernel) ?_
          refine Draw.pass rfl rfl rfl rfl (by decide +kernel) ?_
          refine Draw.pass rfl rfl rfl rfl (by decide +kernel) ?_
          refine Draw.pass rfl rfl rfl rfl (by decide +kernel) ?_
          refine Draw.take0 rfl (X.pick_t rfl rfl) rfl rfl rfl (by decide +kernel) ?_
          (refine Draw.done (by decide +kernel) (hK _ _ ?_); clear hK K)
          refine Run.cond_true rfl ?_
          (refine Run.region ?_; intro K hK)
          refine Ops.pure H (X.move rfl) rfl rfl rfl ?_
          refine Ops.pure H (X.nilCheck rfl) rfl rfl rfl ?_
          refine Ops.pure H (X.fieldAddr rfl rfl rfl rfl rfl rfl) rfl rfl rfl ?_
          (refine Ops.eff rfl (Y.store1 rfl rfl rfl rfl rfl rfl H Upd.head (by repeat (first | exact SetC.zero | apply SetC.succ)) ?_); intro w H0; clear H; have H := H0; clear H0)
          (refine Ops.nil (hK _ _ ?_); clear hK K)
      case' x1 => exfalso; omega
      exact go none _ _ ⟨fun _ => rfl, fun h => absurd (.inr (.inl c2)) h, bad _ H.fr (H.pick (b := rb) (by repeat (first | exact .head | apply Pick.tail)))⟩ (by repeat (first | exact trivial | refine ⟨rfl, ?_⟩))
    by_cases c3 : 0 < fl ∧ nn ≠ size
    · obtain ⟨c31, c32⟩ := c3
      refine Run.seq ?_
      (refine Run.draw H [] (0 :: 1 :: 2 :: 3 :: 4 :: 5 :: 6 :: 7 :: 8 :: 9 :: 10 :: 11 :: 12 :: 13 :: 14 :: 15 :: 16 :: 17 :: 18 :: 19 :: 20 :: 21 :: 22 :: 23 :: 24 :: 25 :: 26 :: 27 :: 28 :: 29 :: 30 :: 31 :: 32 :: 33 :: 34 :: 35 :: 36 :: 37 :: 38 :: 39 :: 40 :: 41 :: 42 :: 43 :: 44 :: 45 :: 46 :: 47 :: 48 :: []) ?_; clear H; intro K hK w H)
      refine Draw.take0 rfl (X.move rfl) rfl rfl rfl (by decide +kernel) ?_
      refine Draw.take0 rfl (X.cmp rfl rfl rfl) rfl rfl rfl (by decide +kernel) ?_
      refine Draw.take0 rfl (X.move rfl) rfl rfl rfl (by decide +kernel) ?_
      refine Draw.split_dec rfl rfl rfl (fun h21 => ?x3) (fun h21 => ?y3)
      case' y3 =>
        refine Draw.take0 rfl (X.move rfl) rfl rfl rfl (by decide +kernel) ?_
        refine Draw.take0 rfl (X.move rfl) rfl rfl rfl (by decide +kernel) ?_
        refine Draw.take0 rfl (X.nilCheck rfl) rfl rfl rfl (by decide +kernel) ?_
        refine Draw.take0 rfl (X.fieldAddr rfl rfl rfl rfl rfl rfl) rfl rfl rfl (by decide +kernel) ?_
        refine Draw.take rfl (X.load1 rfl rfl rfl rfl (.tail (.tail .head)) rfl) rfl rfl rfl (by decide +kernel) ?_
        refine Draw.take0 rfl (X.cmp rfl rfl rfl) rfl rfl rfl (by decide +kernel) ?_
        refine Draw.take0 rfl (X.pick_f rfl rfl) rfl rfl rfl (by decide +kernel) ?_
        refine Draw.take0 rfl (X.move rfl) rfl rfl rfl (by decide +kernel) ?_
        refine Draw.split_dec rfl rfl rfl (fun h29 => ?x4) (fun h29 => ?y4)
        case' y4 =>
          refine Draw.take0 rfl (X.fieldAddr rfl rfl rfl rfl rfl rfl) rfl rfl rfl (by decide +kernel) ?_
          refine Draw.take rfl (X.load1 rfl rfl rfl rfl (.tail .head) rfl) rfl rfl rfl (by decide +kernel) ?_
          refine Draw.take0 rfl (X.cmp rfl rfl rfl) rfl rfl rfl (by decide +kernel) ?_
          refine Draw.take0 rfl (X.move rfl) rfl rfl rfl (by decide +kernel) ?_
          refine Draw.split_dec rfl rfl rfl (fun h33 => ?x5) (fun h33 => ?y5)
          case' y5 => exfalso; omega
          case' x5 =>
            refine Draw.take0 rfl (X.move rfl) rfl rfl rfl (by decide +kernel) ?_
            refine Draw.take0 rfl (X.move rfl) rfl rfl rfl (by decide +kernel) ?_
            refine Draw.take0 rfl (X.nilCheck rfl) rfl rfl rfl (by decide +kernel) ?_
            refine Draw.take0 rfl (X.fieldAddr rfl rfl rfl rfl rfl rfl) rfl rfl rfl (by decide +kernel) ?_
            refine Draw.take rfl (X.load1 rfl rfl rfl rfl (.tail (.tail .head)) rfl) rfl rfl rfl (by decide +kernel) ?_
            refine Draw.take0 rfl (X.cmp rfl rfl rfl) rfl rfl rfl (by decide +kernel) ?_
            refine Draw.take0 rfl (X.pick_t rfl rfl) rfl rfl rfl (by decide +kernel) ?_
            refine Draw.take0 rfl (X.pick_f rfl rfl) rfl rfl rfl (by decide +kernel) ?_
            refine Draw.take0 rfl (X.move rfl) rfl rfl rfl (by decide +kernel) ?_
            refine Draw.split_ndec rfl rfl rfl (fun h42 => ?x6) (fun h42 => ?y6)
            case' y6 => exfalso; omega
            case' x6 =>
              refine Draw.pass rfl rfl rfl rfl (by decide +kernel) ?_
              refine Draw.pass rfl rfl rfl rfl (by decide +kernel) ?_
              refine Draw.pass rfl rfl rfl rfl (by decide +kernel) ?_
              refine Draw.pass rfl rfl rfl rfl (by decide +kernel) ?_
              refine Draw.pass rfl rfl rfl rfl (by decide +kernel) ?_
              refine Draw.pass rfl rfl rfl rfl (by decide +kernel) ?_
              refine Draw.pass rfl rfl rfl rfl (by decide +kernel) ?_
              refine Draw.pass rfl rfl rfl rfl (by decide +kernel) ?_
              refine Draw.pass rfl rfl rfl rfl (by decide +kernel) ?_
              refine Draw.pass rfl rfl rfl rfl (by decide +kernel) ?_
              refine Draw.pass rfl rfl rfl rfl (by decide +kernel) ?_
              refine Draw.pass rfl rfl rfl rfl (by decide +kernel) ?_
              refine Draw.pass rfl rfl rfl rfl (by decide +kernel) ?_
              refine Draw.pass rfl rfl rfl rfl (by decide +kernel) ?_
              refine Draw.pass rfl rfl rfl rfl (by decide +kernel) ?_
              refine Draw.pass rfl rfl rfl rfl (by decide +kernel) ?_
              refine Draw.pass rfl rfl rfl rfl (by decide +kernel) ?_
              refine Draw.pass rfl rfl rfl rfl (by decide +kernel) ?_
              refine Draw.pass rfl rfl rfl rfl (by decide +kernel) ?_
              refine Draw.pass rfl rfl rfl rfl (by decide +kernel) ?_
              refine Draw.pass rfl rfl rfl rfl (by decide +kernel) ?_
              refine Draw.pass rfl rfl rfl rfl (by decide +kernel) ?_
              refine Draw.pass rfl rfl rfl rfl (by decide +kernel) ?_
              refine Draw.pass rfl rfl rfl rfl (by decide +kernel) ?_
              refine Draw.take0 rfl (X.pick_t rfl rfl) rfl rfl rfl (by decide +kernel) ?_
              (refine Draw.done (by decide +kernel) (hK _ _ ?_); clear hK K)
              refine Run.cond_true rfl ?_
              (refine Run.region ?_; intro K hK)
              refine Ops.pure H (X.move rfl) rfl rfl rfl ?_
              refine Ops.pure H (X.nilCheck rfl) rfl rfl rfl ?_
              refine Ops.pure H (X.fieldAddr rfl rfl rfl rfl rfl rfl) rfl rfl rfl ?_
              (refine Ops.eff rfl (Y.store1 rfl rfl rfl rfl rfl rfl H Upd.head (by repeat (first | exact SetC.zero | apply SetC.succ)) ?_); intro w H0; clear H; have H := H0; clear H0)
              (refine Ops.nil (hK _ _ ?_); clear hK K)
        case' x4 => exfalso; omega
      case' x3 => exfalso; omega
      exact go none _ _ ⟨fun _ => rfl, fun h => absurd (.inr (.inr (.inl ⟨c31, c32⟩))) h, bad _ H.fr (H.pick (b := rb) (by repeat (first | exact .head | apply Pick.tail)))⟩ (by repeat (first | exact trivial | refine ⟨rfl, ?_⟩))
    have good : ∀ w', Fr w3 w' [rb] → w'.heap[rb]? = some (row [rv, .bool rq] 101) → RS w0.heap.size w' rb σ3 ∧ RW w0.heap.size w' db size ids m ∧ w'.heap[b4]? = some (row [.int .u64 (id : Nat), .int .u64 (fl : Nat), .slice none 0 0] 84) ∧ Fr w0 w' [] ∧ ∀ b off n cap, w'.heap[db]? = some (row [.int .i64 size, .slice (some ⟨b, off, none⟩) n cap] 80) → b < b4 := fun w' hf hb => ⟨by
      cases σ3 with
      | some ys =>
        obtain ⟨cap, b, off, cs, T, fz, g1, g2, g3, g4, g5, g6⟩ := hR3
        rw [hrb] at g1
        simp at g1
        obtain ⟨rfl, rfl⟩ := g1
        exact ⟨cap, b, off, cs, T, fz, hb, g2, g3, fun hp => hf.get (g4 hp) (by simp; omega), g5, g6⟩
      | none =>
        obtain ⟨v, g1⟩ := hR3
        rw [hrb] at g1
        simp at g1
        obtain ⟨rfl, rfl⟩ := g1
        exact ⟨_, hb⟩, hW3'.keep hf (by simpa using hrd.symm) (by simpa using hn101 hR3), hf.get hc4 hnb4, F3.trans hf (U := []) (by simp) (fun x hx hl => by simp at hx; omega), fun b off n cap hw => hWl b off n cap (by rw [hf.get hwd (by simpa using hrd.symm)] at hw; rw [hwd]; exact hw)⟩
    have hc3 : (¬ 0 < fl) ∨ (0 < fl ∧ nn = size) := by omega
    rcases hc3 with h0 | ⟨h0, h0'⟩
    · by_cases hids : ids.length = 0
      · have hil : ids = [] := List.eq_nil_of_length_eq_zero hids
        have hn4 : ¬ ∃ q, ids.getLast? = some q ∧ (id : Int) ≤ q := by rw [hil]; rintro ⟨q, hq, _⟩; cases hq
        rw [hids] at H
        refine Run.seq ?_
        (refine Run.draw H [] (0 :: 1 :: 2 :: 3 :: 4 :: 5 :: 6 :: 7 :: 8 :: 9 :: 10 :: 11 :: 12 :: 13 :: 14 :: 15 :: 16 :: 17 :: 18 :: 19 :: 20 :: 21 :: 22 :: 23 :: 24 :: 25 :: 26 :: 27 :: 28 :: 29 :: 30 :: 31 :: 32 :: 33 :: 34 :: 35 :: 36 :: 37 :: 38 :: 39 :: 40 :: 41 :: 42 :: 43 :: 44 :: 45 :: 46 :: 47 :: 48 :: []) ?_; clear H; intro K hK w H)
        refine Draw.take0 rfl (X.move rfl) rfl rfl rfl (by decide +kernel) ?_
        refine Draw.take0 rfl (X.cmp rfl rfl rfl) rfl rfl rfl (by decide +kernel) ?_
        refine Draw.take0 rfl (X.move rfl) rfl rfl rfl (by decide +kernel) ?_
        refine Draw.split_dec rfl rfl rfl (fun h21 => ?x7) (fun h21 => ?y7)
        case' y7 =>
          refine Draw.take0 rfl (X.move rfl) rfl rfl rfl (by decide +kernel) ?_
          refine Draw.take0 rfl (X.move rfl) rfl rfl rfl (by decide +kernel) ?_
          refine Draw.take0 rfl (X.nilCheck rfl) rfl rfl rfl (by decide +kernel) ?_
          refine Draw.take0 rfl (X.fieldAddr rfl rfl rfl rfl rfl rfl) rfl rfl rfl (by decide +kernel) ?_
          refine Draw.take rfl (X.load1 rfl rfl rfl rfl (.tail (.tail .head)) rfl) rfl rfl rfl (by decide +kernel) ?_
          refine Draw.take0 rfl (X.cmp rfl rfl rfl) rfl rfl rfl (by decide +kernel) ?_
          refine Draw.take0 rfl (X.pick_f rfl rfl) rfl rfl rfl (by decide +kernel) ?_
          refine Draw.take0 rfl (X.move rfl) rfl rfl rfl (by decide +kernel) ?_
          refine Draw.split_dec rfl rfl rfl (fun h29 => ?x8) (fun h29 => ?y8)
          case' y8 =>
            refine Draw.take0 rfl (X.fieldAddr rfl rfl rfl rfl rfl rfl) rfl rfl rfl (by decide +kernel) ?_
            refine Draw.take rfl (X.load1 rfl rfl rfl rfl (.tail .head) rfl) rfl rfl rfl (by decide +kernel) ?_
            refine Draw.take0 rfl (X.cmp rfl rfl rfl) rfl rfl rfl (by decide +kernel) ?_
            refine Draw.take0 rfl (X.move rfl) rfl rfl rfl (by decide +kernel) ?_
            refine Draw.split_dec rfl rfl rfl (fun h33 => ?x9) (fun h33 => ?y9)
            case' y9 =>
              refine Draw.pass rfl rfl rfl rfl (by decide +kernel) ?_
              refine Draw.pass rfl rfl rfl rfl (by decide +kernel) ?_
              refine Draw.pass rfl rfl rfl rfl (by decide +kernel) ?_
              refine Draw.pass rfl rfl rfl rfl (by decide +kernel) ?_
              refine Draw.pass rfl rfl rfl rfl (by decide +kernel) ?_
              refine Draw.pass rfl rfl rfl rfl (by decide +kernel) ?_
              refine Draw.take0 rfl (X.pick_f rfl rfl) rfl rfl rfl (by decide +kernel) ?_
              refine Draw.take0 rfl (X.pick_f rfl rfl) rfl rfl rfl (by decide +kernel) ?_
              refine Draw.take0 rfl (X.move rfl) rfl rfl rfl (by decide +kernel) ?_
              refine Draw.take0 rfl (X.move rfl) rfl rfl rfl (by decide +kernel) ?_
              refine Draw.take0 rfl (X.nilCheck rfl) rfl rfl rfl (by decide +kernel) ?_
              refine Draw.take0 rfl (X.fieldAddr rfl rfl rfl rfl rfl rfl) rfl rfl rfl (by decide +kernel) ?_
              refine Draw.take rfl (X.load1 rfl rfl rfl rfl (.tail (.tail .head)) rfl) rfl rfl rfl (by decide +kernel) ?_
              refine Draw.take0 rfl (X.len_slice rfl rfl rfl) rfl rfl rfl (by decide +kernel) ?_
              refine Draw.take0 rfl (X.cmp rfl rfl rfl) rfl rfl rfl (by decide +kernel) ?_
              refine Draw.take0 rfl (X.move rfl) rfl rfl rfl (by decide +kernel) ?_
              refine Draw.pass rfl rfl rfl rfl (by decide +kernel) ?_
              refine Draw.pass rfl rfl rfl rfl (by decide +kernel) ?_
              refine Draw.pass rfl rfl rfl rfl (by decide +kernel) ?_
              refine Draw.pass rfl rfl rfl rfl (by decide +kernel) ?_
              refine Draw.pass rfl rfl rfl rfl (by decide +kernel) ?_
              refine Draw.pass rfl rfl rfl rfl (by decide +kernel) ?_
              refine Draw.pass rfl rfl rfl rfl (by decide +kernel) ?_
              refine Draw.pass rfl rfl rfl rfl (by decide +kernel) ?_
              refine Draw.pass rfl rfl rfl rfl (by decide +kernel) ?_
              refine Draw.pass rfl rfl rfl rfl (by decide +kernel) ?_
              refine Draw.pass rfl rfl rfl rfl (by decide +kernel) ?_
              refine Draw.pass rfl rfl rfl rfl (by decide +kernel) ?_
              refine Draw.pass rfl rfl rfl rfl (by decide +kernel) ?_
              refine Draw.pass rfl rfl rfl rfl (by decide +kernel) ?_
              refine Draw.pass rfl rfl rfl rfl (by decide +kernel) ?_
              refine Draw.pass rfl rfl rfl rfl (by decide +kernel) ?_
              refine Draw.take0 rfl (X.pick_f rfl rfl) rfl rfl rfl (by decide +kernel) ?_
              refine Draw.take0 rfl (X.pick_f rfl rfl) rfl rfl rfl (by decide +kernel) ?_
              (refine Draw.done (by decide +kernel) (hK _ _ ?_); clear hK K)
              refine Run.cond_false rfl ?_
              refine Run.skip ?_
            case' x9 => exfalso; omega
          case' x8 => exfalso; omega
        case' x7 => exfalso; omega
        exact go σ3 _ _ ⟨fun h => absurd h (by rintro (h | h | h | h) <;> first | (exact hn4 h) | omega), fun _ => rfl, good _ H.fr (H.pick (b := rb) (by repeat (first | exact .head | apply Pick.tail)))⟩ (by repeat (first | exact trivial | refine ⟨rfl, ?_⟩))
      · obtain ⟨q, hq⟩ : ∃ q, ids.length = q + 1 := ⟨ids.length - 1, by omega⟩
        obtain ⟨ab, acap, acs, hae, ha1, ha2, ha3, ha4, ha5, ha6⟩ := hwO.get (by omega)
        have hlast : ids.getLast? = some (ids.getD q 0) := by
          rw [List.getLast?_eq_getElem?, hq]
          simp [hq]
        have hcl := Cs.flat (f := fun i => [Value.int .u64 (ids.getD i 0), .int .u64 (gm m ids i).floor, lv i]) (fun _ => rfl) ha6 (i := q) (by omega)
        have cq : acs[0 + q * 3 + 0]? = some (.int .u64 (ids.getD q 0)) := hcl.get 0 _ rfl
        cases hae
        have nab : ab ≠ b4 := by have := hWl _ _ _ _ hwd; omega
        have nar : ab ≠ rb := ne_of_ty ha4 hrb (by decide)
        have nad : ab ≠ db := ne_of_ty ha4 hwd (by decide)
        rw [hq] at H hwd
        have H := H.add false (H.fr.get ha4 (by simpa using nar)) (by simpa using ⟨nar, nab, nad⟩) (by simp)
        obtain ⟨uq, huq⟩ : ∃ u : Nat, ids.getD q 0 = (u : Int) := by
          have := (hu (ids.getD q 0) (by simp [show q < ids.length by omega])).1
          exact ⟨(ids.getD q 0).toNat, by omega⟩
        rw [huq] at cq hlast
        by_cases c4 : id ≤ uq
        · refine Run.seq ?_
          (refine Run.draw H [] (0 :: 1 :: 2 :: 3 :: 4 :: 5 :: 6 :: 7 :: 8 :: 9 :: 10 :: 11 :: 12 :: 13 :: 14 :: 15 :: 16 :: 17 :: 18 :: 19 :: 20 :: 21 :: 22 :: 23 :: 24 :: 25 :: 26 :: 27 :: 28 :: 29 :: 30 :: 31 :: 32 :: 33 :: 34 :: 35 :: 36 :: 37 :: 38 :: 39 :: 40 :: 41 :: 42 :: 43 :: 44 :: 45 :: 46 :: 47 :: 48 :: []) ?_; clear H; intro K hK w H)
          refine Draw.take0 rfl (X.move rfl) rfl rfl rfl (by decide +kernel) ?_
          refine Draw.take0 rfl (X.cmp rfl rfl rfl) rfl rfl rfl (by decide +kernel) ?_
          refine Draw.take0 rfl (X.move rfl) rfl rfl rfl (by decide +kernel) ?_
          refine Draw.split_dec rfl rfl rfl (fun h21 => ?x10) (fun h21 => ?y10)
          case' y10 =>
            refine Draw.take0 rfl (X.move rfl) rfl rfl rfl (by decide +kernel) ?_
            refine Draw.take0 rfl (X.move rfl) rfl rfl rfl (by decide +kernel) ?_
            refine Draw.take0 rfl (X.nilCheck rfl) rfl rfl rfl (by decide +kernel) ?_
            refine Draw.take0 rfl (X.fieldAddr rfl rfl rfl rfl rfl rfl) rfl rfl rfl (by decide +kernel) ?_
            refine Draw.take rfl (X.load1 rfl rfl rfl rfl (.tail (.tail (.tail .head))) rfl) rfl rfl rfl (by decide +kernel) ?_
            refine Draw.take0 rfl (X.cmp rfl rfl rfl) rfl rfl rfl (by decide +kernel) ?_
            refine Draw.take0 rfl (X.pick_f rfl rfl) rfl rfl rfl (by decide +kernel) ?_
            refine Draw.take0 rfl (X.move rfl) rfl rfl rfl (by decide +kernel) ?_
            refine Draw.split_dec rfl rfl rfl (fun h29 => ?x11) (fun h29 => ?y11)
            case' y11 =>
              refine Draw.take0 rfl (X.fieldAddr rfl rfl rfl rfl rfl rfl) rfl rfl rfl (by decide +kernel) ?_
              refine Draw.take rfl (X.load1 rfl rfl rfl rfl (.tail (.tail .head)) rfl) rfl rfl rfl (by decide +kernel) ?_
              refine Draw.take0 rfl (X.cmp rfl rfl rfl) rfl rfl rfl (by decide +kernel) ?_
              refine Draw.take0 rfl (X.move rfl) rfl rfl rfl (by decide +kernel) ?_
              refine Draw.split_dec rfl rfl rfl (fun h33 => ?x12) (fun h33 => ?y12)
              case' y12 =>
                refine Draw.pass rfl rfl rfl rfl (by decide +kernel) ?_
                refine Draw.pass rfl rfl rfl rfl (by decide +kernel) ?_
                refine Draw.pass rfl rfl rfl rfl (by decide +kernel) ?_
                refine Draw.pass rfl rfl rfl rfl (by decide +kernel) ?_
                refine Draw.pass rfl rfl rfl rfl (by decide +kernel) ?_
                refine Draw.pass rfl rfl rfl rfl (by decide +kernel) ?_
                refine Draw.take0 rfl (X.pick_f rfl rfl) rfl rfl rfl (by decide +kernel) ?_
                refine Draw.take0 rfl (X.pick_f rfl rfl) rfl rfl rfl (by decide +kernel) ?_
                refine Draw.take0 rfl (X.move rfl) rfl rfl rfl (by decide +kernel) ?_
                refine Draw.take0 rfl (X.move rfl) rfl rfl rfl (by decide +kernel) ?_
                refine Draw.take0 rfl (X.nilCheck rfl) rfl rfl rfl (by decide +kernel) ?_
                refine Draw.take0 rfl (X.fieldAddr rfl rfl rfl rfl rfl rfl) rfl rfl rfl (by decide +kernel) ?_
                refine Draw.take rfl (X.load1 rfl rfl rfl rfl (.tail (.tail (.tail .head))) rfl) rfl rfl rfl (by decide +kernel) ?_
                refine Draw.take0 rfl (X.len_slice rfl rfl rfl) rfl rfl rfl (by decide +kernel) ?_
                refine Draw.take0 rfl (X.cmp rfl rfl rfl) rfl rfl rfl (by decide +kernel) ?_
                refine Draw.take0 rfl (X.move rfl) rfl rfl rfl (by decide +kernel) ?_
                refine Draw.split_dec rfl rfl rfl (fun h49 => ?x13) (fun h49 => ?y13)
                case' y13 => exfalso; omega
                case' x13 =>
                  refine Draw.take0 rfl (X.move rfl) rfl rfl rfl (by decide +kernel) ?_
                  refine Draw.take0 rfl (X.nilCheck rfl) rfl rfl rfl (by decide +kernel) ?_
                  refine Draw.take0 rfl (X.fieldAddr rfl rfl rfl rfl rfl rfl) rfl rfl rfl (by decide +kernel) ?_
                  refine Draw.take rfl (X.load1 rfl rfl rfl rfl (.tail (.tail (.tail .head))) rfl) rfl rfl rfl (by decide +kernel) ?_
                  refine Draw.take0 rfl (X.move rfl) rfl rfl rfl (by decide +kernel) ?_
                  refine Draw.take0 rfl (X.nilCheck rfl) rfl rfl rfl (by decide +kernel) ?_
                  refine Draw.take0 rfl (X.fieldAddr rfl rfl rfl rfl rfl rfl) rfl rfl rfl (by decide +kernel) ?_
                  refine Draw.take rfl (X.load1 rfl rfl rfl rfl (.tail (.tail (.tail .head))) rfl) rfl rfl rfl (by decide +kernel) ?_
                  refine Draw.take0 rfl (X.len_slice rfl rfl rfl) rfl rfl rfl (by decide +kernel) ?_
                  refine Draw.take0 rfl (X.pred rfl rfl (by omega)) rfl rfl rfl (by decide +kernel) ?_
                  refine Draw.take0 rfl (X.indexAddr rfl rfl (by omega) rfl rfl rfl rfl) rfl rfl rfl (by decide +kernel) ?_
                  refine Draw.take0 rfl (X.fieldAddr rfl rfl rfl rfl rfl rfl) rfl rfl rfl (by decide +kernel) ?_
                  refine Draw.take rfl (X.load1 rfl rfl rfl rfl Pick.head (by assumption)) rfl rfl rfl (by decide +kernel) ?_
                  refine Draw.take0 rfl (X.fieldAddr rfl rfl rfl rfl rfl rfl) rfl rfl rfl (by decide +kernel) ?_
                  refine Draw.take rfl (X.load1 rfl rfl rfl rfl (.tail (.tail .head)) rfl) rfl rfl rfl (by decide +kernel) ?_
                  refine Draw.take0 rfl (X.cmp rfl rfl rfl) rfl rfl rfl (by decide +kernel) ?_
                  refine Draw.take0 rfl (X.pick_t rfl rfl) rfl rfl rfl (by decide +kernel) ?_
                  refine Draw.take0 rfl (X.pick_f rfl rfl) rfl rfl rfl (by decide +kernel) ?_
                  (refine Draw.done (by decide +kernel) (hK _ _ ?_); clear hK K)
                  refine Run.cond_dec rfl (fun h66 => ?x14) (fun h66 => ?y14)
                  case' y14 => exfalso; omega
                  case' x14 =>
                    (refine Run.region ?_; intro K hK)
                    refine Ops.pure H (X.move rfl) rfl rfl rfl ?_
                    refine Ops.pure H (X.nilCheck rfl) rfl rfl rfl ?_
                    refine Ops.pure H (X.fieldAddr rfl rfl rfl rfl rfl rfl) rfl rfl rfl ?_
                    (refine Ops.eff rfl (Y.store1 rfl rfl rfl rfl rfl rfl H (.tail .head) (by repeat (first | exact SetC.zero | apply SetC.succ)) ?_); intro w H0; clear H; have H := H0; clear H0)
                    (refine Ops.nil (hK _ _ ?_); clear hK K)
              case' x12 => exfalso; omega
            case' x11 => exfalso; omega
          case' x10 => exfalso; omega
          exact go none _ _ ⟨fun _ => rfl, fun h => absurd (.inr (.inr (.inr ⟨_, hlast, by omega⟩))) h, bad _ H.fr (H.pick (b := rb) (by repeat (first | exact .head | apply Pick.tail)))⟩ (by repeat (first | exact trivial | refine ⟨rfl, ?_⟩))
        · have hn4 : ¬ ∃ q, ids.getLast? = some q ∧ (id : Int) ≤ q := by rw [hlast]; rintro ⟨q, hq, hh⟩; cases hq; omega
          refine Run.seq ?_
          (refine Run.draw H [] (0 :: 1 :: 2 :: 3 :: 4 :: 5 :: 6 :: 7 :: 8 :: 9 :: 10 :: 11 :: 12 :: 13 :: 14 :: 15 :: 16 :: 17 :: 18 :: 19 :: 20 :: 21 :: 22 :: 23 :: 24 :: 25 :: 26 :: 27 :: 28 :: 29 :: 30 :: 31 :: 32 :: 33 :: 34 :: 35 :: 36 :: 37 :: 38 :: 39 :: 40 :: 41 :: 42 :: 43 :: 44 :: 45 :: 46 :: 47 :: 48 :: []) ?_; clear H; intro K hK w H)
          refine Draw.take0 rfl (X.move rfl) rfl rfl rfl (by decide +kernel) ?_
          refine Draw.take0 rfl (X.cmp rfl rfl rfl) rfl rfl rfl (by decide +kernel) ?_
          refine Draw.take0 rfl (X.move rfl) rfl rfl rfl (by decide +kernel) ?_
          refine Draw.split_dec rfl rfl rfl (fun h21 => ?x15) (fun h21 => ?y15)
          case' y15 =>
            refine Draw.take0 rfl (X.move rfl) rfl rfl rfl (by decide +kernel) ?_
            refine Draw.take0 rfl (X.move rfl) rfl rfl rfl (by decide +kernel) ?_
            refine Draw.take0 rfl (X.nilCheck rfl) rfl rfl rfl (by decide +kernel) ?_
            refine Draw.take0 rfl (X.fieldAddr rfl rfl rfl rfl rfl rfl) rfl rfl rfl (by decide +kernel) ?_
            refine Draw.take rfl (X.load1 rfl rfl rfl rfl (.tail (.tail (.tail .head))) rfl) rfl rfl rfl (by decide +kernel) ?_
            refine Draw.take0 rfl (X.cmp rfl rfl rfl) rfl rfl rfl (by decide +kernel) ?_
            refine Draw.take0 rfl (X.pick_f rfl rfl) rfl rfl rfl (by decide +kernel) ?_
            refine Draw.take0 rfl (X.move rfl) rfl rfl rfl (by decide +kernel) ?_
            refine Draw.split_dec rfl rfl rfl (fun h29 => ?x16) (fun h29 => ?y16)
            case' y16 =>
              refine Draw.take0 rfl (X.fieldAddr rfl rfl rfl rfl rfl rfl) rfl rfl rfl (by decide +kernel) ?_
              refine Draw.take rfl (X.load1 rfl rfl rfl rfl (.tail (.tail .head)) rfl) rfl rfl rfl (by decide +kernel) ?_
              refine Draw.take0 rfl (X.cmp rfl rfl rfl) rfl rfl rfl (by decide +kernel) ?_
              refine Draw.take0 rfl (X.move rfl) rfl rfl rfl (by decide +kernel) ?_
              refine Draw.split_dec rfl rfl rfl (fun h33 => ?x17) (fun h33 => ?y17)
              case' y17 =>
                refine Draw.pass rfl rfl rfl rfl (by decide +kernel) ?_
                refine Draw.pass rfl rfl rfl rfl (by decide +kernel) ?_
                refine Draw.pass rfl rfl rfl rfl (by decide +kernel) ?_
                refine Draw.pass rfl rfl rfl rfl (by decide +kernel) ?_
                refine Draw.pass rfl rfl rfl rfl (by decide +kernel) ?_
                refine Draw.pass rfl rfl rfl rfl (by decide +kernel) ?_
                refine Draw.take0 rfl (X.pick_f rfl rfl) rfl rfl rfl (by decide +kernel) ?_
                refine Draw.take0 rfl (X.pick_f rfl rfl) rfl rfl rfl (by decide +kernel) ?_
                refine Draw.take0 rfl (X.move rfl) rfl rfl rfl (by decide +kernel) ?_
                refine Draw.take0 rfl (X.move rfl) rfl rfl rfl (by decide +kernel) ?_
                refine Draw.take0 rfl (X.nilCheck rfl) rfl rfl rfl (by decide +kernel) ?_
                refine Draw.take0 rfl (X.fieldAddr rfl rfl rfl rfl rfl rfl) rfl rfl rfl (by decide +kernel) ?_
                refine Draw.take rfl (X.load1 rfl rfl rfl rfl (.tail (.tail (.tail .head))) rfl) rfl rfl rfl (by decide +kernel) ?_
                refine Draw.take0 rfl (X.len_slice rfl rfl rfl) rfl rfl rfl (by decide +kernel) ?_
                refine Draw.take0 rfl (X.cmp rfl rfl rfl) rfl rfl rfl (by decide +kernel) ?_
                refine Draw.take0 rfl (X.move rfl) rfl rfl rfl (by decide +kernel) ?_
                refine Draw.split_dec rfl rfl rfl (fun h49 => ?x18) (fun h49 => ?y18)
                case' y18 => exfalso; omega
                case' x18 =>
                  refine Draw.take0 rfl (X.move rfl) rfl rfl rfl (by decide +kernel) ?_
                  refine Draw.take0 rfl (X.nilCheck rfl) rfl rfl rfl (by decide +kernel) ?_
                  refine Draw.take0 rfl (X.fieldAddr rfl rfl rfl rfl rfl rfl) rfl rfl rfl (by decide +kernel) ?_
                  refine Draw.take rfl (X.load1 rfl rfl rfl rfl (.tail (.tail (.tail .head))) rfl) rfl rfl rfl (by decide +kernel) ?_
                  refine Draw.take0 rfl (X.move rfl) rfl rfl rfl (by decide +kernel) ?_
                  refine Draw.take0 rfl (X.nilCheck rfl) rfl rfl rfl (by decide +kernel) ?_
                  refine Draw.take0 rfl (X.fieldAddr rfl rfl rfl rfl rfl rfl) rfl rfl rfl (by decide +kernel) ?_
                  refine Draw.take rfl (X.load1 rfl rfl rfl rfl (.tail (.tail (.tail .head))) rfl) rfl rfl rfl (by decide +kernel) ?_
                  refine Draw.take0 rfl (X.len_slice rfl rfl rfl) rfl rfl rfl (by decide +kernel) ?_
                  refine Draw.take0 rfl (X.pred rfl rfl (by omega)) rfl rfl rfl (by decide +kernel) ?_
                  refine Draw.take0 rfl (X.indexAddr rfl rfl (by omega) rfl rfl rfl rfl) rfl rfl rfl (by decide +kernel) ?_
                  refine Draw.take0 rfl (X.fieldAddr rfl rfl rfl rfl rfl rfl) rfl rfl rfl (by decide +kernel) ?_
                  refine Draw.take rfl (X.load1 rfl rfl rfl rfl Pick.head (by assumption)) rfl rfl rfl (by decide +kernel) ?_
                  refine Draw.take0 rfl (X.fieldAddr rfl rfl rfl rfl rfl rfl) rfl rfl rfl (by decide +kernel) ?_
                  refine Draw.take rfl (X.load1 rfl rfl rfl rfl (.tail (.tail .head)) rfl) rfl rfl rfl (by decide +kernel) ?_
                  refine Draw.take0 rfl (X.cmp rfl rfl rfl) rfl rfl rfl (by decide +kernel) ?_
                  refine Draw.take0 rfl (X.pick_t rfl rfl) rfl rfl rfl (by decide +kernel) ?_
                  refine Draw.take0 rfl (X.pick_f rfl rfl) rfl rfl rfl (by decide +kernel) ?_
                  (refine Draw.done (by decide +kernel) (hK _ _ ?_); clear hK K)
                  refine Run.cond_dec rfl (fun h66 => ?x19) (fun h66 => ?y19)
                  case' y19 =>
                    refine Run.skip ?_
                  case' x19 => exfalso; omega
              case' x17 => exfalso; omega
            case' x16 => exfalso; omega
          case' x15 => exfalso; omega
          exact go σ3 _ _ ⟨fun h => absurd h (by rintro (h | h | h | h) <;> first | (exact hn4 h) | omega), fun _ => rfl, good _ H.fr (H.pick (b := rb) (by repeat (first | exact .head | apply Pick.tail)))⟩ (by repeat (first | exact trivial | refine ⟨rfl, ?_⟩))
    · by_cases hids : ids.length = 0
      · have hil : ids = [] := List.eq_nil_of_length_eq_zero hids
        have hn4 : ¬ ∃ q, ids.getLast? = some q ∧ (id : Int) ≤ q := by rw [hil]; rintro ⟨q, hq, _⟩; cases hq
        rw [hids] at H
        refine Run.seq ?_
        (refine Run.draw H [] (0 :: 1 :: 2 :: 3 :: 4 :: 5 :: 6 :: 7 :: 8 :: 9 :: 10 :: 11 :: 12 :: 13 :: 14 :: 15 :: 16 :: 17 :: 18 :: 19 :: 20 :: 21 :: 22 :: 23 :: 24 :: 25 :: 26 :: 27 :: 28 :: 29 :: 30 :: 31 :: 32 :: 33 :: 34 :: 35 :: 36 :: 37 :: 38 :: 39 :: 40 :: 41 :: 42 :: 43 :: 44 :: 45 :: 46 :: 47 :: 48 :: []) ?_; clear H; intro K hK w H)
        refine Draw.take0 rfl (X.move rfl) rfl rfl rfl (by decide +kernel) ?_
        refine Draw.take0 rfl (X.cmp rfl rfl rfl) rfl rfl rfl (by decide +kernel) ?_
        refine Draw.take0 rfl (X.move rfl) rfl rfl rfl (by decide +kernel) ?_
        refine Draw.split_dec rfl rfl rfl (fun h21 => ?x20) (fun h21 => ?y20)
        case' y20 =>
          refine Draw.take0 rfl (X.move rfl) rfl rfl rfl (by decide +kernel) ?_
          refine Draw.take0 rfl (X.move rfl) rfl rfl rfl (by decide +kernel) ?_
          refine Draw.take0 rfl (X.nilCheck rfl) rfl rfl rfl (by decide +kernel) ?_
          refine Draw.take0 rfl (X.fieldAddr rfl rfl rfl rfl rfl rfl) rfl rfl rfl (by decide +kernel) ?_
          refine Draw.take rfl (X.load1 rfl rfl rfl rfl (.tail (.tail .head)) rfl) rfl rfl rfl (by decide +kernel) ?_
          refine Draw.take0 rfl (X.cmp rfl rfl rfl) rfl rfl rfl (by decide +kernel) ?_
          refine Draw.take0 rfl (X.pick_f rfl rfl) rfl rfl rfl (by decide +kernel) ?_
          refine Draw.take0 rfl (X.move rfl) rfl rfl rfl (by decide +kernel) ?_
          refine Draw.split_dec rfl rfl rfl (fun h29 => ?x21) (fun h29 => ?y21)
          case' y21 =>
            refine Draw.take0 rfl (X.fieldAddr rfl rfl rfl rfl rfl rfl) rfl rfl rfl (by decide +kernel) ?_
            refine Draw.take rfl (X.load1 rfl rfl rfl rfl (.tail .head) rfl) rfl rfl rfl (by decide +kernel) ?_
            refine Draw.take0 rfl (X.cmp rfl rfl rfl) rfl rfl rfl (by decide +kernel) ?_
            refine Draw.take0 rfl (X.move rfl) rfl rfl rfl (by decide +kernel) ?_
            refine Draw.split_dec rfl rfl rfl (fun h33 => ?x22) (fun h33 => ?y22)
            case' y22 => exfalso; omega
            case' x22 =>
              refine Draw.take0 rfl (X.move rfl) rfl rfl rfl (by decide +kernel) ?_
              refine Draw.take0 rfl (X.move rfl) rfl rfl rfl (by decide +kernel) ?_
              refine Draw.take0 rfl (X.nilCheck rfl) rfl rfl rfl (by decide +kernel) ?_
              refine Draw.take0 rfl (X.fieldAddr rfl rfl rfl rfl rfl rfl) rfl rfl rfl (by decide +kernel) ?_
              refine Draw.take rfl (X.load1 rfl rfl rfl rfl (.tail (.tail .head)) rfl) rfl rfl rfl (by decide +kernel) ?_
              refine Draw.take0 rfl (X.cmp rfl rfl rfl) rfl rfl rfl (by decide +kernel) ?_
              refine Draw.take0 rfl (X.pick_t rfl rfl) rfl rfl rfl (by decide +kernel) ?_
              refine Draw.take0 rfl (X.pick_f rfl rfl) rfl rfl rfl (by decide +kernel) ?_
              refine Draw.take0 rfl (X.move rfl) rfl rfl rfl (by decide +kernel) ?_
              refine Draw.split_ndec rfl rfl rfl (fun h42 => ?x23) (fun h42 => ?y23)
              case' y23 =>
                refine Draw.take0 rfl (X.move rfl) rfl rfl rfl (by decide +kernel) ?_
                refine Draw.take0 rfl (X.nilCheck rfl) rfl rfl rfl (by decide +kernel) ?_
                refine Draw.take0 rfl (X.fieldAddr rfl rfl rfl rfl rfl rfl) rfl rfl rfl (by decide +kernel) ?_
                refine Draw.take rfl (X.load1 rfl rfl rfl rfl (.tail (.tail .head)) rfl) rfl rfl rfl (by decide +kernel) ?_
                refine Draw.take0 rfl (X.len_slice rfl rfl rfl) rfl rfl rfl (by decide +kernel) ?_
                refine Draw.take0 rfl (X.cmp rfl rfl rfl) rfl rfl rfl (by decide +kernel) ?_
                refine Draw.take0 rfl (X.move rfl) rfl rfl rfl (by decide +kernel) ?_
                refine Draw.pass rfl rfl rfl rfl (by decide +kernel) ?_
                refine Draw.pass rfl rfl rfl rfl (by decide +kernel) ?_
                refine Draw.pass rfl rfl rfl rfl (by decide +kernel) ?_
                refine Draw.pass rfl rfl rfl rfl (by decide +kernel) ?_
                refine Draw.pass rfl rfl rfl rfl (by decide +kernel) ?_
                refine Draw.pass rfl rfl rfl rfl (by decide +kernel) ?_
                refine Draw.pass rfl rfl rfl rfl (by decide +kernel) ?_
                refine Draw.pass rfl rfl rfl rfl (by decide +kernel) ?_
                refine Draw.pass rfl rfl rfl rfl (by decide +kernel) ?_
                refine Draw.pass rfl rfl rfl rfl (by decide +kernel) ?_
                refine Draw.pass rfl rfl rfl rfl (by decide +kernel) ?_
                refine Draw.pass rfl rfl rfl rfl (by decide +kernel) ?_
                refine Draw.pass rfl rfl rfl rfl (by decide +kernel) ?_
                refine Draw.pass rfl rfl rfl rfl (by decide +kernel) ?_
                refine Draw.pass rfl rfl rfl rfl (by decide +kernel) ?_
                refine Draw.pass rfl rfl rfl rfl (by decide +kernel) ?_
                refine Draw.take0 rfl (X.pick_f rfl rfl) rfl rfl rfl (by decide +kernel) ?_
                refine Draw.take0 rfl (X.pick_f rfl rfl) rfl rfl rfl (by decide +kernel) ?_
                (refine Draw.done (by decide +kernel) (hK _ _ ?_); clear hK K)
                refine Run.cond_false rfl ?_
                refine Run.skip ?_
              case' x23 => exfalso; omega
          case' x21 => exfalso; omega
        case' x20 => exfalso; omega
        exact go σ3 _ _ ⟨fun h => absurd h (by rintro (h | h | h | h) <;> first | (exact hn4 h) | omega), fun _ => rfl, good _ H.fr (H.pick (b := rb) (by repeat (first | exact .head | apply Pick.tail)))⟩ (by repeat (first | exact trivial | refine ⟨rfl, ?_⟩))
      · obtain ⟨q, hq⟩ : ∃ q, ids.length = q + 1 := ⟨ids.length - 1, by omega⟩
        obtain ⟨ab, acap, acs, hae, ha1, ha2, ha3, ha4, ha5, ha6⟩ := hwO.get (by omega)
        have hlast : ids.getLast? = some (ids.getD q 0) := by
          rw [List.getLast?_eq_getElem?, hq]
          simp [hq]
        have hcl := Cs.flat (f := fun i => [Value.int .u64 (ids.getD i 0), .int .u64 (gm m ids i).floor, lv i]) (fun _ => rfl) ha6 (i := q) (by omega)
        have cq : acs[0 + q * 3 + 0]? = some (.int .u64 (ids.getD q 0)) := hcl.get 0 _ rfl
        cases hae
        have nab : ab ≠ b4 := by have := hWl _ _ _ _ hwd; omega
        have nar : ab ≠ rb := ne_of_ty ha4 hrb (by decide)
        have nad : ab ≠ db := ne_of_ty ha4 hwd (by decide)
        rw [hq] at H hwd
        have H := H.add false (H.fr.get ha4 (by simpa using nar)) (by simpa using ⟨nar, nab, nad⟩) (by simp)
        obtain ⟨uq, huq⟩ : ∃ u : Nat, ids.getD q 0 = (u : Int) := by
          have := (hu (ids.getD q 0) (by simp [show q < ids.length by omega])).1
          exact ⟨(ids.getD q 0).toNat, by omega⟩
        rw [huq] at cq hlast
        by_cases c4 : id ≤ uq
        · refine Run.seq ?_
          (refine Run.draw H [] (0 :: 1 :: 2 :: 3 :: 4 :: 5 :: 6 :: 7 :: 8 :: 9 :: 10 :: 11 :: 12 :: 13 :: 14 :: 15 :: 16 :: 17 :: 18 :: 19 :: 20 :: 21 :: 22 :: 23 :: 24 :: 25 :: 26 :: 27 :: 28 :: 29 :: 30 :: 31 :: 32 :: 33 :: 34 :: 35 :: 36 :: 37 :: 38 :: 39 :: 40 :: 41 :: 42 :: 43 :: 44 :: 45 :: 46 :: 47 :: 48 :: []) ?_; clear H; intro K hK w H)
          refine Draw.take0 rfl (X.move rfl) rfl rfl rfl (by decide +kernel) ?_
          refine Draw.take0 rfl (X.cmp rfl rfl rfl) rfl rfl rfl (by decide +kernel) ?_
          refine Draw.take0 rfl (X.move rfl) rfl rfl rfl (by decide +kernel) ?_
          refine Draw.split_dec rfl rfl rfl (fun h21 => ?x24) (fun h21 => ?y24)
          case' y24 =>
            refine Draw.take0 rfl (X.move rfl) rfl rfl rfl (by decide +kernel) ?_
            refine Draw.take0 rfl (X.move rfl) rfl rfl rfl (by decide +kernel) ?_
            refine Draw.take0 rfl (X.nilCheck rfl) rfl rfl rfl (by decide +kernel) ?_
            refine Draw.take0 rfl (X.fieldAddr rfl rfl rfl rfl rfl rfl) rfl rfl rfl (by decide +kernel) ?_
            refine Draw.take rfl (X.load1 rfl rfl rfl rfl (.tail (.tail (.tail .head))) rfl) rfl rfl rfl (by decide +kernel) ?_
            refine Draw.take0 rfl (X.cmp rfl rfl rfl) rfl rfl rfl (by decide +kernel) ?_
            refine Draw.take0 rfl (X.pick_f rfl rfl) rfl rfl rfl (by decide +kernel) ?_
            refine Draw.take0 rfl (X.move rfl) rfl rfl rfl (by decide +kernel) ?_
            refine Draw.split_dec rfl rfl rfl (fun h29 => ?x25) (fun h29 => ?y25)
            case' y25 =>
              refine Draw.take0 rfl (X.fieldAddr rfl rfl rfl rfl rfl rfl) rfl rfl rfl (by decide +kernel) ?_
              refine Draw.take rfl (X.load1 rfl rfl rfl rfl (.tail (.tail .head)) rfl) rfl rfl rfl (by decide +kernel) ?_
              refine Draw.take0 rfl (X.cmp rfl rfl rfl) rfl rfl rfl (by decide +kernel) ?_
              refine Draw.take0 rfl (X.move rfl) rfl rfl rfl (by decide +kernel) ?_
              refine Draw.split_dec rfl rfl rfl (fun h33 => ?x26) (fun h33 => ?y26)
              case' y26 => exfalso; omega
              case' x26 =>
                refine Draw.take0 rfl (X.move rfl) rfl rfl rfl (by decide +kernel) ?_
                refine Draw.take0 rfl (X.move rfl) rfl rfl rfl (by decide +kernel) ?_
                refine Draw.take0 rfl (X.nilCheck rfl) rfl rfl rfl (by decide +kernel) ?_
                refine Draw.take0 rfl (X.fieldAddr rfl rfl rfl rfl rfl rfl) rfl rfl rfl (by decide +kernel) ?_
                refine Draw.take rfl (X.load1 rfl rfl rfl rfl (.tail (.tail (.tail .head))) rfl) rfl rfl rfl (by decide +kernel) ?_
                refine Draw.take0 rfl (X.cmp rfl rfl rfl) rfl rfl rfl (by decide +kernel) ?_
                refine Draw.take0 rfl (X.pick_t rfl rfl) rfl rfl rfl (by decide +kernel) ?_
                refine Draw.take0 rfl (X.pick_f rfl rfl) rfl rfl rfl (by decide +kernel) ?_
                refine Draw.take0 rfl (X.move rfl) rfl rfl rfl (by decide +kernel) ?_
                refine Draw.split_ndec rfl rfl rfl (fun h42 => ?x27) (fun h42 => ?y27)
                case' y27 =>
                  refine Draw.take0 rfl (X.move rfl) rfl rfl rfl (by decide +kernel) ?_
                  refine Draw.take0 rfl (X.nilCheck rfl) rfl rfl rfl (by decide +kernel) ?_
                  refine Draw.take0 rfl (X.fieldAddr rfl rfl rfl rfl rfl rfl) rfl rfl rfl (by decide +kernel) ?_
                  refine Draw.take rfl (X.load1 rfl rfl rfl rfl (.tail (.tail (.tail .head))) rfl) rfl rfl rfl (by decide +kernel) ?_
                  refine Draw.take0 rfl (X.len_slice rfl rfl rfl) rfl rfl rfl (by decide +kernel) ?_
                  refine Draw.take0 rfl (X.cmp rfl rfl rfl) rfl rfl rfl (by decide +kernel) ?_
                  refine Draw.take0 rfl (X.move rfl) rfl rfl rfl (by decide +kernel) ?_
                  refine Draw.split_dec rfl rfl rfl (fun h49 => ?x28) (fun h49 => ?y28)
                  case' y28 => exfalso; omega
                  case' x28 =>
                    refine Draw.take0 rfl (X.move rfl) rfl rfl rfl (by decide +kernel) ?_
                    refine Draw.take0 rfl (X.nilCheck rfl) rfl rfl rfl (by decide +kernel) ?_
                    refine Draw.take0 rfl (X.fieldAddr rfl rfl rfl rfl rfl rfl) rfl rfl rfl (by decide +kernel) ?_
                    refine Draw.take rfl (X.load1 rfl rfl rfl rfl (.tail (.tail (.tail .head))) rfl) rfl rfl rfl (by decide +kernel) ?_
                    refine Draw.take0 rfl (X.move rfl) rfl rfl rfl (by decide +kernel) ?_
                    refine Draw.take0 rfl (X.nilCheck rfl) rfl rfl rfl (by decide +kernel) ?_
                    refine Draw.take0 rfl (X.fieldAddr rfl rfl rfl rfl rfl rfl) rfl rfl rfl (by decide +kernel) ?_
                    refine Draw.take rfl (X.load1 rfl rfl rfl rfl (.tail (.tail (.tail .head))) rfl) rfl rfl rfl (by decide +kernel) ?_
                    refine Draw.take0 rfl (X.len_slice rfl rfl rfl) rfl rfl rfl (by decide +kernel) ?_
                    refine Draw.take0 rfl (X.pred rfl rfl (by omega)) rfl rfl rfl (by decide +kernel) ?_
                    refine Draw.take0 rfl (X.indexAddr rfl rfl (by omega) rfl rfl rfl rfl) rfl rfl rfl (by decide +kernel) ?_
                    refine Draw.take0 rfl (X.fieldAddr rfl rfl rfl rfl rfl rfl) rfl rfl rfl (by decide +kernel) ?_
                    refine Draw.take rfl (X.load1 rfl rfl rfl rfl Pick.head (by assumption)) rfl rfl rfl (by decide +kernel) ?_
                    refine Draw.take0 rfl (X.fieldAddr rfl rfl rfl rfl rfl rfl) rfl rfl rfl (by decide +kernel) ?_
                    refine Draw.take rfl (X.load1 rfl rfl rfl rfl (.tail (.tail .head)) rfl) rfl rfl rfl (by decide +kernel) ?_
                    refine Draw.take0 rfl (X.cmp rfl rfl rfl) rfl rfl rfl (by decide +kernel) ?_
                    refine Draw.take0 rfl (X.pick_t rfl rfl) rfl rfl rfl (by decide +kernel) ?_
                    refine Draw.take0 rfl (X.pick_f rfl rfl) rfl rfl rfl (by decide +kernel) ?_
                    (refine Draw.done (by decide +kernel) (hK _ _ ?_); clear hK K)
                    refine Run.cond_dec rfl (fun h66 => ?x29) (fun h66 => ?y29)
                    case' y29 => exfalso; omega
                    case' x29 =>
                      (refine Run.region ?_; intro K hK)
                      refine Ops.pure H (X.move rfl) rfl rfl rfl ?_
                      refine Ops.pure H (X.nilCheck rfl) rfl rfl rfl ?_
                      refine Ops.pure H (X.fieldAddr rfl rfl rfl rfl rfl rfl) rfl rfl rfl ?_
                      (refine Ops.eff rfl (Y.store1 rfl rfl rfl rfl rfl rfl H (.tail .head) (by repeat (first | exact SetC.zero | apply SetC.succ)) ?_); intro w H0; clear H; have H := H0; clear H0)
                      (refine Ops.nil (hK _ _ ?_); clear hK K)
                case' x27 => exfalso; omega
            case' x25 => exfalso; omega
          case' x24 => exfalso; omega
          exact go none _ _ ⟨fun _ => rfl, fun h => absurd (.inr (.inr (.inr ⟨_, hlast, by omega⟩))) h, bad _ H.fr (H.pick (b := rb) (by repeat (first | exact .head | apply Pick.tail)))⟩ (by repeat (first | exact trivial | refine ⟨rfl, ?_⟩))
        · have hn4 : ¬ ∃ q, ids.getLast? = some q ∧ (id : Int) ≤ q := by rw [hlast]; rintro ⟨q, hq, hh⟩; cases hq; omega
          refine Run.seq ?_
          (refine Run.draw H [] (0 :: 1 :: 2 :: 3 :: 4 :: 5 :: 6 :: 7 :: 8 :: 9 :: 10 :: 11 :: 12 :: 13 :: 14 :: 15 :: 16 :: 17 :: 18 :: 19 :: 20 :: 21 :: 22 :: 23 :: 24 :: 25 :: 26 :: 27 :: 28 :: 29 :: 30 :: 31 :: 32 :: 33 :: 34 :: 35 :: 36 :: 37 :: 38 :: 39 :: 40 :: 41 :: 42 :: 43 :: 44 :: 45 :: 46 :: 47 :: 48 :: []) ?_; clear H; intro K hK w H)
          refine Draw.take0 rfl (X.move rfl) rfl rfl rfl (by decide +kernel) ?_
          refine Draw.take0 rfl (X.cmp rfl rfl rfl) rfl rfl rfl (by decide +kernel) ?_
          refine Draw.take0 rfl (X.move rfl) rfl rfl rfl (by decide +kernel) ?_
          refine Draw.split_dec rfl rfl rfl (fun h21 => ?x30) (fun h21 => ?y30)
          case' y30 =>
            refine Draw.take0 rfl (X.move rfl) rfl rfl rfl (by decide +kernel) ?_
            refine Draw.take0 rfl (X.move rfl) rfl rfl rfl (by decide +kernel) ?_
            refine Draw.take0 rfl (X.nilCheck rfl) rfl rfl rfl (by decide +kernel) ?_
            refine Draw.take0 rfl (X.fieldAddr rfl rfl rfl rfl rfl rfl) rfl rfl rfl (by decide +kernel) ?_
            refine Draw.take rfl (X.load1 rfl rfl rfl rfl (.tail (.tail (.tail .head))) rfl) rfl rfl rfl (by decide +kernel) ?_
            refine Draw.take0 rfl (X.cmp rfl rfl rfl) rfl rfl rfl (by decide +kernel) ?_
            refine Draw.take0 rfl (X.pick_f rfl rfl) rfl rfl rfl (by decide +kernel) ?_
            refine Draw.take0 rfl (X.move rfl) rfl rfl rfl (by decide +kernel) ?_
            refine Draw.split_dec rfl rfl rfl (fun h29 => ?x31) (fun h29 => ?y31)
            case' y31 =>
              refine Draw.take0 rfl (X.fieldAddr rfl rfl rfl rfl rfl rfl) rfl rfl rfl (by decide +kernel) ?_
              refine Draw.take rfl (X.load1 rfl rfl rfl rfl (.tail (.tail .head)) rfl) rfl rfl rfl (by decide +kernel) ?_
              refine Draw.take0 rfl (X.cmp rfl rfl rfl) rfl rfl rfl (by decide +kernel) ?_
              refine Draw.take0 rfl (X.move rfl) rfl rfl rfl (by decide +kernel) ?_
              refine Draw.split_dec rfl rfl rfl (fun h33 => ?x32) (fun h33 => ?y32)
              case' y32 => exfalso; omega
              case' x32 =>
                refine Draw.take0 rfl (X.move rfl) rfl rfl rfl (by decide +kernel) ?_
                refine Draw.take0 rfl (X.move rfl) rfl rfl rfl (by decide +kernel) ?_
                refine Draw.take0 rfl (X.nilCheck rfl) rfl rfl rfl (by decide +kernel) ?_
                refine Draw.take0 rfl (X.fieldAddr rfl rfl rfl rfl rfl rfl) rfl rfl rfl (by decide +kernel) ?_
                refine Draw.take rfl (X.load1 rfl rfl rfl rfl (.tail (.tail (.tail .head))) rfl) rfl rfl rfl (by decide +kernel) ?_
                refine Draw.take0 rfl (X.cmp rfl rfl rfl) rfl rfl rfl (by decide +kernel) ?_
                refine Draw.take0 rfl (X.pick_t rfl rfl) rfl rfl rfl (by decide +kernel) ?_
                refine Draw.take0 rfl (X.pick_f rfl rfl) rfl rfl rfl (by decide +kernel) ?_
                refine Draw.take0 rfl (X.move rfl) rfl rfl rfl (by decide +kernel) ?_
                refine Draw.split_ndec rfl rfl rfl (fun h42 => ?x33) (fun h42 => ?y33)
                case' y33 =>
                  refine Draw.take0 rfl (X.move rfl) rfl rfl rfl (by decide +kernel) ?_
                  refine Draw.take0 rfl (X.nilCheck rfl) rfl rfl rfl (by decide +kernel) ?_
                  refine Draw.take0 rfl (X.fieldAddr rfl rfl rfl rfl rfl rfl) rfl rfl rfl (by decide +kernel) ?_
                  refine Draw.take rfl (X.load1 rfl rfl rfl rfl (.tail (.tail (.tail .head))) rfl) rfl rfl rfl (by decide +kernel) ?_
                  refine Draw.take0 rfl (X.len_slice rfl rfl rfl) rfl rfl rfl (by decide +kernel) ?_
                  refine Draw.take0 rfl (X.cmp rfl rfl rfl) rfl rfl rfl (by decide +kernel) ?_
                  refine Draw.take0 rfl (X.move rfl) rfl rfl rfl (by decide +kernel) ?_
                  refine Draw.split_dec rfl rfl rfl (fun h49 => ?x34) (fun h49 => ?y34)
                  case' y34 => exfalso; omega
                  case' x34 =>
                    refine Draw.take0 rfl (X.move rfl) rfl rfl rfl (by decide +kernel) ?_
                    refine Draw.take0 rfl (X.nilCheck rfl) rfl rfl rfl (by decide +kernel) ?_
                    refine Draw.take0 rfl (X.fieldAddr rfl rfl rfl rfl rfl rfl) rfl rfl rfl (by decide +kernel) ?_
                    refine Draw.take rfl (X.load1 rfl rfl rfl rfl (.tail (.tail (.tail .head))) rfl) rfl rfl rfl (by decide +kernel) ?_
                    refine Draw.take0 rfl (X.move rfl) rfl rfl rfl (by decide +kernel) ?_
                    refine Draw.take0 rfl (X.nilCheck rfl) rfl rfl rfl (by decide +kernel) ?_
                    refine Draw.take0 rfl (X.fieldAddr rfl rfl rfl rfl rfl rfl) rfl rfl rfl (by decide +kernel) ?_
                    refine Draw.take rfl (X.load1 rfl rfl rfl rfl (.tail (.tail (.tail .head))) rfl) rfl rfl rfl (by decide +kernel) ?_
                    refine Draw.take0 rfl (X.len_slice rfl rfl rfl) rfl rfl rfl (by decide +kernel) ?_
                    refine Draw.take0 rfl (X.pred rfl rfl (by omega)) rfl rfl rfl (by decide +kernel) ?_
                    refine Draw.take0 rfl (X.indexAddr rfl rfl (by omega) rfl rfl rfl rfl) rfl rfl rfl (by decide +kernel) ?_
                    refine Draw.take0 rfl (X.fieldAddr rfl rfl rfl rfl rfl rfl) rfl rfl rfl (by decide +kernel) ?_
                    refine Draw.take rfl (X.load1 rfl rfl rfl rfl Pick.head (by assumption)) rfl rfl rfl (by decide +kernel) ?_
                    refine Draw.take0 rfl (X.fieldAddr rfl rfl rfl rfl rfl rfl) rfl rfl rfl (by decide +kernel) ?_
                    refine Draw.take rfl (X.load1 rfl rfl rfl rfl (.tail (.tail .head)) rfl) rfl rfl rfl (by decide +kernel) ?_
                    refine Draw.take0 rfl (X.cmp rfl rfl rfl) rfl rfl rfl (by decide +kernel) ?_
                    refine Draw.take0 rfl (X.pick_t rfl rfl) rfl rfl rfl (by decide +kernel) ?_
                    refine Draw.take0 rfl (X.pick_f rfl rfl) rfl rfl rfl (by decide +kernel) ?_
                    (refine Draw.done (by decide +kernel) (hK _ _ ?_); clear hK K)
                    refine Run.cond_dec rfl (fun h66 => ?x35) (fun h66 => ?y35)
                    case' y35 =>
                      refine Run.skip ?_
                    case' x35 => exfalso; omega
                case' x33 => exfalso; omega
            case' x31 => exfalso; omega
          case' x30 => exfalso; omega
          exact go σ3 _ _ ⟨fun h => absurd h (by rintro (h | h | h | h) <;> first | (exact hn4 h) | omega), fun _ => rfl, good _ H.fr (H.pick (b := rb) (by repeat (first | exact .head | apply Pick.tail)))⟩ (by repeat (first | exact trivial | refine ⟨rfl, ?_⟩))
  rintro σ4 w4 ⟨hσa, hσb, hR4, hW4, hc4', F4, hWl4⟩
  clear hc4 hWl hW3 hR3
  have hb4 : SByt σ4 := by
    by_cases hC : (nn < 1 ∨ size < nn ∨ (0 < fl ∧ nn ≠ size) ∨ ∃ q, ids.getLast? = some q ∧ (id : Int) ≤ q)
    · rw [hσa hC]; exact fun ys hy => by cases hy
    · rw [hσb hC]; exact hb3
  obtain ⟨R, hRdef⟩ : ∃ R, R = σ4.bind fun ys => seqsP nn fl [] (fun _ => none) ys := ⟨_, rfl⟩
  have hz4 : w0.heap.size ≤ w4.heap.size := F4.size
  have hfl64 : fl < 18446744073709551616 := by
    rw [hfl]
    have := beV_lt (got σ1 8) (hb1.got 8) (got σ1 8).length (Nat.le_refl _)
    rw [List.take_length] at this
    exact Nat.lt_of_lt_of_le this (Nat.pow_le_pow_right (n := 256) (j := 8) (by decide) (got_le σ1 8))
  have H := (Holds.start w4 []).add false hc4' (by simp) (by simp)
  (refine Run.seq (Run.region ?_); intro K hK)
  refine Ops.pure H (X.fieldAddr rfl rfl rfl rfl rfl rfl) rfl rfl rfl ?_
  refine Ops.pure H (X.load1 rfl rfl rfl rfl Pick.head rfl) rfl rfl rfl ?_
  refine Ops.pure H (X.assign rfl) rfl rfl rfl ?_
  (refine Ops.nil (hK _ _ ?_); clear hK K)
  refine Run.seq ?_
  (refine Run.seq (Run.region ?_); intro K hK)
  refine Ops.pure H (X.assign rfl) rfl rfl rfl ?_
  (refine Ops.nil (hK _ _ ?_); clear hK K)
  have F45 := H.fr
  clear H
  refine Run.meet (fun (_ : Option (List Int) × List Int × (Int → Option (List Int))) => [(1, .pointer (some ⟨db, 0, none⟩)), (4, .pointer (some ⟨b4, 0, none⟩))])
    (fun x w' => Fr w4 w' [rb, b4] ∧ RS w0.heap.size w' rb x.1 ∧ x.2.1.length ≤ 64 ∧ (∃ lv' : Value, ∃ bv : Nat → Value, w'.heap[b4]? = some (row [.int .u64 (id : Nat), .int .u64 (fl : Nat), lv'] 84) ∧ Own w' w4.heap.size 96 2 lv' x.2.1.length ((List.range x.2.1.length).flatMap fun j => [.int .u64 (x.2.1.getD j 0), bv j]) ∧ (∀ ys, x.1 = some ys → ∀ j, j < x.2.1.length → AnsN w0.heap.size w' (bv j) ((x.2.2 (x.2.1.getD j 0)).getD []))) ∧ (x.1 = none → R = none) ∧ ∀ ys, x.1 = some ys → R = some (x.2.1, x.2.2, ys)) ?_ ?_
  rotate_left
  · intro kk go
    have H := (Holds.start w4 []).add false hc4' (by simp) (by simp)
    refine Run.block ?_
    refine Run.rounds (fun (x : Nat × Option (List Int) × List Int × (Int → Option (List Int))) => [(0, .pointer (some ⟨rb, 0, none⟩)), (1, .pointer (some ⟨db, 0, none⟩)), (4, .pointer (some ⟨b4, 0, none⟩)), (5, .int .i64 (nn : Nat)), (6, .int .u64 (x.1 : Nat)), (7, .int .i64 (x.2.2.1.length : Nat))])
      (fun x w' => Fr w4 w' [rb, b4] ∧ RS w0.heap.size w' rb x.2.1 ∧ SByt x.2.1 ∧ x.1 < 18446744073709551616 ∧ x.2.2.1.length ≤ 64 ∧ (∃ lv' : Value, ∃ bv : Nat → Value, w'.heap[b4]? = some (row [.int .u64 (id : Nat), .int .u64 (fl : Nat), lv'] 84) ∧ Own w' w4.heap.size 96 2 lv' x.2.2.1.length ((List.range x.2.2.1.length).flatMap fun j => [.int .u64 (x.2.2.1.getD j 0), bv j]) ∧ (∀ ys, x.2.1 = some ys → ∀ j, j < x.2.2.1.length → AnsN w0.heap.size w' (bv j) ((x.2.2.2 (x.2.2.1.getD j 0)).getD []))) ∧ (x.2.1 = none → R = none) ∧ ∀ ys, x.2.1 = some ys → x.2.2.1.length ≤ nn ∧ nn ≤ 64 ∧ (∀ q ∈ x.2.2.1, q ≤ (x.1 : Int)) ∧ seqsP (nn - x.2.2.1.length) x.1 x.2.2.1 x.2.2.2 ys = R) (fun x => nn - x.2.2.1.length) (fl, σ4, [], fun _ => none) (by repeat (first | exact trivial | refine ⟨rfl, ?_⟩)) ?_ ?_
    · refine ⟨H.fr.mono (by simp), hR4.ext H.fr, hb4, hfl64, by simp, ⟨.slice none 0 0, fun _ => undef, H.pick (b := b4) (by repeat (first | exact .head | apply Pick.tail)), Own.nil, fun _ _ j hj => by simp at hj⟩, fun h => by dsimp only at h; rw [hRdef, h]; rfl, fun ys hy => ?_⟩
      dsimp only at hy ⊢
      have hC : ¬ (nn < 1 ∨ size < nn ∨ (0 < fl ∧ nn ≠ size) ∨ ∃ q, ids.getLast? = some q ∧ (id : Int) ≤ q) := fun hC => by rw [hσa hC] at hy; cases hy
      refine ⟨by simp, by omega, by simp, ?_⟩
      rw [hRdef, hy]
      rfl
    clear H
    rintro ⟨last, σ, qs, an⟩ w5 ⟨F5, hR5, hb5, hll, hq64, ⟨lv', bv, hc5, hO5, hA5⟩, hn5, hs5⟩ IH
    dsimp only at F5 hR5 hb5 hll hq64 hc5 hO5 hA5 hn5 hs5 IH ⊢
    have hout : ¬ (∃ ys, σ = some ys ∧ qs.length < nn) → Fr w4 w5 [rb, b4] ∧ RS w0.heap.size w5 rb σ ∧ qs.length ≤ 64 ∧ (∃ lv' : Value, ∃ bv : Nat → Value, w5.heap[b4]? = some (row [.int .u64 (id : Nat), .int .u64 (fl : Nat), lv'] 84) ∧ Own w5 w4.heap.size 96 2 lv' qs.length ((List.range qs.length).flatMap fun j => [.int .u64 (qs.getD j 0), bv j]) ∧ (∀ ys, σ = some ys → ∀ j, j < qs.length → AnsN w0.heap.size w5 (bv j) ((an (qs.getD j 0)).getD []))) ∧ (σ = none → R = none) ∧ ∀ ys, σ = some ys → R = some (qs, an, ys) := fun hno => ⟨F5, hR5, hq64, ⟨lv', bv, hc5, hO5, hA5⟩, hn5, fun ys hy => by
      obtain ⟨g1, g2, g3, g4⟩ := hs5 ys hy
      have : nn - qs.length = 0 := by
        rcases Nat.lt_or_ge qs.length nn with h | h
        · exact absurd ⟨ys, hy, h⟩ hno
        · omega
      rw [← g4, this, seqsP]⟩
    have hfin : ∀ w' : World, Fr w5 w' [] → (Fr w4 w5 [rb, b4] ∧ RS w0.heap.size w5 rb σ ∧ qs.length ≤ 64 ∧ (∃ lv' : Value, ∃ bv : Nat → Value, w5.heap[b4]? = some (row [.int .u64 (id : Nat), .int .u64 (fl : Nat), lv'] 84) ∧ Own w5 w4.heap.size 96 2 lv' qs.length ((List.range qs.length).flatMap fun j => [.int .u64 (qs.getD j 0), bv j]) ∧ (∀ ys, σ = some ys → ∀ j, j < qs.length → AnsN w0.heap.size w5 (bv j) ((an (qs.getD j 0)).getD []))) ∧ (σ = none → R = none) ∧ ∀ ys, σ = some ys → R = some (qs, an, ys)) →
        Fr w4 w' [rb, b4] ∧ RS w0.heap.size w' rb σ ∧ qs.length ≤ 64 ∧ (∃ lv' : Value, ∃ bv : Nat → Value, w'.heap[b4]? = some (row [.int .u64 (id : Nat), .int .u64 (fl : Nat), lv'] 84) ∧ Own w' w4.heap.size 96 2 lv' qs.length ((List.range qs.length).flatMap fun j => [.int .u64 (qs.getD j 0), bv j]) ∧ (∀ ys, σ = some ys → ∀ j, j < qs.length → AnsN w0.heap.size w' (bv j) ((an (qs.getD j 0)).getD []))) ∧ (σ = none → R = none) ∧ ∀ ys, σ = some ys → R = some (qs, an, ys) := by
      rintro w' hf ⟨g1, g2, g3, ⟨lv2, bv2, g4, g5, g6⟩, g7, g8⟩
      exact ⟨g1.trans hf (fun _ h => h) (by simp), g2.ext hf, g3, ⟨lv2, bv2, hf.get g4 (by simp), g5.ext hf, fun ys hy j hj => (g6 ys hy j hj).keep hf (by simp)⟩, g7, g8⟩
    by_cases hlt : qs.length < nn
    rotate_left
    · have H := Holds.start w5 []
      refine Run.seq ?_
      (refine Run.seq (Run.region ?_); intro K hK)
      refine Ops.pure H (X.move rfl) rfl rfl rfl ?_
      refine Ops.pure H (X.move rfl) rfl rfl rfl ?_
      refine Ops.pure H (X.cmp rfl rfl rfl) rfl rfl rfl ?_
      refine Ops.pure H (X.move rfl) rfl rfl rfl ?_
      refine Ops.split_dec rfl rfl (fun h76 => ?x36) (fun h76 => ?y36)
      case' y36 =>
        refine Ops.pass rfl rfl rfl ?_
        refine Ops.pass rfl rfl rfl ?_
        refine Ops.pass rfl rfl rfl ?_
        refine Ops.pass rfl rfl rfl ?_
        refine Ops.pass rfl rfl rfl ?_
        refine Ops.pure H (X.pick_f rfl rfl) rfl rfl rfl ?_
        (refine Ops.nil (hK _ _ ?_); clear hK K)
        refine Run.cond_false rfl ?_
        refine Run.exit rfl ?_
      case' x36 => exfalso; omega
      exact go (σ, qs, an) _ _ (hfin _ H.fr (hout (by rintro ⟨_, _, h⟩; omega))) (by repeat (first | exact trivial | refine ⟨rfl, ?_⟩))
    cases σ with
    | none =>
      obtain ⟨rv, hrb⟩ := hR5
      have H := (Holds.start w5 []).add false hrb (by simp) (by simp)
      refine Run.seq ?_
      (refine Run.seq (Run.region ?_); intro K hK)
      refine Ops.pure H (X.move rfl) rfl rfl rfl ?_
      refine Ops.pure H (X.move rfl) rfl rfl rfl ?_
      refine Ops.pure H (X.cmp rfl rfl rfl) rfl rfl rfl ?_
      refine Ops.pure H (X.move rfl) rfl rfl rfl ?_
      refine Ops.split_dec rfl rfl (fun h76 => ?x37) (fun h76 => ?y37)
      case' y37 => exfalso; omega
      case' x37 =>
        refine Ops.pure H (X.move rfl) rfl rfl rfl ?_
        refine Ops.pure H (X.nilCheck rfl) rfl rfl rfl ?_
        refine Ops.pure H (X.fieldAddr rfl rfl rfl rfl rfl rfl) rfl rfl rfl ?_
        refine Ops.pure H (X.load1 rfl rfl rfl rfl Pick.head rfl) rfl rfl rfl ?_
        refine Ops.pure H (X.not rfl) rfl rfl rfl ?_
        refine Ops.pure H (X.pick_t rfl rfl) rfl rfl rfl ?_
        (refine Ops.nil (hK _ _ ?_); clear hK K)
        refine Run.cond_false rfl ?_
        refine Run.exit rfl ?_
      exact go (none, qs, an) _ _ (hfin _ H.fr (hout (by rintro ⟨_, h, _⟩; cases h))) (by repeat (first | exact trivial | refine ⟨rfl, ?_⟩))
    | some ys =>
      have hrb' := hR5
      obtain ⟨rcap, rb0, roff, rcs, rT, rfz, hrb, _⟩ := hrb'
      have H := (Holds.start w5 []).add false hrb (by simp) (by simp)
      refine Run.seq ?_
      (refine Run.seq (Run.region ?_); intro K hK)
      refine Ops.pure H (X.move rfl) rfl rfl rfl ?_
      refine Ops.pure H (X.move rfl) rfl rfl rfl ?_
      refine Ops.pure H (X.cmp rfl rfl rfl) rfl rfl rfl ?_
      refine Ops.pure H (X.move rfl) rfl rfl rfl ?_
      refine Ops.split_dec rfl rfl (fun h76 => ?x38) (fun h76 => ?y38)
      case' y38 => exfalso; omega
      case' x38 =>
        refine Ops.pure H (X.move rfl) rfl rfl rfl ?_
        refine Ops.pure H (X.nilCheck rfl) rfl rfl rfl ?_
        refine Ops.pure H (X.fieldAddr rfl rfl rfl rfl rfl rfl) rfl rfl rfl ?_
        refine Ops.pure H (X.load1 rfl rfl rfl rfl Pick.head rfl) rfl rfl rfl ?_
        refine Ops.pure H (X.not rfl) rfl rfl rfl ?_
        refine Ops.pure H (X.pick_t rfl rfl) rfl rfl rfl ?_
        (refine Ops.nil (hK _ _ ?_); clear hK K)
        refine Run.cond_true rfl ?_
        refine Run.skip ?_
        refine Run.seq ?_
        refine Run.block ?_
        (refine Run.seq (Run.region ?_); intro K hK)
        refine Ops.pure H (X.move rfl) rfl rfl rfl ?_
      obtain ⟨g1, g2, g3, g4⟩ := hs5 ys rfl
      clear hout hfin
      refine Ops.eff rfl (Y.call rfl rfl (by first | assumption | decide +kernel) rfl (dnumber_any _ w0.heap.size rb 8 (some ys) (RS.ext (σ := some ys) hR5 H.fr) hr (by omega) hb5) rfl ?_)
      rintro v w6 ⟨rfl, hR6, hf6⟩
      have F56 := H.fr.trans (U := [rb]) hf6 (by simp) (by simp)
      obtain ⟨sq, hsq⟩ : ∃ q, q = beV (got (some ys) 8) := ⟨_, rfl⟩
      obtain ⟨σa, hσa'⟩ : ∃ q, q = nxt (some ys) 8 := ⟨_, rfl⟩
      rw [← hσa'] at hR6
      rw [← hsq]
      have hba : SByt σa := by rw [hσa']; exact hb5.nxt 8
      clear H
      have H := Holds.start w6 []
      refine Ops.pure H (X.buildO rfl rfl rfl rfl rfl rfl) rfl rfl rfl ?_
      (refine Ops.eff rfl (Y.alloc rfl rfl rfl H ?_); intro b8 w H0 hb8; clear H; have H := H0; clear H0)
      (refine Ops.eff rfl (Y.storeO rfl rfl rfl rfl rfl rfl H Upd.head rfl ?_); intro w H0; clear H; have H := H0; clear H0)
      (refine Ops.nil (hK _ _ ?_); clear hK K)
      have hc8 := H.pick (b := b8) (by repeat (first | exact .head | apply Pick.tail))
      have F67 := H.fr
      have hR7 := hR6.ext F67
      clear H
      rename World => w7
      have H := Holds.start w7 []
      (refine Run.seq (Run.region ?_); intro K hK)
      refine Ops.pure H (X.move rfl) rfl rfl rfl ?_
      refine Ops.eff rfl (Y.call rfl rfl (by first | assumption | decide +kernel) rfl (dnumber_any _ w0.heap.size rb 4 σa (hR7.ext H.fr) hr (by omega) hba) rfl ?_)
      rintro v w8 ⟨rfl, hR8, hf8⟩
      obtain ⟨kk0, hkk0⟩ : ∃ q, q = beV (got σa 4) := ⟨_, rfl⟩
      obtain ⟨σb, hσb'⟩ : ∃ q, q = nxt σa 4 := ⟨_, rfl⟩
      rw [← hσb'] at hR8
      rw [← hkk0]
      have hbb : SByt σb := by rw [hσb']; exact hba.nxt 4
      have hkkl : kk0 < 4294967296 := by
        rw [hkk0]
        have := beV_lt (got σa 4) (hba.got 4) (got σa 4).length (Nat.le_refl _)
        rw [List.take_length] at this
        exact Nat.lt_of_lt_of_le this (Nat.pow_le_pow_right (n := 256) (j := 4) (by decide) (got_le σa 4))
      have hr5l := lt_of_at hrb
      have hz56 := F56.size
      have hb8r : b8 ≠ rb := by omega
      have hb45 := lt_of_at hc5
      have hb8b4 : b8 ≠ b4 := by omega
      have hc88 := hf8.get (H.fr.get hc8 (by simp)) (by simpa using hb8r)
      have F58 : Fr w5 w8 [rb] := (F56.trans F67 (fun _ h => h) (by simp)).trans (H.fr.trans (U := [rb]) hf8 (by simp) (by simp)) (fun _ h => h) (fun x hx _ => hx)
      clear H hc8 hR7 hR6
      have H := Holds.start w8 []
      refine Ops.pure H (X.conv rfl rfl rfl rfl rfl (IntWalk.i64_in _ (by omega))) rfl rfl rfl ?_
      refine Ops.pure H (X.assign rfl) rfl rfl rfl ?_
      (refine Ops.nil (hK _ _ ?_); clear hK K)
      clear H
      refine Run.seq ?_
      refine Run.meet (fun (_ : Option (List Int)) => [(0, .pointer (some ⟨rb, 0, none⟩)), (1, .pointer (some ⟨db, 0, none⟩)), (4, .pointer (some ⟨b4, 0, none⟩)), (5, .int .i64 (nn : Nat)), (7, .int .i64 (qs.length : Nat)), (8, .pointer (some ⟨b8, 0, none⟩)), (9, .int .i64 (kk0 : Nat))])
        (fun σc w' => ((65536 < kk0 ∨ sq ≤ last) → σc = none) ∧ (¬ (65536 < kk0 ∨ sq ≤ last) → σc = σb) ∧ RS w0.heap.size w' rb σc ∧ w'.heap[b8]? = some (row [.int .u64 (sq : Nat), .slice none 0 0] 96) ∧ Fr w5 w' [rb]) ?_ ?_
      rotate_left
      · intro kk2 go2
        obtain ⟨rv, rq, hrb8⟩ : ∃ rv rq, w8.heap[rb]? = some (row [rv, .bool rq] 101) := by
          cases σb with
          | some ys => obtain ⟨cap, b, off, cs, T, fz, h', _⟩ := hR8; exact ⟨_, _, h'⟩
          | none => obtain ⟨v, h'⟩ := hR8; exact ⟨_, _, h'⟩
        have H := ((Holds.start w8 [rb]).add false hc88 (by simp) (by simp)).add true hrb8 (by simpa using hb8r.symm) (by simp)
        by_cases c1 : 65536 < kk0
        · refine Run.seq ?_
          (refine Run.region ?_; intro K hK)
          refine Ops.pure H (X.move rfl) rfl rfl rfl ?_
          refine Ops.pure H (X.cmp rfl rfl rfl) rfl rfl rfl ?_
          refine Ops.pure H (X.move rfl) rfl rfl rfl ?_
          refine Ops.split_dec rfl rfl (fun h93 => ?x39) (fun h93 => ?y39)
          case' y39 => exfalso; omega
          case' x39 =>
            refine Ops.pass rfl rfl rfl ?_
            refine Ops.pass rfl rfl rfl ?_
            refine Ops.pass rfl rfl rfl ?_
            refine Ops.pass rfl rfl rfl ?_
            refine Ops.pure H (X.pick_t rfl rfl) rfl rfl rfl ?_
            (refine Ops.nil (hK _ _ ?_); clear hK K)
            refine Run.cond_true rfl ?_
            (refine Run.region ?_; intro K hK)
            refine Ops.pure H (X.move rfl) rfl rfl rfl ?_
            refine Ops.pure H (X.nilCheck rfl) rfl rfl rfl ?_
            refine Ops.pure H (X.fieldAddr rfl rfl rfl rfl rfl rfl) rfl rfl rfl ?_
            (refine Ops.eff rfl (Y.store1 rfl rfl rfl rfl rfl rfl H Upd.head (by repeat (first | exact SetC.zero | apply SetC.succ)) ?_); intro w H0; clear H; have H := H0; clear H0)
            (refine Ops.nil (hK _ _ ?_); clear hK K)
          exact go2 none _ _ ⟨fun _ => rfl, fun h => absurd (.inl c1) h, ⟨_, H.pick (b := rb) (by repeat (first | exact .head | apply Pick.tail))⟩, H.pick (b := b8) (by repeat (first | exact .head | apply Pick.tail)), F58.trans H.fr (fun _ h => h) (fun x hx _ => hx)⟩ (by repeat (first | exact trivial | refine ⟨rfl, ?_⟩))
        by_cases c2 : sq ≤ last
        · refine Run.seq ?_
          (refine Run.region ?_; intro K hK)
          refine Ops.pure H (X.move rfl) rfl rfl rfl ?_
          refine Ops.pure H (X.cmp rfl rfl rfl) rfl rfl rfl ?_
          refine Ops.pure H (X.move rfl) rfl rfl rfl ?_
          refine Ops.split_dec rfl rfl (fun h93 => ?x40) (fun h93 => ?y40)
          case' y40 =>
            refine Ops.pure H (X.fieldAddr rfl rfl rfl rfl rfl rfl) rfl rfl rfl ?_
            refine Ops.pure H (X.load1 rfl rfl rfl rfl (.tail .head) rfl) rfl rfl rfl ?_
            refine Ops.pure H (X.move rfl) rfl rfl rfl ?_
            refine Ops.pure H (X.cmp rfl rfl rfl) rfl rfl rfl ?_
            refine Ops.pure H (X.pick_f rfl rfl) rfl rfl rfl ?_
            (refine Ops.nil (hK _ _ ?_); clear hK K)
            refine Run.cond_dec rfl (fun h97 => ?x41) (fun h97 => ?y41)
            case' y41 => exfalso; omega
            case' x41 =>
              (refine Run.region ?_; intro K hK)
              refine Ops.pure H (X.move rfl) rfl rfl rfl ?_
              refine Ops.pure H (X.nilCheck rfl) rfl rfl rfl ?_
              refine Ops.pure H (X.fieldAddr rfl rfl rfl rfl rfl rfl) rfl rfl rfl ?_
              (refine Ops.eff rfl (Y.store1 rfl rfl rfl rfl rfl rfl H Upd.head (by repeat (first | exact SetC.zero | apply SetC.succ)) ?_); intro w H0; clear H; have H := H0; clear H0)
              (refine Ops.nil (hK _ _ ?_); clear hK K)
          case' x40 => exfalso; omega
          exact go2 none _ _ ⟨fun _ => rfl, fun h => absurd (.inr c2) h, ⟨_, H.pick (b := rb) (by repeat (first | exact .head | apply Pick.tail))⟩, H.pick (b := b8) (by repeat (first | exact .head | apply Pick.tail)), F58.trans H.fr (fun _ h => h) (fun x hx _ => hx)⟩ (by repeat (first | exact trivial | refine ⟨rfl, ?_⟩))
        · clear H
          have H := (Holds.start w8 []).add false hc88 (by simp) (by simp)
          (refine Run.seq (Run.region ?_); intro K hK)
          refine Ops.pure H (X.move rfl) rfl rfl rfl ?_
          refine Ops.pure H (X.cmp rfl rfl rfl) rfl rfl rfl ?_
          refine Ops.pure H (X.move rfl) rfl rfl rfl ?_
          refine Ops.split_dec rfl rfl (fun h93 => ?x42) (fun h93 => ?y42)
          case' y42 =>
            refine Ops.pure H (X.fieldAddr rfl rfl rfl rfl rfl rfl) rfl rfl rfl ?_
            refine Ops.pure H (X.load1 rfl rfl rfl rfl Pick.head rfl) rfl rfl rfl ?_
            refine Ops.pure H (X.move rfl) rfl rfl rfl ?_
            refine Ops.pure H (X.cmp rfl rfl rfl) rfl rfl rfl ?_
            refine Ops.pure H (X.pick_f rfl rfl) rfl rfl rfl ?_
            (refine Ops.nil (hK _ _ ?_); clear hK K)
            refine Run.cond_dec rfl (fun h97 => ?x43) (fun h97 => ?y43)
            case' y43 =>
              refine Run.skip ?_
            case' x43 => exfalso; omega
          case' x42 => exfalso; omega
          exact go2 σb _ _ ⟨fun h => absurd h (by omega), fun _ => rfl, hR8.ext H.fr, H.pick (b := b8) (by repeat (first | exact .head | apply Pick.tail)), F58.trans H.fr (fun _ h => h) (by simp)⟩ (by repeat (first | exact trivial | refine ⟨rfl, ?_⟩))
      rintro σc w9 ⟨hca, hcb, hR9, hc89, F59⟩
      clear hR8 hc88
      have hbc : SByt σc := by
        by_cases hC : 65536 < kk0 ∨ sq ≤ last
        · rw [hca hC]; exact fun ys hy => by cases hy
        · rw [hcb hC]; exact hbb
      have hb89 := lt_of_at hc89
      have H := (Holds.start w9 []).add false hc89 (by simp) (by simp)
      (refine Run.seq (Run.region ?_); intro K hK)
      (refine Ops.eff rfl (Y.buildSliceO rfl rfl rfl rfl rfl rfl rfl rfl H ?_); intro b101 w H0 hb101; clear H; have H := H0; clear H0)
      refine Ops.pure H (X.move rfl) rfl rfl rfl ?_
      refine Ops.pure H (X.move rfl) rfl rfl rfl ?_
      refine Ops.eff rfl (Y.call rfl rfl (by first | assumption | decide +kernel) rfl (dtake_any _ w0.heap.size rb kk0 σc (hR9.ext H.fr) hr (by omega)) rfl ?_)
      rintro v wA ⟨hBv, hRA, hfA⟩
      have hcA8 := hfA.get (H.pick (b := b8) (by repeat (first | exact .head | apply Pick.tail))) (by simpa using hb8r)
      have hz9 := F59.size
      have hb101r : b101 ≠ rb := by omega
      have hcA101 := hfA.get (H.pick (b := b101) (by repeat (first | exact .head | apply Pick.tail))) (by simpa using hb101r)
      have hb101z : w9.heap.size ≤ b101 := by omega
      have F5A : Fr w5 wA [rb] := F59.trans (H.fr.trans (U := [rb]) hfA (by simp) (by simp)) (fun _ h => h) (fun x hx _ => hx)
      obtain ⟨σd, hσd⟩ : ∃ q, q = nxt σc kk0 := ⟨_, rfl⟩
      obtain ⟨bs, hbs⟩ : ∃ q, q = got σc kk0 := ⟨_, rfl⟩
      rw [← hσd] at hRA
      rw [← hbs] at hBv
      have hbsl : bs.length ≤ 65536 := by
        by_cases hC : 65536 < kk0 ∨ sq ≤ last
        · rw [hbs, hca hC]; simp [got]
        · have := got_le σc kk0
          rw [← hbs] at this
          omega
      have hbd : SByt σd := by rw [hσd]; exact hbc.nxt kk0
      have F9A : Fr w9 wA [rb] := H.fr.trans (U := [rb]) hfA (by simp) (by simp)
      have hBv' := hBv
      obtain ⟨va, vcap, _, _, _, _, _, rfl, _⟩ := hBv
      clear H
      have H := ((Holds.start wA []).add false hcA8 (by simp) (by simp)).add false hcA101 (by simp; omega) (by simp)
      refine Ops.eff rfl (Y.appendOwnC (w0 := w9) (S := [rb]) (sz := 1) (b := b101) (cap := 0) (cs := []) (olds := []) (news := u8s bs) (Nat.le_refl _) (by omega) hb101z hcA101 rfl .nil rfl rfl rfl rfl rfl rfl F9A (by simp) hBv'.src rfl (u8s_one bs) (by dsimp only; omega) (by omega) rfl ?_)
      intro bN capN csN wB FB uB fB hbNo hcapN hcmN hbNz hbN hclN hCN
      rw [Nat.zero_add] at hcapN
      rw [Nat.zero_add bs.length] at hCN ⊢
      rw [List.nil_append] at hCN
      have hcB8 := uB.row hcA8 (by decide)
      have F5B : Fr w5 wB [rb] := F5A.trans fB (fun _ h => h) (fun x hx hl => by simp at hx; omega)
      have hRB := hRA.keep fB (by simpa using fun e => hb101r e.symm) (by simp; have := F5.size; omega)
      have hcB4 := F5B.get hc5 (by simpa using hb4r)
      have hAN : AnsN w0.heap.size wB (.slice (some ⟨bN, 0, none⟩) bs.length capN) bs := ⟨⟨_, capN, bN, csN, (0, 0), rfl, hcapN, hcmN, fun _ => ⟨rfl, hbN⟩, by simpa using hCN⟩, fun n hn b cap e => by
        simp at e
        obtain ⟨rfl, _⟩ := e
        have := F5.size
        omega⟩
      clear H hcA8 hcA101
      have H := ((Holds.start wB [b8, b4]).add true hcB4 (by simp) (by simp)).add true hcB8 (by simpa using hb8b4) (by simp)
      refine Ops.pure H (X.fieldAddr rfl rfl rfl rfl rfl rfl) rfl rfl rfl ?_
      (refine Ops.eff rfl (Y.store1 rfl rfl rfl rfl rfl rfl H Upd.head (by repeat (first | exact SetC.zero | apply SetC.succ)) ?_); intro w H0; clear H; have H := H0; clear H0)
      (refine Ops.nil (hK _ _ (Run.seq (Run.region ?_))); clear hK K; intro K hK)
      refine Ops.pure H (X.fieldAddr rfl rfl rfl rfl rfl rfl) rfl rfl rfl ?_
      refine Ops.pure H (X.load1 rfl rfl rfl rfl Pick.head rfl) rfl rfl rfl ?_
      refine Ops.pure H (X.assign rfl) rfl rfl rfl ?_
      (refine Ops.nil (hK _ _ ?_); clear hK K)
      (refine Run.region ?_; intro K hK)
      refine Ops.pure H (X.fieldAddr rfl rfl rfl rfl rfl rfl) rfl rfl rfl ?_
      refine Ops.pure H (X.load1 rfl rfl rfl rfl (.tail .head) rfl) rfl rfl rfl ?_
      refine Ops.pure H (X.loadN rfl rfl rfl Pick.head (Cs.take rfl)) rfl rfl rfl ?_
      (refine Ops.eff rfl (Y.buildSliceO rfl rfl rfl rfl rfl rfl rfl rfl H ?_); intro b112 w H0 hb112; clear H; have H := H0; clear H0)
      have FBw := H.fr
      have F5w : Fr w5 w [rb, b4] := F5B.trans FBw (by simp) (fun x hx hl => by simp at hx ⊢; omega)
      have hrbB : ∀ cs, wB.heap[rb]? ≠ some (row cs 96) ∧ No5 wB rb := fun cs => by
        have := hn101 hRB
        exact ⟨this.n96 cs, this.n5⟩
      have hnr5 : ∀ b ∈ [rb, b4], ∀ cs, w5.heap[b]? ≠ some (row cs 96) := fun b hb cs hc => by
        simp at hb
        rcases hb with rfl | rfl
        · exact ne_of_ty hrb hc (by decide) rfl
        · exact ne_of_ty hc5 hc (by decide) rfl
      have hno5 : ∀ b ∈ [rb, b4], No5 w5 b := fun b hb => by
        simp at hb
        rcases hb with rfl | rfl
        · exact No5.row hrb (by decide)
        · exact No5.row hc5 (by decide)
      have hOw := hO5.keepT F5w hnr5
      refine Ops.eff rfl (Y.appendOwnF (w0 := w4) (S := [rb, b4]) (m := 1) (news := [.int .u64 (sq : Nat), .slice (some ⟨bN, 0, none⟩) bs.length capN]) hOw rfl rfl rfl rfl rfl rfl (F5.trans F5w (fun _ h => h) (fun x hx _ => hx)) (by omega) rfl (Src.row (m := 2) H .head (Cs.take rfl)) rfl rfl (by dsimp only; omega) (by omega) rfl ?_)
      intro v' wC BB FC0 FCB hBB hOC
      obtain ⟨va', vcap', rfl⟩ := hOC.slice
      have hpw := H.pick (b := b4) (by repeat (first | exact .head | apply Pick.tail))
      have hb4B : b4 ∉ BB := fun hm => by
        obtain ⟨_, ⟨cs, hcs⟩, _⟩ := hBB _ hm
        exact ne_of_ty hpw hcs (by decide) rfl
      have hcC4 := FCB.get hpw hb4B
      have hb8z : w0.heap.size ≤ b8 := Nat.le_trans hz4 (Nat.le_trans F5.size (Nat.le_trans F56.size hb8))
      have hRw := hRB.keep FBw (by simpa using ⟨hb8r.symm, hb4r.symm⟩) (by simpa using ⟨hb8z, hb4z⟩)
      have hrB : rb ∉ BB := fun hm => by
        obtain ⟨_, ⟨cs, hcs⟩, _⟩ := hBB _ hm
        exact (hn101 hRw).n96 cs hcs
      have hRC := hRw.keep FCB hrB (fun b hb => by have := (hBB b hb).1; omega)
      have hANw : AnsN w0.heap.size w (.slice (some ⟨bN, 0, none⟩) bs.length capN) bs := hAN.keep FBw (fun b hb => by
        simp at hb
        rcases hb with rfl | rfl
        · exact No5.row hcB8 (by decide)
        · exact No5.row hcB4 (by decide))
      have hB5 : ∀ b ∈ BB, No5 w b := fun b hb => by
        obtain ⟨_, ⟨cs, hcs⟩, _⟩ := hBB b hb
        exact No5.row hcs (by decide)
      clear H
      have H := (Holds.start wC [b4]).add true hcC4 (by simp) (by simp)
      refine Ops.pure H (X.fieldAddr rfl rfl rfl rfl rfl rfl) rfl rfl rfl ?_
      (refine Ops.eff rfl (Y.store1 rfl rfl rfl rfl rfl rfl H Upd.head (by repeat (first | exact SetC.zero | apply SetC.succ)) ?_); intro w H0; clear H; have H := H0; clear H0)
      (refine Ops.nil (hK _ _ ?_); clear hK K)
      refine Run.inBlock ?_
      (refine Run.region ?_; intro K hK)
      refine Ops.pure H (X.move rfl) rfl rfl rfl ?_
      refine Ops.pure H (X.succ rfl rfl (by omega)) rfl rfl rfl ?_
      refine Ops.pure H (X.assign rfl) rfl rfl rfl ?_
      (refine Ops.nil (hK _ _ ?_); clear hK K)
      have FCw := H.fr
      have hb4C5 : ∀ b ∈ [b4], No5 wC b := fun b hb => by
        simp at hb
        subst hb
        exact No5.row hcC4 (by decide)
      obtain ⟨qq, hqq⟩ : ∃ qq, nn - qs.length = qq + 1 := ⟨nn - qs.length - 1, by omega⟩
      have hby := seqsP_by qq last qs an ys σa σb σc σd sq kk0 hσa' hσb' hsq hkk0 hca hcb hσd
      rw [← hqq, g4, ← hbs] at hby
      have hsql : sq < 18446744073709551616 := by
        rw [hsq]
        have := beV_lt (got (some ys) 8) (hb5.got 8) (got (some ys) 8).length (Nat.le_refl _)
        rw [List.take_length] at this
        exact Nat.lt_of_lt_of_le this (Nat.pow_le_pow_right (n := 256) (j := 8) (by decide) (got_le (some ys) 8))
      have hlenA : (qs ++ [(sq : Int)]).length = qs.length + 1 := by simp
      have hgA : ∀ j, j < qs.length → (qs ++ [(sq : Int)]).getD j 0 = qs.getD j 0 := fun j hj => by simp [List.getD_eq_getElem?_getD, List.getElem?_append_left hj]
      have hgN : (qs ++ [(sq : Int)]).getD qs.length 0 = (sq : Int) := by simp
      refine (IH (sq, σd, qs ++ [(sq : Int)], updA an (sq : Int) (some bs)) _ (by dsimp only; rw [hlenA]; omega) ⟨FC0.trans FCw (fun _ h => h) (fun x hx _ => by simp at hx ⊢; omega), hRC.keep FCw (by simpa using hb4r.symm) (by simp; omega), hbd, hsql, by dsimp only; rw [hlenA]; omega, ⟨.slice va' (qs.length + 1) vcap', fun j => if j < qs.length then bv j else .slice (some ⟨bN, 0, none⟩) bs.length capN, H.pick (b := b4) (by repeat (first | exact .head | apply Pick.tail)), ?_, fun ys' hy' j hj => ?_⟩, fun h => ?_, fun ys' hy' => ?_⟩).weak ?_
      · dsimp only
        rw [hlenA, flat_succ]
        have e1 : ((List.range qs.length).flatMap fun j => [Value.int .u64 ((qs ++ [(sq : Int)]).getD j 0), if j < qs.length then bv j else .slice (some ⟨bN, 0, none⟩) bs.length capN]) = (List.range qs.length).flatMap fun j => [Value.int .u64 (qs.getD j 0), bv j] := flat_congr fun j hj => by rw [hgA j hj, if_pos hj]
        rw [e1, hgN, if_neg (Nat.lt_irrefl _)]
        exact hOC.keepT FCw (by simpa using fun cs hc => ne_of_ty hcC4 hc (by decide) rfl)
      · dsimp only at hy' hj ⊢
        rw [hlenA] at hj
        have hlast : last < sq := by
          by_cases hC : 65536 < kk0 ∨ sq ≤ last
          · rw [hσd, hca hC] at hy'; cases hy'
          · omega
        by_cases hjl : j < qs.length
        · rw [if_pos hjl, hgA j hjl, updA, if_neg]
          · exact (((hA5 ys rfl j hjl).keep F5w hno5).keep FCB hB5).keep FCw hb4C5
          · have := g3 (qs.getD j 0) (by simp [hjl])
            omega
        · obtain rfl : j = qs.length := by omega
          rw [if_neg hjl, hgN, updA, if_pos rfl]
          exact (hANw.keep FCB hB5).keep FCw hb4C5
      · dsimp only at h
        rw [hby, h]
        rfl
      · dsimp only at hy' ⊢
        have hlast : last < sq := by
          by_cases hC : 65536 < kk0 ∨ sq ≤ last
          · rw [hσd, hca hC] at hy'; cases hy'
          · omega
        refine ⟨by rw [hlenA]; omega, g2, fun q hq => ?_, ?_⟩
        · rw [List.mem_append] at hq
          rcases hq with hq | hq
          · have := g3 q hq
            omega
          · simp at hq
            omega
        · rw [hby, hy', hlenA, show nn - (qs.length + 1) = qq by omega]
          rfl
      · dsimp only
        rw [hlenA]
        exact (by repeat (first | exact trivial | refine ⟨rfl, ?_⟩))
  rintro ⟨σ', qs, an⟩ w5 ⟨F5, hR5, hq64, ⟨lv', bv, hc5, hO5, hA5⟩, hn5, hs5⟩
  dsimp only at F5 hR5 hq64 hc5 hO5 hA5 hn5 hs5 ⊢
  obtain ⟨la, lcap, rfl⟩ := hO5.slice
  have hr4 := hn101 hR4
  have hWr : ∀ {b off n cap}, w4.heap[db]? = some (row [.int .i64 size, .slice (some ⟨b, off, none⟩) n cap] 80) → b ≠ b4 := fun h => by have := hWl4 _ _ _ _ h; omega
  have hW5 := hW4.keepB F5 (by simpa using ⟨hrd.symm, hb4d.symm⟩) (fun b hb => by
    simp at hb
    rcases hb with rfl | rfl
    · exact hr4.n5
    · exact No5.row hc4' (by decide)) (fun b hb cs hc => by
    simp at hb
    rcases hb with rfl | rfl
    · exact hr4.n96 cs hc
    · exact ne_of_ty hc4' hc (by decide) rfl) (fun b hb => by
    simp at hb
    rcases hb with rfl | rfl
    · exact .inl hr4.n84
    · exact .inr fun b' off n cap h => hWr h)
  have F05 : Fr w0 w5 [] := F4.trans F5 (by simp) (fun x hx hl => by simp at hx; omega)
  obtain ⟨wv, hwd, lv, hwO, hwL⟩ := hW5
  obtain ⟨wa, wcap, rfl⟩ := hwO.slice
  have hdb4 : w4.heap[db]? = some (row [.int .i64 size, .slice wa ids.length wcap] 80) := by
    obtain ⟨v4, h4, _⟩ := hW4
    have := F5.get h4 (by simpa using ⟨hrd.symm, hb4d.symm⟩)
    rw [hwd] at this
    rw [h4, ← this]
  have H := ((Holds.start w5 []).add false hc5 (by simp) (by simp)).add false hwd (by simpa using hb4d.symm) (by simp)
  (refine Run.draw H [10] [0, 1, 2, 3, 4, 5, 6, 7, 8, 9, 10] ?_; clear H; intro K hK w H)
  refine Draw.take0 rfl (X.move rfl) rfl rfl rfl (by decide +kernel) ?_
  refine Draw.take0 rfl (X.move rfl) rfl rfl rfl (by decide +kernel) ?_
  refine Draw.take0 rfl (X.nilCheck rfl) rfl rfl rfl (by decide +kernel) ?_
  refine Draw.take0 rfl (X.fieldAddr rfl rfl rfl rfl rfl rfl) rfl rfl rfl (by decide +kernel) ?_
  refine Draw.take rfl (X.load1 rfl rfl rfl rfl Pick.head rfl) rfl rfl rfl (by decide +kernel) ?_
  refine Draw.take rfl (X.loadN rfl rfl rfl (.tail .head) (Cs.take rfl)) rfl rfl rfl (by decide +kernel) ?_
  (refine Draw.eff rfl rfl (by decide +kernel) (Y.buildSliceO rfl rfl rfl rfl rfl rfl rfl rfl H ?_); intro b121 w H0 hb121; clear H; have H := H0; clear H0; refine ⟨fun e he => H.at_ e (by simp only [List.mem_cons, List.not_mem_nil, or_false] at he ⊢; grind), ?_⟩)
  refine Draw.eff rfl rfl (by decide +kernel) (Y.appendOwnF (w0 := w0) (S := []) (m := 1) (news := [.int .u64 (id : Nat), .int .u64 (fl : Nat), .slice la qs.length lcap]) (hwO.ext H.fr) rfl rfl rfl rfl rfl rfl (F05.then H.fr) (by omega) rfl (Src.row (m := 3) H .head (Cs.take rfl)) rfl rfl (by dsimp only; omega) (by omega) rfl ?_)
  intro v' wC BB FC0 FCB hBB hOC
  obtain ⟨va', vcap', rfl⟩ := hOC.slice
  have hb4B : b4 ∉ BB := fun hm => by
    obtain ⟨_, _, c, hc⟩ := hBB _ hm
    simp at hc
    obtain ⟨rfl, _⟩ := hc
    exact hWr hdb4 rfl
  have F5w := H.fr
  have hdC := FCB.get (F5w.get hwd (by simp)) (fun hm => by
    obtain ⟨_, ⟨cs, hcs⟩, _⟩ := hBB _ hm
    exact ne_of_ty (F5w.get hwd (by simp)) hcs (by decide) rfl)
  have hcC := FCB.get (F5w.get hc5 (by simp)) hb4B
  clear H
  have H := ((Holds.start wC [db]).add false hcC (by simp) (by simp)).add true hdC (by simpa using hb4d.symm) (by simp)
  refine ⟨fun e he => by
    simp at he
    rcases he with rfl | rfl
    · exact hdC
    · exact hcC, ?_⟩
  refine Draw.take0 rfl (X.nilCheck rfl) rfl rfl rfl (by decide +kernel) ?_
  refine Draw.take0 rfl (X.fieldAddr rfl rfl rfl rfl rfl rfl) rfl rfl rfl (by decide +kernel) ?_
  (refine Draw.last rfl rfl (by decide +kernel) (Y.store1 rfl rfl rfl rfl rfl rfl H Upd.head (by repeat (first | exact SetC.zero | apply SetC.succ)) ?_); intro w H0; clear H; have H := H0; clear H0)
  (refine Draw2.done (by decide +kernel) (hK _ _ ?_); clear hK K)
  (first | refine Fn.ret0 HF rfl ?_ | refine Fn.fin0 HF rfl ?_)
  have FCw := H.fr
  have hF0 : Fr w0 w [] := FC0.trans FCw (by simp) (fun x hx hl => by simp at hx; omega)
  refine ⟨hF0, ?_⟩
  have hRC : RS w0.heap.size w rb σ' := ((hR5.ext F5w).keep FCB (fun hm => by
    obtain ⟨_, ⟨cs, hcs⟩, _⟩ := hBB _ hm
    exact (hn101 (hR5.ext F5w)).n84 cs hcs) (fun b hb => (hBB b hb).1)).keep FCw (by simpa using hrd) (by simpa using hd)
  have hcp := clientP_by size xs σ1 σ2 σ3 (by rw [hσ1, hσ0]) hσ2 hσ3
  rw [← hnn, ← hfl, ← hσ0, ← hid] at hcp
  by_cases hC3 : nn < 1 ∨ size < nn ∨ (fl ≠ 0 ∧ nn ≠ size)
  · have h4 : σ4 = none := hσa (by omega)
    have hcn : clientP size xs = none := by
      rw [hcp]
      cases σ3 with
      | none => rfl
      | some ys => rw [Option.bind_some, if_pos hC3]
    rw [hcn]
    have : σ' = none := by
      cases σ' with
      | none => rfl
      | some ys =>
        have := hs5 ys rfl
        rw [hRdef, h4] at this
        cases this
    rw [this] at hRC
    exact hRC
  by_cases hC4 : ∃ q, ids.getLast? = some q ∧ (id : Int) ≤ q
  · have h4 : σ4 = none := hσa (.inr (.inr (.inr hC4)))
    have hsn : σ' = none := by
      cases σ' with
      | none => rfl
      | some ys =>
        have := hs5 ys rfl
        rw [hRdef, h4] at this
        cases this
    rw [hsn] at hRC
    have hcs : clientP size xs = none ∨ ∃ s r, clientP size xs = some (id, s, r) := by
      rw [hcp]
      cases σ3 with
      | none => exact .inl rfl
      | some ys =>
        rw [Option.bind_some, if_neg hC3]
        cases seqsP nn fl [] (fun _ => none) ys with
        | none => exact .inl rfl
        | some r => exact .inr ⟨_, _, rfl⟩
    rcases hcs with h | ⟨s, r, h⟩
    · rw [h]
      exact hRC
    · rw [h]
      dsimp only
      rw [if_pos hC4]
      exact hRC
  have h4 : σ4 = σ3 := hσb (by rintro (h | h | h | h) <;> first | (exact hC4 h) | omega)
  have hcR : clientP size xs = R.map fun r => (id, ⟨(fl : Int), r.1, r.2.1⟩, r.2.2) := by
    rw [hcp, hRdef, h4]
    cases σ3 with
    | none => rfl
    | some ys => rw [Option.bind_some, Option.bind_some, if_neg hC3]
  cases σ' with
  | none =>
    rw [hcR, hn5 rfl]
    exact hRC
  | some ys =>
    rw [hcR, hs5 ys rfl]
    show if _ then _ else _
    rw [if_neg hC4]
    have hall : ∀ i, i < ids.length → ids.getD i 0 < (id : Int) := fun i hi => by
      have hl : ids.getLast? = some (ids.getD (ids.length - 1) 0) := by
        rw [List.getLast?_eq_getElem?]
        simp [show ids.length - 1 < ids.length by omega]
      have h1 : ids.getD (ids.length - 1) 0 < (id : Int) := Int.not_le.1 fun h => hC4 ⟨_, hl, h⟩
      rcases Nat.lt_or_ge i (ids.length - 1) with h | h
      · have := getD_mono hup h (by omega)
        omega
      · rw [show i = ids.length - 1 by omega]
        exact h1
    have hlenA : (ids ++ [(id : Int)]).length = ids.length + 1 := by simp
    have hgA : ∀ j, j < ids.length → (ids ++ [(id : Int)]).getD j 0 = ids.getD j 0 := fun j hj => by simp [List.getD_eq_getElem?_getD, List.getElem?_append_left hj]
    have hgN : (ids ++ [(id : Int)]).getD ids.length 0 = (id : Int) := by simp
    obtain ⟨m2, hm2⟩ : ∃ m2 : Int → Option CS, m2 = fun y => if y = (id : Int) then some ⟨(fl : Int), qs, an⟩ else m y := ⟨_, rfl⟩
    rw [← hm2]
    have hgm : ∀ i, i < ids.length → gm m2 (ids ++ [(id : Int)]) i = gm m ids i := fun i hi => by
      have := hall i hi
      rw [gm, gm, hgA i hi, hm2]
      dsimp only
      rw [if_neg (by omega)]
    have hgl : gm m2 (ids ++ [(id : Int)]) ids.length = ⟨(fl : Int), qs, an⟩ := by
      rw [gm, hgN, hm2]
      simp
    refine ⟨hRC, _, H.pick (b := db) (by repeat (first | exact .head | apply Pick.tail)), fun i => if i < ids.length then lv i else .slice la qs.length lcap, ?_, fun i hi => ?_⟩
    · dsimp only
      rw [hlenA, flat_succ]
      have e1 : ((List.range ids.length).flatMap fun i => [Value.int .u64 ((ids ++ [(id : Int)]).getD i 0), .int .u64 (gm m2 (ids ++ [(id : Int)]) i).floor, if i < ids.length then lv i else .slice la qs.length lcap]) = (List.range ids.length).flatMap fun i => [Value.int .u64 (ids.getD i 0), .int .u64 (gm m ids i).floor, lv i] := flat_congr fun i hi => by rw [hgA i hi, hgm i hi, if_pos hi]
      rw [e1, hgN, hgl, if_neg (Nat.lt_irrefl _)]
      exact hOC.keepT FCw (by simpa using fun cs hc => ne_of_ty hdC hc (by decide) rfl)
    · have hup3 : ∀ {v : Value} {s : CS}, RLN w0.heap.size w5 v s → RLN w0.heap.size w v s := fun {v s} h => ((h.ext F5w).keep3 FCB (fun b hb cs hc => by
        obtain ⟨_, ⟨cs', hcs'⟩, _⟩ := hBB b hb
        exact ne_of_ty hcs' hc (by decide) rfl) (fun b hb => by
        obtain ⟨_, ⟨cs', hcs'⟩, _⟩ := hBB b hb
        exact No5.row hcs' (by decide))).keep3 FCw (by simpa using fun cs hc => ne_of_ty hdC hc (by decide) rfl) (by simpa using No5.row hdC (by decide))
      rw [hlenA] at hi
      by_cases hil : i < ids.length
      · rw [hgm i hil]
        dsimp only
        rw [if_pos hil]
        exact hup3 (hwL i hil)
      · obtain rfl : i = ids.length := by omega
        rw [hgl]
        dsimp only
        rw [if_neg hil]
        exact hup3 ⟨bv, hO5.vw (fun _ => rfl), hA5 ys rfl⟩
end Go.Proofs.Ytaneenahapdabaa
