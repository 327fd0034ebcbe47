/- Layer 20: the document's window in memory; find, Floor, Ask, Len. -/
import Derived.Test.YtaneenahapdabaaT2
namespace Go.Proofs.Ytaneenahapdabaa
open Go
set_option maxRecDepth 20000
set_option maxHeartbeats 2000000
attribute [local irreducible] Run Ops Fn Draw Draw2 PureOp StepZ

/-- A list of things in memory, and what stands at each. -/
def Vw (w : World) (v : Value) (ty sz n : Nat) (F : Nat → List Value) : Prop :=
  ∃ a cap, v = .slice a n cap ∧ n ≤ cap ∧ cap ≤ 9223372036854775807 ∧ ((a = none ∧ cap = 0) ∨ ∃ b off, a = some ⟨b, off, none⟩ ∧ (0 < n → ∃ cs, w.heap[b]? = some (row cs ty) ∧ ∀ j, j < n → Cs cs (off + j * sz) sz (F j)))
theorem Vw.keep {w w' : World} {S : List Nat} {v : Value} {ty sz n : Nat} {F : Nat → List Value} (h : Vw w v ty sz n F) (hf : Fr w w' S) (hS : ∀ b ∈ S, ∀ cs, w.heap[b]? ≠ some (row cs ty)) : Vw w' v ty sz n F := by
  obtain ⟨a, cap, h1, h2, h3, h4 | ⟨b, off, h4, h5⟩⟩ := h
  · exact ⟨a, cap, h1, h2, h3, .inl h4⟩
  · refine ⟨a, cap, h1, h2, h3, .inr ⟨b, off, h4, fun hp => ?_⟩⟩
    obtain ⟨cs, h6, h7⟩ := h5 hp
    exact ⟨cs, hf.get h6 (fun hm => hS b hm _ h6), h7⟩
theorem Vw.cast {w : World} {v : Value} {ty sz n : Nat} {F F' : Nat → List Value} (h : Vw w v ty sz n F) (he : ∀ j, j < n → F j = F' j) : Vw w v ty sz n F' := by
  obtain ⟨a, cap, h1, h2, h3, h4 | ⟨b, off, h4, h5⟩⟩ := h
  · exact ⟨a, cap, h1, h2, h3, .inl h4⟩
  · refine ⟨a, cap, h1, h2, h3, .inr ⟨b, off, h4, fun hp => ?_⟩⟩
    obtain ⟨cs, h6, h7⟩ := h5 hp
    exact ⟨cs, h6, fun j hj => by rw [← he j hj]; exact h7 j hj⟩
theorem Vw.slice {w : World} {v : Value} {ty sz n : Nat} {F : Nat → List Value} (h : Vw w v ty sz n F) : ∃ a cap, v = .slice a n cap := by
  obtain ⟨a, cap, h1, _⟩ := h
  exact ⟨a, cap, h1⟩
/-- A client's answers. -/
def RL (w : World) (v : Value) (s : CS) : Prop :=
  ∃ bv : Nat → Value, Vw w v 96 2 s.seqs.length (fun j => [.int .u64 (s.seqs.getD j 0), bv j]) ∧ ∀ j, j < s.seqs.length → Ans w (bv j) ((s.ans (s.seqs.getD j 0)).getD [])
abbrev gm (m : Int → Option CS) (ids : List Int) (i : Nat) : CS := (m (ids.getD i 0)).getD cs0
/-- The clients. -/
def RC (w : World) (v : Value) (ids : List Int) (m : Int → Option CS) : Prop :=
  ∃ lv : Nat → Value, Vw w v 84 3 ids.length (fun i => [.int .u64 (ids.getD i 0), .int .u64 (gm m ids i).floor, lv i]) ∧ ∀ i, i < ids.length → RL w (lv i) (gm m ids i)
/-- The document's window. -/
def RD (w : World) (db : Nat) (n : Int) (ids : List Int) (m : Int → Option CS) : Prop :=
  ∃ v, w.heap[db]? = some (row [.int .i64 n, v] 80) ∧ RC w v ids m
/-- A block that is none of the document's. -/
structure NoR (w : World) (b : Nat) : Prop where
  n5 : No5 w b
  n96 : ∀ cs, w.heap[b]? ≠ some (row cs 96)
  n84 : ∀ cs, w.heap[b]? ≠ some (row cs 84)
theorem NoR.row {w : World} {b t : Nat} {ds : List Value} (h : w.heap[b]? = some (row ds t)) (h5 : t ≠ 5) (h96 : t ≠ 96) (h84 : t ≠ 84) : NoR w b :=
  ⟨No5.row h h5, fun cs hc => by rw [h] at hc; simp at hc; exact h96 hc.2, fun cs hc => by rw [h] at hc; simp at hc; exact h84 hc.2⟩
theorem NoR.map {w : World} {b k : Nat} {es : Array MapEntry} (h : w.heap[b]? = some (.map es k)) : NoR w b :=
  ⟨No5.map h, fun cs hc => (by rw [h] at hc; cases hc), fun cs hc => (by rw [h] at hc; cases hc)⟩
theorem Wn.noR {w : World} {W : WS} (h : Wn w W) {b : Nat} (hb : Foot W b) : NoR w b := by
  rcases h.foot hb with ⟨_, _, h⟩ | ⟨_, h⟩ | ⟨_, h⟩ | ⟨_, h⟩
  · exact NoR.map h
  · exact NoR.row h (by decide) (by decide) (by decide)
  · exact NoR.row h (by decide) (by decide) (by decide)
  · exact NoR.row h (by decide) (by decide) (by decide)
theorem RL.keep {w w' : World} {S : List Nat} {v : Value} {s : CS} (h : RL w v s) (hf : Fr w w' S) (hS : ∀ b ∈ S, NoR w b) : RL w' v s := by
  obtain ⟨bv, h1, h2⟩ := h
  exact ⟨bv, h1.keep hf (fun b hb => (hS b hb).n96), fun j hj => (h2 j hj).keep hf (fun b hb => (hS b hb).n5)⟩
theorem RC.keep {w w' : World} {S : List Nat} {v : Value} {ids : List Int} {m : Int → Option CS} (h : RC w v ids m) (hf : Fr w w' S) (hS : ∀ b ∈ S, NoR w b) : RC w' v ids m := by
  obtain ⟨lv, h1, h2⟩ := h
  exact ⟨lv, h1.keep hf (fun b hb => (hS b hb).n84), fun i hi => (h2 i hi).keep hf hS⟩
theorem RD.keep {w w' : World} {S : List Nat} {db : Nat} {n : Int} {ids : List Int} {m : Int → Option CS} (h : RD w db n ids m) (hf : Fr w w' S) (hd : db ∉ S) (hS : ∀ b ∈ S, NoR w b) : RD w' db n ids m := by
  obtain ⟨v, h1, h2⟩ := h
  exact ⟨v, hf.get h1 hd, h2.keep hf hS⟩
theorem RL.ext {w w' : World} {v : Value} {s : CS} (h : RL w v s) (hf : Fr w w' []) : RL w' v s := h.keep hf (by simp)
theorem RC.ext {w w' : World} {v : Value} {ids : List Int} {m : Int → Option CS} (h : RC w v ids m) (hf : Fr w w' []) : RC w' v ids m := h.keep hf (by simp)
theorem RD.ext {w w' : World} {db : Nat} {n : Int} {ids : List Int} {m : Int → Option CS} (h : RD w db n ids m) (hf : Fr w w' []) : RD w' db n ids m := h.keep hf (by simp) (by simp)
/-- Where a number is, or would be. -/
def idxL : List Int → Int → Nat
  | [], _ => 0
  | x :: r, t => if x < t then idxL r t + 1 else 0
theorem idxL_le (t : Int) : ∀ xs : List Int, idxL xs t ≤ xs.length
  | [] => Nat.le_refl _
  | x :: r => by
    rw [idxL]
    have := idxL_le t r
    split <;> simp <;> omega
theorem idxL_lt (t : Int) : ∀ (xs : List Int) (j : Nat), j < idxL xs t → xs.getD j 0 < t
  | [], j, h => by simp [idxL] at h
  | x :: r, j, h => by
    rw [idxL] at h
    split at h
    · cases j with
      | zero => simpa
      | succ j => simpa using idxL_lt t r j (by omega)
    · omega
theorem idxL_ge (t : Int) : ∀ (xs : List Int), idxL xs t < xs.length → ¬ xs.getD (idxL xs t) 0 < t
  | [], h => by simp [idxL] at h
  | x :: r, h => by
    rw [idxL] at h ⊢
    by_cases hx : x < t
    · rw [if_pos hx] at h ⊢
      simpa using idxL_ge t r (by simpa using h)
    · rw [if_neg hx]
      simpa using hx
theorem idxL_eq {xs : List Int} {t : Int} {i : Nat} (hi : i ≤ xs.length) (h1 : ∀ j, j < i → xs.getD j 0 < t) (h2 : i < xs.length → ¬ xs.getD i 0 < t) : idxL xs t = i := by
  rcases Nat.lt_trichotomy (idxL xs t) i with h | h | h
  · exact absurd (h1 _ h) (idxL_ge t xs (by omega))
  · exact h
  · have := idxL_le t xs
    exact absurd (idxL_lt t xs i h) (h2 (by omega))
theorem getD_mono {xs : List Int} (hs : xs.Pairwise (· < ·)) {i j : Nat} (hij : i < j) (hj : j < xs.length) : xs.getD i 0 < xs.getD j 0 := by
  have := List.pairwise_iff_getElem.1 hs i j (by omega) hj hij
  simpa [hj, show i < xs.length by omega] using this
theorem idxL_mem {xs : List Int} (hs : xs.Pairwise (· < ·)) (t : Int) : t ∈ xs ↔ idxL xs t < xs.length ∧ xs.getD (idxL xs t) 0 = t := by
  constructor
  · intro hm
    obtain ⟨i, hi, e⟩ := List.getElem_of_mem hm
    have hg : xs.getD i 0 = t := by simp [hi, e]
    have : idxL xs t = i := idxL_eq (by omega) (fun j hj => by rw [← hg]; exact getD_mono hs hj hi) (fun _ => by rw [hg]; omega)
    rw [this]
    exact ⟨hi, hg⟩
  · rintro ⟨h1, h2⟩
    rw [← h2]
    simp [h1]
theorem Vw.pos {w : World} {a : Option Addr} {cap ty sz n : Nat} {F : Nat → List Value} {n' : Nat} (h : Vw w (.slice a n' cap) ty sz n F) (hp : 0 < n) : ∃ b off cs, a = some ⟨b, off, none⟩ ∧ w.heap[b]? = some (row cs ty) ∧ ∀ j, j < n → Cs cs (off + j * sz) sz (F j) := by
  obtain ⟨a', cap', h1, h2, h3, h4 | ⟨b, off, h4, h5⟩⟩ := h
  · omega
  · cases h1
    obtain ⟨cs, h6, h7⟩ := h5 hp
    exact ⟨b, off, cs, h4, h6, h7⟩
theorem Vw.len {w : World} {a : Option Addr} {cap ty sz n : Nat} {F : Nat → List Value} {n' : Nat} (h : Vw w (.slice a n' cap) ty sz n F) : n' = n ∧ n ≤ cap ∧ cap ≤ 9223372036854775807 := by
  obtain ⟨a', cap', h1, h2, h3, h4 | ⟨b, off, h4, h5⟩⟩ := h
  · cases h1; exact ⟨rfl, h2, h3⟩
  · cases h1; exact ⟨rfl, h2, h3⟩
theorem find_any (z : World) (db : Nat) (n : Int) (ids : List Int) (m : Int → Option CS) (id : Int) (h : RD z db n ids m) (hs : ids.Pairwise (· < ·)) :
    Fn env.P 45 [.pointer (some ⟨db, 0, none⟩), .int .u64 id] z fun v w' => v = .tuple #[.int .i64 (idxL ids id : Nat), .bool (decide (id ∈ ids))] ∧ Fr z w' [] := by
  obtain ⟨v, hd, lv, hV, _⟩ := h
  obtain ⟨a, cap, rfl⟩ := hV.slice
  obtain ⟨_, hc1, hc2⟩ := hV.len
  have H := Holds.start z []
  have HF := Try.func45; refine Fn.enter Try.func45 Try.ntmps45 rfl rfl rfl ?_
  (refine Run.seq (Run.region ?_); intro K hK)
  refine Ops.pure H (X.assign rfl) rfl rfl rfl ?_
  refine Ops.pure H (X.assign rfl) rfl rfl rfl ?_
  (refine Ops.nil (hK _ _ (Run.seq (Run.region ?_))); clear hK K; intro K hK)
  refine Ops.pure H (X.assign rfl) rfl rfl rfl ?_
  (refine Ops.nil (hK _ _ ?_); clear hK K)
  refine Run.seq ?_
  refine Run.block ?_
  refine Run.rounds (fun (i : Nat) => [(0, .pointer (some ⟨db, 0, none⟩)), (1, .int .u64 id), (6, .int .i64 (i : Nat))]) (fun i w' => Fr z w' [] ∧ i ≤ ids.length ∧ ∀ j, j < i → ids.getD j 0 < id) (fun i => ids.length - i) 0 (by repeat (first | exact trivial | refine ⟨rfl, ?_⟩)) ⟨H.fr, by omega, by intro j hj; omega⟩ ?_
  clear H
  rintro i w1 ⟨hf, hi, hlt⟩ IH
  have hd1 := hf.get hd (by simp)
  by_cases hin : i < ids.length
  · obtain ⟨b, off, cs, rfl, hb, hcs⟩ := hV.pos (by omega)
    have hb1 := hf.get hb (by simp)
    have c0 : cs[off + i * 3 + 0]? = some (.int .u64 (ids.getD i 0)) := (hcs i hin).get 0 _ rfl
    have nbd : b ≠ db := ne_of_ty hb hd (by decide)
    have H := ((Holds.start w1 []).add false hb1 (by simp) (by simp)).add false hd1 (by simpa using nbd.symm) (by simp)
    refine Run.seq ?_
    (refine Run.seq (Run.region ?_); intro K hK)
    refine Ops.pure H (X.move rfl) rfl rfl rfl ?_
    refine Ops.pure H (X.move rfl) rfl rfl rfl ?_
    refine Ops.pure H (X.nilCheck rfl) rfl rfl rfl ?_
    refine Ops.pure H (X.fieldAddr rfl rfl rfl rfl rfl rfl) rfl rfl rfl ?_
    refine Ops.pure H (X.load1 rfl rfl rfl rfl Pick.head rfl) rfl rfl rfl ?_
    refine Ops.pure H (X.len_slice rfl rfl rfl) rfl rfl rfl ?_
    refine Ops.pure H (X.cmp rfl rfl rfl) rfl rfl rfl ?_
    refine Ops.pure H (X.move rfl) rfl rfl rfl ?_
    refine Ops.split_dec rfl rfl (fun h15 => ?x0) (fun h15 => ?y0)
    case' y0 => exfalso; omega
    case' x0 =>
      refine Ops.pure H (X.move rfl) rfl rfl rfl ?_
      refine Ops.pure H (X.nilCheck rfl) rfl rfl rfl ?_
      refine Ops.pure H (X.fieldAddr rfl rfl rfl rfl rfl rfl) rfl rfl rfl ?_
      refine Ops.pure H (X.load1 rfl rfl rfl rfl Pick.head rfl) rfl rfl rfl ?_
      refine Ops.pure H (X.move rfl) rfl rfl rfl ?_
      refine Ops.pure H (X.indexAddr rfl rfl (by omega) rfl rfl rfl rfl) rfl rfl rfl ?_
      refine Ops.pure H (X.fieldAddr rfl rfl rfl rfl rfl rfl) rfl rfl rfl ?_
      refine Ops.pure H (X.load1 rfl rfl rfl rfl (.tail .head) (by assumption)) rfl rfl rfl ?_
      refine Ops.pure H (X.move rfl) rfl rfl rfl ?_
      refine Ops.pure H (X.cmp rfl rfl rfl) rfl rfl rfl ?_
      refine Ops.pure H (X.pick_t rfl rfl) rfl rfl rfl ?_
      (refine Ops.nil (hK _ _ ?_); clear hK K)
      refine Run.cond_dec rfl (fun h25 => ?x1) (fun h25 => ?y1)
      case' y1 =>
        refine Run.exit rfl ?_
        refine Run.seq ?_
        (refine Run.draw H [] [0, 1, 2, 3, 4, 5, 6, 7, 8, 9, 10, 11, 12, 13, 14, 15, 16, 17, 18, 19, 20, 21] ?_; clear H; intro K hK w H)
        refine Draw.take0 rfl (X.move rfl) rfl rfl rfl (by decide +kernel) ?_
        refine Draw.take0 rfl (X.move rfl) rfl rfl rfl (by decide +kernel) ?_
        refine Draw.take0 rfl (X.move rfl) rfl rfl rfl (by decide +kernel) ?_
        refine Draw.take0 rfl (X.nilCheck rfl) rfl rfl rfl (by decide +kernel) ?_
        refine Draw.take0 rfl (X.fieldAddr rfl rfl rfl rfl rfl rfl) rfl rfl rfl (by decide +kernel) ?_
        refine Draw.take rfl (X.load1 rfl rfl rfl rfl Pick.head rfl) rfl rfl rfl (by decide +kernel) ?_
        refine Draw.take0 rfl (X.len_slice rfl rfl rfl) rfl rfl rfl (by decide +kernel) ?_
        refine Draw.take0 rfl (X.cmp rfl rfl rfl) rfl rfl rfl (by decide +kernel) ?_
        refine Draw.take0 rfl (X.move rfl) rfl rfl rfl (by decide +kernel) ?_
        refine Draw.split_dec rfl rfl rfl (fun h37 => ?x2) (fun h37 => ?y2)
        case' y2 => exfalso; omega
        case' x2 =>
          refine Draw.take0 rfl (X.move rfl) rfl rfl rfl (by decide +kernel) ?_
          refine Draw.take0 rfl (X.nilCheck rfl) rfl rfl rfl (by decide +kernel) ?_
          refine Draw.take0 rfl (X.fieldAddr rfl rfl rfl rfl rfl rfl) rfl rfl rfl (by decide +kernel) ?_
          refine Draw.take rfl (X.load1 rfl rfl rfl rfl Pick.head rfl) rfl rfl rfl (by decide +kernel) ?_
          refine Draw.take0 rfl (X.move rfl) rfl rfl rfl (by decide +kernel) ?_
          refine Draw.take0 rfl (X.indexAddr rfl rfl (by omega) rfl rfl rfl rfl) rfl rfl rfl (by decide +kernel) ?_
          refine Draw.take0 rfl (X.fieldAddr rfl rfl rfl rfl rfl rfl) rfl rfl rfl (by decide +kernel) ?_
          refine Draw.take rfl (X.load1 rfl rfl rfl rfl (.tail .head) (by assumption)) rfl rfl rfl (by decide +kernel) ?_
          refine Draw.take0 rfl (X.move rfl) rfl rfl rfl (by decide +kernel) ?_
          refine Draw.take0 rfl (X.cmp rfl rfl rfl) rfl rfl rfl (by decide +kernel) ?_
          refine Draw.take0 rfl (X.pick_t rfl rfl) rfl rfl rfl (by decide +kernel) ?_
          refine Draw.take0 rfl (X.assign rfl) rfl rfl rfl (by decide +kernel) ?_
          refine Draw.take0 rfl (X.assign rfl) rfl rfl rfl (by decide +kernel) ?_
          (refine Draw.done (by decide +kernel) (hK _ _ ?_); clear hK K)
      case' x1 =>
        refine Run.skip ?_
        refine Run.block ?_
        (refine Run.region ?_; intro K hK)
        refine Ops.pure H (X.move rfl) rfl rfl rfl ?_
        refine Ops.pure H (X.succ rfl rfl (by omega)) rfl rfl rfl ?_
        refine Ops.pure H (X.assign rfl) rfl rfl rfl ?_
        (refine Ops.nil (hK _ _ ?_); clear hK K)
        refine Run.inBlock ?_
    · refine (IH (i + 1) _ (by omega) ⟨hf.then H.fr, by omega, fun j hj => ?_⟩).weak (by repeat (first | exact trivial | refine ⟨rfl, ?_⟩))
      rcases Nat.lt_succ_iff_lt_or_eq.1 hj with h | rfl
      · exact hlt j h
      · assumption
    · have hix : idxL ids id = i := idxL_eq hi hlt (fun _ => by assumption)
      refine Fn.ret2 HF rfl rfl rfl ?_
      refine ⟨?_, hf.then H.fr⟩
      rw [hix]
      refine congrArg (fun q => Value.tuple #[.int .i64 (i : Nat), .bool q]) ?_
      refine decide_eq_decide.2 ?_
      rw [idxL_mem hs, hix]
      exact ⟨fun h => ⟨hin, h⟩, fun h => h.2⟩
  · obtain rfl : i = ids.length := by omega
    have H := (Holds.start w1 []).add false hd1 (by simp) (by simp)
    refine Run.seq ?_
    (refine Run.seq (Run.region ?_); intro K hK)
    refine Ops.pure H (X.move rfl) rfl rfl rfl ?_
    refine Ops.pure H (X.move rfl) rfl rfl rfl ?_
    refine Ops.pure H (X.nilCheck rfl) rfl rfl rfl ?_
    refine Ops.pure H (X.fieldAddr rfl rfl rfl rfl rfl rfl) rfl rfl rfl ?_
    refine Ops.pure H (X.load1 rfl rfl rfl rfl Pick.head rfl) rfl rfl rfl ?_
    refine Ops.pure H (X.len_slice rfl rfl rfl) rfl rfl rfl ?_
    refine Ops.pure H (X.cmp rfl rfl rfl) rfl rfl rfl ?_
    refine Ops.pure H (X.move rfl) rfl rfl rfl ?_
    refine Ops.split_dec rfl rfl (fun h15 => ?x3) (fun h15 => ?y3)
    case' y3 =>
      refine Ops.pass rfl rfl rfl ?_
      refine Ops.pass rfl rfl rfl ?_
      refine Ops.pass rfl rfl rfl ?_
      refine Ops.pass rfl rfl rfl ?_
      refine Ops.pass rfl rfl rfl ?_
      refine Ops.pass rfl rfl rfl ?_
      refine Ops.pass rfl rfl rfl ?_
      refine Ops.pass rfl rfl rfl ?_
      refine Ops.pass rfl rfl rfl ?_
      refine Ops.pass rfl rfl rfl ?_
      refine Ops.pure H (X.pick_f rfl rfl) rfl rfl rfl ?_
      (refine Ops.nil (hK _ _ ?_); clear hK K)
      refine Run.cond_false rfl ?_
      refine Run.exit rfl ?_
      refine Run.seq ?_
      (refine Run.draw H [] [0, 1, 2, 3, 4, 5, 6, 7, 8, 9, 10, 11, 12, 13, 14, 15, 16, 17, 18, 19, 20, 21] ?_; clear H; intro K hK w H)
      refine Draw.take0 rfl (X.move rfl) rfl rfl rfl (by decide +kernel) ?_
      refine Draw.take0 rfl (X.move rfl) rfl rfl rfl (by decide +kernel) ?_
      refine Draw.take0 rfl (X.move rfl) rfl rfl rfl (by decide +kernel) ?_
      refine Draw.take0 rfl (X.nilCheck rfl) rfl rfl rfl (by decide +kernel) ?_
      refine Draw.take0 rfl (X.fieldAddr rfl rfl rfl rfl rfl rfl) rfl rfl rfl (by decide +kernel) ?_
      refine Draw.take rfl (X.load1 rfl rfl rfl rfl Pick.head rfl) rfl rfl rfl (by decide +kernel) ?_
      refine Draw.take0 rfl (X.len_slice rfl rfl rfl) rfl rfl rfl (by decide +kernel) ?_
      refine Draw.take0 rfl (X.cmp rfl rfl rfl) rfl rfl rfl (by decide +kernel) ?_
      refine Draw.take0 rfl (X.move rfl) rfl rfl rfl (by decide +kernel) ?_
      refine Draw.split_dec rfl rfl rfl (fun h37 => ?x4) (fun h37 => ?y4)
      case' y4 =>
        refine Draw.pass rfl rfl rfl rfl (by decide +kernel) ?_
        refine Draw.pass rfl rfl rfl rfl (by decide +kernel) ?_
        refine Draw.pass rfl rfl rfl rfl (by decide +kernel) ?_
        refine Draw.pass rfl rfl rfl rfl (by decide +kernel) ?_
        refine Draw.pass rfl rfl rfl rfl (by decide +kernel) ?_
        refine Draw.pass rfl rfl rfl rfl (by decide +kernel) ?_
        refine Draw.pass rfl rfl rfl rfl (by decide +kernel) ?_
        refine Draw.pass rfl rfl rfl rfl (by decide +kernel) ?_
        refine Draw.pass rfl rfl rfl rfl (by decide +kernel) ?_
        refine Draw.pass rfl rfl rfl rfl (by decide +kernel) ?_
        refine Draw.take0 rfl (X.pick_f rfl rfl) rfl rfl rfl (by decide +kernel) ?_
        refine Draw.take0 rfl (X.assign rfl) rfl rfl rfl (by decide +kernel) ?_
        refine Draw.take0 rfl (X.assign rfl) rfl rfl rfl (by decide +kernel) ?_
        (refine Draw.done (by decide +kernel) (hK _ _ ?_); clear hK K)
      case' x4 => exfalso; omega
    case' x3 => exfalso; omega
    refine Fn.ret2 HF rfl rfl rfl ?_
    have hix : idxL ids id = ids.length := idxL_eq (Nat.le_refl _) hlt (fun h => absurd h (Nat.lt_irrefl _))
    refine ⟨?_, hf.then H.fr⟩
    rw [hix, decide_eq_false]
    rw [idxL_mem hs, hix]
    omega
theorem dfloor_any (z : World) (db : Nat) (n : Int) (ids : List Int) (m : Int → Option CS) (id : Int) (h : RD z db n ids m) (hs : ids.Pairwise (· < ·)) (hm : ∀ x, x ∈ ids ↔ (m x).isSome = true) :
    Fn env.P 27 [.pointer (some ⟨db, 0, none⟩), .int .u64 id] z fun v w' => v = .int .u64 (floorC (m id)) ∧ Fr z w' [] := by
  have h' := h
  obtain ⟨v, hd, lv, hV, _⟩ := h
  obtain ⟨a, cap, rfl⟩ := hV.slice
  obtain ⟨_, hc1, hc2⟩ := hV.len
  have H := Holds.start z []
  have HF := Try.func27; refine Fn.enter Try.func27 Try.ntmps27 rfl rfl rfl ?_
  (refine Run.seq (Run.region ?_); intro K hK)
  refine Ops.pure H (X.assign rfl) rfl rfl rfl ?_
  (refine Ops.nil (hK _ _ (Run.seq (Run.region ?_))); clear hK K; intro K hK)
  refine Ops.pure H (X.move rfl) rfl rfl rfl ?_
  refine Ops.pure H (X.move rfl) rfl rfl rfl ?_
  refine Ops.eff rfl (Y.call rfl rfl (by first | assumption | decide +kernel) rfl (find_any _ db n ids m id (h'.ext H.fr) hs) rfl ?_)
  rintro v w1 ⟨rfl, hf⟩
  replace H := H.ext hf
  have hd1 := H.fr.get hd (by simp)
  by_cases hin : id ∈ ids
  · obtain ⟨hlt, hid⟩ := (idxL_mem hs id).1 hin
    obtain ⟨b, off, cs, rfl, hb, hcs⟩ := hV.pos (by omega)
    have hb1 := H.fr.get hb (by simp)
    obtain ⟨i, hi⟩ : ∃ i, i = idxL ids id := ⟨_, rfl⟩
    rw [← hi] at hlt hid ⊢
    have c1 : cs[off + i * 3 + 1]? = some (.int .u64 (gm m ids i).floor) := (hcs i hlt).get 1 _ rfl
    have nbd : b ≠ db := ne_of_ty hb hd (by decide)
    have F1 := H.fr
    clear H
    have H := ((Holds.start w1 []).add false hb1 (by simp) (by simp)).add false hd1 (by simpa using nbd.symm) (by simp)
    rw [decide_eq_true hin]
    refine Ops.pure H (X.move rfl) rfl rfl rfl ?_
    refine Ops.pure H (X.extract rfl rfl) rfl rfl rfl ?_
    refine Ops.pure H (X.extract rfl rfl) rfl rfl rfl ?_
    refine Ops.pure H (X.assign rfl) rfl rfl rfl ?_
    refine Ops.pure H (X.assign rfl) rfl rfl rfl ?_
    (refine Ops.nil (hK _ _ ?_); clear hK K)
    refine Run.seq ?_
    (refine Run.seq (Run.region ?_); intro K hK)
    refine Ops.pure H (X.move rfl) rfl rfl rfl ?_
    refine Ops.pure H (X.not rfl) rfl rfl rfl ?_
    (refine Ops.nil (hK _ _ ?_); clear hK K)
    refine Run.cond_false rfl ?_
    refine Run.skip ?_
    (refine Run.seq (Run.region ?_); intro K hK)
    refine Ops.pure H (X.move rfl) rfl rfl rfl ?_
    refine Ops.pure H (X.nilCheck rfl) rfl rfl rfl ?_
    refine Ops.pure H (X.fieldAddr rfl rfl rfl rfl rfl rfl) rfl rfl rfl ?_
    refine Ops.pure H (X.load1 rfl rfl rfl rfl Pick.head rfl) rfl rfl rfl ?_
    refine Ops.pure H (X.move rfl) rfl rfl rfl ?_
    refine Ops.pure H (X.indexAddr rfl rfl (by omega) rfl rfl rfl rfl) rfl rfl rfl ?_
    refine Ops.pure H (X.fieldAddr rfl rfl rfl rfl rfl rfl) rfl rfl rfl ?_
    refine Ops.pure H (X.load1 rfl rfl rfl rfl (.tail .head) (by assumption)) rfl rfl rfl ?_
    refine Ops.pure H (X.assign rfl) rfl rfl rfl ?_
    (refine Ops.nil (hK _ _ ?_); clear hK K)
    refine Fn.ret1 HF rfl rfl ?_
    refine ⟨?_, F1.then H.fr⟩
    obtain ⟨s, hs'⟩ := Option.isSome_iff_exists.1 ((hm id).1 hin)
    rw [gm, hid, hs']
    rfl
  · rw [decide_eq_false hin]
    refine Ops.pure H (X.move rfl) rfl rfl rfl ?_
    refine Ops.pure H (X.extract rfl rfl) rfl rfl rfl ?_
    refine Ops.pure H (X.extract rfl rfl) rfl rfl rfl ?_
    refine Ops.pure H (X.assign rfl) rfl rfl rfl ?_
    refine Ops.pure H (X.assign rfl) rfl rfl rfl ?_
    (refine Ops.nil (hK _ _ ?_); clear hK K)
    refine Run.seq ?_
    (refine Run.seq (Run.region ?_); intro K hK)
    refine Ops.pure H (X.move rfl) rfl rfl rfl ?_
    refine Ops.pure H (X.not rfl) rfl rfl rfl ?_
    (refine Ops.nil (hK _ _ ?_); clear hK K)
    refine Run.cond_true rfl ?_
    (refine Run.seq (Run.region ?_); intro K hK)
    refine Ops.pure H (X.assign rfl) rfl rfl rfl ?_
    (refine Ops.nil (hK _ _ ?_); clear hK K)
    refine Fn.ret1 HF rfl rfl ?_
    have : m id = none := by
      cases hx : m id with
      | none => rfl
      | some s => exact absurd ((hm id).2 (by rw [hx]; rfl)) hin
    rw [this]
    exact ⟨rfl, H.fr⟩
theorem dAsk_any (z : World) (db : Nat) (n : Int) (ids : List Int) (m : Int → Option CS) (id seq : Int) (h : RD z db n ids m) (hs : ids.Pairwise (· < ·)) (hm : ∀ x, x ∈ ids ↔ (m x).isSome = true) (hk : ∀ x s, m x = some s → ∀ y, (s.ans y).isSome = true ↔ y ∈ s.seqs) :
    Fn env.P 26 [.pointer (some ⟨db, 0, none⟩), .int .u64 id, .int .u64 seq] z fun v w' => Fr z w' [] ∧ ∃ b, v = .tuple #[.int .i64 (if seq = 0 then 0 else askK (m id) seq), b, .int .i64 (if seq = 0 then 1 else 0)] ∧ Ans w' b (if seq = 0 then [] else askB (m id) seq) := by
  have h' := h
  obtain ⟨v, hd, lv, hV, hL⟩ := h
  obtain ⟨a, cap, rfl⟩ := hV.slice
  obtain ⟨_, hc1, hc2⟩ := hV.len
  have H := Holds.start z []
  have HF := Try.func26; refine Fn.enter Try.func26 Try.ntmps26 rfl rfl rfl ?_
  (refine Run.seq (Run.region ?_); intro K hK)
  refine Ops.pure H (X.assign rfl) rfl rfl rfl ?_
  refine Ops.pure H (X.assign rfl) rfl rfl rfl ?_
  refine Ops.pure H (X.assign rfl) rfl rfl rfl ?_
  (refine Ops.nil (hK _ _ ?_); clear hK K)
  refine Run.seq ?_
  (refine Run.seq (Run.region ?_); intro K hK)
  refine Ops.pure H (X.move rfl) rfl rfl rfl ?_
  refine Ops.pure H (X.cmp rfl rfl rfl) rfl rfl rfl ?_
  (refine Ops.nil (hK _ _ ?_); clear hK K)
  refine Run.cond_dec rfl (fun h14 => ?x5) (fun h14 => ?y5)
  case' y5 =>
    refine Run.skip ?_
    (refine Run.seq (Run.region ?_); intro K hK)
    refine Ops.pure H (X.move rfl) rfl rfl rfl ?_
    refine Ops.pure H (X.move rfl) rfl rfl rfl ?_
  case' x5 =>
    (refine Run.seq (Run.region ?_); intro K hK)
    refine Ops.pure H (X.assign rfl) rfl rfl rfl ?_
    refine Ops.pure H (X.assign rfl) rfl rfl rfl ?_
    refine Ops.pure H (X.assign rfl) rfl rfl rfl ?_
    (refine Ops.nil (hK _ _ ?_); clear hK K)
  · refine Fn.ret3 HF rfl rfl rfl rfl ?_
    exact ⟨H.fr, .slice none 0 0, by simp [h14], by simpa [h14] using Ans.nil⟩
  refine Ops.eff rfl (Y.call rfl rfl (by first | assumption | decide +kernel) rfl (find_any _ db n ids m id (h'.ext H.fr) hs) rfl ?_)
  rintro v w1 ⟨rfl, hf⟩
  replace H := H.ext hf
  have hd1 := H.fr.get hd (by simp)
  by_cases hin : id ∈ ids
  · obtain ⟨hlt, hid⟩ := (idxL_mem hs id).1 hin
    obtain ⟨b, off, cs, rfl, hb, hcs⟩ := hV.pos (by omega)
    have hb1 := H.fr.get hb (by simp)
    obtain ⟨i, hi⟩ : ∃ i, i = idxL ids id := ⟨_, rfl⟩
    rw [← hi] at hlt hid ⊢
    obtain ⟨s, hsm⟩ := Option.isSome_iff_exists.1 ((hm id).1 hin)
    have hg : gm m ids i = s := by rw [gm, hid, hsm]; rfl
    have hci := hcs i hlt
    have hLi := hL i hlt
    rw [hg] at hci hLi
    obtain ⟨bv, hV2, hA⟩ := hLi
    obtain ⟨la, lcap, hlv⟩ := hV2.slice
    obtain ⟨_, hl1, hl2⟩ := (hlv ▸ hV2).len
    rw [hlv] at hci hV2
    have nbd : b ≠ db := ne_of_ty hb hd (by decide)
    have F1 := H.fr
    clear H
    have H := ((Holds.start w1 []).add false hb1 (by simp) (by simp)).add false hd1 (by simpa using nbd.symm) (by simp)
    rw [decide_eq_true hin]
    have c0 : cs[off + i * 3]? = some (.int .u64 (ids.getD i 0)) := hci.get 0 _ rfl
    by_cases hle : seq ≤ s.floor
    · refine Ops.pure H (X.move rfl) rfl rfl rfl ?_
      refine Ops.pure H (X.extract rfl rfl) rfl rfl rfl ?_
      refine Ops.pure H (X.extract rfl rfl) rfl rfl rfl ?_
      refine Ops.pure H (X.assign rfl) rfl rfl rfl ?_
      refine Ops.pure H (X.assign rfl) rfl rfl rfl ?_
      (refine Ops.nil (hK _ _ ?_); clear hK K)
      refine Run.seq ?_
      (refine Run.seq (Run.region ?_); intro K hK)
      refine Ops.pure H (X.move rfl) rfl rfl rfl ?_
      refine Ops.pure H (X.not rfl) rfl rfl rfl ?_
      (refine Ops.nil (hK _ _ ?_); clear hK K)
      refine Run.cond_false rfl ?_
      refine Run.skip ?_
      (refine Run.seq (Run.region ?_); intro K hK)
      refine Ops.pure H (X.move rfl) rfl rfl rfl ?_
      refine Ops.pure H (X.nilCheck rfl) rfl rfl rfl ?_
      refine Ops.pure H (X.fieldAddr rfl rfl rfl rfl rfl rfl) rfl rfl rfl ?_
      refine Ops.pure H (X.load1 rfl rfl rfl rfl Pick.head rfl) rfl rfl rfl ?_
      refine Ops.pure H (X.move rfl) rfl rfl rfl ?_
      refine Ops.pure H (X.indexAddr rfl rfl (by omega) rfl rfl rfl rfl) rfl rfl rfl ?_
      refine Ops.pure H (X.loadN rfl rfl rfl (.tail .head) (by assumption)) rfl rfl rfl ?_
      (refine Ops.eff rfl (Y.alloc rfl rfl rfl H ?_); intro b11 w H0 hb11; clear H; have H := H0; clear H0)
      (refine Ops.eff rfl (Y.storeO rfl rfl rfl rfl rfl rfl H Upd.head rfl ?_); intro w H0; clear H; have H := H0; clear H0)
      (refine Ops.nil (hK _ _ ?_); clear hK K)
      refine Run.seq ?_
      (refine Run.seq (Run.region ?_); intro K hK)
      refine Ops.pure H (X.move rfl) rfl rfl rfl ?_
      refine Ops.pure H (X.fieldAddr rfl rfl rfl rfl rfl rfl) rfl rfl rfl ?_
      refine Ops.pure H (X.load1 rfl rfl rfl rfl Pick.head rfl) rfl rfl rfl ?_
      refine Ops.pure H (X.cmp rfl rfl rfl) rfl rfl rfl ?_
      (refine Ops.nil (hK _ _ ?_); clear hK K)
      refine Run.cond_dec rfl (fun h33 => ?x6) (fun h33 => ?y6)
      case' y6 => exfalso; omega
      case' x6 =>
        (refine Run.seq (Run.region ?_); intro K hK)
        refine Ops.pure H (X.assign rfl) rfl rfl rfl ?_
        refine Ops.pure H (X.assign rfl) rfl rfl rfl ?_
        refine Ops.pure H (X.assign rfl) rfl rfl rfl ?_
        (refine Ops.nil (hK _ _ ?_); clear hK K)
      refine Fn.ret3 HF rfl rfl rfl rfl ?_
      exact ⟨F1.then H.fr, .slice none 0 0, by simp [h14, askK, hsm, hle], by simpa [h14, askB, hsm, hle] using Ans.nil⟩
    · refine Ops.pure H (X.move rfl) rfl rfl rfl ?_
      refine Ops.pure H (X.extract rfl rfl) rfl rfl rfl ?_
      refine Ops.pure H (X.extract rfl rfl) rfl rfl rfl ?_
      refine Ops.pure H (X.assign rfl) rfl rfl rfl ?_
      refine Ops.pure H (X.assign rfl) rfl rfl rfl ?_
      (refine Ops.nil (hK _ _ ?_); clear hK K)
      refine Run.seq ?_
      (refine Run.seq (Run.region ?_); intro K hK)
      refine Ops.pure H (X.move rfl) rfl rfl rfl ?_
      refine Ops.pure H (X.not rfl) rfl rfl rfl ?_
      (refine Ops.nil (hK _ _ ?_); clear hK K)
      refine Run.cond_false rfl ?_
      refine Run.skip ?_
      (refine Run.seq (Run.region ?_); intro K hK)
      refine Ops.pure H (X.move rfl) rfl rfl rfl ?_
      refine Ops.pure H (X.nilCheck rfl) rfl rfl rfl ?_
      refine Ops.pure H (X.fieldAddr rfl rfl rfl rfl rfl rfl) rfl rfl rfl ?_
      refine Ops.pure H (X.load1 rfl rfl rfl rfl Pick.head rfl) rfl rfl rfl ?_
      refine Ops.pure H (X.move rfl) rfl rfl rfl ?_
      refine Ops.pure H (X.indexAddr rfl rfl (by omega) rfl rfl rfl rfl) rfl rfl rfl ?_
      refine Ops.pure H (X.loadN rfl rfl rfl (.tail .head) (by assumption)) rfl rfl rfl ?_
      (refine Ops.eff rfl (Y.alloc rfl rfl rfl H ?_); intro b11 w H0 hb11; clear H; have H := H0; clear H0)
      (refine Ops.eff rfl (Y.storeO rfl rfl rfl rfl rfl rfl H Upd.head rfl ?_); intro w H0; clear H; have H := H0; clear H0)
      (refine Ops.nil (hK _ _ ?_); clear hK K)
      refine Run.seq ?_
      (refine Run.seq (Run.region ?_); intro K hK)
      refine Ops.pure H (X.move rfl) rfl rfl rfl ?_
      refine Ops.pure H (X.fieldAddr rfl rfl rfl rfl rfl rfl) rfl rfl rfl ?_
      refine Ops.pure H (X.load1 rfl rfl rfl rfl Pick.head rfl) rfl rfl rfl ?_
      refine Ops.pure H (X.cmp rfl rfl rfl) rfl rfl rfl ?_
      (refine Ops.nil (hK _ _ ?_); clear hK K)
      refine Run.cond_dec rfl (fun h33 => ?x7) (fun h33 => ?y7)
      case' y7 =>
        refine Run.skip ?_
        refine Run.seq ?_
        (refine Run.seq (Run.region ?_); intro K hK)
        refine Ops.pure H (X.assign rfl) rfl rfl rfl ?_
        (refine Ops.nil (hK _ _ ?_); clear hK K)
        refine Run.block ?_
      case' x7 => exfalso; omega
      have hcp := H.pick (b := b11) (by repeat (first | exact .head | apply Pick.tail))
      refine Run.rounds (fun (k : Nat) => [(2, .int .u64 seq), (11, .pointer (some ⟨b11, 0, none⟩)), (12, .int .i64 (k : Nat))]) (fun k w' => Fr z w' [] ∧ k ≤ s.seqs.length ∧ (∀ j, j < k → s.seqs.getD j 0 ≠ seq) ∧ w'.heap[b11]? = some (row [.int .u64 (ids.getD i 0), .int .u64 s.floor, .slice la s.seqs.length lcap] 84)) (fun k => s.seqs.length - k) 0 (by repeat (first | exact trivial | refine ⟨rfl, ?_⟩)) ⟨F1.then H.fr, by omega, by intro j hj; omega, hcp⟩ ?_
      clear H hcp
      rintro k w2 ⟨hf2, hk2, hno, hcp⟩ IH
      by_cases hkl : k < s.seqs.length
      · obtain ⟨b2, off2, cs2, rfl, hb2, hcs2⟩ := hV2.pos (by omega)
        have hck := hcs2 k hkl
        obtain ⟨ba, bcap, hbv⟩ := (hA k hkl).slice
        have hAk := hA k hkl
        rw [hbv] at hck hAk
        have c20 : cs2[off2 + k * 2 + 0]? = some (.int .u64 (s.seqs.getD k 0)) := hck.get 0 _ rfl
        have c21 : cs2[off2 + k * 2 + 1]? = some (.slice ba ((s.ans (s.seqs.getD k 0)).getD []).length bcap) := hck.get 1 _ rfl
        have hb22 := hf2.get hb2 (by simp)
        have n2 : b2 ≠ b11 := ne_of_ty hb22 hcp (by decide)
        have H := ((Holds.start w2 []).add false hb22 (by simp) (by simp)).add false hcp (by simpa using n2.symm) (by simp)
        by_cases heq : s.seqs.getD k 0 = seq
        · refine Run.seq ?_
          (refine Run.seq (Run.region ?_); intro K hK)
          refine Ops.pure H (X.move rfl) rfl rfl rfl ?_
          refine Ops.pure H (X.fieldAddr rfl rfl rfl rfl rfl rfl) rfl rfl rfl ?_
          refine Ops.pure H (X.load1 rfl rfl rfl rfl Pick.head rfl) rfl rfl rfl ?_
          refine Ops.pure H (X.len_slice rfl rfl rfl) rfl rfl rfl ?_
          refine Ops.pure H (X.cmp rfl rfl rfl) rfl rfl rfl ?_
          (refine Ops.nil (hK _ _ ?_); clear hK K)
          refine Run.cond_dec rfl (fun h38 => ?x8) (fun h38 => ?y8)
          case' y8 => exfalso; omega
          case' x8 =>
            refine Run.skip ?_
            refine Run.seq ?_
            refine Run.block ?_
            (refine Run.seq (Run.region ?_); intro K hK)
            refine Ops.pure H (X.fieldAddr rfl rfl rfl rfl rfl rfl) rfl rfl rfl ?_
            refine Ops.pure H (X.load1 rfl rfl rfl rfl Pick.head rfl) rfl rfl rfl ?_
            refine Ops.pure H (X.move rfl) rfl rfl rfl ?_
            refine Ops.pure H (X.indexAddr rfl rfl (by omega) rfl rfl rfl rfl) rfl rfl rfl ?_
            refine Ops.pure H (X.fieldAddr rfl rfl rfl rfl rfl rfl) rfl rfl rfl ?_
            refine Ops.pure H (X.load1 rfl rfl rfl rfl (.tail .head) (by assumption)) rfl rfl rfl ?_
            refine Ops.pure H (X.move rfl) rfl rfl rfl ?_
            refine Ops.pure H (X.cmp rfl rfl rfl) rfl rfl rfl ?_
            (refine Ops.nil (hK _ _ ?_); clear hK K)
            refine Run.cond_dec rfl (fun h48 => ?x9) (fun h48 => ?y9)
            case' y9 => exfalso; omega
            case' x9 =>
              refine Run.seq ?_
              (refine Run.draw H [] [0, 1, 2, 3, 4, 5, 6, 7, 8] ?_; clear H; intro K hK w H)
              refine Draw.take0 rfl (X.fieldAddr rfl rfl rfl rfl rfl rfl) rfl rfl rfl (by decide +kernel) ?_
              refine Draw.take rfl (X.load1 rfl rfl rfl rfl Pick.head rfl) rfl rfl rfl (by decide +kernel) ?_
              refine Draw.take0 rfl (X.move rfl) rfl rfl rfl (by decide +kernel) ?_
              refine Draw.take0 rfl (X.indexAddr rfl rfl (by omega) rfl rfl rfl rfl) rfl rfl rfl (by decide +kernel) ?_
              refine Draw.take0 rfl (X.fieldAddr rfl rfl rfl rfl rfl rfl) rfl rfl rfl (by decide +kernel) ?_
              refine Draw.take rfl (X.load1 rfl rfl rfl rfl (.tail .head) (by assumption)) rfl rfl rfl (by decide +kernel) ?_
              refine Draw.take0 rfl (X.assign rfl) rfl rfl rfl (by decide +kernel) ?_
              refine Draw.take0 rfl (X.assign rfl) rfl rfl rfl (by decide +kernel) ?_
              refine Draw.take0 rfl (X.assign rfl) rfl rfl rfl (by decide +kernel) ?_
              (refine Draw.done (by decide +kernel) (hK _ _ ?_); clear hK K)
          refine Fn.ret3 HF rfl rfl rfl rfl ?_
          have hsome : (s.ans seq).isSome = true := (hk id s hsm seq).2 (by rw [← heq]; simp [hkl])
          refine ⟨hf2.then H.fr, .slice ba ((s.ans (s.seqs.getD k 0)).getD []).length bcap, ?_, ?_⟩
          · rw [if_neg h14, if_neg h14, hsm, askK, if_neg hle, if_pos hsome]
          · rw [if_neg h14, hsm, askB, if_neg hle, ← heq]
            exact hAk.keep (hf2.then H.fr) (by simp)
        · refine Run.seq ?_
          (refine Run.seq (Run.region ?_); intro K hK)
          refine Ops.pure H (X.move rfl) rfl rfl rfl ?_
          refine Ops.pure H (X.fieldAddr rfl rfl rfl rfl rfl rfl) rfl rfl rfl ?_
          refine Ops.pure H (X.load1 rfl rfl rfl rfl Pick.head rfl) rfl rfl rfl ?_
          refine Ops.pure H (X.len_slice rfl rfl rfl) rfl rfl rfl ?_
          refine Ops.pure H (X.cmp rfl rfl rfl) rfl rfl rfl ?_
          (refine Ops.nil (hK _ _ ?_); clear hK K)
          refine Run.cond_dec rfl (fun h38 => ?x10) (fun h38 => ?y10)
          case' y10 => exfalso; omega
          case' x10 =>
            refine Run.skip ?_
            refine Run.seq ?_
            refine Run.block ?_
            (refine Run.seq (Run.region ?_); intro K hK)
            refine Ops.pure H (X.fieldAddr rfl rfl rfl rfl rfl rfl) rfl rfl rfl ?_
            refine Ops.pure H (X.load1 rfl rfl rfl rfl Pick.head rfl) rfl rfl rfl ?_
            refine Ops.pure H (X.move rfl) rfl rfl rfl ?_
            refine Ops.pure H (X.indexAddr rfl rfl (by omega) rfl rfl rfl rfl) rfl rfl rfl ?_
            refine Ops.pure H (X.fieldAddr rfl rfl rfl rfl rfl rfl) rfl rfl rfl ?_
            refine Ops.pure H (X.load1 rfl rfl rfl rfl (.tail .head) (by assumption)) rfl rfl rfl ?_
            refine Ops.pure H (X.move rfl) rfl rfl rfl ?_
            refine Ops.pure H (X.cmp rfl rfl rfl) rfl rfl rfl ?_
            (refine Ops.nil (hK _ _ ?_); clear hK K)
            refine Run.cond_dec rfl (fun h48 => ?x11) (fun h48 => ?y11)
            case' y11 =>
              refine Run.skip ?_
              refine Run.inBlock ?_
              (refine Run.region ?_; intro K hK)
              refine Ops.pure H (X.move rfl) rfl rfl rfl ?_
              refine Ops.pure H (X.succ rfl rfl (by omega)) rfl rfl rfl ?_
              refine Ops.pure H (X.assign rfl) rfl rfl rfl ?_
              (refine Ops.nil (hK _ _ ?_); clear hK K)
            case' x11 => exfalso; omega
          refine (IH (k + 1) _ (by omega) ⟨hf2.then H.fr, by omega, fun j hj => ?_, H.pick (b := b11) (by repeat (first | exact .head | apply Pick.tail))⟩).weak (by repeat (first | exact trivial | refine ⟨rfl, ?_⟩))
          rcases Nat.lt_succ_iff_lt_or_eq.1 hj with h | rfl
          · exact hno j h
          · exact heq
      · obtain rfl : k = s.seqs.length := by omega
        have H := (Holds.start w2 []).add false hcp (by simp) (by simp)
        refine Run.seq ?_
        (refine Run.seq (Run.region ?_); intro K hK)
        refine Ops.pure H (X.move rfl) rfl rfl rfl ?_
        refine Ops.pure H (X.fieldAddr rfl rfl rfl rfl rfl rfl) rfl rfl rfl ?_
        refine Ops.pure H (X.load1 rfl rfl rfl rfl Pick.head rfl) rfl rfl rfl ?_
        refine Ops.pure H (X.len_slice rfl rfl rfl) rfl rfl rfl ?_
        refine Ops.pure H (X.cmp rfl rfl rfl) rfl rfl rfl ?_
        (refine Ops.nil (hK _ _ ?_); clear hK K)
        refine Run.cond_dec rfl (fun h38 => ?x12) (fun h38 => ?y12)
        case' y12 =>
          refine Run.exit rfl ?_
          (refine Run.seq (Run.region ?_); intro K hK)
          refine Ops.pure H (X.assign rfl) rfl rfl rfl ?_
          refine Ops.pure H (X.assign rfl) rfl rfl rfl ?_
          refine Ops.pure H (X.assign rfl) rfl rfl rfl ?_
          (refine Ops.nil (hK _ _ ?_); clear hK K)
        case' x12 => exfalso; omega
        refine Fn.ret3 HF rfl rfl rfl rfl ?_
        have hnone : s.ans seq = none := by
          cases hx : s.ans seq with
          | none => rfl
          | some y =>
            obtain ⟨j, hj, e⟩ := List.getElem_of_mem ((hk id s hsm seq).1 (by rw [hx]; rfl))
            exact absurd (by simp [hj, e]) (hno j hj)
        exact ⟨hf2.then H.fr, .slice none 0 0, by simp [h14, askK, hsm, hle, hnone], by simpa [h14, askB, hsm, hle, hnone] using Ans.nil⟩
  · rw [decide_eq_false hin]
    have : m id = none := by
      cases hx : m id with
      | none => rfl
      | some s => exact absurd ((hm id).2 (by rw [hx]; rfl)) hin
    refine Ops.pure H (X.move rfl) rfl rfl rfl ?_
    refine Ops.pure H (X.extract rfl rfl) rfl rfl rfl ?_
    refine Ops.pure H (X.extract rfl rfl) rfl rfl rfl ?_
    refine Ops.pure H (X.assign rfl) rfl rfl rfl ?_
    refine Ops.pure H (X.assign rfl) rfl rfl rfl ?_
    (refine Ops.nil (hK _ _ ?_); clear hK K)
    refine Run.seq ?_
    (refine Run.seq (Run.region ?_); intro K hK)
    refine Ops.pure H (X.move rfl) rfl rfl rfl ?_
    refine Ops.pure H (X.not rfl) rfl rfl rfl ?_
    (refine Ops.nil (hK _ _ ?_); clear hK K)
    refine Run.cond_true rfl ?_
    (refine Run.seq (Run.region ?_); intro K hK)
    refine Ops.pure H (X.assign rfl) rfl rfl rfl ?_
    refine Ops.pure H (X.assign rfl) rfl rfl rfl ?_
    refine Ops.pure H (X.assign rfl) rfl rfl rfl ?_
    (refine Ops.nil (hK _ _ ?_); clear hK K)
    refine Fn.ret3 HF rfl rfl rfl rfl ?_
    exact ⟨H.fr, .slice none 0 0, by simp [h14, askK, this], by simpa [h14, askB, this] using Ans.nil⟩
theorem dlen_any (z : World) (db : Nat) (n : Int) (ids : List Int) (m : Int → Option CS) (h : RD z db n ids m) (hN : ids.length ≤ 1024) (h64 : ∀ x s, m x = some s → s.seqs.length ≤ 64) :
    Fn env.P 35 [.pointer (some ⟨db, 0, none⟩)] z fun v w' => v = .int .i64 ((ids.map fun x => ((m x).getD cs0).seqs.length).sum : Nat) ∧ Fr z w' [] := by
  obtain ⟨v, hd, lv, hV, hL⟩ := h
  obtain ⟨a, cap, rfl⟩ := hV.slice
  obtain ⟨_, hc1, hc2⟩ := hV.len
  have H := Holds.start z []
  have HF := Try.func35; refine Fn.enter Try.func35 Try.ntmps35 rfl rfl rfl ?_
  (refine Run.seq (Run.region ?_); intro K hK)
  refine Ops.pure H (X.assign rfl) rfl rfl rfl ?_
  (refine Ops.nil (hK _ _ (Run.seq (Run.region ?_))); clear hK K; intro K hK)
  refine Ops.pure H (X.assign rfl) rfl rfl rfl ?_
  (refine Ops.nil (hK _ _ ?_); clear hK K)
  refine Run.seq ?_
  (refine Run.seq (Run.region ?_); intro K hK)
  refine Ops.pure H (X.assign rfl) rfl rfl rfl ?_
  (refine Ops.nil (hK _ _ ?_); clear hK K)
  refine Run.block ?_
  have hle : ∀ i, i ≤ ids.length → ((ids.take i).map fun x => ((m x).getD cs0).seqs.length).sum ≤ 64 * i := by
    intro i
    induction i with
    | zero => simp
    | succ i ih =>
      intro hi
      have hi' : i < ids.length := by omega
      have := ih (by omega)
      rw [List.take_succ_eq_append_getElem hi', List.map_append, List.sum_append]
      have h1 : ((m ids[i]).getD cs0).seqs.length ≤ 64 := by
        cases hx : m ids[i] with
        | none => simp [cs0]
        | some s => simpa using h64 _ s hx
      simp only [List.map_cons, List.map_nil, List.sum_cons, List.sum_nil]
      omega
  refine Run.rounds (fun (i : Nat) => [(0, .pointer (some ⟨db, 0, none⟩)), (3, .int .i64 (((ids.take i).map fun x => ((m x).getD cs0).seqs.length).sum : Nat)), (4, .int .i64 (i : Nat))]) (fun i w' => Fr z w' [] ∧ i ≤ ids.length) (fun i => ids.length - i) 0 (by repeat (first | exact trivial | refine ⟨rfl, ?_⟩)) ⟨H.fr, by omega⟩ ?_
  clear H
  rintro i w1 ⟨hf, hi⟩ IH
  have hd1 := hf.get hd (by simp)
  by_cases hin : i < ids.length
  · obtain ⟨b, off, cs, rfl, hb, hcs⟩ := hV.pos (by omega)
    have hb1 := hf.get hb (by simp)
    have hci := hcs i hin
    obtain ⟨bv, hV2, _⟩ := hL i hin
    obtain ⟨la, lcap, hlv⟩ := hV2.slice
    obtain ⟨_, hl1, hl2⟩ := (hlv ▸ hV2).len
    rw [hlv] at hci
    have c2 : cs[off + i * 3 + 2]? = some (.slice la (gm m ids i).seqs.length lcap) := hci.get 2 _ rfl
    have nbd : b ≠ db := ne_of_ty hb hd (by decide)
    have H := ((Holds.start w1 []).add false hb1 (by simp) (by simp)).add false hd1 (by simpa using nbd.symm) (by simp)
    have hle1 := hle (i + 1) (by omega)
    have hsum : ((ids.take (i + 1)).map fun x => ((m x).getD cs0).seqs.length).sum = ((ids.take i).map fun x => ((m x).getD cs0).seqs.length).sum + (gm m ids i).seqs.length := by
      rw [List.take_succ_eq_append_getElem hin, List.map_append, List.sum_append]
      simp [gm, hin]
    rw [hsum] at hle1
    refine Run.seq ?_
    (refine Run.seq (Run.region ?_); intro K hK)
    refine Ops.pure H (X.move rfl) rfl rfl rfl ?_
    refine Ops.pure H (X.move rfl) rfl rfl rfl ?_
    refine Ops.pure H (X.nilCheck rfl) rfl rfl rfl ?_
    refine Ops.pure H (X.fieldAddr rfl rfl rfl rfl rfl rfl) rfl rfl rfl ?_
    refine Ops.pure H (X.load1 rfl rfl rfl rfl Pick.head rfl) rfl rfl rfl ?_
    refine Ops.pure H (X.len_slice rfl rfl rfl) rfl rfl rfl ?_
    refine Ops.pure H (X.cmp rfl rfl rfl) rfl rfl rfl ?_
    (refine Ops.nil (hK _ _ ?_); clear hK K)
    refine Run.cond_dec rfl (fun h11 => ?x13) (fun h11 => ?y13)
    case' y13 => exfalso; omega
    case' x13 =>
      refine Run.skip ?_
      refine Run.seq ?_
      refine Run.block ?_
      (refine Run.region ?_; intro K hK)
      refine Ops.pure H (X.move rfl) rfl rfl rfl ?_
      refine Ops.pure H (X.move rfl) rfl rfl rfl ?_
      refine Ops.pure H (X.nilCheck rfl) rfl rfl rfl ?_
      refine Ops.pure H (X.fieldAddr rfl rfl rfl rfl rfl rfl) rfl rfl rfl ?_
      refine Ops.pure H (X.load1 rfl rfl rfl rfl Pick.head rfl) rfl rfl rfl ?_
      refine Ops.pure H (X.move rfl) rfl rfl rfl ?_
      refine Ops.pure H (X.indexAddr rfl rfl (by omega) rfl rfl rfl rfl) rfl rfl rfl ?_
      refine Ops.pure H (X.fieldAddr rfl rfl rfl rfl rfl rfl) rfl rfl rfl ?_
      refine Ops.pure H (X.load1 rfl rfl rfl rfl (.tail .head) (by assumption)) rfl rfl rfl ?_
      refine Ops.pure H (X.len_slice rfl rfl rfl) rfl rfl rfl ?_
      refine Ops.pure H (X.addN rfl rfl rfl rfl (IntWalk.i64_in _ (by omega))) rfl rfl rfl ?_
      refine Ops.pure H (X.assign rfl) rfl rfl rfl ?_
      (refine Ops.nil (hK _ _ ?_); clear hK K)
      refine Run.inBlock ?_
      (refine Run.region ?_; intro K hK)
      refine Ops.pure H (X.move rfl) rfl rfl rfl ?_
      refine Ops.pure H (X.succ rfl rfl (by omega)) rfl rfl rfl ?_
      refine Ops.pure H (X.assign rfl) rfl rfl rfl ?_
      (refine Ops.nil (hK _ _ ?_); clear hK K)
    refine (IH (i + 1) _ (by omega) ⟨hf.then H.fr, by omega⟩).weak ?_
    rw [hsum]
    exact (by repeat (first | exact trivial | refine ⟨rfl, ?_⟩))
  · obtain rfl : i = ids.length := by omega
    have H := (Holds.start w1 []).add false hd1 (by simp) (by simp)
    refine Run.seq ?_
    (refine Run.seq (Run.region ?_); intro K hK)
    refine Ops.pure H (X.move rfl) rfl rfl rfl ?_
    refine Ops.pure H (X.move rfl) rfl rfl rfl ?_
    refine Ops.pure H (X.nilCheck rfl) rfl rfl rfl ?_
    refine Ops.pure H (X.fieldAddr rfl rfl rfl rfl rfl rfl) rfl rfl rfl ?_
    refine Ops.pure H (X.load1 rfl rfl rfl rfl Pick.head rfl) rfl rfl rfl ?_
    refine Ops.pure H (X.len_slice rfl rfl rfl) rfl rfl rfl ?_
    refine Ops.pure H (X.cmp rfl rfl rfl) rfl rfl rfl ?_
    (refine Ops.nil (hK _ _ ?_); clear hK K)
    refine Run.cond_dec rfl (fun h11 => ?x14) (fun h11 => ?y14)
    case' y14 =>
      refine Run.exit rfl ?_
      (refine Run.seq (Run.region ?_); intro K hK)
      refine Ops.pure H (X.move rfl) rfl rfl rfl ?_
      refine Ops.pure H (X.assign rfl) rfl rfl rfl ?_
      (refine Ops.nil (hK _ _ ?_); clear hK K)
    case' x14 => exfalso; omega
    refine Fn.ret1 HF rfl rfl ?_
    rw [List.take_length]
    exact ⟨rfl, hf.then H.fr⟩
end Go.Proofs.Ytaneenahapdabaa
