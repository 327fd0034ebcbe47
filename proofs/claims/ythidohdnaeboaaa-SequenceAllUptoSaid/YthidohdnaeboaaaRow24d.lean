/- All that an order and its copies tell: the law SequenceAll, called with whatever arguments can be read that are of bulk at most 1048576, returns true, and each argument reads behind the call as it read before. Condition: the given statement's own, the bulk. -/
import Derived.Test.YthidohdnaeboaaaRows
import Derived.Test.YthidohdnaeboaaaEngU
import Derived.Test.YthidohdnaeboaaaL6
import Derived.JoinedCond
namespace Go.Proofs.Ythidohdnaeboaaa.sequenceAll
open Go Go.ChangeShapes Go.WideShapes Go.ChangeAt Go.RowKit
set_option linter.unusedVariables false
set_option maxRecDepth 100000

theorem own : ownKnob Try.prog.godebug = none := by kernel_rfl
theorem laidOut : laidOutB Try.prog = true := by kernel_rfl

section
variable {H : Type} {enc : TypeId × Value → H} {w : World} {spare : Nat → Bool} {held : Bool}
theorem ints_of_trod {fuel : Nat} {v : Value} {x : DataW H × List MemPlace} (h : DataW.trod enc env.P w 0 spare held fuel 48 [v] = some x) :
    ∃ xs, Ints w v xs ∧ xs.length ≤ Rows.uptoBulk x.1 := by
  obtain ⟨u, n, F, hu, hA, hbk, hF⟩ := tarrU (sz := 1) rfl rfl rfl rfl h
  obtain ⟨a, cap, rfl, hnc, hcm, hnil, hpos⟩ := hA
  simp at hu
  subst hu
  obtain ⟨f, hf⟩ := chooseLt (α := Int) (p := fun i v => F i = [.int .i64 v]) (fun i hi => by obtain ⟨_, _, ht, _⟩ := hF i hi; obtain ⟨n, hn, _⟩ := tint .i64 (-9223372036854775808) 9223372036854775807 rfl rfl (by decide) (by decide) ht; exact ⟨n, hn⟩)
  refine ⟨(List.range n).map f, ?_, by simp; omega⟩
  by_cases hn : 0 < n
  · obtain ⟨b, off, cs, T, fz, rfl, hb, hcs⟩ := hpos hn
    refine ⟨_, cap, b, off, cs.toList, T, fz, by simp, by simpa using hnc, hcm, fun _ => ⟨rfl, by simpa using hb⟩, Cs.ofGet _ _ _ (by simp) fun j hj => ?_⟩
    have hj' : j < n := by simpa using hj
    have := (hcs j hj').get 0 _ (by rw [hf j hj']; rfl)
    simp only [Nat.mul_one, Nat.add_zero] at this
    rw [this]
    simp [hj']
  · obtain rfl : n = 0 := by omega
    exact ⟨a, cap, 0, 0, [], 0, (0, 0), rfl, by simp, hcm, fun h => absurd h (Nat.lt_irrefl 0), .nil⟩
theorem act_of_trod {fuel : Nat} {cs : List Value} {x : DataW H × List MemPlace} (h : DataW.trod enc env.P w 0 spare held fuel 50 cs = some x) :
    ∃ a : AV, cs = actC a ∧ Ints w a.v a.xs ∧ (0 ≤ a.id ∧ a.id ≤ 18446744073709551615) ∧ a.xs.length ≤ Rows.uptoBulk x.1 := by
  obtain ⟨hl, hf⟩ := tstructU rfl rfl h
  match cs, hl with
  | [x0, x1, x2, x3, x4, x5, x6], _ =>
    obtain ⟨_, _, h0, _⟩ := hf 0 0 3 1 rfl rfl
    obtain ⟨_, _, h1, _⟩ := hf 1 1 3 1 rfl rfl
    obtain ⟨_, _, h2, _⟩ := hf 2 2 30 1 rfl rfl
    obtain ⟨_, _, h3, _⟩ := hf 3 3 30 1 rfl rfl
    obtain ⟨_, _, h4, _⟩ := hf 4 4 30 1 rfl rfl
    obtain ⟨_, _, h5, hb5⟩ := hf 5 5 48 1 rfl rfl
    obtain ⟨_, _, h6, _⟩ := hf 6 6 4 1 rfl rfl
    obtain ⟨n0, e0, _⟩ := tint .i64 (-9223372036854775808) 9223372036854775807 rfl rfl (by decide) (by decide) h0
    obtain ⟨n1, e1, _⟩ := tint .i64 (-9223372036854775808) 9223372036854775807 rfl rfl (by decide) (by decide) h1
    obtain ⟨n2, e2, _⟩ := tint .u64 0 18446744073709551615 rfl rfl (by decide) (by decide) h2
    obtain ⟨n3, e3, _⟩ := tint .u64 0 18446744073709551615 rfl rfl (by decide) (by decide) h3
    obtain ⟨n4, e4, l4, u4⟩ := tint .u64 0 18446744073709551615 rfl rfl (by decide) (by decide) h4
    obtain ⟨xs, hxs, hxl⟩ := ints_of_trod (v := x5) h5
    obtain ⟨b, hb⟩ := tbool rfl rfl h6
    simp at e0 e1 e2 e3 e4 hb
    subst e0 e1 e2 e3 e4 hb
    exact ⟨⟨n0, n1, n2, n3, n4, x5, xs, b⟩, rfl, hxs, ⟨l4, u4⟩, by dsimp only; omega⟩
instance : Inhabited AV := ⟨⟨0, 0, 0, 0, 0, undef, [], false⟩⟩
theorem acts_of_trod {fuel : Nat} {a : Option Addr} {len cap : Nat} {x : DataW H × List MemPlace} (h : DataW.trod enc env.P w 0 spare held fuel 44 [.slice a len cap] = some x) :
    ∃ b off cs T fz A, Acts w a len b off cs T fz A ∧ ∀ j, j < len → (A j).xs.length ≤ Rows.uptoBulk x.1 := by
  obtain ⟨u, n, F, hu, hA, hbk, hF⟩ := tarrU (sz := 7) rfl rfl rfl rfl h
  obtain ⟨a', cap', rfl, hnc, hcm, hnil, hpos⟩ := hA
  simp at hu
  obtain ⟨rfl, rfl, rfl⟩ := hu
  obtain ⟨f, hf⟩ := chooseLt (α := AV) (p := fun i v => F i = actC v ∧ Ints w v.v v.xs ∧ (0 ≤ v.id ∧ v.id ≤ 18446744073709551615) ∧ v.xs.length ≤ Rows.uptoBulk x.1) (fun i hi => by
    obtain ⟨_, _, ht, hb⟩ := hF i hi
    obtain ⟨v, h1, h2, h3, h4⟩ := act_of_trod ht
    exact ⟨v, h1, h2, h3, by omega⟩)
  by_cases hn : 0 < len
  · obtain ⟨b, off, cs, T, fz, rfl, hb, hcs⟩ := hpos hn
    refine ⟨b, off, cs.toList, T, fz, f, ⟨by omega, fun _ => ⟨rfl, by simpa using hb⟩, fun j hj => ⟨?_, (hf j hj).2.1, (hf j hj).2.2.1⟩⟩, fun j hj => (hf j hj).2.2.2⟩
    have := hcs j hj
    rw [(hf j hj).1] at this
    exact this
  · exact ⟨0, 0, [], 0, (0, 0), fun _ => default, ⟨by omega, fun h => absurd h hn, fun j hj => by omega⟩, fun j hj => by omega⟩
end

theorem walk (n : Int) (aa : Option Addr) (an acap ab aoff : Nat) (acs : List Value) (aT : TypeId) (afz : Nat × Nat) (A : Nat → AV) (w : World) (hA : Acts w aa an ab aoff acs aT afz A) (hB : ∀ j, j < an → (A j).xs.length ≤ 1048576) :
    Calls Try.prog 6 #[.int .i64 n, .slice aa an acap] w fun e w' => e = .returned (.bool true) ∧ Below w.heap.size w w' := by
  by_cases h : 1 ≤ n ∧ n ≤ 64
  · exact law_calls (all_yes w n aa an acap ab aoff acs aT afz A hA hB h.1 h.2)
  · exact law_calls (all_no w n _ h)

theorem lifted (os : Os) (started : os.Started) (H : Type) (enc : TypeId × Value → H) (F : Stop.Interp) :
    ReturnsInHanded {} Try.checked os 6 .any ((Rows.OpenSpec.upto Rows.sequenceAllSpec).pre6 enc Try.prog Try.f6 Rows.sequenceAllUptoRow.domain false) (((Rows.OpenSpec.upto Rows.sequenceAllSpec).at F).post enc Try.prog Try.f6 false true false false) := by
  refine returnsInHanded_of_cond (C := Try.checked) (s := Rows.OpenSpec.upto Rows.sequenceAllSpec) (k := Rows.uptoSmall) rfl own started (by kernel_rfl) Try.func6
    (OpenSpec.witness (enc := enc) (C := Try.checked) (s := Rows.OpenSpec.upto Rows.sequenceAllSpec) (k := Rows.uptoSmall) rfl false ⟨#[], #[.int .i64 0, .slice none 0 0], []⟩ 8 (by kernel_rfl) (by kernel_rfl) (by kernel_rfl)
      (x := ([.lit (.int .i64 0), .nil], [], [])) (by kernel_rfl) rfl (by kernel_rfl)) ?_
  intro W base args ds gs before hval0 hW hcnd hk _
  have hval : ∀ (j : Nat) t v, Try.f6.params[j]? = some t → args[j]? = some v → Value.okWide Try.prog W .any base t v := hval0
  have hW' := hW
  obtain ⟨p, q, hA0, hV, rfl, hfz, hnd⟩ := hW
  have hA : DataW.TrodAll enc Try.prog W 0 (fun _ => true) true Try.f6.params.toList args.toList ds p := hA0
  rw [Try.params6] at hA hval
  obtain ⟨v0, vs0, d0, ds0, p0, q0, hargs, rfl, rfl, h0, r0⟩ := trodAll_cons hA
  obtain ⟨v1, vs1, d1, ds1, p1, q1, rfl, rfl, rfl, h1, r1⟩ := trodAll_cons r0
  obtain ⟨rfl, rfl, rfl⟩ := trodAll_nil r1
  obtain rfl : args = #[v0, v1] := by cases args; simp_all
  obtain ⟨rfl, rfl⟩ := trodVars_none hV
  have k0 := h0
  have lt0 : ∀ x ∈ p0, x.block < W.heap.size := by obtain ⟨m, hm⟩ := k0; exact DataW.trod_lt m _ _ _ hm
  obtain ⟨x0, rfl, _, _, _⟩ := open_int Try.underlying3 (hval 0 3 v0 rfl rfl) h0
  obtain ⟨a1, len1, cap1, rfl⟩ := okWide_slice Try.underlying44 (hval 1 44 v1 rfl rfl)
  have k1 := h1
  have lt1 : ∀ x ∈ p1, x.block < W.heap.size := by obtain ⟨m, hm⟩ := k1; exact DataW.trod_lt m _ _ _ hm
  obtain ⟨b1, off1, cs1, T1, fz1, A1, ht1, hb1⟩ := (by obtain ⟨fuel, hf⟩ := h1; exact acts_of_trod hf : ∃ b off cs T fz A, Acts W a1 len1 b off cs T fz A ∧ ∀ j, j < len1 → (A j).xs.length ≤ Rows.uptoBulk d1)
  have hbk : Rows.uptoBulkAll ([d0, d1] ++ ([] : List (DataW H))) ≤ 1048576 := of_decide_eq_true hk
  have hbd : Rows.uptoBulk d1 ≤ 1048576 := Nat.le_trans (bulk_part (by simp)) hbk
  clear hA0 hval0
  refine (walk x0 a1 len1 cap1 b1 off1 cs1 T1 fz1 A1 W ht1 (fun j hj => Nat.le_trans (hb1 j hj) hbd)).mono fun e W' ⟨he, bel⟩ => ?_
  subst he
  exact ⟨_, rfl, _, _, _, [], _, [], hW', trodAll_mk1 (shut_bool Try.underlying4 _), (trodAll_cons_mk (Below.trod laidOut (by kernel_rfl) (of_decide_eq_true (by kernel_rfl)) k0 bel lt0) (trodAll_cons_mk (Below.trod laidOut (by kernel_rfl) (of_decide_eq_true (by kernel_rfl)) k1 bel lt1) trodAll_mk0)), rfl, bel.frame _, fun h => by cases h⟩

theorem over : Rows.sequenceAllUptoRow.holds Try.pinned (Rows.OpenSpec.upto Rows.sequenceAllSpec) :=
  OpenClaim.holds_of_cond 6 Try.f6 rfl rfl rfl rfl rfl rfl rfl ⟨rfl, rfl, rfl, rfl, rfl⟩ rfl rfl rfl rfl rfl (by kernel_rfl) Try.func6 (by kernel_rfl)
    (of_decide_eq_true (by kernel_rfl)) (by unfold Func.isWrapper; first | (rw [if_pos (by decide +kernel)]; kernel_rfl) | (rw [if_neg (by decide +kernel)]; exact ⟨rfl, rfl⟩))
    (fun os started H enc _ F => lifted os started H enc F)

/-- The statement. -/
theorem proved : Rows.SequenceAllUptoSaid := over
#print axioms proved
end Go.Proofs.Ythidohdnaeboaaa.sequenceAll
