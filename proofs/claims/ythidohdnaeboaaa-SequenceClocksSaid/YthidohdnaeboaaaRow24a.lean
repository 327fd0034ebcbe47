/- Which numbers clocks give: the law SequenceClocks, called with whatever arguments can be read, returns true, and each argument reads behind the call as it read before. No conditions. -/
import Derived.Test.YthidohdnaeboaaaRows
import Derived.Test.YthidohdnaeboaaaEngR
import Derived.Test.YthidohdnaeboaaaS2
namespace Go.Proofs.Ythidohdnaeboaaa.sequenceClocks
open Go Go.ChangeShapes Go.WideShapes Go.ChangeAt Go.RowKit
set_option linter.unusedVariables false
set_option maxRecDepth 100000

theorem own : ownKnob Try.prog.godebug = none := by kernel_rfl
theorem laidOut : laidOutB Try.prog = true := by kernel_rfl

section
variable {H : Type} {enc : TypeId × Value → H} {w : World} {spare : Nat → Bool} {held : Bool}
theorem tick_of_trod {fuel : Nat} {cs : List Value} {x : DataW H × List MemPlace} (h : DataW.trod enc env.P w 0 spare held fuel 34 cs = some x) :
    ∃ p : Bool × Int, cs = [.bool p.1, .int .u64 p.2] ∧ 0 ≤ p.2 ∧ p.2 ≤ 18446744073709551615 := by
  obtain ⟨hl, hf⟩ := tstruct rfl rfl h
  match cs, hl with
  | [x0, x1], _ =>
    obtain ⟨_, _, h0⟩ := hf 0 0 4 1 rfl rfl
    obtain ⟨_, _, h1⟩ := hf 1 1 30 1 rfl rfl
    obtain ⟨b, hb⟩ := tbool rfl rfl h0
    obtain ⟨n, hn, l, u⟩ := tint .u64 0 18446744073709551615 rfl rfl (by decide) (by decide) h1
    simp at hb hn
    subst hb hn
    exact ⟨(b, n), rfl, l, u⟩

theorem ticks_of_trod {fuel : Nat} {a : Option Addr} {len cap : Nat} {x : DataW H × List MemPlace} (h : DataW.trod enc env.P w 0 spare held fuel 22 [.slice a len cap] = some x) :
    ∃ b off cs T fz sees ids, Ticks w a len b off cs T fz sees ids := by
  obtain ⟨u, n, F, hu, hA, hF⟩ := tarr (sz := 2) rfl rfl rfl rfl h
  obtain ⟨a', cap', rfl, hnc, hcm, hnil, hpos⟩ := hA
  simp at hu
  obtain ⟨rfl, rfl, rfl⟩ := hu
  obtain ⟨f, hf⟩ := Go.Deep.choose_lt (α := Bool × Int) (fun i hi => by obtain ⟨_, _, ht⟩ := hF i hi; exact tick_of_trod ht)
  by_cases hn : 0 < len
  · obtain ⟨b, off, cs, T, fz, rfl, hb, hcs⟩ := hpos hn
    refine ⟨b, off, cs.toList, T, fz, fun i => (f i).1, fun i => (f i).2, by omega, fun _ => ⟨rfl, by simpa using hb⟩, fun j hj => ?_, fun j hj => ?_, fun j hj => (hf j hj).2.1, fun j hj => (hf j hj).2.2⟩
    · exact (hcs j hj).get 0 _ (by rw [(hf j hj).1]; rfl)
    · exact (hcs j hj).get 1 _ (by rw [(hf j hj).1]; rfl)
  · exact ⟨0, 0, [], 0, (0, 0), fun _ => false, fun _ => 0, by omega, fun h => absurd h hn, fun j hj => by omega, fun j hj => by omega, fun j hj => by omega, fun j hj => by omega⟩
end

theorem walk (who : Int) (a : Option Addr) (len cap b off : Nat) (cs : List Value) (T : TypeId) (fz : Nat × Nat) (sees : Nat → Bool) (ids : Nat → Int) (w : World) (ht : Ticks w a len b off cs T fz sees ids) :
    Calls Try.prog 3 #[.int .i64 who, .slice a len cap] w fun e w' => e = .returned (.bool true) ∧ Below w.heap.size w w' := by
  by_cases h : 0 ≤ who ∧ who < 128
  · exact law_calls (clocks_yes w who a len cap b off cs T fz sees ids ht h.1 h.2)
  · exact law_calls (clocks_no w who a len cap b off cs T fz sees ids ht h)

theorem lifted (os : Os) (started : os.Started) (H : Type) (enc : TypeId × Value → H) :
    ReturnsInHanded {} Try.checked os 3 .any (Rows.sequenceClocksSpec.pre6 enc Try.prog Try.f3 Rows.sequenceClocksRow.domain false) (Rows.sequenceClocksSpec.post enc Try.prog Try.f3 false true false false) := by
  refine returnsInHanded_of_change (C := Try.checked) own started (by kernel_rfl) Try.func3
    (ChangeSpec.witness6 (enc := enc) (C := Try.checked) false ⟨#[], #[.int .i64 0, .slice none 0 0], []⟩ 8 (by kernel_rfl) (by kernel_rfl) (by kernel_rfl) (by kernel_rfl)) ?_
  intro W base args ds gs before hval0 hW hcnd _
  have hval : ∀ (j : Nat) t v, Try.f3.params[j]? = some t → args[j]? = some v → Value.okWide Try.prog W .any base t v := hval0
  have hW' := hW
  obtain ⟨p, q, hA0, hV, rfl, hfz, hnd⟩ := hW
  have hA : DataW.TrodAll enc Try.prog W 0 (fun _ => true) true Try.f3.params.toList args.toList ds p := hA0
  rw [Try.params3] at hA hval
  obtain ⟨v0, vs0, d0, ds0, p0, q0, hargs, rfl, rfl, h0, r0⟩ := trodAll_cons hA
  obtain ⟨v1, vs1, d1, ds1, p1, q1, rfl, rfl, rfl, h1, r1⟩ := trodAll_cons r0
  obtain ⟨rfl, rfl, rfl⟩ := trodAll_nil r1
  obtain rfl : args = #[v0, v1] := by cases args; simp_all
  obtain ⟨rfl, rfl⟩ := trodVars_none hV
  have k0 := h0
  have lt0 : ∀ x ∈ p0, x.block < W.heap.size := by obtain ⟨m, hm⟩ := k0; exact DataW.trod_lt m _ _ _ hm
  obtain ⟨x0, rfl, _, _, _⟩ := open_int Try.underlying3 (hval 0 3 v0 rfl rfl) h0
  obtain ⟨a1, len1, cap1, rfl⟩ := okWide_slice Try.underlying22 (hval 1 22 v1 rfl rfl)
  have k1 := h1
  have lt1 : ∀ x ∈ p1, x.block < W.heap.size := by obtain ⟨m, hm⟩ := k1; exact DataW.trod_lt m _ _ _ hm
  obtain ⟨b, off, cs, T, fz, sees, ids, ht⟩ := (by obtain ⟨fuel, hf⟩ := h1; exact ticks_of_trod hf : ∃ b off cs T fz sees ids, Ticks W a1 len1 b off cs T fz sees ids)
  clear hA0 hval0
  refine (walk x0 a1 len1 cap1 b off cs T fz sees ids W ht).mono fun e W' ⟨he, bel⟩ => ?_
  subst he
  exact ⟨_, rfl, _, _, _, [], _, [], hW', trodAll_mk1 (shut_bool Try.underlying4 _), (trodAll_cons_mk (Below.trod laidOut (by kernel_rfl) (of_decide_eq_true (by kernel_rfl)) k0 bel lt0) (trodAll_cons_mk (Below.trod laidOut (by kernel_rfl) (of_decide_eq_true (by kernel_rfl)) k1 bel lt1) trodAll_mk0)), rfl, bel.frame _, fun h => by cases h⟩

theorem over : Rows.sequenceClocksRow.holds Try.pinned (OpenSpec.ofChange Rows.sequenceClocksSpec) :=
  OpenClaim.holds_of_wide 3 Try.f3 rfl rfl rfl rfl rfl rfl rfl ⟨rfl, rfl, rfl, rfl, rfl⟩ rfl rfl rfl rfl rfl (by kernel_rfl) Try.func3 (by kernel_rfl)
    (of_decide_eq_true (by kernel_rfl)) (by unfold Func.isWrapper; first | (rw [if_pos (by decide +kernel)]; kernel_rfl) | (rw [if_neg (by decide +kernel)]; exact ⟨rfl, rfl⟩))
    (fun os started H enc _ => lifted os started H enc)

/-- The statement. -/
theorem proved : Rows.SequenceClocksSaid := over
#print axioms proved
end Go.Proofs.Ythidohdnaeboaaa.sequenceClocks
