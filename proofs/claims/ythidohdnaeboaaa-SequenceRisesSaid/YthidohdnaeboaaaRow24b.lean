/- Numbers that rise: the law SequenceRises, called with whatever arguments can be read, returns true, and each argument reads behind the call as it read before. No conditions. -/
import Derived.Test.YthidohdnaeboaaaRows
import Derived.Test.YthidohdnaeboaaaEngR
import Derived.Test.YthidohdnaeboaaaO8
namespace Go.Proofs.Ythidohdnaeboaaa.sequenceRises
open Go Go.ChangeShapes Go.WideShapes Go.ChangeAt Go.RowKit
set_option linter.unusedVariables false
set_option maxRecDepth 100000

theorem own : ownKnob Try.prog.godebug = none := by kernel_rfl
theorem laidOut : laidOutB Try.prog = true := by kernel_rfl

section
variable {H : Type} {enc : TypeId × Value → H} {w : World} {spare : Nat → Bool} {held : Bool}
theorem bytes_of_trod {fuel : Nat} {a : Option Addr} {len cap : Nat} {x : DataW H × List MemPlace} (h : DataW.trod enc env.P w 0 spare held fuel 39 [.slice a len cap] = some x) :
    ∃ b off cs T fz xs, Bts w a len b off cs T fz xs := by
  obtain ⟨u, n, F, hu, hA, hF⟩ := tarr (sz := 1) rfl rfl rfl rfl h
  obtain ⟨a', cap', rfl, hnc, hcm, hnil, hpos⟩ := hA
  simp at hu
  obtain ⟨rfl, rfl, rfl⟩ := hu
  obtain ⟨f, hf⟩ := chooseLt (α := Int) (p := fun i v => F i = [.int .u8 v] ∧ 0 ≤ v ∧ v ≤ 255) (fun i hi => by obtain ⟨_, _, ht⟩ := hF i hi; exact tint .u8 0 255 rfl rfl (by decide) (by decide) ht)
  by_cases hn : 0 < len
  · obtain ⟨b, off, cs, T, fz, rfl, hb, hcs⟩ := hpos hn
    refine ⟨b, off, cs.toList, T, fz, f, by omega, fun _ => ⟨rfl, by simpa using hb⟩, fun j hj => ⟨?_, (hf j hj).2⟩⟩
    exact (hcs j hj).get 0 _ (by rw [(hf j hj).1]; rfl)
  · exact ⟨0, 0, [], 0, (0, 0), fun _ => 0, by omega, fun h => absurd h hn, fun j hj => by omega⟩
end

theorem walk (wa ha : Option Addr) (wn wcap hn hcap wb woff hb hoff : Nat) (wcs hcs : List Value) (wT hT : TypeId) (wfz hfz : Nat × Nat) (ws hs : Nat → Int) (w : World) (hw : Bts w wa wn wb woff wcs wT wfz ws) (hh : Bts w ha hn hb hoff hcs hT hfz hs) :
    Calls Try.prog 4 #[.slice wa wn wcap, .slice ha hn hcap] w fun e w' => e = .returned (.bool true) ∧ Below w.heap.size w w' :=
  law_calls (rises_any w wa ha wn wcap hn hcap wb woff hb hoff wcs hcs wT hT wfz hfz ws hs hw hh)

theorem lifted (os : Os) (started : os.Started) (H : Type) (enc : TypeId × Value → H) :
    ReturnsInHanded {} Try.checked os 4 .any (Rows.sequenceRisesSpec.pre6 enc Try.prog Try.f4 Rows.sequenceRisesRow.domain false) (Rows.sequenceRisesSpec.post enc Try.prog Try.f4 false true false false) := by
  refine returnsInHanded_of_change (C := Try.checked) own started (by kernel_rfl) Try.func4
    (ChangeSpec.witness6 (enc := enc) (C := Try.checked) false ⟨#[], #[.slice none 0 0, .slice none 0 0], []⟩ 8 (by kernel_rfl) (by kernel_rfl) (by kernel_rfl) (by kernel_rfl)) ?_
  intro W base args ds gs before hval0 hW hcnd _
  have hval : ∀ (j : Nat) t v, Try.f4.params[j]? = some t → args[j]? = some v → Value.okWide Try.prog W .any base t v := hval0
  have hW' := hW
  obtain ⟨p, q, hA0, hV, rfl, hfz, hnd⟩ := hW
  have hA : DataW.TrodAll enc Try.prog W 0 (fun _ => true) true Try.f4.params.toList args.toList ds p := hA0
  rw [Try.params4] at hA hval
  obtain ⟨v0, vs0, d0, ds0, p0, q0, hargs, rfl, rfl, h0, r0⟩ := trodAll_cons hA
  obtain ⟨v1, vs1, d1, ds1, p1, q1, rfl, rfl, rfl, h1, r1⟩ := trodAll_cons r0
  obtain ⟨rfl, rfl, rfl⟩ := trodAll_nil r1
  obtain rfl : args = #[v0, v1] := by cases args; simp_all
  obtain ⟨rfl, rfl⟩ := trodVars_none hV
  have k0 := h0
  have lt0 : ∀ x ∈ p0, x.block < W.heap.size := by obtain ⟨m, hm⟩ := k0; exact DataW.trod_lt m _ _ _ hm
  obtain ⟨a0, len0, cap0, rfl⟩ := okWide_slice Try.underlying39 (hval 0 39 v0 rfl rfl)
  obtain ⟨a1, len1, cap1, rfl⟩ := okWide_slice Try.underlying39 (hval 1 39 v1 rfl rfl)
  have k1 := h1
  have lt1 : ∀ x ∈ p1, x.block < W.heap.size := by obtain ⟨m, hm⟩ := k1; exact DataW.trod_lt m _ _ _ hm
  obtain ⟨b0, off0, cs0, T0, fz0, xs0, ht0⟩ := (by obtain ⟨fuel, hf⟩ := h0; exact bytes_of_trod hf : ∃ b off cs T fz xs, Bts W a0 len0 b off cs T fz xs)
  obtain ⟨b1, off1, cs1, T1, fz1, xs1, ht1⟩ := (by obtain ⟨fuel, hf⟩ := h1; exact bytes_of_trod hf : ∃ b off cs T fz xs, Bts W a1 len1 b off cs T fz xs)
  clear hA0 hval0
  refine (walk a0 a1 len0 cap0 len1 cap1 b0 off0 b1 off1 cs0 cs1 T0 T1 fz0 fz1 xs0 xs1 W ht0 ht1).mono fun e W' ⟨he, bel⟩ => ?_
  subst he
  exact ⟨_, rfl, _, _, _, [], _, [], hW', trodAll_mk1 (shut_bool Try.underlying4 _), (trodAll_cons_mk (Below.trod laidOut (by kernel_rfl) (of_decide_eq_true (by kernel_rfl)) k0 bel lt0) (trodAll_cons_mk (Below.trod laidOut (by kernel_rfl) (of_decide_eq_true (by kernel_rfl)) k1 bel lt1) trodAll_mk0)), rfl, bel.frame _, fun h => by cases h⟩

theorem over : Rows.sequenceRisesRow.holds Try.pinned (OpenSpec.ofChange Rows.sequenceRisesSpec) :=
  OpenClaim.holds_of_wide 4 Try.f4 rfl rfl rfl rfl rfl rfl rfl ⟨rfl, rfl, rfl, rfl, rfl⟩ rfl rfl rfl rfl rfl (by kernel_rfl) Try.func4 (by kernel_rfl)
    (of_decide_eq_true (by kernel_rfl)) (by unfold Func.isWrapper; first | (rw [if_pos (by decide +kernel)]; kernel_rfl) | (rw [if_neg (by decide +kernel)]; exact ⟨rfl, rfl⟩))
    (fun os started H enc _ => lifted os started H enc)

/-- The statement. -/
theorem proved : Rows.SequenceRisesSaid := over
#print axioms proved
end Go.Proofs.Ythidohdnaeboaaa.sequenceRises
