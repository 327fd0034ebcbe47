/- One order: the law SequenceOne, called with whatever arguments can be read, returns true, and each argument reads behind the call as it read before. No conditions. -/
import Derived.Test.YthidohdnaeboaaaRows
import Derived.Test.YthidohdnaeboaaaEngR
import Derived.Test.YthidohdnaeboaaaO10
namespace Go.Proofs.Ythidohdnaeboaaa.sequenceOne
open Go Go.ChangeShapes Go.WideShapes Go.ChangeAt Go.RowKit
set_option linter.unusedVariables false
set_option maxRecDepth 100000

theorem own : ownKnob Try.prog.godebug = none := by kernel_rfl
theorem laidOut : laidOutB Try.prog = true := by kernel_rfl

section
variable {H : Type} {enc : TypeId × Value → H} {w : World} {spare : Nat → Bool} {held : Bool}
theorem bytes_of_trod {fuel : Nat} {a : Option Addr} {len cap : Nat} {x : DataW H × List MemPlace} (h : DataW.trod enc env.P w 0 spare held fuel 39 [.slice a len cap] = some x) :
    ∃ b off cs T fz xs, Bts w a len b off cs T fz xs := by
  obtain ⟨u, n, F, hu, hA, hF⟩ := tarr (sz := 1) rfl rfl rfl rfl h
  obtain ⟨a', cap', rfl, hnc, hcm, hnil, hpos⟩ := hA
  simp at hu
  obtain ⟨rfl, rfl, rfl⟩ := hu
  obtain ⟨f, hf⟩ := chooseLt (α := Int) (p := fun i v => F i = [.int .u8 v] ∧ 0 ≤ v ∧ v ≤ 255) (fun i hi => by obtain ⟨_, _, ht⟩ := hF i hi; exact tint .u8 0 255 rfl rfl (by decide) (by decide) ht)
  by_cases hn : 0 < len
  · obtain ⟨b, off, cs, T, fz, rfl, hb, hcs⟩ := hpos hn
    refine ⟨b, off, cs.toList, T, fz, f, by omega, fun _ => ⟨rfl, by simpa using hb⟩, fun j hj => ⟨?_, (hf j hj).2⟩⟩
    exact (hcs j hj).get 0 _ (by rw [(hf j hj).1]; rfl)
  · exact ⟨0, 0, [], 0, (0, 0), fun _ => 0, by omega, fun h => absurd h hn, fun j hj => by omega⟩
theorem ints_of_trod {fuel : Nat} {v : Value} {x : DataW H × List MemPlace} (h : DataW.trod enc env.P w 0 spare held fuel 48 [v] = some x) :
    ∃ xs, Ints w v xs := by
  obtain ⟨u, n, F, hu, hA, hF⟩ := tarr (sz := 1) rfl rfl rfl rfl h
  obtain ⟨a, cap, rfl, hnc, hcm, hnil, hpos⟩ := hA
  simp at hu
  subst hu
  obtain ⟨f, hf⟩ := chooseLt (α := Int) (p := fun i v => F i = [.int .i64 v]) (fun i hi => by obtain ⟨_, _, ht⟩ := hF i hi; obtain ⟨n, hn, _⟩ := tint .i64 (-9223372036854775808) 9223372036854775807 rfl rfl (by decide) (by decide) ht; exact ⟨n, hn⟩)
  refine ⟨(List.range n).map f, ?_⟩
  by_cases hn : 0 < n
  · obtain ⟨b, off, cs, T, fz, rfl, hb, hcs⟩ := hpos hn
    refine ⟨_, cap, b, off, cs.toList, T, fz, by simp, by simpa using hnc, hcm, fun _ => ⟨rfl, by simpa using hb⟩, Cs.ofGet _ _ _ (by simp) fun j hj => ?_⟩
    have hj' : j < n := by simpa using hj
    have := (hcs j hj').get 0 _ (by rw [hf j hj']; rfl)
    simp only [Nat.mul_one, Nat.add_zero] at this
    rw [this]
    simp [hj']
  · obtain rfl : n = 0 := by omega
    exact ⟨a, cap, 0, 0, [], 0, (0, 0), rfl, by simp, hcm, fun h => absurd h (Nat.lt_irrefl 0), .nil⟩
theorem act_of_trod {fuel : Nat} {cs : List Value} {x : DataW H × List MemPlace} (h : DataW.trod enc env.P w 0 spare held fuel 50 cs = some x) :
    ∃ a : AV, cs = actC a ∧ Ints w a.v a.xs ∧ (0 ≤ a.id ∧ a.id ≤ 18446744073709551615) := by
  obtain ⟨hl, hf⟩ := tstruct rfl rfl h
  match cs, hl with
  | [x0, x1, x2, x3, x4, x5, x6], _ =>
    obtain ⟨_, _, h0⟩ := hf 0 0 3 1 rfl rfl
    obtain ⟨_, _, h1⟩ := hf 1 1 3 1 rfl rfl
    obtain ⟨_, _, h2⟩ := hf 2 2 30 1 rfl rfl
    obtain ⟨_, _, h3⟩ := hf 3 3 30 1 rfl rfl
    obtain ⟨_, _, h4⟩ := hf 4 4 30 1 rfl rfl
    obtain ⟨_, _, h5⟩ := hf 5 5 48 1 rfl rfl
    obtain ⟨_, _, h6⟩ := hf 6 6 4 1 rfl rfl
    obtain ⟨n0, e0, _⟩ := tint .i64 (-9223372036854775808) 9223372036854775807 rfl rfl (by decide) (by decide) h0
    obtain ⟨n1, e1, _⟩ := tint .i64 (-9223372036854775808) 9223372036854775807 rfl rfl (by decide) (by decide) h1
    obtain ⟨n2, e2, _⟩ := tint .u64 0 18446744073709551615 rfl rfl (by decide) (by decide) h2
    obtain ⟨n3, e3, _⟩ := tint .u64 0 18446744073709551615 rfl rfl (by decide) (by decide) h3
    obtain ⟨n4, e4, l4, u4⟩ := tint .u64 0 18446744073709551615 rfl rfl (by decide) (by decide) h4
    obtain ⟨xs, hxs⟩ := ints_of_trod (v := x5) h5
    obtain ⟨b, hb⟩ := tbool rfl rfl h6
    simp at e0 e1 e2 e3 e4 hb
    subst e0 e1 e2 e3 e4 hb
    exact ⟨⟨n0, n1, n2, n3, n4, x5, xs, b⟩, rfl, hxs, l4, u4⟩
instance : Inhabited AV := ⟨⟨0, 0, 0, 0, 0, undef, [], false⟩⟩
theorem acts_of_trod {fuel : Nat} {a : Option Addr} {len cap : Nat} {x : DataW H × List MemPlace} (h : DataW.trod enc env.P w 0 spare held fuel 44 [.slice a len cap] = some x) :
    ∃ b off cs T fz A, Acts w a len b off cs T fz A := by
  obtain ⟨u, n, F, hu, hA, hF⟩ := tarr (sz := 7) rfl rfl rfl rfl h
  obtain ⟨a', cap', rfl, hnc, hcm, hnil, hpos⟩ := hA
  simp at hu
  obtain ⟨rfl, rfl, rfl⟩ := hu
  obtain ⟨f, hf⟩ := chooseLt (α := AV) (p := fun i v => F i = actC v ∧ Ints w v.v v.xs ∧ (0 ≤ v.id ∧ v.id ≤ 18446744073709551615)) (fun i hi => by obtain ⟨_, _, ht⟩ := hF i hi; exact act_of_trod ht)
  by_cases hn : 0 < len
  · obtain ⟨b, off, cs, T, fz, rfl, hb, hcs⟩ := hpos hn
    refine ⟨b, off, cs.toList, T, fz, f, by omega, fun _ => ⟨rfl, by simpa using hb⟩, fun j hj => ⟨?_, (hf j hj).2⟩⟩
    have := hcs j hj
    rw [(hf j hj).1] at this
    exact this
  · exact ⟨0, 0, [], 0, (0, 0), fun _ => default, by omega, fun h => absurd h hn, fun j hj => by omega⟩
end

theorem walk (n : Int) (aa pa : Option Addr) (an acap pn pcap ab aoff pb poff : Nat) (acs pcs : List Value) (aT pT : TypeId) (afz pfz : Nat × Nat) (A : Nat → AV) (ps : Nat → Int) (w : World) (hA : Acts w aa an ab aoff acs aT afz A) (hP : Bts w pa pn pb poff pcs pT pfz ps) :
    Calls Try.prog 5 #[.int .i64 n, .slice aa an acap, .slice pa pn pcap] w fun e w' => e = .returned (.bool true) ∧ Below w.heap.size w w' := by
  by_cases h : 1 ≤ n ∧ n ≤ 64
  · obtain ⟨N, rfl⟩ : ∃ N : Nat, n = N := ⟨n.toNat, by omega⟩
    exact law_calls (one_yes w N aa pa an acap pn pcap ab aoff pb poff acs pcs aT pT afz pfz A ps hA hP (by omega) (by omega))
  · exact law_calls (one_no w n _ _ h)

theorem lifted (os : Os) (started : os.Started) (H : Type) (enc : TypeId × Value → H) :
    ReturnsInHanded {} Try.checked os 5 .any (Rows.sequenceOneSpec.pre6 enc Try.prog Try.f5 Rows.sequenceOneRow.domain false) (Rows.sequenceOneSpec.post enc Try.prog Try.f5 false true false false) := by
  refine returnsInHanded_of_change (C := Try.checked) own started (by kernel_rfl) Try.func5
    (ChangeSpec.witness6 (enc := enc) (C := Try.checked) false ⟨#[], #[.int .i64 0, .slice none 0 0, .slice none 0 0], []⟩ 8 (by kernel_rfl) (by kernel_rfl) (by kernel_rfl) (by kernel_rfl)) ?_
  intro W base args ds gs before hval0 hW hcnd _
  have hval : ∀ (j : Nat) t v, Try.f5.params[j]? = some t → args[j]? = some v → Value.okWide Try.prog W .any base t v := hval0
  have hW' := hW
  obtain ⟨p, q, hA0, hV, rfl, hfz, hnd⟩ := hW
  have hA : DataW.TrodAll enc Try.prog W 0 (fun _ => true) true Try.f5.params.toList args.toList ds p := hA0
  rw [Try.params5] at hA hval
  obtain ⟨v0, vs0, d0, ds0, p0, q0, hargs, rfl, rfl, h0, r0⟩ := trodAll_cons hA
  obtain ⟨v1, vs1, d1, ds1, p1, q1, rfl, rfl, rfl, h1, r1⟩ := trodAll_cons r0
  obtain ⟨v2, vs2, d2, ds2, p2, q2, rfl, rfl, rfl, h2, r2⟩ := trodAll_cons r1
  obtain ⟨rfl, rfl, rfl⟩ := trodAll_nil r2
  obtain rfl : args = #[v0, v1, v2] := by cases args; simp_all
  obtain ⟨rfl, rfl⟩ := trodVars_none hV
  have k0 := h0
  have lt0 : ∀ x ∈ p0, x.block < W.heap.size := by obtain ⟨m, hm⟩ := k0; exact DataW.trod_lt m _ _ _ hm
  obtain ⟨x0, rfl, _, _, _⟩ := open_int Try.underlying3 (hval 0 3 v0 rfl rfl) h0
  obtain ⟨a1, len1, cap1, rfl⟩ := okWide_slice Try.underlying44 (hval 1 44 v1 rfl rfl)
  obtain ⟨a2, len2, cap2, rfl⟩ := okWide_slice Try.underlying39 (hval 2 39 v2 rfl rfl)
  have k1 := h1
  have lt1 : ∀ x ∈ p1, x.block < W.heap.size := by obtain ⟨m, hm⟩ := k1; exact DataW.trod_lt m _ _ _ hm
  have k2 := h2
  have lt2 : ∀ x ∈ p2, x.block < W.heap.size := by obtain ⟨m, hm⟩ := k2; exact DataW.trod_lt m _ _ _ hm
  obtain ⟨b1, off1, cs1, T1, fz1, A1, ht1⟩ := (by obtain ⟨fuel, hf⟩ := h1; exact acts_of_trod hf : ∃ b off cs T fz A, Acts W a1 len1 b off cs T fz A)
  obtain ⟨b2, off2, cs2, T2, fz2, xs2, ht2⟩ := (by obtain ⟨fuel, hf⟩ := h2; exact bytes_of_trod hf : ∃ b off cs T fz xs, Bts W a2 len2 b off cs T fz xs)
  clear hA0 hval0
  refine (walk x0 a1 a2 len1 cap1 len2 cap2 b1 off1 b2 off2 cs1 cs2 T1 T2 fz1 fz2 A1 xs2 W ht1 ht2).mono fun e W' ⟨he, bel⟩ => ?_
  subst he
  exact ⟨_, rfl, _, _, _, [], _, [], hW', trodAll_mk1 (shut_bool Try.underlying4 _), (trodAll_cons_mk (Below.trod laidOut (by kernel_rfl) (of_decide_eq_true (by kernel_rfl)) k0 bel lt0) (trodAll_cons_mk (Below.trod laidOut (by kernel_rfl) (of_decide_eq_true (by kernel_rfl)) k1 bel lt1) (trodAll_cons_mk (Below.trod laidOut (by kernel_rfl) (of_decide_eq_true (by kernel_rfl)) k2 bel lt2) trodAll_mk0))), rfl, bel.frame _, fun h => by cases h⟩

theorem over : Rows.sequenceOneRow.holds Try.pinned (OpenSpec.ofChange Rows.sequenceOneSpec) :=
  OpenClaim.holds_of_wide 5 Try.f5 rfl rfl rfl rfl rfl rfl rfl ⟨rfl, rfl, rfl, rfl, rfl⟩ rfl rfl rfl rfl rfl (by kernel_rfl) Try.func5 (by kernel_rfl)
    (of_decide_eq_true (by kernel_rfl)) (by unfold Func.isWrapper; first | (rw [if_pos (by decide +kernel)]; kernel_rfl) | (rw [if_neg (by decide +kernel)]; exact ⟨rfl, rfl⟩))
    (fun os started H enc _ => lifted os started H enc)

/-- The statement. -/
theorem proved : Rows.SequenceOneSaid := over
#print axioms proved
end Go.Proofs.Ythidohdnaeboaaa.sequenceOne
