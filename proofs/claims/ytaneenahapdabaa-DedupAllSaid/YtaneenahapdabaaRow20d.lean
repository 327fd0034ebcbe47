/- The law DedupAll, called with whatever arguments can be read, returns true, and each argument reads behind the call as it read before. No conditions. -/
import Derived.Test.YtaneenahapdabaaRows
import Derived.Test.YtaneenahapdabaaEngW
import Derived.Test.YtaneenahapdabaaTL
namespace Go.Proofs.Ytaneenahapdabaa.dedupAll
open Go Go.ChangeShapes Go.WideShapes Go.ChangeAt Go.RowKit
set_option linter.unusedVariables false
set_option maxRecDepth 100000

theorem own : ownKnob Try.prog.godebug = none := by kernel_rfl
theorem laidOut : laidOutB Try.prog = true := by kernel_rfl

section
variable {H : Type} {enc : TypeId × Value → H} {w : World} {spare : Nat → Bool} {held : Bool}
theorem bytes_of_trod {fuel : Nat} {v : Value} {x : DataW H × List MemPlace} (hw : Wt env.P 29 x.1) (h : DataW.trod enc env.P w 0 spare held fuel 29 [v] = some x) :
    ∃ xs, Bys w v xs ∧ xs.length ≤ 140737488355327 ∧ Byt xs := by
  obtain ⟨u, n, F, hu, hA, hbk, hF⟩ := tarrW (sz := 1) rfl rfl rfl rfl hw h
  rw [Env.bytesE (by_ := 1) rfl rfl, Nat.mul_one] at hbk
  have hbk : n ≤ 140737488351232 := hbk
  obtain ⟨a, cap, rfl, hnc, hcm, hnil, hpos⟩ := hA
  simp at hu
  subst hu
  obtain ⟨f, hf⟩ := chooseLt (α := Int) (p := fun i v => F i = [.int .u8 v] ∧ 0 ≤ v ∧ v ≤ 255) (fun i hi => by obtain ⟨_, _, ht, _⟩ := hF i hi; exact tint .u8 0 255 rfl rfl (by decide) (by decide) ht)
  have hB : Byt ((List.range n).map f) := fun y hy => by
    obtain ⟨i, hi, rfl⟩ := List.mem_map.1 hy
    exact (hf i (by simpa using hi)).2
  refine ⟨(List.range n).map f, ?_, by simp; omega, hB⟩
  by_cases hn : 0 < n
  · obtain ⟨b, off, cs, T, fz, rfl, hb, hcs⟩ := hpos hn
    refine ⟨_, cap, b, off, cs.toList, T, fz, by simp, by simpa using hnc, hcm, fun _ => ⟨rfl, by simpa using hb⟩, Cs.ofGet _ _ _ (by simp) fun j hj => ?_⟩
    have hj' : j < n := by simpa using hj
    have := (hcs j hj').get 0 _ (by rw [(hf j hj').1]; rfl)
    simp only [Nat.mul_one, Nat.add_zero] at this
    rw [this]
    simp [hj']
  · obtain rfl : n = 0 := by omega
    exact ⟨a, cap, 0, 0, [], 0, (0, 0), rfl, by simp, hcm, fun h => absurd h (Nat.lt_irrefl 0), .nil⟩
theorem act_of_trod {fuel : Nat} {cs : List Value} {x : DataW H × List MemPlace} (hw : Wt env.P 31 x.1) (h : DataW.trod enc env.P w 0 spare held fuel 31 cs = some x) :
    ∃ a : DA, cs = daC a ∧ Bys w a.v a.xs ∧ a.xs.length ≤ 140737488355327 ∧ U64 a.client ∧ U64 a.seq ∧ Byt a.xs := by
  obtain ⟨hl, hf⟩ := tstructW rfl rfl hw h
  match cs, hl with
  | [x0, x1, x2, x3], _ =>
    obtain ⟨_, _, h0, _⟩ := hf 0 0 3 1 rfl rfl
    obtain ⟨_, _, h1, _⟩ := hf 1 1 28 1 rfl rfl
    obtain ⟨_, _, h2, _⟩ := hf 2 2 28 1 rfl rfl
    obtain ⟨_, _, h3, hw3⟩ := hf 3 3 29 1 rfl rfl
    obtain ⟨n0, e0, _⟩ := tint .i64 (-9223372036854775808) 9223372036854775807 rfl rfl (by decide) (by decide) h0
    obtain ⟨n1, e1, l1, u1⟩ := tint .u64 0 18446744073709551615 rfl rfl (by decide) (by decide) h1
    obtain ⟨n2, e2, l2, u2⟩ := tint .u64 0 18446744073709551615 rfl rfl (by decide) (by decide) h2
    obtain ⟨xs, hxs, hxl, hxb⟩ := bytes_of_trod (v := x3) hw3 h3
    simp at e0 e1 e2
    subst e0 e1 e2
    exact ⟨⟨n0, n1, n2, x3, xs⟩, rfl, hxs, hxl, ⟨l1, by dsimp only; omega⟩, ⟨l2, by dsimp only; omega⟩, hxb⟩
instance : Inhabited DA := ⟨⟨0, 0, 0, undef, []⟩⟩
theorem acts_of_trod {fuel : Nat} {a : Option Addr} {len cap : Nat} {x : DataW H × List MemPlace} (hw : Wt env.P 22 x.1) (h : DataW.trod enc env.P w 0 spare held fuel 22 [.slice a len cap] = some x) :
    ∃ b off cs T fz A, DActs w a len b off cs T fz A ∧ ∀ j, j < len → U64 (A j).client ∧ U64 (A j).seq ∧ Byt (A j).xs := by
  obtain ⟨u, n, F, hu, hA, hbk, hF⟩ := tarrW (sz := 4) rfl rfl rfl rfl hw h
  rw [Env.bytesE (by_ := 48) rfl rfl] at hbk
  have hbk : n * 48 ≤ 140737488351232 := hbk
  obtain ⟨a', cap', rfl, hnc, hcm, hnil, hpos⟩ := hA
  simp at hu
  obtain ⟨rfl, rfl, rfl⟩ := hu
  obtain ⟨f, hf⟩ := chooseLt (α := DA) (p := fun i v => F i = daC v ∧ Bys w v.v v.xs ∧ v.xs.length ≤ 140737488355327 ∧ U64 v.client ∧ U64 v.seq ∧ Byt v.xs) (fun i hi => by
    obtain ⟨_, _, ht, hb⟩ := hF i hi
    exact act_of_trod hb ht)
  by_cases hn : 0 < len
  · obtain ⟨b, off, cs, T, fz, rfl, hb, hcs⟩ := hpos hn
    refine ⟨b, off, cs.toList, T, fz, f, ⟨by omega, fun _ => ⟨rfl, by simpa using hb⟩, fun j hj => ⟨?_, (hf j hj).2.1, (hf j hj).2.2.1⟩⟩, fun j hj => (hf j hj).2.2.2⟩
    have := hcs j hj
    rw [(hf j hj).1] at this
    exact this
  · exact ⟨0, 0, [], 0, (0, 0), fun _ => default, ⟨by omega, fun h => absurd h hn, fun j hj => by omega⟩, fun j hj => by omega⟩
end

theorem walk (n : Int) (aa : Option Addr) (an acap ab aoff : Nat) (acs : List Value) (aT : TypeId) (afz : Nat × Nat) (A : Nat → DA) (w : World) (hA : DActs w aa an ab aoff acs aT afz A) (hS : ∀ j, j < an → U64 (A j).client ∧ U64 (A j).seq ∧ Byt (A j).xs) :
    Calls Try.prog 4 #[.int .i64 n, .slice aa an acap] w fun e w' => e = .returned (.bool true) ∧ Below w.heap.size w w' := by
  by_cases h : 1 ≤ n ∧ n ≤ 64
  · obtain ⟨k, rfl⟩ : ∃ k : Nat, n = (k : Int) := ⟨n.toNat, by omega⟩
    exact law_calls (all_yes w k aa an acap ab aoff acs aT afz A hA hS (by omega) (by omega))
  · exact law_calls (all_no w n _ h)

theorem lifted (os : Os) (started : os.Started) (H : Type) (enc : TypeId × Value → H) :
    ReturnsInHanded {} Try.checked os 4 .any (Rows.dedupAllSpec.pre6 enc Try.prog Try.f4 Rows.dedupAllRow.domain false) (Rows.dedupAllSpec.post enc Try.prog Try.f4 false true false false) := by
  refine returnsInHanded_of_change_sized (C := Try.checked) own started (by kernel_rfl) Try.func4
    (ChangeSpec.witness6 (enc := enc) (C := Try.checked) false ⟨#[], #[.int .i64 0, .slice none 0 0], []⟩ 8 (by kernel_rfl) (by kernel_rfl) (by kernel_rfl) (by kernel_rfl)) ?_
  intro W base args ds gs before hval0 hW hcnd hsize _
  have hval : ∀ (j : Nat) t v, Try.f4.params[j]? = some t → args[j]? = some v → Value.okWide Try.prog W .any base t v := hval0
  have hW' := hW
  obtain ⟨p, q, hA0, hV, rfl, hfz, hnd⟩ := hW
  have hA : DataW.TrodAll enc Try.prog W 0 (fun _ => true) true Try.f4.params.toList args.toList ds p := hA0
  rw [Try.params4] at hA hval hsize
  obtain ⟨v0, vs0, d0, ds0, p0, q0, hargs, rfl, rfl, h0, r0⟩ := trodAll_cons hA
  obtain ⟨v1, vs1, d1, ds1, p1, q1, rfl, rfl, rfl, h1, r1⟩ := trodAll_cons r0
  obtain ⟨rfl, rfl, rfl⟩ := trodAll_nil r1
  obtain rfl : args = #[v0, v1] := by cases args; simp_all
  obtain ⟨rfl, rfl⟩ := trodVars_none hV
  have hw1 : Wt env.P 22 d1 := wt_arg hsize (j := 1) rfl rfl
  have k0 := h0
  have lt0 : ∀ x ∈ p0, x.block < W.heap.size := by obtain ⟨m, hm⟩ := k0; exact DataW.trod_lt m _ _ _ hm
  obtain ⟨x0, rfl, _, _, _⟩ := open_int Try.underlying3 (hval 0 3 v0 rfl rfl) h0
  obtain ⟨a1, len1, cap1, rfl⟩ := okWide_slice Try.underlying22 (hval 1 22 v1 rfl rfl)
  have k1 := h1
  have lt1 : ∀ x ∈ p1, x.block < W.heap.size := by obtain ⟨m, hm⟩ := k1; exact DataW.trod_lt m _ _ _ hm
  obtain ⟨b1, off1, cs1, T1, fz1, A1, ht1, hs1⟩ := (by obtain ⟨fuel, hf⟩ := h1; exact acts_of_trod hw1 hf : ∃ b off cs T fz A, DActs W a1 len1 b off cs T fz A ∧ ∀ j, j < len1 → U64 (A j).client ∧ U64 (A j).seq ∧ Byt (A j).xs)
  clear hA0 hval0
  refine (walk x0 a1 len1 cap1 b1 off1 cs1 T1 fz1 A1 W ht1 hs1).mono fun e W' ⟨he, bel⟩ => ?_
  subst he
  exact ⟨_, rfl, _, _, _, [], _, [], hW', trodAll_mk1 (shut_bool Try.underlying4 _), (trodAll_cons_mk (Below.trod laidOut (by kernel_rfl) (of_decide_eq_true (by kernel_rfl)) k0 bel lt0) (trodAll_cons_mk (Below.trod laidOut (by kernel_rfl) (of_decide_eq_true (by kernel_rfl)) k1 bel lt1) trodAll_mk0)), rfl, bel.frame _, fun h => by cases h⟩

theorem over : Rows.dedupAllRow.holds Try.pinned (OpenSpec.ofChange Rows.dedupAllSpec) :=
  OpenClaim.holds_of_wide 4 Try.f4 rfl rfl rfl rfl rfl rfl rfl ⟨rfl, rfl, rfl, rfl, rfl⟩ rfl rfl rfl rfl rfl (by kernel_rfl) Try.func4 (by kernel_rfl)
    (of_decide_eq_true (by kernel_rfl)) (by unfold Func.isWrapper; first | (rw [if_pos (by decide +kernel)]; kernel_rfl) | (rw [if_neg (by decide +kernel)]; exact ⟨rfl, rfl⟩))
    (fun os started H enc _ => lifted os started H enc)

/-- The statement. -/
theorem proved : Rows.DedupAllSaid := over
#print axioms proved
end Go.Proofs.Ytaneenahapdabaa.dedupAll
