/- What the reading of acts tells of memory. No statement of the seat is proved here. -/
import Derived.Test.YtpmihcefjdeonaaEngW
import Derived.Test.YtpmihcefjdeonaaQG
namespace Go.Proofs.Ytpmihcefjdeonaa
open Go Go.ChangeShapes Go.WideShapes Go.ChangeAt Go.RowKit
set_option linter.unusedVariables false
set_option maxRecDepth 100000
section
variable {H : Type} {enc : TypeId × Value → H} {w : World} {spare : Nat → Bool} {held : Bool}
theorem bytes_of_trod {fuel : Nat} {v : Value} {x : DataW H × List MemPlace} (hw : Wt env.P 28 x.1) (h : DataW.trod enc env.P w 0 spare held fuel 28 [v] = some x) :
    ∃ xs, Bys w v xs ∧ xs.length ≤ 140737488351232 := by
  obtain ⟨u, n, F, hu, hA, hbk, hF⟩ := tarrW (sz := 1) rfl rfl rfl rfl hw h
  rw [Env.bytesE (by_ := 1) rfl rfl, Nat.mul_one] at hbk
  have hbk : n ≤ 140737488351232 := hbk
  obtain ⟨a, cap, rfl, hnc, hcm, hnil, hpos⟩ := hA
  simp at hu
  subst hu
  obtain ⟨f, hf⟩ := chooseLt (α := Int) (p := fun i v => F i = [.int .u8 v]) (fun i hi => by obtain ⟨_, _, ht, _⟩ := hF i hi; obtain ⟨n, hn, _⟩ := tint .u8 0 255 rfl rfl (by decide) (by decide) ht; exact ⟨n, hn⟩)
  refine ⟨(List.range n).map f, ?_, by simp; omega⟩
  by_cases hn : 0 < n
  · obtain ⟨b, off, cs, T, fz, rfl, hb, hcs⟩ := hpos hn
    refine ⟨_, cap, b, off, cs.toList, T, fz, by simp, by simpa using hnc, hcm, fun _ => ⟨rfl, by simpa using hb⟩, Cs.ofGet _ _ _ (by simp) fun j hj => ?_⟩
    have hj' : j < n := by simpa using hj
    have := (hcs j hj').get 0 _ (by rw [hf j hj']; rfl)
    simp only [Nat.mul_one, Nat.add_zero] at this
    rw [this]
    simp [hj']
  · obtain rfl : n = 0 := by omega
    exact ⟨a, cap, 0, 0, [], 0, (0, 0), rfl, by simp, hcm, fun h => absurd h (Nat.lt_irrefl 0), .nil⟩
theorem act_of_trod {fuel : Nat} {cs : List Value} {x : DataW H × List MemPlace} (hw : Wt env.P 30 x.1) (h : DataW.trod enc env.P w 0 spare held fuel 30 cs = some x) :
    ∃ a : AL, cs = acC a.c a.v ∧ Bys w a.v a.c.b ∧ a.c.b.length ≤ 140737488351232 ∧ (-9223372036854775808 ≤ a.c.i ∧ a.c.i ≤ 9223372036854775807) := by
  obtain ⟨hl, hf⟩ := tstructW rfl rfl hw h
  match cs, hl with
  | [x0, x1, x2, x3, x4, x5], _ =>
    obtain ⟨_, _, h0, _⟩ := hf 0 0 3 1 rfl rfl
    obtain ⟨_, _, h1, _⟩ := hf 1 1 3 1 rfl rfl
    obtain ⟨_, _, h2, _⟩ := hf 2 2 3 1 rfl rfl
    obtain ⟨_, _, h3, _⟩ := hf 3 3 3 1 rfl rfl
    obtain ⟨_, _, h4, hw4⟩ := hf 4 4 28 1 rfl rfl
    obtain ⟨_, _, h5, _⟩ := hf 5 5 4 1 rfl rfl
    obtain ⟨n0, e0, _⟩ := tint .i64 (-9223372036854775808) 9223372036854775807 rfl rfl (by decide) (by decide) h0
    obtain ⟨n1, e1, _⟩ := tint .i64 (-9223372036854775808) 9223372036854775807 rfl rfl (by decide) (by decide) h1
    obtain ⟨n2, e2, _⟩ := tint .i64 (-9223372036854775808) 9223372036854775807 rfl rfl (by decide) (by decide) h2
    obtain ⟨n3, e3, l3, u3⟩ := tint .i64 (-9223372036854775808) 9223372036854775807 rfl rfl (by decide) (by decide) h3
    obtain ⟨xs, hxs, hxl⟩ := bytes_of_trod (v := x4) hw4 h4
    obtain ⟨b5, e5⟩ := tbool rfl rfl h5
    simp at e0 e1 e2 e3 e5
    subst e0 e1 e2 e3 e5
    exact ⟨⟨⟨n0, n1, n2, n3, xs, b5⟩, x4⟩, rfl, hxs, hxl, l3, u3⟩
instance : Inhabited AL := ⟨⟨⟨0, 0, 0, 0, [], false⟩, undef⟩⟩
theorem acts_of_trod {fuel : Nat} {a : Option Addr} {len cap : Nat} {x : DataW H × List MemPlace} (hw : Wt env.P 22 x.1) (h : DataW.trod enc env.P w 0 spare held fuel 22 [.slice a len cap] = some x) :
    ∃ b off cs T fz A, AActs w a len b off cs T fz A := by
  obtain ⟨u, n, F, hu, hA, hbk, hF⟩ := tarrW (sz := 6) rfl rfl rfl rfl hw h
  rw [Env.bytesE (by_ := 64) rfl rfl] at hbk
  have hbk : n * 64 ≤ 140737488351232 := hbk
  obtain ⟨a', cap', rfl, hnc, hcm, hnil, hpos⟩ := hA
  simp at hu
  obtain ⟨rfl, rfl, rfl⟩ := hu
  obtain ⟨f, hf⟩ := chooseLt (α := AL) (p := fun i v => F i = acC v.c v.v ∧ Bys w v.v v.c.b ∧ v.c.b.length ≤ 140737488351232 ∧ (-9223372036854775808 ≤ v.c.i ∧ v.c.i ≤ 9223372036854775807)) (fun i hi => by
    obtain ⟨_, _, ht, hb⟩ := hF i hi
    exact act_of_trod hb ht)
  by_cases hn : 0 < len
  · obtain ⟨b, off, cs, T, fz, rfl, hb, hcs⟩ := hpos hn
    refine ⟨b, off, cs.toList, T, fz, f, ⟨by omega, fun _ => ⟨rfl, by simpa using hb⟩, fun j hj => ⟨?_, (hf j hj).2⟩⟩⟩
    have := hcs j hj
    rw [(hf j hj).1] at this
    exact this
  · exact ⟨0, 0, [], 0, (0, 0), fun _ => default, ⟨by omega, fun h => absurd h hn, fun j hj => by omega⟩⟩
end
end Go.Proofs.Ytpmihcefjdeonaa
