/- Layer 20: Load, how it ends: its deferred call behind a return, and behind a panic. -/
import Derived.Test.YtaneenahapdabaaSR
import Derived.Test.YtaneenahapdabaaSV
import Derived.Test.YtaneenahapdabaaEngV
namespace Go.Proofs.Ytaneenahapdabaa
open Go

def DL (wx ex : Nat) : Deferred := { target := .fn (.func 22) #[.pointer (some ⟨wx, 0, none⟩), .pointer (some ⟨ex, 0, none⟩)], args := #[] }
theorem load_res {w : World} {n wx ex : Nat} {L : Sl} {v0 v1 : Value} {a : Act} (h2 : look L 2 = some (.pointer (some ⟨wx, 0, none⟩))) (h3 : look L 3 = some (.pointer (some ⟨ex, 0, none⟩)))
    (r1 : w.heap[wx]? = some (row [v0] 33)) (r2 : w.heap[ex]? = some (row [v1] 32)) (ha : St0 n L a) : (results Try.f10 a.tmps).run env.P w = .ok (.tuple #[v0, v1]) w :=
  resultsG (E := env) (L := L) (G := [⟨wx, row [v0] 33, true⟩, ⟨ex, row [v1] 32, true⟩]) (rs := [.cell 2 33, .cell 3 32]) (vs := [v0, v1])
    (.cell1 h2 rfl rfl rfl .head rfl (.cell1 h3 rfl rfl rfl (.tail .head) rfl .nil)) (fun e he => by
      simp at he
      rcases he with rfl | rfl
      · exact r1
      · exact r2) ha rfl rfl
theorem load_inv (w : World) (wx ex : Nat) : (invoke (DL wx ex).target (DL wx ex).args).run env.P w = .ok (.enter 22 #[.pointer (some ⟨wx, 0, none⟩), .pointer (some ⟨ex, 0, none⟩)]) w := by
  have hok : callOK env.P 22 = true := by decide +kernel
  simp [DL, invoke, run_callFunc hok]
/-- Behind a return. -/
theorem load_ret {w : World} {n wx ex : Nat} {L : Sl} {k : List Item} {v0 v1 : Value} {Q : Value → World → Prop} (h2 : look L 2 = some (.pointer (some ⟨wx, 0, none⟩))) (h3 : look L 3 = some (.pointer (some ⟨ex, 0, none⟩)))
    (r1 : w.heap[wx]? = some (row [v0] 33)) (r2 : w.heap[ex]? = some (row [v1] 32)) (h : Q (.tuple #[v0, v1]) w) : Run env.P 10 (Rt Q) n (.code .ret :: k) L w [DL wx ex] :=
  Run.retD Try.func10 fun a ha => ⟨by simp, _, _, 22, _, rfl, load_inv w wx ex, clos_ret w wx ex _ ⟨_, load_res h2 h3 r1 r2 ha, _, rfl, h⟩⟩
/-- Behind a panic. -/
theorem load_pan {w : World} {n wx ex : Nat} {L : Sl} {v0 v1 : Value} {Q : Value → World → Prop} {a : Act} (h2 : look L 2 = some (.pointer (some ⟨wx, 0, none⟩))) (h3 : look L 3 = some (.pointer (some ⟨ex, 0, none⟩)))
    (r1 : w.heap[wx]? = some (row [v0] 33)) (r2 : w.heap[ex]? = some (row [v1] 32)) (ha : St0 n L a) (h : ∀ w', Fr w w' [wx, ex] → Q (.tuple #[.pointer none, .int .i64 20]) w') :
    Leaves env.P Try.f10 a.tmps (Rt Q) [DL wx ex] (.panicking [{ v := noneV, recovered := false }]) w :=
  ⟨by simp, _, _, 22, _, rfl, load_inv w wx ex, clos_pan w wx ex v0 v1 _ r1 r2 fun w' e1 e2 hf => ⟨_, load_res h2 h3 e1 e2 ha, _, rfl, h w' hf⟩⟩
end Go.Proofs.Ytaneenahapdabaa
