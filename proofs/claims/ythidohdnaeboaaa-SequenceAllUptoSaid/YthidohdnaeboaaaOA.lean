/- What an act is; small facts of orders. No statement of the seat is proved here. -/
import Derived.Test.YthidohdnaeboaaaO9
namespace Go.Proofs.Ythidohdnaeboaaa
open Go

structure AV where
  kind : Int
  part : Int
  client : Int
  seq : Int
  id : Int
  v : Value
  xs : List Int
  how : Bool
def actC (a : AV) : List Value := [.int .i64 a.kind, .int .i64 a.part, .int .u64 a.client, .int .u64 a.seq, .int .u64 a.id, a.v, .bool a.how]
/-- A slice of acts. -/
def Acts (w : World) (a : Option Addr) (n b off : Nat) (cs : List Value) (T : TypeId) (fz : Nat × Nat) (A : Nat → AV) : Prop :=
  n ≤ 9223372036854775807 ∧ (0 < n → a = some ⟨b, off, none⟩ ∧ w.heap[b]? = some (.cells (List.toArray cs) T fz)) ∧ ∀ j, j < n → Cs cs (off + j * 7) 7 (actC (A j)) ∧ Ints w (A j).v (A j).xs ∧ (0 ≤ (A j).id ∧ (A j).id ≤ 18446744073709551615)
theorem Ints.lt {w : World} {v : Value} {xs : List Int} (h : Ints w v xs) (hp : 0 < xs.length) {b off m cap : Nat} (e : v = .slice (some ⟨b, off, none⟩) m cap) : b < w.heap.size := by
  obtain ⟨a, cap, b', off', cs, T, fz, rfl, h2, h3, h4, h5⟩ := h
  obtain ⟨rfl, h6⟩ := h4 hp
  cases e
  exact lt_of_at h6

theorem Ord.real {w : World} {o c : Nat} {n last : Int} {l : List Tk} (h : Ord w o c n last l) (hp : 0 < l.length) : ∃ cs, w.heap[c]? = some (row cs 56) := by
  obtain ⟨v, _, a, cap, cs, rfl, h1, h2, h3, h4⟩ := h
  rcases h3 with ⟨_, rfl⟩ | ⟨_, h3, _⟩
  · omega
  · exact ⟨cs, h3⟩
end Go.Proofs.Ythidohdnaeboaaa
