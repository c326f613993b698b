/- Bytes that a function makes, in a block of its own; a string out of them; the sum of strings. -/
import Derived.Test.YtkheeiipkdeihaaApp
import Derived.Test.YtkheeiipkdeihaaProg
import Derived.Laws.IdiomStrings
import Derived.Lib.BufferRead
import Derived.Maps.AppendAt
namespace Go.Proofs.Ytkheeiipkdeihaa

open Go.RowKit
set_option linter.unusedSimpArgs false
set_option linter.unusedVariables false

/-- Bytes as they lie in memory. -/
def bc (l : List UInt8) : List Value := l.map fun b => .int .u8 (b.toNat : Int)
theorem bc_length (l : List UInt8) : (bc l).length = l.length := by simp [bc]
theorem bc_one (l : List UInt8) : ∀ u ∈ bc l, u.oneCell' = true := by
  intro u hu
  obtain ⟨b, _, rfl⟩ := List.mem_map.1 hu
  rfl
theorem bc_snoc (l : List UInt8) (c : UInt8) : bc (l ++ [c]) = bc l ++ [.int .u8 (c.toNat : Int)] := by simp [bc]

/-- Bytes that a function makes, in a block of its own. -/
def OwnB (base : Nat) (w : World) (v : Value) (l : List UInt8) : Prop := w.ownsRow base 5 1 v l.length (bc l)
theorem infoB : (Try.prog.info? 5).map (fun i => (i.zero, i.size, i.bytes)) = some (some (.int .u8 0), 1, 1) := by kernel_rfl

theorem ownB_slice {w : World} {base : Nat} {v : Value} {l : List UInt8} (h : OwnB base w v l) : ∃ A cap, v = .slice A l.length cap := by
  rcases h.2 with ⟨rfl, h2⟩ | ⟨g, cap, cur, rfl, _⟩
  · exact ⟨none, 0, by rw [h2]⟩
  · exact ⟨_, _, rfl⟩
theorem ownB_convert {w : World} {base : Nat} {v : Value} {l : List UInt8} (h : OwnB base w v l) : (convert 50 9 v).run Try.prog w = .ok (.string ⟨l.toArray⟩) w := by
  rcases h.2 with ⟨rfl, h2⟩ | ⟨g, cap, cur, rfl, _⟩
  · have : l = [] := List.eq_nil_of_length_eq_zero h2
    subst this
    exact Lib.run_convert_nil_bytes w _ _ 5 0 Try.underlying50 Try.underlying5 Try.underlying9
  · refine run_convert_bytes_back w _ _ 5 _ cap l Try.underlying50 Try.underlying5 Try.underlying9 (fun j hj => ?_)
    exact h.cells (g := g) rfl j _ (by simp [bc, hj])

theorem one_new (w : World) (x : Value) (t : Nat) : ∀ j u, [x][j]? = some u → (w.alloc (.cells #[x] t)).cell? ((⟨w.heap.size, 0, none⟩ : Addr).add j) = some u := by
  intro j u hu
  match j, hu with
  | 0, hu =>
    simp at hu; subst hu
    show (w.alloc (.cells #[x] t)).cell? ⟨w.heap.size, 0, none⟩ = _
    rw [World.cell?_alloc_new]; rfl
  | j + 1, hu => simp at hu
theorem one_u8 (n : Int) : ∀ u ∈ [Value.int .u8 n], u.oneCell' = true := by
  intro u hu; simp only [List.mem_singleton] at hu; subst hu; rfl

theorem one_back (w : World) (c : UInt8) : (convert 50 9 (.slice (some ⟨w.heap.size, 0, none⟩) 1 1)).run Try.prog (w.alloc (.cells #[.int .u8 (c.toNat : Int)] 5)) = .ok (.string ⟨#[c]⟩) (w.alloc (.cells #[.int .u8 (c.toNat : Int)] 5)) :=
  run_convert_bytes_back _ _ _ 5 _ 1 [c] Try.underlying50 Try.underlying5 Try.underlying9 (fun j hj => by
    have : j = 0 := by simpa using hj
    subst this
    exact one_new w _ _ 0 _ rfl)
theorem concat_runB (a b : ByteArray) (w : World) (h : a.size + b.size ≤ 100000000) : (binOp BinOp.add 9 (.string a) (.string b)).run Try.prog w = .ok (.string (a ++ b)) w := by
  have h1 : ¬ (IntKind.i64.max < ((a.size + b.size : Nat) : Int)) := by
    show ¬ ((9223372036854775807 : Int) < _)
    omega
  simp [binOp, go_sem, Op.stringOp, h1]
  omega
end Go.Proofs.Ytkheeiipkdeihaa
