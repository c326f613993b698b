/- lex.All: all tokens. -/
import Derived.Test.YtgjeomcflapmpaaDoorLx7
import Derived.Test.YtgjeomcflapmpaaDoorApp
import Derived.Maps.AppendAt
namespace Go.Proofs.YtgjeomcflapmpaaDoor
open Go.RowKit
set_option linter.unusedSimpArgs false
set_option linter.unusedVariables false
theorem nextYes {s : ByteArray} {a : Nat} {l : List Tok} {v : Value} {N : Nat} {w : World} {t : Tok} {m : Nat} (ht : tokAt (freeOf l) (sl s a) = some (t, m)) (hs : s.size ≤ 16384) (ha : a < s.size) (hN : N ≤ w.heap.size) (h : IsToks N w v l) :
    Calls Tryd.prog 25 #[.string s, .int .i64 a, v] w fun e w' => e = .returned (.tuple #[.agg #[.int .i64 t.kind, .string ⟨t.text.toArray⟩, .int .i64 t.num, .int .i64 a], .int .i64 m, .bool true]) ∧ Below w.heap.size w w' := by
  refine (lNext s a l v N w hs ha hN h).mono ?_
  rintro e w' ⟨k, x, u, p, n, ok, rfl, hi, hb⟩
  rw [ht] at hi
  obtain ⟨rfl, rfl, rfl, rfl, rfl, rfl⟩ := hi
  exact ⟨rfl, hb⟩
theorem nextNo {s : ByteArray} {a : Nat} {l : List Tok} {v : Value} {N : Nat} {w : World} (ht : tokAt (freeOf l) (sl s a) = none) (hs : s.size ≤ 16384) (ha : a < s.size) (hN : N ≤ w.heap.size) (h : IsToks N w v l) :
    Calls Tryd.prog 25 #[.string s, .int .i64 a, v] w fun e w' => ∃ (k : Int) (x : ByteArray) (u p n : Int), e = .returned (.tuple #[.agg #[.int .i64 k, .string x, .int .i64 u, .int .i64 p], .int .i64 n, .bool false]) ∧ Below w.heap.size w w' := by
  refine (lNext s a l v N w hs ha hN h).mono ?_
  rintro e w' ⟨k, x, u, p, n, ok, rfl, hi, hb⟩
  rw [ht] at hi
  obtain rfl : ok = false := hi
  exact ⟨k, x, u, p, n, rfl, hb⟩

theorem allEnd {s : ByteArray} {w W : World} {A : Act} (v : Value) (er at' : Int) (l : List Tok) (hp : A.tmps.getD 3 undef = .pointer (some ⟨w.heap.size, 0, none⟩)) (hg : Blk W w.heap.size 29 [.int .i64 er, .int .i64 at'])
    (hv : A.tmps.getD 2 undef = v) (hdf : A.defers = []) (hl : lexAll s = (l, er, at')) (ho : OwnT w.heap.size W v l) (hb : Below w.heap.size w W) : bodyPost Tryd.prog Tryd.f8 (AllR s w) .ret A W :=
  bodyPost_tmp_agg rfl hp hg Tryd.underlying29 rfl (by kernel_rfl) hdf ⟨v, by rw [hv, hl], by rw [hl]; exact ho, hb⟩

theorem lAll_long (s : ByteArray) (w : World) (hm : s.size ≤ maxLen) (hs : 16384 < s.size) : Calls Tryd.prog 8 #[.string s] w (AllR s w) := by
  unfold maxLen at hm
  have Hl : Hid (lexAll s = ([], 3, 0)) := by show _ = _; unfold lexAll; rw [if_pos hs]
  have h1 : (16384 : Int) < (s.size : Int) := by omega
  go_enter Tryd.func8, Tryd.ntmps8; (try simp only [List.append_eq, List.cons_append, List.nil_append])
  go_wp2
  go_step3
  go_wp2
  refine allEnd (.slice none 0 0) 3 0 [] rfl (Blk.new _ _ _) rfl rfl Hl.out (OwnT.nil _ _) ((Below.refl _ _).alloc (Nat.le_refl _) _)

end Go.Proofs.YtgjeomcflapmpaaDoor
