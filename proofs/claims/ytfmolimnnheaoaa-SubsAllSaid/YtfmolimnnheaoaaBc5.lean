/- (*Board).find and what stands upon it; the board that nobody made. -/
import Derived.Test.YtfmolimnnheaoaaBc4
namespace Go.Proofs.Ytfmolimnnheaoaa
open Go.RowKit
set_option linter.unusedSimpArgs false
set_option linter.unusedVariables false
open Go.Maps

set_option maxRecDepth 100000 in
theorem bFind0 (n : Int) (W : World) : Calls Try.prog 37 #[.pointer none, .int .i64 n] W fun e w' => e = .returned (.tuple #[.agg #[.slice none 0 0, .int .i64 0, .int .i64 0], .bool false]) ∧ Below W.heap.size W w' := by
  go_enter Try.func37, Try.ntmps37; (try simp only [List.append_eq, List.cons_append, List.nil_append])
  go_wp2_with fail
  refine (bMade0 _).mono ?_
  rintro e w2 ⟨rfl, rfl⟩
  go_wp2_with (refine wpList_store_new rfl 63 _ _ rfl #[.slice none 0 0, .int .i64 0, .int .i64 0] _ _ rfl rfl (by kernel_rfl) rfl (by kernel_rfl) ?_)
  exact bodyPost_agg_tmp (d := _) rfl rfl (World.alloc_heap_new W _) Try.underlying63 rfl (by kernel_rfl) rfl ⟨rfl, (Below.refl _ _).alloc (Nat.le_refl _) _⟩
section
variable {base : Nat} {W W' : World} {g hq hs nq ns xq : Nat} {q : Option Nat} {b b' : Bd} {kv kv' : Value} {bl : List Nat}
set_option maxRecDepth 100000 in
theorem bFind (h : BrdM base W g hq hs nq ns (some xq) b kv bl) : Calls Try.prog 37 #[.pointer (some ⟨g, 0, none⟩), .int .i64 1] W fun e w' => e = .returned (.tuple #[.agg #[kv, .int .i64 b.last, .int .i64 b.floor], .bool true]) ∧ Below W.heap.size W w' := by
  obtain ⟨ak, ck, hkv⟩ := ownsRow_slice h.kept
  subst hkv
  have h' := h.keep ((Below.refl _ _).alloc (Nat.le_refl _) (.cells #[.slice none 0 0, .int .i64 0, .int .i64 0] 63))
  have H := Lib.hid h'
  have hlook := h'.lookQ
  have hg := h'.blk.lt
  have hxq := (h'.qb xq rfl).1
  have hxl := hxq.lt
  have c1 := h'.blk.cell 1 _ rfl
  have d0 := hxq.cell 0 _ rfl
  have d1 := hxq.cell 1 _ rfl
  have d2 := hxq.cell 2 _ rfl
  have hg0 := h.blk.lt
  have hx0 := (h.qb xq rfl).1.lt
  have m0 : W.cell? ⟨g, 1, none⟩ = some (.map (some hq)) := h.blk.cell 1 _ rfl
  have n0 : W.cell? ⟨xq, 0, none⟩ = some (.slice ak b.kept.length ck) := (h.qb xq rfl).1.cell 0 _ rfl
  have n1 : W.cell? ⟨xq, 1, none⟩ = some (.int .i64 b.last) := (h.qb xq rfl).1.cell 1 _ rfl
  have n2 : W.cell? ⟨xq, 2, none⟩ = some (.int .i64 b.floor) := (h.qb xq rfl).1.cell 2 _ rfl
  clear h h' hxq c1 d0 d1 d2 hg hxl
  go_enter Try.func37, Try.ntmps37; (try simp only [List.append_eq, List.cons_append, List.nil_append])
  go_wp2_with fail
  refine (bMade H.out.blk).mono ?_
  rintro e w2 ⟨rfl, rfl⟩
  go_wp2_with (refine wpList_store_new rfl 63 _ _ rfl #[.slice ak b.kept.length ck, .int .i64 b.last, .int .i64 b.floor] _ _ rfl rfl (by kernel_rfl) rfl (by kernel_rfl) ?_)
  exact bodyPost_agg_tmp (d := _) rfl rfl (World.alloc_heap_new W _) Try.underlying63 rfl (by kernel_rfl) rfl ⟨rfl, (Below.refl _ _).alloc (Nat.le_refl _) _⟩
end
end Go.Proofs.Ytfmolimnnheaoaa
