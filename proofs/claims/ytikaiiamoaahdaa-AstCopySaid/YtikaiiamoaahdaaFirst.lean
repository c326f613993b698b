/- The chapter's expression. -/
import Derived.Test.YtikaiiamoaahdaaCopy0
namespace Go.Proofs.Ytikaiiamoaahdaa
open Go.RowKit
set_option linter.unusedSimpArgs false
set_option linter.unusedVariables false

def winEx (fn span : Int) : Ex := .mk 1 fn 0 0 ⟨#[99, 112, 117]⟩ [] span [] []
def firstG (names : List ByteArray) : Ex := .mk 2 1 0 0 ⟨#[]⟩ [] 0 names [winEx 1 10]
def firstEx : Ex := .mk 5 0 6 3 ⟨#[]⟩ [] 0 [] [firstG [⟨#[97]⟩]]

theorem kWin (fn span : Int) (w : World) : Calls Try.prog 41 #[.int .i64 fn, .int .i64 span] w fun e' w' =>
    e' = .returned (.agg #[.int .i64 1, .int .i64 fn, .int .i64 0, .int .i64 0, .string ⟨#[99, 112, 117]⟩, .slice none 0 0, .int .i64 span, .slice none 0 0, .slice none 0 0]) ∧ Below w.heap.size w w' := by
  go_enter Try.func41, Try.ntmps41; (try simp only [List.append_eq, List.cons_append, List.nil_append])
  go_wp2
  exact bodyPost_agg (g := w.heap.size) (fr := (0, 0)) rfl rfl (World.alloc_heap_new w _) Try.underlying26 rfl (by kernel_rfl) rfl ⟨rfl, (Below.refl _ _).alloc (Nat.le_refl _) _⟩

set_option maxRecDepth 100000 in
/-- Where the parts of the chapter's expression lie. -/
def FirstAt (n : Nat) (w : World) (cs : List Value) : Prop :=
  ∃ gg gw ga, cs = [.int .i64 5, .int .i64 0, .int .i64 6, .int .i64 3, .string ⟨#[]⟩, .slice none 0 0, .int .i64 0, .slice none 0 0, .slice (some ⟨gg, 0, none⟩) 1 1] ∧
    Blk w gg 26 [.int .i64 2, .int .i64 1, .int .i64 0, .int .i64 0, .string ⟨#[]⟩, .slice none 0 0, .int .i64 0, .slice (some ⟨ga, 0, none⟩) 1 1, .slice (some ⟨gw, 0, none⟩) 1 1] ∧
    Blk w gw 26 [.int .i64 1, .int .i64 1, .int .i64 0, .int .i64 0, .string ⟨#[99, 112, 117]⟩, .slice none 0 0, .int .i64 10, .slice none 0 0, .slice none 0 0] ∧ Blk w ga 9 [.string ⟨#[97]⟩] ∧ gg ≠ gw ∧ n ≤ gg ∧ n ≤ gw ∧ n ≤ ga
theorem wFirst (w : World) : Calls Try.prog 15 #[] w fun e' w' => ∃ cs : List Value, e' = .returned (.agg cs.toArray) ∧ Fresh w.heap.size w'.heap.size w' firstEx cs ∧ Below w.heap.size w w' ∧ FirstAt w.heap.size w' cs := by
  go_enter Try.func15, Try.ntmps15; (try simp only [List.append_eq, List.cons_append, List.nil_append])
  have hz1 : Blk ((w.alloc (.cells #[.int .i64 0, .int .i64 0, .int .i64 0, .int .i64 0, .string ⟨#[]⟩, .slice none 0 0, .int .i64 0, .slice none 0 0, .slice none 0 0] 26)).alloc (.cells #[.string ⟨#[97]⟩] 9)) w.heap.size 26 [.int .i64 0, .int .i64 0, .int .i64 0, .int .i64 0, .string ⟨#[]⟩, .slice none 0 0, .int .i64 0, .slice none 0 0, .slice none 0 0] := (Blk.new w [.int .i64 0, .int .i64 0, .int .i64 0, .int .i64 0, .string ⟨#[]⟩, .slice none 0 0, .int .i64 0, .slice none 0 0, .slice none 0 0] 26).keep ((Below.refl _ _).alloc (Nat.le_refl _) _)
  have ha1 : Blk ((w.alloc (.cells #[.int .i64 0, .int .i64 0, .int .i64 0, .int .i64 0, .string ⟨#[]⟩, .slice none 0 0, .int .i64 0, .slice none 0 0, .slice none 0 0] 26)).alloc (.cells #[.string ⟨#[97]⟩] 9)) (w.heap.size + 1) 9 [.string ⟨#[97]⟩] := by
    have := Blk.new (w.alloc (.cells #[.int .i64 0, .int .i64 0, .int .i64 0, .int .i64 0, .string ⟨#[]⟩, .slice none 0 0, .int .i64 0, .slice none 0 0, .slice none 0 0] 26)) [.string ⟨#[97]⟩] 9
    simpa using this
  have hb1 : Below w.heap.size w ((w.alloc (.cells #[.int .i64 0, .int .i64 0, .int .i64 0, .int .i64 0, .string ⟨#[]⟩, .slice none 0 0, .int .i64 0, .slice none 0 0, .slice none 0 0] 26)).alloc (.cells #[.string ⟨#[97]⟩] 9)) := ((Below.refl _ _).alloc (Nat.le_refl _) _).alloc (by simp) _
  have Hz1 := Lib.hid hz1; clear hz1
  have Ha1 := Lib.hid ha1; clear ha1
  have Hb1 := Lib.hid hb1; clear hb1
  go_wp2_with fail
  refine (kWin _ _ _).mono ?_
  rintro e' w2 ⟨rfl, hb2⟩
  have hs2 := hb2.size
  simp at hs2
  have Hb2 := Lib.hid hb2; clear hb2
  have hz5 : Blk (((w2.alloc (.cells #[.int .i64 1, .int .i64 1, .int .i64 0, .int .i64 0, .string ⟨#[99, 112, 117]⟩, .slice none 0 0, .int .i64 10, .slice none 0 0, .slice none 0 0] 26)).alloc (.cells #[.int .i64 2, .int .i64 1, .int .i64 0, .int .i64 0, .string ⟨#[]⟩, .slice none 0 0, .int .i64 0, .slice (some ⟨w.heap.size + 1, 0, none⟩) 1 1, .slice (some ⟨w2.heap.size, 0, none⟩) 1 1] 26)).alloc (.cells #[.int .i64 2, .int .i64 1, .int .i64 0, .int .i64 0, .string ⟨#[]⟩, .slice none 0 0, .int .i64 0, .slice (some ⟨w.heap.size + 1, 0, none⟩) 1 1, .slice (some ⟨w2.heap.size, 0, none⟩) 1 1] 26)) w.heap.size 26 [.int .i64 0, .int .i64 0, .int .i64 0, .int .i64 0, .string ⟨#[]⟩, .slice none 0 0, .int .i64 0, .slice none 0 0, .slice none 0 0] := (((Hz1.out.keep Hb2.out).keep ((Below.refl _ _).alloc (Nat.le_refl _) _)).keep ((Below.refl _ _).alloc (Nat.le_refl _) _)).keep ((Below.refl _ _).alloc (Nat.le_refl _) _)
  have Hz5 := Lib.hid hz5; clear hz5
  go_wp2_with (refine wpList_store_row rfl 26 _ _ rfl w.heap.size #[.int .i64 5, .int .i64 0, .int .i64 6, .int .i64 3, .string ⟨#[]⟩, .slice none 0 0, .int .i64 0, .slice none 0 0, .slice (some ⟨w2.heap.size + 1 + 1, 0, none⟩) 1 1] rfl rfl 26 _ Hz5.out (by kernel_rfl) rfl (by kernel_rfl) ?_)
  have ha5 : Blk (((w2.alloc (.cells #[.int .i64 1, .int .i64 1, .int .i64 0, .int .i64 0, .string ⟨#[99, 112, 117]⟩, .slice none 0 0, .int .i64 10, .slice none 0 0, .slice none 0 0] 26)).alloc (.cells #[.int .i64 2, .int .i64 1, .int .i64 0, .int .i64 0, .string ⟨#[]⟩, .slice none 0 0, .int .i64 0, .slice (some ⟨w.heap.size + 1, 0, none⟩) 1 1, .slice (some ⟨w2.heap.size, 0, none⟩) 1 1] 26)).alloc (.cells #[.int .i64 2, .int .i64 1, .int .i64 0, .int .i64 0, .string ⟨#[]⟩, .slice none 0 0, .int .i64 0, .slice (some ⟨w.heap.size + 1, 0, none⟩) 1 1, .slice (some ⟨w2.heap.size, 0, none⟩) 1 1] 26)) (w.heap.size + 1) 9 [.string ⟨#[97]⟩] := (((Ha1.out.keep Hb2.out).keep ((Below.refl _ _).alloc (Nat.le_refl _) _)).keep ((Below.refl _ _).alloc (Nat.le_refl _) _)).keep ((Below.refl _ _).alloc (Nat.le_refl _) _)
  have hw5 : Blk (((w2.alloc (.cells #[.int .i64 1, .int .i64 1, .int .i64 0, .int .i64 0, .string ⟨#[99, 112, 117]⟩, .slice none 0 0, .int .i64 10, .slice none 0 0, .slice none 0 0] 26)).alloc (.cells #[.int .i64 2, .int .i64 1, .int .i64 0, .int .i64 0, .string ⟨#[]⟩, .slice none 0 0, .int .i64 0, .slice (some ⟨w.heap.size + 1, 0, none⟩) 1 1, .slice (some ⟨w2.heap.size, 0, none⟩) 1 1] 26)).alloc (.cells #[.int .i64 2, .int .i64 1, .int .i64 0, .int .i64 0, .string ⟨#[]⟩, .slice none 0 0, .int .i64 0, .slice (some ⟨w.heap.size + 1, 0, none⟩) 1 1, .slice (some ⟨w2.heap.size, 0, none⟩) 1 1] 26)) w2.heap.size 26 [.int .i64 1, .int .i64 1, .int .i64 0, .int .i64 0, .string ⟨#[99, 112, 117]⟩, .slice none 0 0, .int .i64 10, .slice none 0 0, .slice none 0 0] := ((Blk.new w2 [.int .i64 1, .int .i64 1, .int .i64 0, .int .i64 0, .string ⟨#[99, 112, 117]⟩, .slice none 0 0, .int .i64 10, .slice none 0 0, .slice none 0 0] 26).keep ((Below.refl _ _).alloc (Nat.le_refl _) _)).keep ((Below.refl _ _).alloc (Nat.le_refl _) _)
  have hg5 : Blk (((w2.alloc (.cells #[.int .i64 1, .int .i64 1, .int .i64 0, .int .i64 0, .string ⟨#[99, 112, 117]⟩, .slice none 0 0, .int .i64 10, .slice none 0 0, .slice none 0 0] 26)).alloc (.cells #[.int .i64 2, .int .i64 1, .int .i64 0, .int .i64 0, .string ⟨#[]⟩, .slice none 0 0, .int .i64 0, .slice (some ⟨w.heap.size + 1, 0, none⟩) 1 1, .slice (some ⟨w2.heap.size, 0, none⟩) 1 1] 26)).alloc (.cells #[.int .i64 2, .int .i64 1, .int .i64 0, .int .i64 0, .string ⟨#[]⟩, .slice none 0 0, .int .i64 0, .slice (some ⟨w.heap.size + 1, 0, none⟩) 1 1, .slice (some ⟨w2.heap.size, 0, none⟩) 1 1] 26)) (w2.heap.size + 1 + 1) 26 [.int .i64 2, .int .i64 1, .int .i64 0, .int .i64 0, .string ⟨#[]⟩, .slice none 0 0, .int .i64 0, .slice (some ⟨w.heap.size + 1, 0, none⟩) 1 1, .slice (some ⟨w2.heap.size, 0, none⟩) 1 1] := by
    have := Blk.new ((w2.alloc (.cells #[.int .i64 1, .int .i64 1, .int .i64 0, .int .i64 0, .string ⟨#[99, 112, 117]⟩, .slice none 0 0, .int .i64 10, .slice none 0 0, .slice none 0 0] 26)).alloc (.cells #[.int .i64 2, .int .i64 1, .int .i64 0, .int .i64 0, .string ⟨#[]⟩, .slice none 0 0, .int .i64 0, .slice (some ⟨w.heap.size + 1, 0, none⟩) 1 1, .slice (some ⟨w2.heap.size, 0, none⟩) 1 1] 26)) [.int .i64 2, .int .i64 1, .int .i64 0, .int .i64 0, .string ⟨#[]⟩, .slice none 0 0, .int .i64 0, .slice (some ⟨w.heap.size + 1, 0, none⟩) 1 1, .slice (some ⟨w2.heap.size, 0, none⟩) 1 1] 26
    simpa using this
  have hb5 : Below w.heap.size w (((w2.alloc (.cells #[.int .i64 1, .int .i64 1, .int .i64 0, .int .i64 0, .string ⟨#[99, 112, 117]⟩, .slice none 0 0, .int .i64 10, .slice none 0 0, .slice none 0 0] 26)).alloc (.cells #[.int .i64 2, .int .i64 1, .int .i64 0, .int .i64 0, .string ⟨#[]⟩, .slice none 0 0, .int .i64 0, .slice (some ⟨w.heap.size + 1, 0, none⟩) 1 1, .slice (some ⟨w2.heap.size, 0, none⟩) 1 1] 26)).alloc (.cells #[.int .i64 2, .int .i64 1, .int .i64 0, .int .i64 0, .string ⟨#[]⟩, .slice none 0 0, .int .i64 0, .slice (some ⟨w.heap.size + 1, 0, none⟩) 1 1, .slice (some ⟨w2.heap.size, 0, none⟩) 1 1] 26)) := (((Hb1.out.trans (Hb2.out.mono (by simp; omega))).alloc (by omega) _).alloc (by simp; omega) _).alloc (by simp; omega) _
  have hs5 : (((w2.alloc (.cells #[.int .i64 1, .int .i64 1, .int .i64 0, .int .i64 0, .string ⟨#[99, 112, 117]⟩, .slice none 0 0, .int .i64 10, .slice none 0 0, .slice none 0 0] 26)).alloc (.cells #[.int .i64 2, .int .i64 1, .int .i64 0, .int .i64 0, .string ⟨#[]⟩, .slice none 0 0, .int .i64 0, .slice (some ⟨w.heap.size + 1, 0, none⟩) 1 1, .slice (some ⟨w2.heap.size, 0, none⟩) 1 1] 26)).alloc (.cells #[.int .i64 2, .int .i64 1, .int .i64 0, .int .i64 0, .string ⟨#[]⟩, .slice none 0 0, .int .i64 0, .slice (some ⟨w.heap.size + 1, 0, none⟩) 1 1, .slice (some ⟨w2.heap.size, 0, none⟩) 1 1] 26)).heap.size = w2.heap.size + 3 := by simp
  have hz5' := Hz5.out
  generalize (((w2.alloc (.cells #[.int .i64 1, .int .i64 1, .int .i64 0, .int .i64 0, .string ⟨#[99, 112, 117]⟩, .slice none 0 0, .int .i64 10, .slice none 0 0, .slice none 0 0] 26)).alloc (.cells #[.int .i64 2, .int .i64 1, .int .i64 0, .int .i64 0, .string ⟨#[]⟩, .slice none 0 0, .int .i64 0, .slice (some ⟨w.heap.size + 1, 0, none⟩) 1 1, .slice (some ⟨w2.heap.size, 0, none⟩) 1 1] 26)).alloc (.cells #[.int .i64 2, .int .i64 1, .int .i64 0, .int .i64 0, .string ⟨#[]⟩, .slice none 0 0, .int .i64 0, .slice (some ⟨w.heap.size + 1, 0, none⟩) 1 1, .slice (some ⟨w2.heap.size, 0, none⟩) 1 1] 26)) = X5 at ha5 hw5 hg5 hb5 hs5 hz5' ⊢
  have other : ∀ j, j ≠ w.heap.size → (X5.setRow w.heap.size #[.int .i64 5, .int .i64 0, .int .i64 6, .int .i64 3, .string ⟨#[]⟩, .slice none 0 0, .int .i64 0, .slice none 0 0, .slice (some ⟨w2.heap.size + 1 + 1, 0, none⟩) 1 1]).heap[j]? = X5.heap[j]? := fun j hj => by
    show (X5.heap.modify w.heap.size _)[j]? = _
    rw [Array.getElem?_modify, if_neg (fun e => hj e.symm)]
  have hs6 : (X5.setRow w.heap.size #[.int .i64 5, .int .i64 0, .int .i64 6, .int .i64 3, .string ⟨#[]⟩, .slice none 0 0, .int .i64 0, .slice none 0 0, .slice (some ⟨w2.heap.size + 1 + 1, 0, none⟩) 1 1]).heap.size = X5.heap.size := setRow_size _ _ _
  refine bodyPost_agg (g := w.heap.size) (fr := (0, 0)) rfl rfl (setRow_at hz5' _) Try.underlying26 rfl (by kernel_rfl) rfl ⟨[.int .i64 5, .int .i64 0, .int .i64 6, .int .i64 3, .string ⟨#[]⟩, .slice none 0 0, .int .i64 0, .slice none 0 0, .slice (some ⟨w2.heap.size + 1 + 1, 0, none⟩) 1 1], rfl, ?_, below_setRow hb5 (Nat.le_refl _) _, _, _, _, rfl, (other _ (by omega)).trans hg5, (other _ (by omega)).trans hw5, (other _ (by omega)).trans ha5, by omega, by omega, by omega, by omega⟩
  rw [hs6]
  have own1 : ∀ (g t : Nat) (cs : List Value) (sz : Nat), w.heap.size < g → Blk X5 g t cs → cs.length = 1 * sz → OwnIn w.heap.size X5.heap.size (X5.setRow w.heap.size #[.int .i64 5, .int .i64 0, .int .i64 6, .int .i64 3, .string ⟨#[]⟩, .slice none 0 0, .int .i64 0, .slice none 0 0, .slice (some ⟨w2.heap.size + 1 + 1, 0, none⟩) 1 1]) t sz (.slice (some ⟨g, 0, none⟩) 1 1) 1 cs := by
    intro g t cs sz hg hb hl
    refine ⟨⟨hl, .inr ⟨g, 1, _, rfl, by omega, (other g (by omega)).trans hb, Nat.le_refl _, by decide, by simpa using hl, ?_⟩⟩, fun g' hg' => ?_⟩
    · simp only [← hl]; exact List.take_length
    · simp only [Value.ownBlock, Option.some.injEq] at hg'; subst hg'; exact hb.lt
  have nil1 : ∀ (t sz : Nat), OwnIn w.heap.size X5.heap.size (X5.setRow w.heap.size #[.int .i64 5, .int .i64 0, .int .i64 6, .int .i64 3, .string ⟨#[]⟩, .slice none 0 0, .int .i64 0, .slice none 0 0, .slice (some ⟨w2.heap.size + 1 + 1, 0, none⟩) 1 1]) t sz (.slice none 0 0) 0 [] := fun t sz => ⟨World.ownsRow_nil _ _ _ _, fun g hg => by simp [Value.ownBlock] at hg⟩
  refine Fresh.mk (rows := [[.int .i64 2, .int .i64 1, .int .i64 0, .int .i64 0, .string ⟨#[]⟩, .slice none 0 0, .int .i64 0, .slice (some ⟨w.heap.size + 1, 0, none⟩) 1 1, .slice (some ⟨w2.heap.size, 0, none⟩) 1 1]]) (by decide) (by simp) (by simp) (nil1 _ _) (nil1 _ _) (own1 _ _ _ 9 (by omega) hg5 rfl) rfl ?_
  intro k r e' hr he
  match k, hr, he with
  | 0, hr, he =>
    simp only [List.getElem?_cons_zero, Option.some.injEq] at hr he
    subst hr he
    refine Fresh.mk (rows := [[.int .i64 1, .int .i64 1, .int .i64 0, .int .i64 0, .string ⟨#[99, 112, 117]⟩, .slice none 0 0, .int .i64 10, .slice none 0 0, .slice none 0 0]]) (by decide) (by simp) (by intro s hs; simp only [List.mem_singleton] at hs; subst hs; decide) (nil1 _ _) (own1 _ _ _ 1 (by omega) ha5 rfl) (own1 _ _ _ 9 (by omega) hw5 rfl) rfl ?_
    intro k r e' hr he
    match k, hr, he with
    | 0, hr, he =>
      simp only [List.getElem?_cons_zero, Option.some.injEq] at hr he
      subst hr he
      exact Fresh.mk (rows := []) (by decide) (by simp) (by simp) (nil1 _ _) (nil1 _ _) (nil1 _ _) rfl (fun k r e hr _ => by simp at hr)
    | k + 1, hr, he => simp at hr
  | k + 1, hr, he => simp at hr

end Go.Proofs.Ytikaiiamoaahdaa
