/- waterwheelkit on expressions: LightExpr, Expr. -/
import Derived.Test.YtdmojmadklckbaaKit2
namespace Go.Proofs.Ytdmojmadklckbaa
open Go.RowKit
set_option linter.unusedSimpArgs false
set_option linter.unusedVariables false

set_option maxHeartbeats 1000000 in
theorem kLight (e : Ex) (cs : List Value) (most : Int) (n : Nat) (w : World) (hn : n ≤ w.heap.size) (h0 : 0 ≤ most) (h1 : most ≤ 1000) (he : IsEx n w e cs) :
    Calls Try.prog 8 #[.agg cs.toArray, .int .i64 most] w fun e' w' => e' = .returned (.bool (light e most)) ∧ Below w.heap.size w w' := by
  obtain ⟨vm, vn, vk, rfl, hsz, hm, hna, hk⟩ := he.cells
  have He := Lib.hid he; clear he
  go_enter Try.func8, Try.ntmps8
  go_wp2_with fail
  refine (kWeigh 40 e _ most 40 n _ (by simp; omega) h0 h1 rfl (by omega) (He.out.mono ((Below.refl _ _).alloc hn _) (Nat.le_refl _))).mono ?_
  rintro e' w1 ⟨rfl, hb1⟩
  have hbox := (Box.new w [.int .i64 e.kind, .int .i64 e.fn, .int .i64 e.op, .int .i64 e.num, .string e.metric, vm, .int .i64 e.span, vn, vk] 26).keep hb1
  have c0 := hbox.2 0 _ rfl
  have c1 := hbox.2 1 _ rfl
  have c2 := hbox.2 2 _ rfl
  have c3 := hbox.2 3 _ rfl
  have c4 := hbox.2 4 _ rfl
  have c5 := hbox.2 5 _ rfl
  have c6 := hbox.2 6 _ rfl
  have c7 := hbox.2 7 _ rfl
  have c8 := hbox.2 8 _ rfl
  have hbw : Below w.heap.size w w1 := ((Below.refl w.heap.size w).alloc (Nat.le_refl _) _).trans (hb1.mono (by simp))
  have Hbw := Lib.hid hbw; clear hbw
  have Hb1 := Lib.hid hb1; clear hb1
  have Hbox := Lib.hid hbox; clear hbox
  by_cases hw : weigh 40 e most ≤ most
  · go_wp2_with fail
    refine (kShort e _ n _ (by have := Hbw.out.size; omega) (He.out.mono (Hbw.out.mono hn) (Nat.le_refl _))).mono ?_
    rintro e' w2 ⟨rfl, hb2⟩
    go_wp2_with fail
    go_ret
    exact ⟨ret_bool (by unfold light; rw [decide_eq_true hw]; rfl), Hbw.out.trans (hb2.mono Hbw.out.size)⟩
  · go_wp2_with fail
    go_ret
    exact ⟨ret_bool (by unfold light; rw [decide_eq_false (by omega)]; rfl), Hbw.out⟩

theorem ne_field {a b : Ex} {α : Type} (f : Ex → α) (h : ¬ f a = f b) : ¬ a = b := fun e => h (by rw [e])
/-- All but the kids are the same, and as many kids. -/
def alike (a b : Ex) : Prop := a.kind = b.kind ∧ a.fn = b.fn ∧ a.op = b.op ∧ a.num = b.num ∧ a.metric = b.metric ∧ a.mats = b.mats ∧ a.span = b.span ∧ a.names = b.names ∧ a.kids.length = b.kids.length
instance (a b : Ex) : Decidable (alike a b) := by unfold alike; infer_instance
theorem alike_eq {a b : Ex} (h : alike a b) (hk : a.kids = b.kids) : a = b := Ex.ext h.1 h.2.1 h.2.2.1 h.2.2.2.1 h.2.2.2.2.1 h.2.2.2.2.2.1 h.2.2.2.2.2.2.1 h.2.2.2.2.2.2.2.1 hk
theorem alike_of {a b : Ex} (h : a = b) : alike a b := by subst h; exact ⟨rfl, rfl, rfl, rfl, rfl, rfl, rfl, rfl, rfl⟩

theorem take_eq_step' {α : Type} {a b : List α} {k : Nat} (h : a.take k = b.take k) (ha : k < a.length) (hb : k < b.length) : a[k] = b[k] → a.take (k + 1) = b.take (k + 1) := take_eq_step h ha hb


end Go.Proofs.Ytdmojmadklckbaa
