/- The kit's Set; LabelNames: lives and the walk. -/
import Derived.Test.YtbllkddpmmeloaaLa8
import Derived.Test.YtbllkddpmmeloaaLa4
namespace Go.Proofs.Ytbllkddpmmeloaa
open Go.RowKit
set_option linter.unusedSimpArgs false
set_option linter.unusedVariables false

def one (s : ByteArray) (t : ByteArray) : List Lab := if t.size = 0 then [] else [⟨s, t⟩]
def setL (a b : ByteArray) : List Lab := one ⟨#[97]⟩ a ++ one ⟨#[98]⟩ b
set_option maxHeartbeats 1000000 in
theorem kSet (a b : ByteArray) (w : World) :
    Calls Try.prog 5 #[.string a, .string b] w (PartIs w (setL a b)) := by
  obtain ⟨i0, hi, hz0, hz1, hz2⟩ := info_parts infoLab
  have key : ∀ s : ByteArray, (s.size = 0 ∧ s.toList.isEmpty = true) ∨ (s.size ≠ 0 ∧ s.toList.isEmpty = false) := by
    intro s
    cases h : s.toList.isEmpty with
    | true => exact .inl ⟨by have := txt_none h; omega, rfl⟩
    | false => exact .inr ⟨by have := txt_some h; omega, rfl⟩
  have n0 : OwnL w.heap.size w (.slice none 0 0) [] := World.ownsRow_nil _ _ _ _
  have N0 := Lib.hid n0; clear n0
  rcases key a with ⟨ha, ha'⟩ | ⟨ha, ha'⟩
  · rcases key b with ⟨hb, hb'⟩ | ⟨hb, hb'⟩
    · have HR : Hid (setL a b = []) := by show _ = _; simp [setL, one, ha, hb]
      clear key ha hb
      go_enter Try.func5, Try.ntmps5; (try simp only [List.append_eq, List.cons_append, List.nil_append])
      go_wp2
      go_ret
      exact ⟨_, rfl, by rw [HR.out]; exact N0.out, Below.refl _ _⟩
    · have HR : Hid (setL a b = [⟨⟨#[98]⟩, b⟩]) := by show _ = _; simp [setL, one, ha, hb]
      clear key ha hb
      go_enter Try.func5, Try.ntmps5; (try simp only [List.append_eq, List.cons_append, List.nil_append])
      go_wp2_with (at_builtin; refine wpList_append_src _ rfl _ _ _ rfl w.heap.size 28 i0 _ 2 32 Try.underlying22 hi hz0 hz1 hz2 rfl (by decide) _ 0 [] rfl (ownsRow_keep N0.out ((Below.refl _ _).alloc (Nat.le_refl _) _)) _ 1 [.string ⟨#[98]⟩, .string b] rfl (.inr ⟨_, 1, rfl, rfl, two_new w _ _ _ w.heap.size rfl⟩) (flat_one [⟨⟨#[98]⟩, b⟩]) (by decide) (by decide) (by simp) ?_; intro v3 w3 hown3 hgr3 hat3)
      go_ret
      exact ⟨_, rfl, by rw [HR.out]; exact hown3, below_app ((Below.refl _ _).alloc (Nat.le_refl _) _) (ownsRow_keep N0.out ((Below.refl _ _).alloc (Nat.le_refl _) _)) hgr3 (Nat.le_refl _) (by simp)⟩
  · rcases key b with ⟨hb, hb'⟩ | ⟨hb, hb'⟩
    · have HR : Hid (setL a b = [⟨⟨#[97]⟩, a⟩]) := by show _ = _; simp [setL, one, ha, hb]
      clear key ha hb
      go_enter Try.func5, Try.ntmps5; (try simp only [List.append_eq, List.cons_append, List.nil_append])
      go_wp2_with (at_builtin; refine wpList_append_src _ rfl _ _ _ rfl w.heap.size 28 i0 _ 2 32 Try.underlying22 hi hz0 hz1 hz2 rfl (by decide) _ 0 [] rfl (ownsRow_keep N0.out ((Below.refl _ _).alloc (Nat.le_refl _) _)) _ 1 [.string ⟨#[97]⟩, .string a] rfl (.inr ⟨_, 1, rfl, rfl, two_new w _ _ _ w.heap.size rfl⟩) (flat_one [⟨⟨#[97]⟩, a⟩]) (by decide) (by decide) (by simp) ?_; intro v3 w3 hown3 hgr3 hat3)
      go_ret
      exact ⟨_, rfl, by rw [HR.out]; exact hown3, below_app ((Below.refl _ _).alloc (Nat.le_refl _) _) (ownsRow_keep N0.out ((Below.refl _ _).alloc (Nat.le_refl _) _)) hgr3 (Nat.le_refl _) (by simp)⟩
    · have HR : Hid (setL a b = [⟨⟨#[97]⟩, a⟩, ⟨⟨#[98]⟩, b⟩]) := by show _ = _; simp [setL, one, ha, hb]
      clear key ha hb
      go_enter Try.func5, Try.ntmps5; (try simp only [List.append_eq, List.cons_append, List.nil_append])
      go_upto_region 4 with (at_builtin; refine wpList_append_src _ rfl _ _ _ rfl w.heap.size 28 i0 _ 2 32 Try.underlying22 hi hz0 hz1 hz2 rfl (by decide) _ 0 [] rfl (ownsRow_keep N0.out ((Below.refl _ _).alloc (Nat.le_refl _) _)) _ 1 [.string ⟨#[97]⟩, .string a] rfl (.inr ⟨_, 1, rfl, rfl, two_new w _ _ _ w.heap.size rfl⟩) (flat_one [⟨⟨#[97]⟩, a⟩]) (by decide) (by decide) (by simp) ?_; intro v3 w3 hown3 hgr3 hat3; have HO3 := Lib.hid hown3; have HB3 := Lib.hid (below_app ((Below.refl _ _).alloc (Nat.le_refl _) _) (ownsRow_keep N0.out ((Below.refl _ _).alloc (Nat.le_refl _) _)) hgr3 (Nat.le_refl _) (by simp)); clear hown3 hgr3 hat3)
      go_wp2_with (at_builtin; refine wpList_append_src _ rfl _ _ _ rfl w.heap.size 28 i0 _ 2 32 Try.underlying22 hi hz0 hz1 hz2 rfl (by decide) _ _ _ rfl (ownsRow_keep HO3.out ((Below.refl _ _).alloc (Nat.le_refl _) _)) _ 1 [.string ⟨#[98]⟩, .string b] rfl (.inr ⟨_, 1, rfl, rfl, two_new w3 _ _ _ w3.heap.size rfl⟩) (flat_one [⟨⟨#[98]⟩, b⟩]) (by decide) (by decide) (by have := HB3.out.size; simp; omega) ?_; intro v5 w5 hown5 hgr5 hat5)
      go_ret
      exact ⟨_, rfl, by rw [HR.out]; exact hown5, below_app (HB3.out.alloc HB3.out.size _) (ownsRow_keep HO3.out ((Below.refl _ _).alloc (Nat.le_refl _) _)) hgr5 (Nat.le_refl _) (by have := HB3.out.size; simp; omega)⟩
end Go.Proofs.Ytbllkddpmmeloaa
