/- Calls that only make memory, at any later world: what a law's great tests want. -/
import Derived.Test.YtikaiiamoaahdaaCopy0
namespace Go.Proofs.Ytikaiiamoaahdaa
open Go.RowKit
set_option linter.unusedSimpArgs false
set_option linter.unusedVariables false

/-- From here on only new memory has been made. -/
theorem keepCalls {P : Program} {f : FuncId} {args : Array Value} {W : World} {R : Ending → World → Prop} (h : ∀ X, Below W.heap.size W X → Calls P f args X fun e w' => R e w' ∧ Below X.heap.size X w') :
    ∀ X, Below W.heap.size W X → Calls P f args X fun e w' => R e w' ∧ Below W.heap.size W w' ∧ Below X.heap.size X w' ∧ ∀ b o, b < W.heap.size → w'.cell? ⟨b, o, none⟩ = X.cell? ⟨b, o, none⟩ := by
  intro X hX
  refine (h X hX).mono ?_
  rintro e w' ⟨hR, hb⟩
  exact ⟨hR, hX.trans (hb.mono hX.size), hb, fun b o hb' => hb.cell (p := ⟨b, o, none⟩) (by have := hX.size; simp; omega)⟩

/-- What is light has few matchers and names in each part. -/
theorem weigh_thin : ∀ (d : Nat) (e : Ex) (most : Int), 0 ≤ most → weigh d e most ≤ most → ∀ x ∈ e.flat, (x.mats.length : Int) ≤ most ∧ (x.names.length : Int) ≤ most := by
  intro d
  induction d with
  | zero => intro e most h hw; simp only [weigh] at hw; omega
  | succ d ih =>
    intro e most h hw
    rw [weigh_eq] at hw
    have key : ∀ (l : List Ex), weighTo d e most l ≤ most → ((e.mats.length : Int) ≤ most ∧ (e.names.length : Int) ≤ most) ∧ ∀ x ∈ flats l, (x.mats.length : Int) ≤ most ∧ (x.names.length : Int) ≤ most := by
      intro l
      induction l using snoc_ind with
      | nil =>
        intro hl
        simp only [weighTo, List.foldl_nil] at hl
        exact ⟨by omega, by simp [flats]⟩
      | snoc l k ihl =>
        intro hl
        have hs : weighTo d e most (l ++ [k]) = if weighTo d e most l ≤ most then weighTo d e most l + weigh d k (most - weighTo d e most l) else weighTo d e most l := by
          simp only [weighTo, List.foldl_append]; rfl
        rw [hs] at hl
        by_cases hle : weighTo d e most l ≤ most
        · rw [if_pos hle] at hl
          have hb := weighTo_bd d e most l h
          have h1 := ihl hle
          have h2 := ih k (most - weighTo d e most l) (by omega) (by omega)
          refine ⟨h1.1, fun x hx => ?_⟩
          rw [flats_append] at hx
          simp only [flats, List.append_nil, List.mem_append] at hx
          rcases hx with hx | hx
          · exact h1.2 x hx
          · have := h2 x hx; omega
        · rw [if_neg hle] at hl; omega
    have hk := key _ hw
    intro x hx
    rw [Ex.flat_eq] at hx
    rcases List.mem_cons.1 hx with rfl | hx
    · exact hk.1
    · exact hk.2 x hx
theorem light_thin {e : Ex} (h : light e 400 = true) : e.thin := by
  unfold light at h
  simp only [Bool.and_eq_true, decide_eq_true_eq] at h
  intro x hx
  have := weigh_thin 40 e 400 (by omega) h.1 x hx
  omega

end Go.Proofs.Ytikaiiamoaahdaa
