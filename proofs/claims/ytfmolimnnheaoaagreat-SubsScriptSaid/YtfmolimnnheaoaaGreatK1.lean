/- Steps of a region that draws its order, one at a time, guards decided by the kernel, the state laid out anew. No program here. -/
import Derived.Test.YtfmolimnnheaoaaGreatK0
import Derived.StillTailTactics
import Derived.Deep.RegionHeld3
import Derived.KernelRfl
namespace Go.Proofs.YtfmolimnnheaoaaGreat
open Go.RowKit
set_option linter.unusedSimpArgs false
set_option linter.unusedVariables false

section
variable {P : Program} {ops : Array Oper} {Q : Exit → Act → World → Prop} {md : Region.Mode} {S : World → Prop}

theorem held_take (i d : Nat) (v : Value) {oi : Oper} {fuel : Nat} {listed : Array Bool} {T : List Value} {D : List Deferred} {w : World} (hi : ops[i]? = some oi) (hd : oi.dst = some d)
    (hs : Region.noSelect ops = true) (hf : Region.free md ops listed i = true) (hr : (Region.ready md ops listed).contains i = true)
    (hQ : ∀ c a w, Q (.panic c) (a.put oi.dst v) w → Q (.panic c) a w) (hw : Region.wanted oi (yielded ops T.toArray) = true)
    (hy : ∀ w, S w → (execOp (Act.eval ⟨T.toArray, D⟩) oi).run P w = .ok (.value v) w) (hS : S w)
    (h : wpAnyH P md ops Q S fuel (listed.setIfInBounds i true) ⟨(T.set d v).toArray, D⟩ w) : wpAnyH P md ops Q S (fuel + 1) listed ⟨T.toArray, D⟩ w := by
  refine wpAnyH_take hi hs hf hr hQ (.inl ⟨hw, hy⟩) hS ?_
  simpa [Act.put, hd] using h
theorem held_skip (i d : Nat) {oi : Oper} {fuel : Nat} {listed : Array Bool} {T : List Value} {D : List Deferred} {w : World} (hi : ops[i]? = some oi) (hd : oi.dst = some d)
    (hs : Region.noSelect ops = true) (hf : Region.free md ops listed i = true) (hr : (Region.ready md ops listed).contains i = true)
    (hQ : ∀ c a w, Q (.panic c) (a.put oi.dst undef) w → Q (.panic c) a w) (hw : Region.wanted oi (yielded ops T.toArray) = false) (hS : S w)
    (h : wpAnyH P md ops Q S fuel (listed.setIfInBounds i true) ⟨(T.set d undef).toArray, D⟩ w) : wpAnyH P md ops Q S (fuel + 1) listed ⟨T.toArray, D⟩ w := by
  refine wpAnyH_take hi hs hf hr hQ (.inr ⟨hw, rfl⟩) hS ?_
  simpa [Act.put, hd] using h
/-- A whole struct is stored, nothing else may come up. -/
theorem held_store (i : Nat) {oi : Oper} {fuel : Nat} {listed : Array Bool} {T : List Value} {D : List Deferred} {w : World} (hi : ops[i]? = some oi) (hr : Region.ready md ops listed = [i])
    (hw : Region.wanted oi (yielded ops T.toArray) = true) (hd : oi.dst = none) (ty : TypeId) (x y : Operand) (ho : oi.op = .store ty x y) (g : Nat) (cells old : List Value) (t : Nat)
    (hx : (Act.mk T.toArray D).eval x = .pointer (some ⟨g, 0, none⟩)) (hy : (Act.mk T.toArray D).eval y = .agg cells.toArray)
    (hg : Blk w g t old) (hsz : (P.info? ty).map (·.size) = some cells.length) (hold : old.length = cells.length) (h1 : cells.toArray.all (·.oneCell') = true) (hS : S (w.setRow g cells.toArray))
    (h : S (w.setRow g cells.toArray) → wpAnyH P md ops Q S fuel (listed.setIfInBounds i true) ⟨T.toArray, D⟩ (w.setRow g cells.toArray)) : wpAnyH P md ops Q S (fuel + 1) listed ⟨T.toArray, D⟩ w := by
  refine wpAnyH_ready (rs := [i]) hr (by simp) (.cons hi (fun K hK => ?_) .nil)
  rw [if_pos hw]
  refine wp_store_row ty x y ho g cells.toArray hx hy t old.toArray hg (by simpa using hsz) (by simpa using hold) h1 ?_
  rw [hd]
  exact hK.out _ _ hS h
end

end Go.Proofs.YtfmolimnnheaoaaGreat

/- Steps of a region that draws its order, told shortly. No program here. -/
namespace Go.Proofs.YtfmolimnnheaoaaGreat
open Go.RowKit
set_option linter.unusedSimpArgs false
set_option linter.unusedVariables false

section
variable {P : Program} {ops : Array Oper} {Q : Exit → Act → World → Prop} {md : Region.Mode} {S : World → Prop}
/-- held_take, what is always alike left to Lean. -/
theorem htk (i d : Nat) (v : Value) {oi : Oper} {fuel : Nat} {listed : Array Bool} {T : List Value} {D : List Deferred} {w : World} (hi : ops[i]? = some oi)
    (hy : ∀ w, S w → (execOp (Act.eval ⟨T.toArray, D⟩) oi).run P w = .ok (.value v) w)
    (h : wpAnyH P md ops Q S fuel (listed.setIfInBounds i true) ⟨(T.set d v).toArray, D⟩ w)
    (hd : oi.dst = some d := by kernel_rfl) (hs : Region.noSelect ops = true := by kernel_rfl) (hf : Region.free md ops listed i = true := by kernel_rfl) (hr : (Region.ready md ops listed).contains i = true := by kernel_rfl)
    (hQ : ∀ c a w, Q (.panic c) (a.put oi.dst v) w → Q (.panic c) a w := by exact fun _ _ _ h => h) (hw : Region.wanted oi (yielded ops T.toArray) = true := by kernel_rfl)
    (hS : S w := by assumption) : wpAnyH P md ops Q S (fuel + 1) listed ⟨T.toArray, D⟩ w := held_take i d v hi hd hs hf hr hQ hw hy hS h
/-- One alone may come up. -/
theorem hrd (i : Nat) {o : Oper} {fuel : Nat} {listed : Array Bool} {a : Act} {w : World} (ho : ops[i]? = some o)
    (h : ∀ K' : Act → World → Prop, Shut (∀ a w, S w → (S w → wpAnyH P md ops Q S fuel (listed.setIfInBounds i true) a w) → K' a w) → if Region.wanted o (yielded ops a.tmps) = true then Oper.wp P o a w K' Q else K' (a.put o.dst undef) w)
    (hr : Region.ready md ops listed = [i] := by kernel_rfl) : wpAnyH P md ops Q S (fuel + 1) listed a w := wpAnyH_ready hr (by simp) (.cons ho h .nil)
end
theorem lsz {α : Type} (a b : α) (l : List α) : (a :: l).set 0 b = b :: l := rfl
theorem lss {α : Type} (a b : α) (n : Nat) (l : List α) : (a :: l).set (n + 1) b = a :: l.set n b := rfl
theorem lsa {α : Type} (l : List α) (i : Nat) (a : α) : l.toArray.setIfInBounds i a = (l.set i a).toArray := by simp
end Go.Proofs.YtfmolimnnheaoaaGreat

/- A region that draws its order, whose stores come behind its loads: a load may be taken first where what it reads stands as long as nothing that waits for it has come up. No program here. -/
namespace Go.Proofs.YtfmolimnnheaoaaGreat
open Go.RowKit
set_option linter.unusedSimpArgs false
set_option linter.unusedVariables false

section
variable {P : Program} {ops : Array Oper} {Q : Exit → Act → World → Prop} {md : Region.Mode} {S : World → Prop} {L : Nat → Bool}
/-- Whatever order is picked; S holds behind every operation until one of L comes up. -/
def wpLate (P : Program) (md : Region.Mode) (ops : Array Oper) (Q : Exit → Act → World → Prop) (S : World → Prop) (L : Nat → Bool) : Nat → Bool → Array Bool → Act → World → Prop
  | 0, _, listed, a, w => Region.ready md ops listed = [] ∧ Q .normal a w
  | fuel + 1, b, listed, a, w => (Region.ready md ops listed = [] → Q .normal a w) ∧
    ∀ j ∈ Region.ready md ops listed, wpOp P ops Q j (fun a' w' => ((b && !L j) = true → S w') ∧ wpLate P md ops Q S L fuel (b && !L j) (listed.setIfInBounds j true) a' w') a w
theorem wpAny_of_late : ∀ (fuel : Nat) (b : Bool) (listed : Array Bool) (a : Act) (w : World), wpLate P md ops Q S L fuel b listed a w → wpAny P md ops Q fuel listed a w
  | 0, _, _, _, _, h => h
  | fuel + 1, _, _, _, _, h => ⟨h.1, fun i hi => wpOp_mono (fun _ _ h' => wpAny_of_late fuel _ _ _ _ h'.2) (h.2 i hi)⟩
theorem wpLate_first {i : Nat} {oi : Oper} {v : Value} (hi : ops[i]? = some oi) (hsel : ∀ (j : Nat) (o : Oper) cs b, ops[j]? = some o → o.op ≠ .select cs b) (hLi : L i = false)
    (hL : ∀ (j : Nat) (o : Oper), ops[j]? = some o → L j = true → ∃ e ∈ o.after, Region.binds md e = true ∧ e.on = i) (hQ : ∀ c a w, Q (.panic c) (a.put oi.dst v) w → Q (.panic c) a w) :
    ∀ (fuel : Nat) (listed : Array Bool) (a : Act) (w : World),
      (∀ j oj, ops[j]? = some oj → j ≠ i → listed.getD j true = false → (∀ e ∈ oj.after, Region.binds md e = true → e.on ≠ i) → oi.apart ops oj = true) →
      i ∈ Region.ready md ops listed → YieldsIf P ops S oi v a → S w →
      wpLate P md ops Q S L fuel true (listed.setIfInBounds i true) (a.put oi.dst v) w → wpLate P md ops Q S L (fuel + 1) true listed a w := by
  intro fuel
  induction fuel with
  | zero =>
    intro listed a w hfree hr hy hS H
    refine ⟨fun h => (by rw [h] at hr; cases hr), fun j hj => ?_⟩
    by_cases hji : j = i
    · subst hji; exact hy.wpOp hi hS ⟨fun _ => hS, by rw [hLi]; exact H⟩
    · have := ready_mono hj hji
      rw [H.1] at this
      cases this
  | succ fuel ih =>
    intro listed a w hfree hr hy hS H
    refine ⟨fun h => (by rw [h] at hr; cases hr), fun j hj => ?_⟩
    by_cases hji : j = i
    · subst hji; exact hy.wpOp hi hS ⟨fun _ => hS, by rw [hLi]; exact H⟩
    · have h1 := H.2 j (ready_mono hj hji)
      obtain ⟨hjun, oj, hoj, hall⟩ := mem_ready.1 hj
      have h0 := (mem_ready.1 hr).1
      have hnot : ∀ e ∈ oj.after, Region.binds md e = true → e.on ≠ i := fun e he hb heq => by
        have h1 := hall e he hb
        rw [heq] at h1
        rcases Nat.lt_or_ge i listed.size with h' | h'
        · simp [h'] at h0 h1; rw [h0] at h1; cases h1
        · simp [Array.getElem?_eq_none h'] at h1
      have hLj : L j = false := by
        cases hj2 : L j with
        | false => rfl
        | true =>
          obtain ⟨e, he, hb, he2⟩ := hL j oj hoj hj2
          exact absurd he2 (hnot e he hb)
      rw [hLj] at h1 ⊢
      have h2 := wpOp_putIf hoj (hfree j oj hoj hji hjun hnot) (fun cs b => hsel i oi cs b hi) (fun cs b => hsel j oj cs b hoj) hQ hy h1
      have hfree' : ∀ k ok, ops[k]? = some ok → k ≠ i → (listed.setIfInBounds j true).getD k true = false → (∀ e ∈ ok.after, Region.binds md e = true → e.on ≠ i) → oi.apart ops ok = true := fun k ok hk hki hun hno => by
        refine hfree k ok hk hki ?_ hno
        by_cases hjk : j = k
        · subst hjk; exact hjun
        · rw [getD_set_ne true hjk] at hun; exact hun
      refine wpOp_mono (fun a' w' h3 => ⟨fun _ => h3.2.1 rfl, ih (listed.setIfInBounds j true) a' w' hfree' (ready_mono hr (Ne.symm hji)) h3.1 (h3.2.1 rfl) ?_⟩) h2
      rw [Array.setIfInBounds_comm _ _ hji]
      exact h3.2.2
/-- Who waits for the i-th? -/
def waitsB (md : Region.Mode) (ops : Array Oper) (L : List Nat) (i : Nat) : Bool := L.all fun j => match ops[j]? with
  | some o => o.after.any fun e => Region.binds md e && e.on == i
  | none => true
theorem late_take {L : List Nat} (i d : Nat) (v : Value) {oi : Oper} {fuel : Nat} {listed : Array Bool} {T : List Value} {D : List Deferred} {w : World} (hi : ops[i]? = some oi) (hd : oi.dst = some d)
    (hs : Region.noSelect ops = true) (hf : Region.free md ops listed i = true) (hr : (Region.ready md ops listed).contains i = true) (hLi : L.contains i = false) (hL : waitsB md ops L i = true)
    (hQ : ∀ c a w, Q (.panic c) (a.put oi.dst v) w → Q (.panic c) a w) (hw : Region.wanted oi (yielded ops T.toArray) = true)
    (hy : ∀ w, S w → (execOp (Act.eval ⟨T.toArray, D⟩) oi).run P w = .ok (.value v) w) (hS : S w)
    (h : wpLate P md ops Q S (fun j => L.contains j) fuel true (listed.setIfInBounds i true) ⟨(T.set d v).toArray, D⟩ w) : wpLate P md ops Q S (fun j => L.contains j) (fuel + 1) true listed ⟨T.toArray, D⟩ w := by
  refine wpLate_first hi (Region.noSelect_spec hs) hLi (fun j o hj hLj => ?_) hQ fuel listed _ w (Region.free_spec hi hf) (by simpa using hr) (.inl ⟨hw, hy⟩) hS ?_
  · have h1 := List.all_eq_true.1 hL j (by simpa using hLj)
    rw [hj] at h1
    obtain ⟨e, he, h2⟩ := Array.any_eq_true'.1 h1
    simp only [Bool.and_eq_true, beq_iff_eq] at h2
    exact ⟨e, he, h2.1, h2.2⟩
  · have e : (Act.mk T.toArray D).put oi.dst v = ⟨(T.set d v).toArray, D⟩ := by simp [Act.put, hd]
    rw [e]
    exact h
/-- Each of these may come up next. -/
def LateReady (P : Program) (md : Region.Mode) (ops : Array Oper) (Q : Exit → Act → World → Prop) (S : World → Prop) (L : Nat → Bool) (fuel : Nat) (b : Bool) (listed : Array Bool) (a : Act) (w : World) (rs : List Nat) : Prop :=
  ∀ j ∈ rs, wpOp P ops Q j (fun a' w' => ((b && !L j) = true → S w') ∧ wpLate P md ops Q S L fuel (b && !L j) (listed.setIfInBounds j true) a' w') a w
theorem LateReady.nil {fuel : Nat} {b : Bool} {listed : Array Bool} {a : Act} {w : World} : LateReady P md ops Q S L fuel b listed a w [] := fun _ h => by cases h
theorem LateReady.cons {fuel : Nat} {b : Bool} {listed : Array Bool} {a : Act} {w : World} {i : Nat} {o : Oper} {rs : List Nat} (ho : ops[i]? = some o) (b' : Bool) (hb : (b && !L i) = b')
    (h : ∀ K' : Act → World → Prop, Hid (∀ a w, (b' = true → S w) → wpLate P md ops Q S L fuel b' (listed.setIfInBounds i true) a w → K' a w) → if Region.wanted o (yielded ops a.tmps) = true then Oper.wp P o a w K' Q else K' (a.put o.dst undef) w)
    (hs : LateReady P md ops Q S L fuel b listed a w rs) : LateReady P md ops Q S L fuel b listed a w (i :: rs) := fun j hj => by
  rcases List.mem_cons.1 hj with rfl | hj
  · rw [hb]
    exact wpOp_step ho (fun K' hK => h K' (Lib.hid (fun a w hS hW => hK a w ⟨hS, hW⟩)))
  · exact hs j hj
theorem late_ready {rs : List Nat} {fuel : Nat} {b : Bool} {listed : Array Bool} {a : Act} {w : World} (hr : Region.ready md ops listed = rs) (hne : rs ≠ []) (h : LateReady P md ops Q S L fuel b listed a w rs) : wpLate P md ops Q S L (fuel + 1) b listed a w :=
  ⟨fun h0 => absurd (hr ▸ h0) hne, by rw [hr]; exact h⟩
theorem late_done {listed : Array Bool} {b : Bool} {a : Act} {w : World} (hr : Region.ready md ops listed = []) (h : Q .normal a w) : ∀ fuel, wpLate P md ops Q S L fuel b listed a w
  | 0 => ⟨hr, h⟩
  | _ + 1 => ⟨fun _ => h, by rw [hr]; simp⟩
theorem wp_region_late {id : Nat} (L : List Nat) (S : World → Prop) {a : Act} {w : World} (hm : P.follows .mixedOrders = true)
    (h : wpLate P .any ops Q S (fun j => L.contains j) ops.size true (Array.replicate ops.size false) a w.drew) : (Code.region id ops true).wp P Q a w :=
  wp_region_any hm (wpAny_of_late _ _ _ _ _ h)
end
end Go.Proofs.YtfmolimnnheaoaaGreat
