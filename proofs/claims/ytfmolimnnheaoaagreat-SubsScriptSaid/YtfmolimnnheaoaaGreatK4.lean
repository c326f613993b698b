/- From what an argument reads as to lists of labels, matchers and texts in memory. -/
import Derived.Test.YtfmolimnnheaoaaGreatK2
import Derived.Test.YtfmolimnnheaoaaGreatK3
import Derived.ChangeArms
namespace Go.Proofs.YtfmolimnnheaoaaGreat
open Go.ChangeShapes Go.WideShapes Go.ChangeAt Go.RowKit
set_option maxRecDepth 100000
set_option linter.unusedVariables false

theorem list_choose {α β : Type} {R : α → β → Prop} : ∀ (l : List α), (∀ a ∈ l, ∃ b, R a b) → ∃ m : List β, m.length = l.length ∧ ∀ (k : Nat) (a : α) (b : β), l[k]? = some a → m[k]? = some b → R a b
  | [], _ => ⟨[], rfl, fun k a b h _ => by simp at h⟩
  | a :: l, h => by
    obtain ⟨b, hb⟩ := h a (by simp)
    obtain ⟨m, hm, hR⟩ := list_choose l (fun x hx => h x (by simp [hx]))
    refine ⟨b :: m, by simp [hm], fun k x y hx hy => ?_⟩
    cases k with
    | zero => simp at hx hy; subst hx hy; exact hb
    | succ k => exact hR k x y (by simpa using hx) (by simpa using hy)

theorem addr_none {w : World} {a : Addr} {v : Value} (h : w.cell? a = some v) : a = ⟨a.block, a.off, none⟩ := by
  obtain ⟨b, o, s⟩ := a
  cases s with
  | none => rfl
  | some s =>
    simp only [World.cell?] at h
    split at h <;> simp_all

section
variable {H : Type} {enc : TypeId × Value → H} {P : Program} {w : World} {base : Nat} {spare : Nat → Bool} {held : Bool} {fuel : Nat} {x : DataW H × List MemPlace}

/-- A slice that reads is a list of rows, each of which reads. -/
theorem arr_of_trod {t e : TypeId} {sz : Nat} {v : Value} (ht : P.underlying t = some (.slice e)) (hC : P.cellsOf e = sz) (hsz : 0 < sz) (h : DataW.trod enc P w base spare held fuel t [v] = some x) :
    ∃ rows : List (List Value), Arr w.heap.size w v sz rows ∧ (∀ r ∈ rows, r.length = sz) ∧ ∃ n, n < fuel ∧ ∀ r ∈ rows, ∃ y, DataW.trod enc P w base spare held n e r = some y := by
  subst hC
  rcases DataW.trod_slice ht h with ⟨hv, _⟩ | ⟨a, len, cap, elems, rest, n, rfl, hv, _, hbase, hlc, hcm, hlen, hel, _⟩
  · have hv : v = .slice none 0 0 := by simpa using hv
    subst hv
    refine ⟨[], Arr.nil _ _ _, by simp, fuel - 1, ?_, by simp⟩
    cases fuel with
    | zero => simp [DataW.trod] at h
    | succ n => omega
  · have hv : v = .slice (some a) len cap := by simpa using hv
    subst hv
    have hrow : ∀ i, i < len → ∃ r y, w.cells? base (a.add (i * P.cellsOf e)) (P.cellsOf e) = some r ∧ DataW.trod enc P w base spare held n e r = some y := by
      intro i hi
      have h1 := hel i hi
      rw [List.getElem?_eq_getElem (by omega)] at h1
      cases hc : w.cells? base (a.add (i * P.cellsOf e)) (P.cellsOf e) with
      | none => rw [hc] at h1; cases h1
      | some r => rw [hc] at h1; exact ⟨r, _, rfl, h1⟩
    obtain ⟨rows, hrl, hR⟩ := list_choose (R := fun i r => i < len → ∃ y, w.cells? base (a.add (i * P.cellsOf e)) (P.cellsOf e) = some r ∧ DataW.trod enc P w base spare held n e r = some y) (List.range len)
      (fun i hi => by
        obtain ⟨r, y, h1, h2⟩ := hrow i (by simpa using hi)
        exact ⟨r, fun _ => ⟨y, h1, h2⟩⟩)
    have hrl : rows.length = len := by simpa using hrl
    have hR' : ∀ (k : Nat) (r : List Value), rows[k]? = some r → ∃ y, w.cells? base (a.add (k * P.cellsOf e)) (P.cellsOf e) = some r ∧ DataW.trod enc P w base spare held n e r = some y := by
      intro k r hr
      have hk : k < len := by have := (List.getElem?_eq_some_iff.1 hr).1; omega
      exact hR k k r (by simp [hk]) hr hk
    refine ⟨rows, ⟨some a, cap, by rw [hrl], by omega, hcm, fun hne => ?_⟩, ?_, n, by omega, ?_⟩
    · have h0 : 0 < rows.length := List.length_pos_iff.2 hne
      obtain ⟨y, hc, _⟩ := hR' 0 rows[0] (by simp)
      obtain ⟨_, hl, hg⟩ := World.cells?_some hc
      have hc0 := hg 0 (by omega)
      rw [List.getElem?_eq_getElem (by omega)] at hc0
      simp only [Nat.zero_mul] at hc0
      have ha : a = ⟨a.block, a.off, none⟩ := addr_none (show w.cell? a = _ from hc0)
      refine ⟨a.block, a.off, by rw [← ha], ?_, fun k r hr j u hu => ?_⟩
      · exact World.block_lt_of_cell? w a hc0
      · obtain ⟨y, hc, _⟩ := hR' k r hr
        obtain ⟨_, hl, hg⟩ := World.cells?_some hc
        have hj : j < P.cellsOf e := by have := (List.getElem?_eq_some_iff.1 hu).1; omega
        have h2 := hg j hj
        rw [hu] at h2
        rw [← h2]
        congr 1
        rw [ha]
        unfold Addr.add
        by_cases h1 : k * P.cellsOf e = 0 <;> by_cases h3 : j = 0 <;> simp [h1, h3] <;> omega
    · intro r hr
      obtain ⟨k, hk, rfl⟩ := List.getElem_of_mem hr
      obtain ⟨y, hc, _⟩ := hR' k rows[k] (by simp)
      exact (World.cells?_some hc).2.1
    · intro r hr
      obtain ⟨k, hk, rfl⟩ := List.getElem_of_mem hr
      obtain ⟨y, _, h2⟩ := hR' k rows[k] (by simp)
      exact ⟨y, h2⟩
end

section
variable {H : Type} {enc : TypeId × Value → H} {w : World} {base : Nat} {spare : Nat → Bool} {held : Bool} {fuel : Nat} {x : DataW H × List MemPlace}
/-- A nil slice that reads has no room. -/
theorem room_of_trod {t e : TypeId} {v : Value} (ht : Tryz.prog.underlying t = some (.slice e)) (h : DataW.trod enc Tryz.prog w base spare held fuel t [v] = some x) : ∀ len cap, v = .slice none len cap → cap = 0 := by
  intro len cap hv
  subst hv
  rcases DataW.trod_slice ht h with ⟨hv, _⟩ | ⟨a, len', cap', elems, rest, n, _, hv, _⟩
  · simp at hv; exact hv.2
  · simp at hv
theorem lab_of_trod {r : List Value} (h : DataW.trod enc Tryz.prog w base spare held fuel 106 r = some x) : ∃ m : Lab, r = m.cells ∧ m.small := by
  obtain ⟨xs, n, rfl, _, hl, hxs, hf⟩ := DataW.trod_struct Tryz.underlying106 h
  have c3 : Tryz.prog.cellsOf 106 = 2 := by kernel_rfl
  have cs : Tryz.prog.cellsOf 9 = 1 := by kernel_rfl
  rw [c3] at hl
  match r, hl with
  | [r1, r2], _ =>
    have f1 : DataW.trod enc Tryz.prog w base spare held n 9 (List.take (Tryz.prog.cellsOf 9) (List.drop 0 [r1, r2])) = xs[0]? := hf 0 _ rfl
    have f2 : DataW.trod enc Tryz.prog w base spare held n 9 (List.take (Tryz.prog.cellsOf 9) (List.drop 1 [r1, r2])) = xs[1]? := hf 1 _ rfl
    simp only [cs, List.drop_zero, List.drop_succ_cons, List.take_succ_cons, List.take_zero] at f1 f2
    have hxs : xs.length = 2 := hxs
    rw [List.getElem?_eq_getElem (by omega)] at f1 f2
    obtain ⟨b, h1, _, s1⟩ := DataW.trod_string Tryz.underlying9 f1
    obtain ⟨c, h2, _, s2⟩ := DataW.trod_string Tryz.underlying9 f2
    simp only [List.cons.injEq, and_true] at h1 h2
    subst h1 h2
    exact ⟨⟨b, c⟩, rfl, s1, s2⟩
theorem labs_of_trod {v : Value} (h : DataW.trod enc Tryz.prog w base spare held fuel 91 [v] = some x) : ∃ l, IsLabs w.heap.size w v l := by
  obtain ⟨rows, ha, hlen, n, _, hr⟩ := arr_of_trod Tryz.underlying91 (sz := 2) (by kernel_rfl) (by decide) h
  obtain ⟨l, hl, hR⟩ := list_choose (R := fun (r : List Value) (m : Lab) => r = m.cells ∧ m.small) rows (fun r hr' => by
    obtain ⟨y, hy⟩ := hr r hr'
    exact lab_of_trod hy)
  have he : rows = l.map Lab.cells := by
    apply List.ext_getElem
    · simp [hl]
    · intro k h1 h2
      have := (hR k rows[k] (l[k]'(by omega)) (by simp) (by simp)).1
      simpa using this
  refine ⟨l, by rw [← he]; exact ha, fun m hm => ?_⟩
  obtain ⟨k, hk, rfl⟩ := List.getElem_of_mem hm
  exact (hR k (rows[k]'(by omega)) l[k] (by simp) (by simp)).2
end

section
variable {H : Type} {enc : TypeId × Value → H} {w : World} {r : Reach} {b0 : Nat} {v : Value} {d : DataW H} {ps : List MemPlace}
theorem open_labs (hval : Value.okWide Tryz.prog w r b0 91 v) (hd : DataW.Trod enc Tryz.prog w 0 (fun _ => true) true 91 v d ps) :
    ∃ l, IsLabs w.heap.size w v l ∧ (∀ len cap, v = .slice none len cap → cap = 0) := by
  obtain ⟨a, len, cap, rfl⟩ := okWide_slice Tryz.underlying91 hval
  obtain ⟨fuel, hf⟩ := hd
  have hf' : DataW.trod enc Tryz.prog w 0 (fun _ => true) true fuel 91 [.slice a len cap] = some (d, ps) := by simpa [Value.cells] using hf
  obtain ⟨l, h1⟩ := labs_of_trod hf'
  exact ⟨l, h1, room_of_trod Tryz.underlying91 hf'⟩
end
end Go.Proofs.YtfmolimnnheaoaaGreat
