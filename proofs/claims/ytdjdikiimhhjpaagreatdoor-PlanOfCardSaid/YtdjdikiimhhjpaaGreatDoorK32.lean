/- From what an argument reads as to matchers, names, expressions in memory. -/
import Derived.Test.YtdjdikiimhhjpaaGreatDoorK31
import Derived.Test.YtdjdikiimhhjpaaGreatDoorK7
import Derived.ChangeArms
set_option maxRecDepth 100000
set_option maxHeartbeats 16000000
namespace Go.Proofs.YtdjdikiimhhjpaaGreatDoor
set_option maxRecDepth 100000
open Go.ChangeShapes Go.WideShapes Go.ChangeAt Go.RowKit
set_option linter.unusedVariables false
theorem list_choose {α β : Type} {R : α → β → Prop} : ∀ (l : List α), (∀ a ∈ l, ∃ b, R a b) → ∃ m : List β, m.length = l.length ∧ ∀ (k : Nat) (a : α) (b : β), l[k]? = some a → m[k]? = some b → R a b
  | [], _ => ⟨[], rfl, fun k a b h _ => by simp at h⟩
  | a :: l, h => by
    obtain ⟨b, hb⟩ := h a (by simp); obtain ⟨m, hm, hR⟩ := list_choose l (fun x hx => h x (by simp [hx])); refine ⟨b :: m, by simp [hm], fun k x y hx hy => ?_⟩; cases k with
    | zero => simp at hx hy; subst hx hy; exact hb
    | succ k => exact hR k x y (by simpa using hx) (by simpa using hy)
theorem addr_none {w : World} {a : Addr} {v : Value} (h : w.cell? a = some v) : a = ⟨a.block, a.off, none⟩ := by
  obtain ⟨b, o, s⟩ := a
  cases s with
  | none => rfl
  | some s =>
    simp only [World.cell?] at h
    split at h <;> simp_all
section
variable {H : Type} {enc : TypeId × Value → H} {P : Program} {w : World} {base : Nat} {spare : Nat → Bool} {held : Bool} {fuel : Nat} {x : DataW H × List MemPlace}
theorem arr_of_trod {t e : TypeId} {sz : Nat} {v : Value} (ht : P.underlying t = some (.slice e)) (hC : P.cellsOf e = sz) (hsz : 0 < sz) (h : DataW.trod enc P w base spare held fuel t [v] = some x) :
    ∃ rows : List (List Value), Arr w.heap.size w v sz rows ∧ (∀ r ∈ rows, r.length = sz) ∧ ∃ n, n < fuel ∧ ∀ r ∈ rows, ∃ y, DataW.trod enc P w base spare held n e r = some y := by
  subst hC
  rcases DataW.trod_slice ht h with ⟨hv, _⟩ | ⟨a, len, cap, elems, rest, n, rfl, hv, _, hbase, hlc, hcm, hlen, hel, _⟩
  · have hv : v = .slice none 0 0 := by simpa using hv
    subst hv; refine ⟨[], Arr.nil _ _ _, by simp, fuel - 1, ?_, by simp⟩; cases fuel with
    | zero => simp [DataW.trod] at h
    | succ n => omega
  · have hv : v = .slice (some a) len cap := by simpa using hv
    subst hv; have hrow : ∀ i, i < len → ∃ r y, w.cells? base (a.add (i * P.cellsOf e)) (P.cellsOf e) = some r ∧ DataW.trod enc P w base spare held n e r = some y := by
      intro i hi; have h1 := hel i hi; rw [List.getElem?_eq_getElem (by omega)] at h1; cases hc : w.cells? base (a.add (i * P.cellsOf e)) (P.cellsOf e) with
      | none => rw [hc] at h1; cases h1
      | some r => rw [hc] at h1; exact ⟨r, _, rfl, h1⟩
    obtain ⟨rows, hrl, hR⟩ := list_choose (R := fun i r => i < len → ∃ y, w.cells? base (a.add (i * P.cellsOf e)) (P.cellsOf e) = some r ∧ DataW.trod enc P w base spare held n e r = some y) (List.range len)
      (fun i hi => by
        obtain ⟨r, y, h1, h2⟩ := hrow i (by simpa using hi); exact ⟨r, fun _ => ⟨y, h1, h2⟩⟩)
    have hrl : rows.length = len := by simpa using hrl
    have hR' : ∀ (k : Nat) (r : List Value), rows[k]? = some r → ∃ y, w.cells? base (a.add (k * P.cellsOf e)) (P.cellsOf e) = some r ∧ DataW.trod enc P w base spare held n e r = some y := by
      intro k r hr; have hk : k < len := by have := (List.getElem?_eq_some_iff.1 hr).1; omega
      exact hR k k r (by simp [hk]) hr hk
    refine ⟨rows, ⟨some a, cap, by rw [hrl], by omega, hcm, fun hne => ?_⟩, ?_, n, by omega, ?_⟩
    · have h0 : 0 < rows.length := List.length_pos_iff.2 hne
      obtain ⟨y, hc, _⟩ := hR' 0 rows[0] (by simp); obtain ⟨_, hl, hg⟩ := World.cells?_some hc; have hc0 := hg 0 (by omega); rw [List.getElem?_eq_getElem (by omega)] at hc0; simp only [Nat.zero_mul] at hc0; have ha : a = ⟨a.block, a.off, none⟩ := addr_none (show w.cell? a = _ from hc0); refine ⟨a.block, a.off, by rw [← ha], ?_, fun k r hr j u hu => ?_⟩
      · exact World.block_lt_of_cell? w a hc0
      · obtain ⟨y, hc, _⟩ := hR' k r hr
        obtain ⟨_, hl, hg⟩ := World.cells?_some hc; have hj : j < P.cellsOf e := by have := (List.getElem?_eq_some_iff.1 hu).1; omega
        have h2 := hg j hj; rw [hu] at h2; rw [← h2]
        congr 1
        rw [ha]; unfold Addr.add
        by_cases h1 : k * P.cellsOf e = 0 <;> by_cases h3 : j = 0 <;> simp [h1, h3] <;> omega
    · intro r hr
      obtain ⟨k, hk, rfl⟩ := List.getElem_of_mem hr; obtain ⟨y, hc, _⟩ := hR' k rows[k] (by simp); exact (World.cells?_some hc).2.1
    · intro r hr
      obtain ⟨k, hk, rfl⟩ := List.getElem_of_mem hr; obtain ⟨y, _, h2⟩ := hR' k rows[k] (by simp); exact ⟨y, h2⟩
end
section
variable {H : Type} {enc : TypeId × Value → H} {w : World} {base : Nat} {spare : Nat → Bool} {held : Bool} {fuel : Nat} {x : DataW H × List MemPlace}
theorem mat_of_trod {r : List Value} (h : DataW.trod enc Tryz.prog w base spare held fuel 77 r = some x) : ∃ m : Mat, r = m.cells ∧ m.small := by
  obtain ⟨xs, n, rfl, _, hl, hxs, hf⟩ := DataW.trod_struct Tryz.underlying77 h
  have c3 : Tryz.prog.cellsOf 77 = 3 := by kernel_rfl
  have ci : Tryz.prog.cellsOf 3 = 1 := by kernel_rfl
  have cs : Tryz.prog.cellsOf 9 = 1 := by kernel_rfl
  rw [c3] at hl
  match r, hl with
  | [r0, r1, r2], _ =>
    have f0 : DataW.trod enc Tryz.prog w base spare held n 3 (List.take (Tryz.prog.cellsOf 3) (List.drop 0 [r0, r1, r2])) = xs[0]? := hf 0 _ rfl; have f1 : DataW.trod enc Tryz.prog w base spare held n 9 (List.take (Tryz.prog.cellsOf 9) (List.drop 1 [r0, r1, r2])) = xs[1]? := hf 1 _ rfl; have f2 : DataW.trod enc Tryz.prog w base spare held n 9 (List.take (Tryz.prog.cellsOf 9) (List.drop 2 [r0, r1, r2])) = xs[2]? := hf 2 _ rfl; simp only [ci, cs, List.drop_zero, List.drop_succ_cons, List.take_succ_cons, List.take_zero] at f0 f1 f2; have hxs : xs.length = 3 := hxs; rw [List.getElem?_eq_getElem (by omega)] at f0 f1 f2; obtain ⟨a, h0, _⟩ := DataW.trod_int Tryz.underlying3 f0; obtain ⟨b, h1, _, s1⟩ := DataW.trod_string Tryz.underlying9 f1; obtain ⟨c, h2, _, s2⟩ := DataW.trod_string Tryz.underlying9 f2; simp only [List.cons.injEq, and_true] at h0 h1 h2; subst h0 h1 h2; exact ⟨⟨a, b, c⟩, rfl, s1, s2⟩
theorem mats_of_trod {v : Value} (h : DataW.trod enc Tryz.prog w base spare held fuel 33 [v] = some x) : ∃ l, IsMats w.heap.size w v l := by
  obtain ⟨rows, ha, hlen, n, _, hr⟩ := arr_of_trod Tryz.underlying33 (sz := 3) (by kernel_rfl) (by decide) h
  obtain ⟨l, hl, hR⟩ := list_choose (R := fun (r : List Value) (m : Mat) => r = m.cells ∧ m.small) rows (fun r hr' => by
    obtain ⟨y, hy⟩ := hr r hr'; exact mat_of_trod hy)
  have he : rows = l.map Mat.cells := by
    apply List.ext_getElem
    · simp [hl]
    · intro k h1 h2
      have := (hR k rows[k] (l[k]'(by omega)) (by simp) (by simp)).1
      simpa using this
  refine ⟨l, by rw [← he]; exact ha, fun m hm => ?_⟩
  obtain ⟨k, hk, rfl⟩ := List.getElem_of_mem hm
  exact (hR k (rows[k]'(by omega)) l[k] (by simp) (by simp)).2
theorem strs_of_trod {v : Value} (h : DataW.trod enc Tryz.prog w base spare held fuel 34 [v] = some x) : ∃ l, IsStrs w.heap.size w v l := by
  obtain ⟨rows, ha, hlen, n, _, hr⟩ := arr_of_trod Tryz.underlying34 (sz := 1) (by kernel_rfl) (by decide) h
  obtain ⟨l, hl, hR⟩ := list_choose (R := fun (r : List Value) (s : ByteArray) => r = [.string s] ∧ s.size ≤ maxLen) rows (fun r hr' => by
    obtain ⟨y, hy⟩ := hr r hr'; obtain ⟨s, h1, _, h2⟩ := DataW.trod_string Tryz.underlying9 hy; exact ⟨s, h1, h2⟩)
  have he : rows = l.map fun s => [.string s] := by
    apply List.ext_getElem
    · simp [hl]
    · intro k h1 h2
      have := (hR k rows[k] (l[k]'(by omega)) (by simp) (by simp)).1
      simpa using this
  refine ⟨l, by rw [← he]; exact ha, fun m hm => ?_⟩
  obtain ⟨k, hk, rfl⟩ := List.getElem_of_mem hm
  exact (hR k (rows[k]'(by omega)) l[k] (by simp) (by simp)).2
end
theorem i64_bd {n : Int} (h : (Lit.int .i64 n).wf = true) : -9223372036854775808 ≤ n ∧ n ≤ 9223372036854775807 := by
  simp [Lit.wf, IntKind.min, IntKind.max, IntKind.signed, IntKind.bits] at h
  omega
theorem ex_of_trod2 {H : Type} {enc : TypeId × Value → H} {w : World} {base : Nat} {spare : Nat → Bool} {held : Bool} : ∀ (fuel : Nat) (r : List Value) (x : DataW H × List MemPlace), DataW.trod enc Tryz.prog w base spare held fuel 37 r = some x → ∃ e, IsEx w.heap.size w e r ∧ e.num64 := by
  intro fuel
  induction fuel using Nat.strongRecOn with
  | ind fuel ih =>
    intro r x h; obtain ⟨xs, n, rfl, _, hl, hxs, hf⟩ := DataW.trod_struct Tryz.underlying37 h; have c9 : Tryz.prog.cellsOf 37 = 9 := by kernel_rfl
    have ci : Tryz.prog.cellsOf 3 = 1 := by kernel_rfl
    have cj : Tryz.prog.cellsOf 2 = 1 := by kernel_rfl
    have cs : Tryz.prog.cellsOf 9 = 1 := by kernel_rfl
    have cm : Tryz.prog.cellsOf 33 = 1 := by kernel_rfl
    have cn : Tryz.prog.cellsOf 34 = 1 := by kernel_rfl
    have ce : Tryz.prog.cellsOf 35 = 1 := by kernel_rfl
    rw [c9] at hl; have hxs : xs.length = 9 := hxs
    match r, hl with
    | [r0, r1, r2, r3, r4, r5, r6, r7, r8], _ =>
      have f0 : DataW.trod enc Tryz.prog w base spare held n 3 (List.take (Tryz.prog.cellsOf 3) (List.drop 0 [r0, r1, r2, r3, r4, r5, r6, r7, r8])) = xs[0]? := hf 0 _ rfl; have f1 : DataW.trod enc Tryz.prog w base spare held n 3 (List.take (Tryz.prog.cellsOf 3) (List.drop 1 [r0, r1, r2, r3, r4, r5, r6, r7, r8])) = xs[1]? := hf 1 _ rfl; have f2 : DataW.trod enc Tryz.prog w base spare held n 3 (List.take (Tryz.prog.cellsOf 3) (List.drop 2 [r0, r1, r2, r3, r4, r5, r6, r7, r8])) = xs[2]? := hf 2 _ rfl; have f3 : DataW.trod enc Tryz.prog w base spare held n 2 (List.take (Tryz.prog.cellsOf 2) (List.drop 3 [r0, r1, r2, r3, r4, r5, r6, r7, r8])) = xs[3]? := hf 3 _ rfl; have f4 : DataW.trod enc Tryz.prog w base spare held n 9 (List.take (Tryz.prog.cellsOf 9) (List.drop 4 [r0, r1, r2, r3, r4, r5, r6, r7, r8])) = xs[4]? := hf 4 _ rfl; have f5 : DataW.trod enc Tryz.prog w base spare held n 33 (List.take (Tryz.prog.cellsOf 33) (List.drop 5 [r0, r1, r2, r3, r4, r5, r6, r7, r8])) = xs[5]? := hf 5 _ rfl; have f6 : DataW.trod enc Tryz.prog w base spare held n 2 (List.take (Tryz.prog.cellsOf 2) (List.drop 6 [r0, r1, r2, r3, r4, r5, r6, r7, r8])) = xs[6]? := hf 6 _ rfl; have f7 : DataW.trod enc Tryz.prog w base spare held n 34 (List.take (Tryz.prog.cellsOf 34) (List.drop 7 [r0, r1, r2, r3, r4, r5, r6, r7, r8])) = xs[7]? := hf 7 _ rfl; have f8 : DataW.trod enc Tryz.prog w base spare held n 35 (List.take (Tryz.prog.cellsOf 35) (List.drop 8 [r0, r1, r2, r3, r4, r5, r6, r7, r8])) = xs[8]? := hf 8 _ rfl; simp only [ci, cj, cs, cm, cn, ce, List.drop_zero, List.drop_succ_cons, List.take_succ_cons, List.take_zero] at f0 f1 f2 f3 f4 f5 f6 f7 f8; rw [List.getElem?_eq_getElem (by omega)] at f0 f1 f2 f3 f4 f5 f6 f7 f8; obtain ⟨a0, h0, _⟩ := DataW.trod_int Tryz.underlying3 f0; obtain ⟨a1, h1, _⟩ := DataW.trod_int Tryz.underlying3 f1; obtain ⟨a2, h2, _⟩ := DataW.trod_int Tryz.underlying3 f2; obtain ⟨a3, h3, _, w3⟩ := DataW.trod_int Tryz.underlying2 f3; obtain ⟨a4, h4, _, s4⟩ := DataW.trod_string Tryz.underlying9 f4; obtain ⟨a6, h6, _⟩ := DataW.trod_int Tryz.underlying2 f6; obtain ⟨ml, hm⟩ := mats_of_trod f5; obtain ⟨nl, hn⟩ := strs_of_trod f7; obtain ⟨rows, ha, hlen, n', hn', hr⟩ := arr_of_trod Tryz.underlying35 (sz := 9) (by kernel_rfl) (by decide) f8; obtain ⟨kids, hkl, hR⟩ := list_choose (R := fun (r : List Value) (e : Ex) => IsEx w.heap.size w e r ∧ e.num64) rows (fun r hr' => by
        obtain ⟨y, hy⟩ := hr r hr'; exact ih n' (by omega) r y hy)
      simp only [List.cons.injEq, and_true] at h0 h1 h2 h3 h4 h6; subst h0 h1 h2 h3 h4 h6; refine ⟨_, .mk s4 hm hn ha hkl.symm (fun k r e hr he => (hR k r e hr he).1), Ex.num64_of (i64_bd w3) fun k hk => ?_⟩; obtain ⟨i, hi, rfl⟩ := List.getElem_of_mem (show k ∈ kids from hk); exact (hR i (rows[i]'(by omega)) kids[i] (by simp) (by simp)).2
theorem ex_of_trod {H : Type} {enc : TypeId × Value → H} {w : World} {base : Nat} {spare : Nat → Bool} {held : Bool} (fuel : Nat) (r : List Value) (x : DataW H × List MemPlace) (h : DataW.trod enc Tryz.prog w base spare held fuel 37 r = some x) : ∃ e, IsEx w.heap.size w e r :=
  (ex_of_trod2 fuel r x h).imp fun _ h => h.1
theorem open_ex {H : Type} {enc : TypeId × Value → H} {w : World} {r : Reach} {b0 : Nat} {v : Value} {d : DataW H} {ps : List MemPlace} (hval : Value.okWide Tryz.prog w r b0 37 v) (hd : DataW.Trod enc Tryz.prog w 0 (fun _ => true) true 37 v d ps) :
    ∃ (cs : List Value) (e : Ex), v = .agg cs.toArray ∧ IsEx w.heap.size w e cs := by
  obtain ⟨cs, rfl, _⟩ := okWide_struct Tryz.underlying37 hval
  obtain ⟨fuel, hf⟩ := hd
  obtain ⟨e, he⟩ := ex_of_trod fuel cs.toList _ (by simpa [Value.cells] using hf)
  exact ⟨cs.toList, e, by simp, he⟩
theorem open_ex2 {H : Type} {enc : TypeId × Value → H} {w : World} {r : Reach} {b0 : Nat} {v : Value} {d : DataW H} {ps : List MemPlace} (hval : Value.okWide Tryz.prog w r b0 37 v) (hd : DataW.Trod enc Tryz.prog w 0 (fun _ => true) true 37 v d ps) :
    ∃ (cs : List Value) (e : Ex), v = .agg cs.toArray ∧ IsEx w.heap.size w e cs ∧ e.num64 := by
  obtain ⟨cs, rfl, _⟩ := okWide_struct Tryz.underlying37 hval
  obtain ⟨fuel, hf⟩ := hd
  obtain ⟨e, he, h2⟩ := ex_of_trod2 fuel cs.toList _ (by simpa [Value.cells] using hf)
  exact ⟨cs.toList, e, by simp, he, h2⟩
end Go.Proofs.YtdjdikiimhhjpaaGreatDoor
namespace Go.Proofs.YtdjdikiimhhjpaaGreatDoor
set_option maxRecDepth 100000
open Go.ChangeShapes Go.WideShapes Go.ChangeAt Go.RowKit
set_option linter.unusedVariables false
section
variable {H : Type} {enc : TypeId × Value → H} {w : World} {base : Nat} {spare : Nat → Bool} {held : Bool} {fuel : Nat} {x : DataW H × List MemPlace}
theorem q_of_trod2 {r : List Value} (h : DataW.trod enc Tryz.prog w base spare held fuel 44 r = some x) :
    ∃ q : Int × Ex, (-9223372036854775808 ≤ q.1 ∧ q.1 ≤ 9223372036854775807) ∧ ∃ cs, r = .int .i64 q.1 :: cs ∧ IsEx w.heap.size w q.2 cs ∧ q.2.num64 := by
  obtain ⟨xs, n, rfl, _, hl, hxs, hf⟩ := DataW.trod_struct Tryz.underlying44 h
  have c10 : Tryz.prog.cellsOf 44 = 10 := by kernel_rfl
  have cj : Tryz.prog.cellsOf 2 = 1 := by kernel_rfl
  have c9 : Tryz.prog.cellsOf 37 = 9 := by kernel_rfl
  rw [c10] at hl
  have hxs : xs.length = 2 := hxs
  match r, hl with
  | [r0, r1, r2, r3, r4, r5, r6, r7, r8, r9], _ =>
    have f0 : DataW.trod enc Tryz.prog w base spare held n 2 (List.take (Tryz.prog.cellsOf 2) (List.drop 0 [r0, r1, r2, r3, r4, r5, r6, r7, r8, r9])) = xs[0]? := hf 0 _ rfl; have f1 : DataW.trod enc Tryz.prog w base spare held n 37 (List.take (Tryz.prog.cellsOf 37) (List.drop 1 [r0, r1, r2, r3, r4, r5, r6, r7, r8, r9])) = xs[1]? := hf 1 _ rfl; simp only [cj, c9, List.drop_zero, List.drop_succ_cons, List.take_succ_cons, List.take_zero] at f0 f1; rw [List.getElem?_eq_getElem (by omega)] at f0 f1; obtain ⟨a, h0, _, hb⟩ := DataW.trod_int Tryz.underlying2 f0; obtain ⟨e, he, hn⟩ := ex_of_trod2 n _ _ f1; simp only [List.cons.injEq, and_true] at h0; subst h0; exact ⟨(a, e), i64_bd hb, _, rfl, he, hn⟩
end
section
variable {H : Type} {enc : TypeId × Value → H} {w : World} {r : Reach} {b0 : Nat} {v : Value} {d : DataW H} {ps : List MemPlace}
theorem open_q2 (hval : Value.okWide Tryz.prog w r b0 44 v) (hd : DataW.Trod enc Tryz.prog w 0 (fun _ => true) true 44 v d ps) :
    ∃ (ev : Int) (cs : List Value) (e : Ex), v = .agg (.int .i64 ev :: cs).toArray ∧ IsEx w.heap.size w e cs ∧ (-9223372036854775808 ≤ ev ∧ ev ≤ 9223372036854775807) ∧ e.num64 := by
  obtain ⟨cs, rfl, _⟩ := okWide_struct Tryz.underlying44 hval
  obtain ⟨fuel, hf⟩ := hd
  obtain ⟨⟨ev, e⟩, hb, cs', hc, he, hn⟩ := q_of_trod2 (fuel := fuel) (r := cs.toList) (by simpa [Value.cells] using hf)
  exact ⟨ev, cs', e, by rw [← hc], he, hb, hn⟩
end
end Go.Proofs.YtdjdikiimhhjpaaGreatDoor
