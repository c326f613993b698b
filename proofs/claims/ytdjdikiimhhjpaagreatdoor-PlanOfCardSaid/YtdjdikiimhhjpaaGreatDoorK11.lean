/- Lists of expressions that a function makes and hands back. -/
import Derived.Test.YtdjdikiimhhjpaaGreatDoorK9
import Derived.Test.YtdjdikiimhhjpaaGreatDoorK10
import Derived.Test.YtdjdikiimhhjpaaGreatDoorK6
import Derived.Test.YtdjdikiimhhjpaaGreatDoorK4
import Derived.Test.YtdjdikiimhhjpaaGreatDoorK0
set_option maxRecDepth 100000
set_option maxHeartbeats 16000000
namespace Go.Proofs.YtdjdikiimhhjpaaGreatDoor
open Go.RowKit
set_option linter.unusedSimpArgs false
set_option linter.unusedVariables false
def Own (n base : Nat) (w : World) (v : Value) (l : List Ex) : Prop :=
  ∃ rows : List (List Value), w.ownsRow base 37 9 v l.length rows.flatten ∧ rows.length = l.length ∧ ∀ (k : Nat) (r : List Value) (e : Ex), rows[k]? = some r → l[k]? = some e → IsEx n w e r
theorem IsEx.length {n : Nat} {w : World} {e : Ex} {r : List Value} (h : IsEx n w e r) : r.length = 9 := by cases h; rfl
theorem IsEx.oneCells {n : Nat} {w : World} {e : Ex} {r : List Value} (h : IsEx n w e r) : ∀ u ∈ r, u.oneCell' = true := by
  obtain ⟨pm, cm, pn, cn, pk, ck, rfl, _⟩ := h.cellsE
  intro u hu
  simp only [List.mem_cons, List.not_mem_nil, or_false] at hu
  rcases hu with rfl | rfl | rfl | rfl | rfl | rfl | rfl | rfl | rfl <;> rfl
theorem rows_oneCells {n : Nat} {w : World} {l : List Ex} {rows : List (List Value)} (hl : rows.length = l.length) (hg : ∀ (k : Nat) (r : List Value) (e : Ex), rows[k]? = some r → l[k]? = some e → IsEx n w e r) :
    ∀ u ∈ rows.flatten, u.oneCell' = true := by
  intro u hu
  obtain ⟨r, hr, hur⟩ := List.mem_flatten.1 hu
  obtain ⟨k, hk, rfl⟩ := List.getElem_of_mem hr
  exact (hg k _ (l[k]'(by omega)) (by simp) (by simp)).oneCells u hur
theorem Own.keep {n base : Nat} {w w' : World} {v : Value} {l : List Ex} (h : Own n base w v l) (hn : n ≤ w.heap.size) (hb : Below w.heap.size w w') : Own n base w' v l := by
  obtain ⟨rows, h1, h2, h3⟩ := h
  exact ⟨rows, ownsRow_keep h1 hb, h2, fun k r e hr he => (h3 k r e hr he).mono (hb.mono hn) (Nat.le_refl _)⟩
theorem Own.one {n base : Nat} {w : World} {v : Value} {e : Ex} {cs : List Value} (h : w.ownsRow base 37 9 v 1 cs) (he : IsEx n w e cs) : Own n base w v [e] :=
  ⟨[cs], by simpa using h, rfl, fun k r e' hr he' => by
    cases k with
    | zero => simp at hr he'; subst hr; subst he'; exact he
    | succ k => simp at hr⟩
theorem Own.nil {n base : Nat} {w : World} : Own n base w (.slice none 0 0) [] := ⟨[], World.ownsRow_nil _ _ _ _, rfl, fun k r e hr _ => by simp at hr⟩
theorem Own.app {n base : Nat} {w w' : World} {v' : Value} {l l2 : List Ex} {rows rows2 : List (List Value)} (h1 : rows.length = l.length) (h2 : rows2.length = l2.length)
    (g1 : ∀ (k : Nat) (r : List Value) (e : Ex), rows[k]? = some r → l[k]? = some e → IsEx n w e r) (g2 : ∀ (k : Nat) (r : List Value) (e : Ex), rows2[k]? = some r → l2[k]? = some e → IsEx n w e r)
    (hb : Below n w w') (h : w'.ownsRow base 37 9 v' (l.length + l2.length) (rows.flatten ++ rows2.flatten)) : Own n base w' v' (l ++ l2) := by
  refine ⟨rows ++ rows2, by rw [List.length_append, List.flatten_append]; exact h, by simp [h1, h2], fun k r e hr he => ?_⟩
  by_cases hk : k < rows.length
  · rw [List.getElem?_append_left hk] at hr
    rw [List.getElem?_append_left (by omega)] at he; exact (g1 k r e hr he).mono hb (Nat.le_refl _)
  · rw [List.getElem?_append_right (by omega)] at hr
    rw [List.getElem?_append_right (by omega)] at he; rw [← h1] at he; exact (g2 _ r e hr he).mono hb (Nat.le_refl _)
theorem Own.exs {n base m : Nat} {w : World} {v : Value} {l : List Ex} (h : Own n base w v l) (hm : w.heap.size ≤ m) (hn : n ≤ m) : IsExs m w v l := by
  obtain ⟨rows, h1, h2, h3⟩ := h
  refine ⟨rows, ?_, h2, fun k r e hr he => (h3 k r e hr he).mono (Below.refl _ _) hn⟩
  have hlen : ∀ r ∈ rows, r.length = 9 := by
    intro r hr; obtain ⟨k, hk, rfl⟩ := List.getElem_of_mem hr; exact (h3 k _ (l[k]'(by omega)) (by simp) (by simp)).length
  rcases h1.2 with ⟨rfl, hl⟩ | ⟨g, cap, cur, rfl, hg, hh, hc1, hc2, hc3, hc4⟩
  · have : rows = [] := List.eq_nil_of_length_eq_zero (by omega)
    subst this; exact Arr.nil _ _ _
  · refine ⟨_, cap, by rw [h2], by omega, hc2, fun _ => ⟨g, 0, rfl, ?_, fun k r hr j x hx => ?_⟩⟩
    · have := (Array.getElem?_eq_some_iff.1 hh).1; omega
    · have hcell := h1.cells (g := g) rfl (k * 9 + j) x (flatten_at hlen hr hx)
      have e0 : (⟨g, 0, none⟩ : Addr).add (k * 9 + j) = ⟨g, 0 + k * 9 + j, none⟩ := by
        unfold Addr.add
        split <;> simp <;> omega
      rw [e0] at hcell; exact hcell
theorem infoE : (Tryz.prog.info? 37).map (fun i => (i.zero, i.size, i.bytes)) = some (some (.agg #[.int .i64 0, .int .i64 0, .int .i64 0, .int .i64 0, .string ⟨#[]⟩, .slice none 0 0, .int .i64 0, .slice none 0 0, .slice none 0 0]), 9, 128) := by kernel_rfl
end Go.Proofs.YtdjdikiimhhjpaaGreatDoor
namespace Go.Proofs.YtdjdikiimhhjpaaGreatDoor
open Go.RowKit
set_option linter.unusedSimpArgs false
set_option linter.unusedVariables false
theorem infoM : (Tryz.prog.info? 77).map (fun i => (i.zero, i.size, i.bytes)) = some (some (.agg #[.int .i64 0, .string ⟨#[]⟩, .string ⟨#[]⟩]), 3, 40) := by kernel_rfl
theorem infoS : (Tryz.prog.info? 9).map (fun i => (i.zero, i.size, i.bytes)) = some (some (.string ⟨#[]⟩), 1, 16) := by kernel_rfl
theorem cloneM (rows : List (List Value)) (v : Value) (n : Nat) (w : World) (hn : n ≤ w.heap.size) (ha : Arr n w v (3) rows) (hr : ∀ r ∈ rows, r.length = 3) (h1 : ∀ u ∈ rows.flatten, u.oneCell' = true) (hl : rows.length ≤ 1000000) :
    Calls Tryz.prog 43 #[v] w fun e' w' => ∃ v', e' = .returned v' ∧ w'.ownsRow w.heap.size 77 (3) v' rows.length rows.flatten ∧ Below w.heap.size w w' := by
  obtain ⟨i0, hi, hz0, hz1, hz2⟩ := info_parts infoM
  obtain ⟨p, cap, rfl, hc1, hc2, -⟩ := id ha
  have Ha := Lib.hid ha; clear ha
  have Hr := Lib.hid hr; clear hr
  have H1 := Lib.hid h1; clear h1
  cases p with
  | none =>
    have hrow : rows = [] := by
      obtain ⟨p', cap', hv, _, _, h3⟩ := Ha.out; cases hv; cases rows with
      | nil => rfl
      | cons r rows => obtain ⟨b, off, hp, _⟩ := h3 (by simp); cases hp
    have Hrow := Lib.hid hrow; clear hrow; have hnil : ∀ w, (binOp .eql 33 (.slice none rows.length cap) (.slice none 0 0)).run Tryz.prog w = .ok (.bool true) w := fun w => Lib.run_eql_slice_nil (P := Tryz.prog) w 33 _ none rows.length cap 0 0 Tryz.underlying33
    go_enter Tryz.func43, Tryz.ntmps43; (try simp only [List.append_eq, List.cons_append, List.nil_append])
    go_wp2; go_ret; refine ⟨_, rfl, ?_, Below.refl _ _⟩; rw [Hrow.out]; exact World.ownsRow_nil _ _ _ _
  | some ad =>
    have hnil : ∀ w, (binOp .eql 33 (.slice (some ad) rows.length cap) (.slice none 0 0)).run Tryz.prog w = .ok (.bool false) w := fun w => Lib.run_eql_slice_nil (P := Tryz.prog) w 33 _ (some ad) rows.length cap 0 0 Tryz.underlying33
    go_enter Tryz.func43, Tryz.ntmps43; (try simp only [List.append_eq, List.cons_append, List.nil_append])
    go_wp2_with (at_builtin; refine wpList_append_src _ rfl _ _ _ rfl w.heap.size 77 i0 _ (3) (40) Tryz.underlying33 hi hz0 hz1 hz2 rfl (by decide) (.slice (some ⟨w.heap.size, 0, none⟩) 0 0) 0 [] rfl ⟨rfl, .inr ⟨_, 0, #[], rfl, Nat.le_refl _, World.alloc_heap_new w _, Nat.le_refl _, Nat.zero_le _, rfl, rfl⟩⟩ _ rows.length rows.flatten rfl (Src.of_arr (Ha.out.mono ((Below.refl _ _).alloc hn _) (Nat.le_refl _)) Hr.out (by decide) (by simp)) H1.out (by unfold maxLen; omega) (by omega) (by simp) ?_; intro v3 w3 hown3 hgr3 hat3)
    go_ret; exact ⟨_, rfl, by simpa using hown3, ((Below.refl _ _).alloc (Nat.le_refl _) _).grown hgr3 (by simp) (by simp [Value.ownBlock])⟩
theorem cloneS (rows : List (List Value)) (v : Value) (n : Nat) (w : World) (hn : n ≤ w.heap.size) (ha : Arr n w v (1) rows) (hr : ∀ r ∈ rows, r.length = 1) (h1 : ∀ u ∈ rows.flatten, u.oneCell' = true) (hl : rows.length ≤ 1000000) :
    Calls Tryz.prog 44 #[v] w fun e' w' => ∃ v', e' = .returned v' ∧ w'.ownsRow w.heap.size 9 (1) v' rows.length rows.flatten ∧ Below w.heap.size w w' := by
  obtain ⟨i0, hi, hz0, hz1, hz2⟩ := info_parts infoS
  obtain ⟨p, cap, rfl, hc1, hc2, -⟩ := id ha
  have Ha := Lib.hid ha; clear ha
  have Hr := Lib.hid hr; clear hr
  have H1 := Lib.hid h1; clear h1
  cases p with
  | none =>
    have hrow : rows = [] := by
      obtain ⟨p', cap', hv, _, _, h3⟩ := Ha.out; cases hv; cases rows with
      | nil => rfl
      | cons r rows => obtain ⟨b, off, hp, _⟩ := h3 (by simp); cases hp
    have Hrow := Lib.hid hrow; clear hrow; have hnil : ∀ w, (binOp .eql 34 (.slice none rows.length cap) (.slice none 0 0)).run Tryz.prog w = .ok (.bool true) w := fun w => Lib.run_eql_slice_nil (P := Tryz.prog) w 34 _ none rows.length cap 0 0 Tryz.underlying34
    go_enter Tryz.func44, Tryz.ntmps44; (try simp only [List.append_eq, List.cons_append, List.nil_append])
    go_wp2; go_ret; refine ⟨_, rfl, ?_, Below.refl _ _⟩; rw [Hrow.out]; exact World.ownsRow_nil _ _ _ _
  | some ad =>
    have hnil : ∀ w, (binOp .eql 34 (.slice (some ad) rows.length cap) (.slice none 0 0)).run Tryz.prog w = .ok (.bool false) w := fun w => Lib.run_eql_slice_nil (P := Tryz.prog) w 34 _ (some ad) rows.length cap 0 0 Tryz.underlying34
    go_enter Tryz.func44, Tryz.ntmps44; (try simp only [List.append_eq, List.cons_append, List.nil_append])
    go_wp2_with (at_builtin; refine wpList_append_src _ rfl _ _ _ rfl w.heap.size 9 i0 _ (1) (16) Tryz.underlying34 hi hz0 hz1 hz2 rfl (by decide) (.slice (some ⟨w.heap.size, 0, none⟩) 0 0) 0 [] rfl ⟨rfl, .inr ⟨_, 0, #[], rfl, Nat.le_refl _, World.alloc_heap_new w _, Nat.le_refl _, Nat.zero_le _, rfl, rfl⟩⟩ _ rows.length rows.flatten rfl (Src.of_arr (Ha.out.mono ((Below.refl _ _).alloc hn _) (Nat.le_refl _)) Hr.out (by decide) (by simp)) H1.out (by unfold maxLen; omega) (by omega) (by simp) ?_; intro v3 w3 hown3 hgr3 hat3)
    go_ret; exact ⟨_, rfl, by simpa using hown3, ((Below.refl _ _).alloc (Nat.le_refl _) _).grown hgr3 (by simp) (by simp [Value.ownBlock])⟩
theorem cloneE (rows : List (List Value)) (v : Value) (n : Nat) (w : World) (hn : n ≤ w.heap.size) (ha : Arr n w v (9) rows) (hr : ∀ r ∈ rows, r.length = 9) (h1 : ∀ u ∈ rows.flatten, u.oneCell' = true) (hl : rows.length ≤ 1000000) :
    Calls Tryz.prog 45 #[v] w fun e' w' => ∃ v', e' = .returned v' ∧ w'.ownsRow w.heap.size 37 (9) v' rows.length rows.flatten ∧ Below w.heap.size w w' := by
  obtain ⟨i0, hi, hz0, hz1, hz2⟩ := info_parts infoE
  obtain ⟨p, cap, rfl, hc1, hc2, -⟩ := id ha
  have Ha := Lib.hid ha; clear ha
  have Hr := Lib.hid hr; clear hr
  have H1 := Lib.hid h1; clear h1
  cases p with
  | none =>
    have hrow : rows = [] := by
      obtain ⟨p', cap', hv, _, _, h3⟩ := Ha.out; cases hv; cases rows with
      | nil => rfl
      | cons r rows => obtain ⟨b, off, hp, _⟩ := h3 (by simp); cases hp
    have Hrow := Lib.hid hrow; clear hrow; have hnil : ∀ w, (binOp .eql 35 (.slice none rows.length cap) (.slice none 0 0)).run Tryz.prog w = .ok (.bool true) w := fun w => Lib.run_eql_slice_nil (P := Tryz.prog) w 35 _ none rows.length cap 0 0 Tryz.underlying35
    go_enter Tryz.func45, Tryz.ntmps45; (try simp only [List.append_eq, List.cons_append, List.nil_append])
    go_wp2; go_ret; refine ⟨_, rfl, ?_, Below.refl _ _⟩; rw [Hrow.out]; exact World.ownsRow_nil _ _ _ _
  | some ad =>
    have hnil : ∀ w, (binOp .eql 35 (.slice (some ad) rows.length cap) (.slice none 0 0)).run Tryz.prog w = .ok (.bool false) w := fun w => Lib.run_eql_slice_nil (P := Tryz.prog) w 35 _ (some ad) rows.length cap 0 0 Tryz.underlying35
    go_enter Tryz.func45, Tryz.ntmps45; (try simp only [List.append_eq, List.cons_append, List.nil_append])
    go_wp2_with (at_builtin; refine wpList_append_src _ rfl _ _ _ rfl w.heap.size 37 i0 _ (9) (128) Tryz.underlying35 hi hz0 hz1 hz2 rfl (by decide) (.slice (some ⟨w.heap.size, 0, none⟩) 0 0) 0 [] rfl ⟨rfl, .inr ⟨_, 0, #[], rfl, Nat.le_refl _, World.alloc_heap_new w _, Nat.le_refl _, Nat.zero_le _, rfl, rfl⟩⟩ _ rows.length rows.flatten rfl (Src.of_arr (Ha.out.mono ((Below.refl _ _).alloc hn _) (Nat.le_refl _)) Hr.out (by decide) (by simp)) H1.out (by unfold maxLen; omega) (by omega) (by simp) ?_; intro v3 w3 hown3 hgr3 hat3)
    go_ret; exact ⟨_, rfl, by simpa using hown3, ((Below.refl _ _).alloc (Nat.le_refl _) _).grown hgr3 (by simp) (by simp [Value.ownBlock])⟩
end Go.Proofs.YtdjdikiimhhjpaaGreatDoor
namespace Go.Proofs.YtdjdikiimhhjpaaGreatDoor
open Go.RowKit
set_option linter.unusedSimpArgs false
set_option linter.unusedVariables false
theorem arr_of_own {m lo e sz : Nat} {w : World} {v : Value} {rows : List (List Value)} (h : w.ownsRow lo e sz v rows.length rows.flatten) (hlen : ∀ r ∈ rows, r.length = sz) (hm : ∀ g, v.ownBlock = some g → g < m) : Arr m w v sz rows := by
  rcases h.2 with ⟨rfl, hl⟩ | ⟨g, cap, cur, rfl, hg, hh, hc1, hc2, hc3, hc4⟩
  · have : rows = [] := List.eq_nil_of_length_eq_zero hl
    subst this; exact Arr.nil _ _ _
  · refine ⟨_, cap, rfl, hc1, hc2, fun _ => ⟨g, 0, rfl, hm g rfl, fun k r hr j x hx => ?_⟩⟩
    have hcell := h.cells (g := g) rfl (k * sz + j) x (flatten_at hlen hr hx); have e0 : (⟨g, 0, none⟩ : Addr).add (k * sz + j) = ⟨g, 0 + k * sz + j, none⟩ := by
      unfold Addr.add
      split <;> simp <;> omega
    rw [e0] at hcell; exact hcell
def OwnIn (lo hi : Nat) (w : World) (e sz : Nat) (v : Value) (n : Nat) (xs : List Value) : Prop := w.ownsRow lo e sz v n xs ∧ ∀ g, v.ownBlock = some g → g < hi
theorem OwnIn.of_own {lo hi e sz n : Nat} {w : World} {v : Value} {xs : List Value} (h : w.ownsRow lo e sz v n xs) (hh : w.heap.size ≤ hi) : OwnIn lo hi w e sz v n xs :=
  ⟨h, fun g hg => Nat.lt_of_lt_of_le (ownsRow_block h g hg).2 hh⟩
theorem OwnIn.keep {lo hi e sz n : Nat} {w w' : World} {v : Value} {xs : List Value} (h : OwnIn lo hi w e sz v n xs) (hk : ∀ k, lo ≤ k → k < hi → w'.heap[k]? = w.heap[k]?) : OwnIn lo hi w' e sz v n xs := by
  refine ⟨⟨h.1.1, ?_⟩, h.2⟩
  rcases h.1.2 with h' | ⟨g, cap, cur, rfl, hg, hh, h1⟩
  · exact .inl h'
  · exact .inr ⟨g, cap, cur, rfl, hg, (hk g hg (h.2 g rfl)).trans hh, h1⟩
theorem OwnIn.more {lo hi lo' hi' e sz n : Nat} {w : World} {v : Value} {xs : List Value} (h : OwnIn lo hi w e sz v n xs) (h1 : lo' ≤ lo) (h2 : hi ≤ hi') : OwnIn lo' hi' w e sz v n xs :=
  ⟨ownsRow_base h.1 h1, fun g hg => Nat.lt_of_lt_of_le (h.2 g hg) h2⟩
theorem mats_len (l : List Mat) : ∀ r ∈ l.map Mat.cells, r.length = 3 := by
  intro r hr
  obtain ⟨m, _, rfl⟩ := List.mem_map.1 hr
  rfl
theorem names_len (l : List ByteArray) : ∀ r ∈ l.map (fun s => [Value.string s]), r.length = 1 := by
  intro r hr
  obtain ⟨m, _, rfl⟩ := List.mem_map.1 hr
  rfl
theorem mats_one (l : List Mat) : ∀ u ∈ (l.map Mat.cells).flatten, u.oneCell' = true := by
  intro u hu
  obtain ⟨r, hr, hur⟩ := List.mem_flatten.1 hu
  obtain ⟨m, _, rfl⟩ := List.mem_map.1 hr
  simp only [Mat.cells, List.mem_cons, List.not_mem_nil, or_false] at hur
  rcases hur with rfl | rfl | rfl <;> rfl
theorem names_one (l : List ByteArray) : ∀ u ∈ (l.map (fun s => [Value.string s])).flatten, u.oneCell' = true := by
  intro u hu
  obtain ⟨r, hr, hur⟩ := List.mem_flatten.1 hu
  obtain ⟨m, _, rfl⟩ := List.mem_map.1 hr
  simp only [List.mem_cons, List.not_mem_nil, or_false] at hur
  rcases hur with rfl
  rfl
inductive Fresh (lo hi : Nat) (w : World) : Ex → List Value → Prop where
  | mk {kind fn op num : Int} {metric : ByteArray} {mats : List Mat} {span : Int} {names : List ByteArray} {kids : List Ex} {vm vn vk : Value} {rows : List (List Value)}
      (hs : metric.size ≤ maxLen) (hms : ∀ m ∈ mats, m.small) (hns : ∀ s ∈ names, s.size ≤ maxLen) (hm : OwnIn lo hi w 77 3 vm mats.length (mats.map Mat.cells).flatten)
      (hn : OwnIn lo hi w 9 1 vn names.length (names.map fun s => [Value.string s]).flatten) (hk : OwnIn lo hi w 37 9 vk kids.length rows.flatten) (hl : rows.length = kids.length)
      (hr : ∀ (k : Nat) (r : List Value) (e : Ex), rows[k]? = some r → kids[k]? = some e → Fresh lo hi w e r) :
      Fresh lo hi w (.mk kind fn op num metric mats span names kids) [.int .i64 kind, .int .i64 fn, .int .i64 op, .int .i64 num, .string metric, vm, .int .i64 span, vn, vk]
theorem Fresh.length {lo hi : Nat} {w : World} {e : Ex} {cs : List Value} (h : Fresh lo hi w e cs) : cs.length = 9 := by cases h; rfl
theorem Fresh.isEx {lo hi m : Nat} {w : World} {e : Ex} {cs : List Value} (h : Fresh lo hi w e cs) (hm : hi ≤ m) : IsEx m w e cs := by
  induction h with
  | mk hs hms hns h1 h2 h3 hl hr ih =>
    rename_i mats _ names kids _ _ _ rows
    refine .mk hs ⟨arr_of_own (by simpa using h1.1) (mats_len _) (fun g hg => Nat.lt_of_lt_of_le (h1.2 g hg) hm), hms⟩ ⟨arr_of_own (by simpa using h2.1) (names_len _) (fun g hg => Nat.lt_of_lt_of_le (h2.2 g hg) hm), hns⟩
      (arr_of_own (by rw [hl]; exact h3.1) ?_ (fun g hg => Nat.lt_of_lt_of_le (h3.2 g hg) hm)) hl fun k r e hr he => ih k r e hr he
    intro r hr'; obtain ⟨k, hk, rfl⟩ := List.getElem_of_mem hr'; exact (hr k _ (kids[k]'(by omega)) (by simp) (by simp)).length
theorem Fresh.keep {lo hi : Nat} {w w' : World} {e : Ex} {cs : List Value} (h : Fresh lo hi w e cs) (hk : ∀ k, lo ≤ k → k < hi → w'.heap[k]? = w.heap[k]?) : Fresh lo hi w' e cs := by
  induction h with
  | mk hs hms hns h1 h2 h3 hl hr ih => exact .mk hs hms hns (h1.keep hk) (h2.keep hk) (h3.keep hk) hl ih
theorem Fresh.more {lo hi lo' hi' : Nat} {w : World} {e : Ex} {cs : List Value} (h : Fresh lo hi w e cs) (h1 : lo' ≤ lo) (h2 : hi ≤ hi') : Fresh lo' hi' w e cs := by
  induction h with
  | mk hs hms hns h1' h2' h3' hl hr ih => exact .mk hs hms hns (h1'.more h1 h2) (h2'.more h1 h2) (h3'.more h1 h2) hl ih
theorem Fresh.cells {lo hi : Nat} {w : World} {e : Ex} {cs : List Value} (h : Fresh lo hi w e cs) :
    ∃ (vm vn vk : Value) (rows : List (List Value)), cs = [.int .i64 e.kind, .int .i64 e.fn, .int .i64 e.op, .int .i64 e.num, .string e.metric, vm, .int .i64 e.span, vn, vk] ∧ OwnIn lo hi w 77 3 vm e.mats.length (e.mats.map Mat.cells).flatten ∧
      OwnIn lo hi w 9 1 vn e.names.length (e.names.map fun s => [Value.string s]).flatten ∧ OwnIn lo hi w 37 9 vk e.kids.length rows.flatten ∧ rows.length = e.kids.length ∧
      ∀ (k : Nat) (r : List Value) (e' : Ex), rows[k]? = some r → e.kids[k]? = some e' → Fresh lo hi w e' r := by
  cases h with
  | mk hs hms hns h1 h2 h3 hl hr => exact ⟨_, _, _, _, rfl, h1, h2, h3, hl, hr⟩
def Ex.thin (e : Ex) : Prop := ∀ x ∈ e.flat, x.mats.length ≤ 1000000 ∧ x.names.length ≤ 1000000
theorem Ex.thin_self {e : Ex} (h : e.thin) : e.mats.length ≤ 1000000 ∧ e.names.length ≤ 1000000 := h e (by rw [Ex.flat_eq]; simp)
theorem Ex.thin_kid {e : Ex} (h : e.thin) {k : Nat} (hk : k < e.kids.length) : e.kids[k].thin := by
  intro x hx
  refine h x ?_
  rw [Ex.flat_eq]
  refine List.mem_cons_of_mem _ ?_
  have h1 := flats_append (e.kids.take (k + 1)) (e.kids.drop (k + 1))
  rw [List.take_append_drop, flats_step hk] at h1
  rw [h1]
  simp [hx]
theorem set_row {rows : List (List Value)} {sz : Nat} (hlen : ∀ r ∈ rows, r.length = sz) {k j : Nat} (hk : k < rows.length) (hj : j < sz) (u : Value) :
    rows.flatten.set (k * sz + j) u = (rows.set k (rows[k].set j u)).flatten := by
  induction rows generalizing k with
  | nil => simp at hk
  | cons r rows ih =>
    have h0 := hlen r (by simp); cases k with
    | zero =>
      simp only [List.flatten_cons, Nat.zero_mul, Nat.zero_add, List.set_cons_zero, List.getElem_cons_zero]; rw [List.set_append_left _ _ (by omega)]
    | succ k =>
      simp only [List.flatten_cons, List.set_cons_succ, List.getElem_cons_succ]; rw [List.set_append_right _ _ (by rw [h0, Nat.succ_mul]; omega), h0, ← ih (fun r hr => hlen r (by simp [hr])) (by simpa using hk)]
      congr 2
      rw [Nat.succ_mul]; omega
theorem put9m {w : World} {base e g n cap k : Nat} {rows : List (List Value)} {z0 z1 z2 z3 z4 z5 z6 z7 z8 c0 c1 c2 c3 c4 c5 c6 c7 c8 : Value} (hlen : ∀ r ∈ rows, r.length = 9) (hk : k < rows.length) (hr : rows[k]? = some [z0, z1, z2, z3, z4, z5, z6, z7, z8])
    (h : w.ownsRow base e 9 (.slice (some ⟨g, 0, none⟩) n cap) n rows.flatten) :
    (((((((((w.setCell ⟨g, k * 9, none⟩ c0).setCell ⟨g, k * 9 + 1, none⟩ c1).setCell ⟨g, k * 9 + 2, none⟩ c2).setCell ⟨g, k * 9 + 3, none⟩ c3).setCell ⟨g, k * 9 + 4, none⟩ c4).setCell ⟨g, k * 9 + 5, none⟩ c5).setCell ⟨g, k * 9 + 6, none⟩ c6).setCell ⟨g, k * 9 + 7, none⟩ c7).setCell ⟨g, k * 9 + 8, none⟩ c8).ownsRow base e 9 (.slice (some ⟨g, 0, none⟩) n cap) n (rows.set k [c0, c1, c2, c3, c4, c5, c6, c7, c8]).flatten ∧
    (((((((((w.setCell ⟨g, k * 9, none⟩ c0).setCell ⟨g, k * 9 + 1, none⟩ c1).setCell ⟨g, k * 9 + 2, none⟩ c2).setCell ⟨g, k * 9 + 3, none⟩ c3).setCell ⟨g, k * 9 + 4, none⟩ c4).setCell ⟨g, k * 9 + 5, none⟩ c5).setCell ⟨g, k * 9 + 6, none⟩ c6).setCell ⟨g, k * 9 + 7, none⟩ c7).setCell ⟨g, k * 9 + 8, none⟩ c8).heap.size = w.heap.size ∧
    ∀ j, j ≠ g → (((((((((w.setCell ⟨g, k * 9, none⟩ c0).setCell ⟨g, k * 9 + 1, none⟩ c1).setCell ⟨g, k * 9 + 2, none⟩ c2).setCell ⟨g, k * 9 + 3, none⟩ c3).setCell ⟨g, k * 9 + 4, none⟩ c4).setCell ⟨g, k * 9 + 5, none⟩ c5).setCell ⟨g, k * 9 + 6, none⟩ c6).setCell ⟨g, k * 9 + 7, none⟩ c7).setCell ⟨g, k * 9 + 8, none⟩ c8).heap[j]? = w.heap[j]? := by
  refine ⟨?_, by simp, fun j hj => by iterate 9 rw [Below.heap_setCell _ _ _ _ hj]⟩
  have hrow : rows[k] = [z0, z1, z2, z3, z4, z5, z6, z7, z8] := by
    rw [List.getElem?_eq_getElem hk] at hr; exact Option.some.inj hr
  have st := fun (w : World) (xs : List Value) (j : Nat) (u : Value) (h : w.ownsRow base e 9 (.slice (some ⟨g, 0, none⟩) n cap) n xs) => (h.stored j u).1
  have hs : ∀ (l : List Value) (j : Nat) (u : Value), l.length = 9 → j < 9 → (rows.set k l).flatten.set (k * 9 + j) u = (rows.set k (l.set j u)).flatten := by
    intro l j u hl hj; have := set_row (rows := rows.set k l) (sz := 9) (fun r hr => by
      rcases List.mem_or_eq_of_mem_set hr with h | rfl
      · exact hlen r h
      · exact hl) (k := k) (j := j) (by simpa using hk) hj u
    rw [this]
    simp
  have e0 : rows = rows.set k [z0, z1, z2, z3, z4, z5, z6, z7, z8] := by rw [← hrow]; simp
  rw [e0] at h
  have s0 := st _ _ (k * 9) c0 h
  rw [show (rows.set k [z0, z1, z2, z3, z4, z5, z6, z7, z8]).flatten.set (k * 9) c0 = (rows.set k [c0, z1, z2, z3, z4, z5, z6, z7, z8]).flatten from hs _ 0 _ rfl (by decide)] at s0
  have s1 := st _ _ (k * 9 + 1) c1 s0
  rw [hs _ 1 _ rfl (by decide)] at s1
  have s2 := st _ _ (k * 9 + 2) c2 s1
  rw [hs _ 2 _ rfl (by decide)] at s2
  have s3 := st _ _ (k * 9 + 3) c3 s2
  rw [hs _ 3 _ rfl (by decide)] at s3
  have s4 := st _ _ (k * 9 + 4) c4 s3
  rw [hs _ 4 _ rfl (by decide)] at s4
  have s5 := st _ _ (k * 9 + 5) c5 s4
  rw [hs _ 5 _ rfl (by decide)] at s5
  have s6 := st _ _ (k * 9 + 6) c6 s5
  rw [hs _ 6 _ rfl (by decide)] at s6
  have s7 := st _ _ (k * 9 + 7) c7 s6
  rw [hs _ 7 _ rfl (by decide)] at s7
  have s8 := st _ _ (k * 9 + 8) c8 s7
  rw [hs _ 8 _ rfl (by decide)] at s8
  exact s8
theorem Blk.set {w : World} {g t : Nat} {cs : List Value} (h : Blk w g t cs) (j : Nat) (u : Value) : Blk (w.setCell ⟨g, j, none⟩ u) g t (cs.set j u) := by
  unfold Blk at h ⊢
  simp [World.setCell, Array.getElem?_modify, h]
theorem Blk.other {w : World} {g t : Nat} {cs : List Value} (h : Blk w g t cs) {p : Addr} (hp : g ≠ p.block) (u : Value) : Blk (w.setCell p u) g t cs := (Below.heap_setCell w p u g hp).trans h
end Go.Proofs.YtdjdikiimhhjpaaGreatDoor
namespace Go.Proofs.YtdjdikiimhhjpaaGreatDoor
open Go.RowKit
set_option linter.unusedSimpArgs false
set_option linter.unusedVariables false
def IsNd (n : Nat) (w : World) (x : Nd) (r : List Value) : Prop := ∃ (xs : List Value) (vi : Value), r = .int .i64 x.every :: (xs ++ [vi]) ∧ IsEx n w x.ex xs ∧ IsInts n w vi x.ins
theorem IsNd.mono {n m : Nat} {w w' : World} {x : Nd} {r : List Value} (h : IsNd n w x r) (hb : Below n w w') (hm : n ≤ m) : IsNd m w' x r := by
  obtain ⟨xs, vi, e, h1, h2⟩ := h
  exact ⟨xs, vi, e, h1.mono hb hm, h2.mono hb hm⟩
def IsNds (n : Nat) (w : World) (v : Value) (l : List Nd) : Prop :=
  ∃ rows : List (List Value), Arr n w v 11 rows ∧ rows.length = l.length ∧ ∀ (k : Nat) (r : List Value) (x : Nd), rows[k]? = some r → l[k]? = some x → IsNd n w x r
theorem IsNds.mono {n m : Nat} {w w' : World} {v : Value} {l : List Nd} (h : IsNds n w v l) (hb : Below n w w') (hm : n ≤ m) : IsNds m w' v l := by
  obtain ⟨rows, h1, h2, h3⟩ := h
  exact ⟨rows, h1.mono hb hm, h2, fun k r x hr hx => (h3 k r x hr hx).mono hb hm⟩
theorem IsNds.open {n : Nat} {w : World} {v : Value} {l : List Nd} (h : IsNds n w v l) : ∃ p cap, v = .slice p l.length cap ∧ l.length ≤ cap ∧ cap ≤ maxLen ∧ l.length ≤ maxLen := by
  obtain ⟨rows, ⟨p, cap, hv, h1, h2, _⟩, h3, _⟩ := h
  rw [h3] at hv h1
  exact ⟨p, cap, hv, h1, h2, by omega⟩
theorem IsNds.nil (n : Nat) (w : World) : IsNds n w (.slice none 0 0) [] := ⟨[], Arr.nil _ _ _, rfl, fun k r x hr _ => by simp at hr⟩
def ndCells (x : Nd) (pm : Option Addr) (cm : Nat) (pn : Option Addr) (cn : Nat) (pk : Option Addr) (ck : Nat) (pi : Option Addr) (ci : Nat) : List Value :=
  [.int .i64 x.every, .int .i64 x.ex.kind, .int .i64 x.ex.fn, .int .i64 x.ex.op, .int .i64 x.ex.num, .string x.ex.metric, .slice pm x.ex.mats.length cm, .int .i64 x.ex.span, .slice pn x.ex.names.length cn, .slice pk x.ex.kids.length ck, .slice pi x.ins.length ci]
theorem IsNd.cells {n : Nat} {w : World} {x : Nd} {r : List Value} (h : IsNd n w x r) : ∃ pm cm pn cn pk ck pi ci, r = ndCells x pm cm pn cn pk ck pi ci ∧
    IsEx n w x.ex [.int .i64 x.ex.kind, .int .i64 x.ex.fn, .int .i64 x.ex.op, .int .i64 x.ex.num, .string x.ex.metric, .slice pm x.ex.mats.length cm, .int .i64 x.ex.span, .slice pn x.ex.names.length cn, .slice pk x.ex.kids.length ck] ∧ IsInts n w (.slice pi x.ins.length ci) x.ins := by
  obtain ⟨xs, vi, rfl, h1, h2⟩ := h
  obtain ⟨pm, cm, pn, cn, pk, ck, rfl, -⟩ := h1.cellsE
  obtain ⟨pi, ci, rfl, -⟩ := h2.open
  exact ⟨pm, cm, pn, cn, pk, ck, pi, ci, rfl, h1, h2⟩
theorem IsNd.len {n : Nat} {w : World} {x : Nd} {r : List Value} (h : IsNd n w x r) : r.length = 11 := by
  obtain ⟨pm, cm, pn, cn, pk, ck, pi, ci, rfl, -⟩ := h.cells; rfl
theorem IsNds.get {n : Nat} {w : World} {p : Option Addr} {len cap : Nat} {l : List Nd} (h : IsNds n w (.slice p len cap) l) {k : Nat} (hk : k < l.length) :
    ∃ b off pm cm pn cn pk ck pi ci, p = some ⟨b, off, none⟩ ∧ b < n ∧ IsEx n w l[k].ex [.int .i64 l[k].ex.kind, .int .i64 l[k].ex.fn, .int .i64 l[k].ex.op, .int .i64 l[k].ex.num, .string l[k].ex.metric, .slice pm l[k].ex.mats.length cm, .int .i64 l[k].ex.span, .slice pn l[k].ex.names.length cn, .slice pk l[k].ex.kids.length ck] ∧
      IsInts n w (.slice pi l[k].ins.length ci) l[k].ins ∧ (∀ j u, (ndCells l[k] pm cm pn cn pk ck pi ci)[j]? = some u → w.cell? ⟨b, off + k * 11 + j, none⟩ = some u) := by
  obtain ⟨rows, h1, h2, h3⟩ := h
  obtain ⟨pm, cm, pn, cn, pk, ck, pi, ci, hr, he, hi⟩ := (h3 k (rows[k]'(by omega)) l[k] (by simp) (by simp)).cells
  obtain ⟨b, off, hp, hb, hc⟩ := h1.at k _ (by rw [List.getElem?_eq_getElem (by omega), hr])
  exact ⟨b, off, pm, cm, pn, cn, pk, ck, pi, ci, hp, hb, he, hi, hc⟩
def OwnN (t n base : Nat) (w : World) (v : Value) (l : List Nd) : Prop :=
  ∃ rows : List (List Value), w.ownsRow base t 11 v l.length rows.flatten ∧ rows.length = l.length ∧ ∀ (k : Nat) (r : List Value) (x : Nd), rows[k]? = some r → l[k]? = some x → IsNd n w x r
end Go.Proofs.YtdjdikiimhhjpaaGreatDoor
namespace Go.Proofs.YtdjdikiimhhjpaaGreatDoor
open Go.RowKit
set_option linter.unusedSimpArgs false
set_option linter.unusedVariables false
noncomputable def keepS (S : Nat → Prop) (w : World) : World := { w with heap := w.heap.mapIdx fun i o => @ite _ (S i) (Classical.propDecidable _) o (.cells #[] 0 (0, 0)) }
theorem keepS_cell {S : Nat → Prop} {w : World} {b off : Nat} (h : S b) : (keepS S w).cell? ⟨b, off, none⟩ = w.cell? ⟨b, off, none⟩ := World.cell?_of_block (by
  unfold keepS
  simp only [Array.getElem?_mapIdx]
  cases w.heap[b]? with
  | none => rfl
  | some o => simp [h])
theorem keepS_none {S : Nat → Prop} {w : World} {b off : Nat} (h : ¬ S b) : (keepS S w).cell? ⟨b, off, none⟩ = none := by
  have e : (keepS S w).heap[b]? = none ∨ (keepS S w).heap[b]? = some (.cells #[] 0 (0, 0)) := by
    unfold keepS; simp only [Array.getElem?_mapIdx]; cases w.heap[b]? with
    | none => left; rfl
    | some o => right; simp [h]
  rcases e with e | e <;> simp [World.cell?, e]
theorem cells_keepS {S S' : Nat → Prop} {w w' : World} {n : Nat} (hS : ∀ b, b < n → S b → S' b) (hw : ∀ b, b < n → S b → w'.heap[b]? = w.heap[b]?) : Cells n (keepS S w) (keepS S' w') := fun b off x hb hx => by
  by_cases h : S b
  · rw [keepS_cell h] at hx
    rw [keepS_cell (hS b hb h), World.cell?_of_block (w := w) (a := ⟨b, off, none⟩) (hw b hb h)]; exact hx
  · rw [keepS_none h] at hx; cases hx
theorem cells_unkeep {S : Nat → Prop} {w : World} {n : Nat} : Cells n (keepS S w) w := fun b off x hb hx => by
  by_cases h : S b
  · rwa [keepS_cell h] at hx
  · rw [keepS_none h] at hx; cases hx
def ExS (S : Nat → Prop) (w : World) (e : Ex) (cs : List Value) : Prop := IsEx w.heap.size (keepS S w) e cs
theorem ExS.go {S S' : Nat → Prop} {w w' : World} {e : Ex} {cs : List Value} (h : ExS S w e cs) (hs : w.heap.size ≤ w'.heap.size) (hS : ∀ b, b < w.heap.size → S b → S' b) (hw : ∀ b, b < w.heap.size → S b → w'.heap[b]? = w.heap[b]?) : ExS S' w' e cs := h.monoC (cells_keepS hS hw) hs
theorem ExS.ex {S : Nat → Prop} {w : World} {e : Ex} {cs : List Value} (h : ExS S w e cs) : IsEx w.heap.size w e cs := h.monoC cells_unkeep (Nat.le_refl _)
theorem ExS.len {S : Nat → Prop} {w : World} {e : Ex} {cs : List Value} (h : ExS S w e cs) : cs.length = 9 := by
  obtain ⟨vm, vn, vk, hcs, _⟩ := IsEx.cells h
  rw [hcs]; rfl
def StrsS (S : Nat → Prop) (w : World) (v : Value) (l : List ByteArray) : Prop := IsStrs w.heap.size (keepS S w) v l
def MatsS (S : Nat → Prop) (w : World) (v : Value) (l : List Mat) : Prop := IsMats w.heap.size (keepS S w) v l
def ExsS (S : Nat → Prop) (w : World) (v : Value) (l : List Ex) : Prop := IsExs w.heap.size (keepS S w) v l
theorem StrsS.go {S S' : Nat → Prop} {w w' : World} {v : Value} {l : List ByteArray} (h : StrsS S w v l) (hs : w.heap.size ≤ w'.heap.size) (hS : ∀ b, b < w.heap.size → S b → S' b) (hw : ∀ b, b < w.heap.size → S b → w'.heap[b]? = w.heap[b]?) : StrsS S' w' v l := ⟨h.1.monoC (cells_keepS hS hw) hs, h.2⟩
theorem MatsS.go {S S' : Nat → Prop} {w w' : World} {v : Value} {l : List Mat} (h : MatsS S w v l) (hs : w.heap.size ≤ w'.heap.size) (hS : ∀ b, b < w.heap.size → S b → S' b) (hw : ∀ b, b < w.heap.size → S b → w'.heap[b]? = w.heap[b]?) : MatsS S' w' v l := ⟨h.1.monoC (cells_keepS hS hw) hs, h.2⟩
theorem noStrsS (S : Nat → Prop) (w : World) : StrsS S w (.slice none 0 0) [] := ⟨Arr.nil _ _ _, by simp⟩
theorem noMatsS (S : Nat → Prop) (w : World) : MatsS S w (.slice none 0 0) [] := ⟨Arr.nil _ _ _, by simp⟩
theorem noExsS (S : Nat → Prop) (w : World) : ExsS S w (.slice none 0 0) [] := ⟨[], Arr.nil _ _ _, rfl, fun k r e h => by simp at h⟩
theorem exS_node {S : Nat → Prop} {w : World} {kind fn op num : Int} {metric : ByteArray} {mats : List Mat} {span : Int} {names : List ByteArray} {kids : List Ex} {vm vn vk : Value} (hs : metric.size ≤ maxLen) (hm : MatsS S w vm mats) (hn : StrsS S w vn names) (hk : ExsS S w vk kids) :
    ExS S w (.mk kind fn op num metric mats span names kids) [.int .i64 kind, .int .i64 fn, .int .i64 op, .int .i64 num, .string metric, vm, .int .i64 span, vn, vk] := by
  obtain ⟨rows, h1, h2, h3⟩ := hk
  exact .mk hs hm hn h1 h2 h3
def IntsS (S : Nat → Prop) (w : World) (v : Value) (l : List Int) : Prop := IsInts w.heap.size (keepS S w) v l
theorem IntsS.go {S S' : Nat → Prop} {w w' : World} {v : Value} {l : List Int} (h : IntsS S w v l) (hs : w.heap.size ≤ w'.heap.size) (hS : ∀ b, b < w.heap.size → S b → S' b) (hw : ∀ b, b < w.heap.size → S b → w'.heap[b]? = w.heap[b]?) : IntsS S' w' v l := Arr.monoC h (cells_keepS hS hw) hs
theorem IntsS.ints {S : Nat → Prop} {w : World} {v : Value} {l : List Int} (h : IntsS S w v l) : IsInts w.heap.size w v l := Arr.monoC h cells_unkeep (Nat.le_refl _)
def NdS (S : Nat → Prop) (w : World) (x : Nd) (r : List Value) : Prop := ∃ (xs : List Value) (vi : Value), r = .int .i64 x.every :: (xs ++ [vi]) ∧ ExS S w x.ex xs ∧ IntsS S w vi x.ins
theorem NdS.go {S S' : Nat → Prop} {w w' : World} {x : Nd} {r : List Value} (h : NdS S w x r) (hs : w.heap.size ≤ w'.heap.size) (hS : ∀ b, b < w.heap.size → S b → S' b) (hw : ∀ b, b < w.heap.size → S b → w'.heap[b]? = w.heap[b]?) : NdS S' w' x r := by
  obtain ⟨xs, vi, e, h1, h2⟩ := h
  exact ⟨xs, vi, e, h1.go hs hS hw, h2.go hs hS hw⟩
theorem NdS.nd {S : Nat → Prop} {w : World} {x : Nd} {r : List Value} (h : NdS S w x r) : IsNd w.heap.size w x r := by
  obtain ⟨xs, vi, e, h1, h2⟩ := h
  exact ⟨xs, vi, e, h1.ex, h2.ints⟩
theorem ExS.of {S : Nat → Prop} {n : Nat} {w : World} {e : Ex} {cs : List Value} (h : IsEx n w e cs) (hn : n ≤ w.heap.size) (hS : ∀ b, b < n → S b) : ExS S w e cs :=
  h.monoC (fun b off x hb hx => by rw [keepS_cell (hS b hb)]; exact hx) hn
theorem OwnI.intsS {t base : Nat} {w : World} {v : Value} {l : List Int} {S : Nat → Prop} (h : OwnI t base w v l) (hS : ∀ g, v.ownBlock = some g → S g) : IntsS S w v l := by
  rcases h.2 with ⟨rfl, h0⟩ | ⟨k, cap, cur, rfl, hk, hh, h1, h2, h3, h4⟩
  · have : l = [] := List.eq_nil_of_length_eq_zero (by omega)
    subst this; exact Arr.nil _ _ _
  · have hlt := (Array.getElem?_eq_some_iff.1 hh).1
    refine ⟨_, cap, by simp, by simpa using h1, h2, fun _ => ⟨k, 0, rfl, hlt, fun i r hr j x hx => ?_⟩⟩; rw [List.getElem?_map] at hr; obtain ⟨a, ha, rfl⟩ := Option.map_eq_some_iff.1 hr; have hj : j = 0 := by have := (List.getElem?_eq_some_iff.1 hx).1; simpa using this
    subst hj; simp only [List.getElem?_cons_zero, Option.some.injEq] at hx; subst hx; have hc := World.ownsRow.cells h (g := k) rfl i (.int .i64 a) (by rw [List.getElem?_map, ha]; rfl); have e : (⟨k, 0, none⟩ : Addr).add i = ⟨k, 0 + i * 1 + 0, none⟩ := by unfold Addr.add; split <;> simp <;> omega
    rw [e] at hc; rw [keepS_cell (hS k rfl)]; exact hc
/-! ### all but some blocks is as it was -/
structure OffM (M : Nat → Prop) (w w' : World) : Prop where
  os : w'.os = w.os
  tape : w'.tape = w.tape
  output : w'.output = w.output
  size : w.heap.size ≤ w'.heap.size
  block : ∀ k, k < w.heap.size → ¬ M k → w'.heap[k]? = w.heap[k]?
theorem OffM.refl (M : Nat → Prop) (w : World) : OffM M w w := ⟨rfl, rfl, rfl, Nat.le_refl _, fun _ _ _ => rfl⟩
theorem OffM.of {M : Nat → Prop} {w w' : World} (h : Below w.heap.size w w') : OffM M w w' := ⟨h.os, h.tape, h.output, h.size, fun k hk _ => h.block k hk⟩
theorem OffM.trans {M N : Nat → Prop} {a b c : World} (h : OffM M a b) (k : OffM N b c) (hN : ∀ i, i < a.heap.size → N i → M i) : OffM M a c :=
  ⟨k.os.trans h.os, k.tape.trans h.tape, k.output.trans h.output, Nat.le_trans h.size k.size, fun i hi hm => (k.block i (Nat.lt_of_lt_of_le hi h.size) (fun hn => hm (hN i hi hn))).trans (h.block i hi hm)⟩
theorem OffM.below {M : Nat → Prop} {n : Nat} {w w' : World} (h : OffM M w w') (hM : ∀ k, M k → n ≤ k) (hn : n ≤ w.heap.size) : Below n w w' :=
  ⟨h.os, h.tape, h.output, h.size, fun k hk => h.block k (by omega) (fun hm => by have := hM k hm; omega)⟩
theorem OffM.grown {w w' : World} {row : Option Nat} (h : w.grownBy w' row) : OffM (fun k => row = some k) w w' :=
  ⟨h.os, h.tape, h.output, h.size, fun k hk hm => h.block k hk (fun e => hm e.symm)⟩
theorem OffM.row (w : World) (g : Nat) (cs : Array Value) : OffM (fun k => k = g) w (w.setRow g cs) :=
  ⟨rfl, rfl, rfl, by rw [setRow_size]; exact Nat.le_refl _, fun k _ hk => by
    show (w.heap.modify g _)[k]? = _
    rw [Array.getElem?_modify, if_neg (fun e => hk e.symm)]⟩
theorem OffM.cell1 (w : World) (g i : Nat) (u : Value) : OffM (fun k => k = g) w (w.setCell ⟨g, i, none⟩ u) :=
  ⟨rfl, rfl, rfl, by unfold World.setCell; simp, fun k _ hk => by
    unfold World.setCell
    show (w.heap.modify g _)[k]? = _
    rw [Array.getElem?_modify, if_neg (fun e => hk e.symm)]⟩
theorem OffM.more {M N : Nat → Prop} {w w' : World} (h : OffM M w w') (hM : ∀ k, k < w.heap.size → M k → N k) : OffM N w w' := ⟨h.os, h.tape, h.output, h.size, fun k hk hn => h.block k hk (fun hm => hn (hM k hk hm))⟩
theorem ExS.offM {S M : Nat → Prop} {w w' : World} {e : Ex} {cs : List Value} (h : ExS S w e cs) (ho : OffM M w w') (hM : ∀ b, S b → ¬ M b) : ExS S w' e cs := h.go ho.size (fun _ _ h => h) (fun b hb hS => ho.block b hb (hM b hS))
theorem NdS.offM {S M : Nat → Prop} {w w' : World} {x : Nd} {r : List Value} (h : NdS S w x r) (ho : OffM M w w') (hM : ∀ b, S b → ¬ M b) : NdS S w' x r := h.go ho.size (fun _ _ h => h) (fun b hb hS => ho.block b hb (hM b hS))
theorem OwnI.offM {t base : Nat} {w w' : World} {v : Value} {l : List Int} {M : Nat → Prop} (h : OwnI t base w v l) (ho : OffM M w w') (hM : ∀ g, v.ownBlock = some g → ¬ M g) : OwnI t base w' v l := by
  refine ⟨h.1, ?_⟩
  rcases h.2 with h' | ⟨g, cap, cur, hv, hg, hh, h1⟩
  · exact .inl h'
  · exact .inr ⟨g, cap, cur, hv, hg, (ho.block g (Array.getElem?_eq_some_iff.1 hh).1 (hM g (by rw [hv]; rfl))).trans hh, h1⟩
/-! ### a list of nodes of the call's own -/
def OwnNd (t : Nat) (S : Nat → Prop) (base : Nat) (w : World) (v : Value) (l : List Nd) : Prop :=
  (∀ g, v.ownBlock = some g → ¬ S g) ∧ ∃ rows : List (List Value), w.ownsRow base t 11 v l.length rows.flatten ∧ rows.length = l.length ∧ ∀ (k : Nat) (r : List Value) (x : Nd), rows[k]? = some r → l[k]? = some x → NdS S w x r
theorem OwnNd.nil {t : Nat} {S : Nat → Prop} {base : Nat} {w : World} : OwnNd t S base w (.slice none 0 0) [] := ⟨(fun g h => by cases h), [], World.ownsRow_nil _ _ _ _, rfl, fun k r x hr _ => by simp at hr⟩
end Go.Proofs.YtdjdikiimhhjpaaGreatDoor
namespace Go.Proofs.YtdjdikiimhhjpaaGreatDoor
open Go.RowKit
set_option linter.unusedSimpArgs false
set_option linter.unusedVariables false
theorem kInts (la lb : List Int) (va vb : Value) (n : Nat) (w : World) (hn : n ≤ w.heap.size) (ha : IsInts n w va la) (hb : IsInts n w vb lb) :
    Calls Tryz.prog 9 #[va, vb] w fun e w' => e = .returned (.bool (decide (la = lb))) ∧ Below w.heap.size w w' := by
  obtain ⟨p, cap, rfl, _, _, hla⟩ := ha.open
  obtain ⟨q, cbp, rfl, _, _, hlb⟩ := hb.open
  unfold maxLen at hla hlb
  by_cases hl : la.length = lb.length
  · have Hl := Lib.hid hl; clear hl
    have hl : ((la.length : Int) != (lb.length : Int)) = false := by simp [Hl.out]
    go_enter Tryz.func9, Tryz.ntmps9; (try simp only [List.append_eq, List.cons_append, List.nil_append])
    go_wp2
    go_loopw [5] (fun i wr => ∃ k : Nat, k ≤ la.length ∧ i = .int .i64 k ∧ la.take k = lb.take k ∧ Below w.heap.size w wr) (fun i _ => la.length - (intOf i).toNat)
    case atStart => exact ⟨0, Nat.zero_le _, rfl, by simp, Below.refl _ _⟩
    case round =>
      obtain ⟨k, hk, rfl, hr, hbl⟩ := hrel; have Hr := Lib.hid hr; clear hr; have Hb := Lib.hid hbl; clear hbl
      by_cases hlt : k < la.length
      · have hltb : k < lb.length := by have := Hl.out; omega
        obtain ⟨b, off, rfl, hbn, h1⟩ := (ha.mono (Hb.out.mono hn) (Nat.le_refl _)).get hlt; obtain ⟨b', off', rfl, hbn', h1'⟩ := (hb.mono (Hb.out.mono hn) (Nat.le_refl _)).get hltb; have Ha := Lib.hid ha; clear ha; have Hbb := Lib.hid hb; clear hb; have Hno := Lib.hid (fun h => ne_of_at (a := la) (b := lb) (k := k) hlt hltb h); have Hyes := Lib.hid (fun h => take_eq_step (a := la) (b := lb) (k := k) Hr.out hlt hltb h); generalize la[k] = x at *; generalize lb[k] = y at *
        by_cases e1 : x = y
        · have g1 : (x != y) = false := by simp [e1]
          have E1 := Lib.hid e1; clear e1; go_wp2
          go_quiet (fail)
          go_wp2; exact ⟨⟨k + 1, by omega, by go_num, Hyes.out E1.out, below_drewN Hb.out _⟩, by simp [intOf]; omega⟩
        · have g1 : (x != y) = true := by simp [e1]
          have E1 := Lib.hid e1; clear e1; go_wp2
          go_quiet (fail)
          go_wp2; go_ret; exact ⟨ret_bool (Eq.symm (decide_eq_false (Hno.out E1.out))), below_drewN Hb.out _⟩
      · go_wp2
        go_ret; refine ⟨ret_bool (Eq.symm (decide_eq_true ?_)), Hb.out⟩; have hk' : k = la.length := by omega
        subst hk'; exact eq_of_upto Hl.out Hr.out
  · have hl' : ((la.length : Int) != (lb.length : Int)) = true := by simp; omega
    go_enter Tryz.func9, Tryz.ntmps9; (try simp only [List.append_eq, List.cons_append, List.nil_append])
    go_wp2; go_ret; exact ⟨ret_bool (Eq.symm (decide_eq_false (fun e => hl (by rw [e])))), Below.refl _ _⟩
theorem eqInts (la lb : List Int) (va vb : Value) (n : Nat) (w : World) (hn : n ≤ w.heap.size) (ha : IsInts n w va la) (hb : IsInts n w vb lb) :
    Calls Tryz.prog 79 #[va, vb] w fun e w' => e = .returned (.bool (decide (la = lb))) ∧ Below w.heap.size w w' := by
  obtain ⟨p, cap, rfl, _, _, hla⟩ := ha.open
  obtain ⟨q, cbp, rfl, _, _, hlb⟩ := hb.open
  unfold maxLen at hla hlb
  by_cases hl : la.length = lb.length
  · have Hl := Lib.hid hl; clear hl
    have hl : ((la.length : Int) != (lb.length : Int)) = false := by simp [Hl.out]
    go_enter Tryz.func79, Tryz.ntmps79; (try simp only [List.append_eq, List.cons_append, List.nil_append])
    go_wp2
    go_loopw [13] (fun i wr => ∃ k : Nat, k ≤ la.length ∧ i = .int .i64 k ∧ la.take k = lb.take k ∧ Below w.heap.size w wr) (fun i _ => la.length - (intOf i).toNat)
    case atStart => exact ⟨0, Nat.zero_le _, rfl, by simp, Below.refl _ _⟩
    case round =>
      obtain ⟨k, hk, rfl, hr, hbl⟩ := hrel; have Hr := Lib.hid hr; clear hr; have Hb := Lib.hid hbl; clear hbl
      by_cases hlt : k < la.length
      · have hltb : k < lb.length := by have := Hl.out; omega
        obtain ⟨b, off, rfl, hbn, h1⟩ := (ha.mono (Hb.out.mono hn) (Nat.le_refl _)).get hlt; obtain ⟨b', off', rfl, hbn', h1'⟩ := (hb.mono (Hb.out.mono hn) (Nat.le_refl _)).get hltb; have Ha := Lib.hid ha; clear ha; have Hbb := Lib.hid hb; clear hb; have Hno := Lib.hid (fun h => ne_of_at (a := la) (b := lb) (k := k) hlt hltb h); have Hyes := Lib.hid (fun h => take_eq_step (a := la) (b := lb) (k := k) Hr.out hlt hltb h); generalize la[k] = x at *; generalize lb[k] = y at *
        by_cases e1 : x = y
        · have g1 : (x != y) = false := by simp [e1]
          have E1 := Lib.hid e1; clear e1; go_wp2
          go_quiet (fail)
          go_wp2; exact ⟨⟨k + 1, by omega, by go_num, Hyes.out E1.out, below_drewN Hb.out _⟩, by simp [intOf]; omega⟩
        · have g1 : (x != y) = true := by simp [e1]
          have E1 := Lib.hid e1; clear e1; go_wp2
          go_quiet (fail)
          go_wp2; go_ret; exact ⟨ret_bool (Eq.symm (decide_eq_false (Hno.out E1.out))), below_drewN Hb.out _⟩
      · go_wp2
        go_ret; refine ⟨ret_bool (Eq.symm (decide_eq_true ?_)), Hb.out⟩; have hk' : k = la.length := by omega
        subst hk'; exact eq_of_upto Hl.out Hr.out
  · have hl' : ((la.length : Int) != (lb.length : Int)) = true := by simp; omega
    go_enter Tryz.func79, Tryz.ntmps79; (try simp only [List.append_eq, List.cons_append, List.nil_append])
    go_wp2; go_ret; exact ⟨ret_bool (Eq.symm (decide_eq_false (fun e => hl (by rw [e])))), Below.refl _ _⟩
theorem ndEq_false {a b : Nd} (h : ¬ (a.every = b.every ∧ a.ex = b.ex ∧ a.ins = b.ins)) : ndEq a b = false := by
  rw [← Bool.not_eq_true, ndEq_iff]
  rintro rfl
  exact h ⟨rfl, rfl, rfl⟩
theorem pSame (a b : Nd) (ra rb : List Value) (n : Nat) (w : World) (hn : n ≤ w.heap.size) (ha : IsNd n w a ra) (hb : IsNd n w b rb) :
    Calls Tryz.prog 55 #[.agg ra.toArray, .agg rb.toArray] w fun e' w' => e' = .returned (.bool (ndEq a b)) ∧ Below w.heap.size w w' := by
  obtain ⟨pm, cm, pn, cn, pk, ck, pi, ci, rfl, hea, hia⟩ := ha.cells
  obtain ⟨qm, dm, qn, dn, qk, dk, qi, di, rfl, heb, hib⟩ := hb.cells
  clear ha hb
  unfold ndCells
  have Hea := Lib.hid hea; have Hia := Lib.hid hia; have Heb := Lib.hid heb; have Hib := Lib.hid hib
  clear hea hia heb hib
  go_enter Tryz.func55, Tryz.ntmps55; (try simp only [List.append_eq, List.cons_append, List.nil_append])
  go_upto_region 1 with fail
  obtain ⟨X, hW⟩ : ∃ z, (w.alloc (.cells #[.int .i64 a.every, .int .i64 a.ex.kind, .int .i64 a.ex.fn, .int .i64 a.ex.op, .int .i64 a.ex.num, .string a.ex.metric, .slice pm a.ex.mats.length cm, .int .i64 a.ex.span, .slice pn a.ex.names.length cn, .slice pk a.ex.kids.length ck, .slice pi a.ins.length ci] 39)).alloc (.cells #[.int .i64 b.every, .int .i64 b.ex.kind, .int .i64 b.ex.fn, .int .i64 b.ex.op, .int .i64 b.ex.num, .string b.ex.metric, .slice qm b.ex.mats.length dm, .int .i64 b.ex.span, .slice qn b.ex.names.length dn, .slice qk b.ex.kids.length dk, .slice qi b.ins.length di] 39) = z := ⟨_, rfl⟩
  have kb : Below w.heap.size w X := by rw [← hW]; exact two_below w _ _
  have A : Blk X w.heap.size 39 [.int .i64 a.every, .int .i64 a.ex.kind, .int .i64 a.ex.fn, .int .i64 a.ex.op, .int .i64 a.ex.num, .string a.ex.metric, .slice pm a.ex.mats.length cm, .int .i64 a.ex.span, .slice pn a.ex.names.length cn, .slice pk a.ex.kids.length ck, .slice pi a.ins.length ci] := by rw [← hW]; exact two_at w [.int .i64 a.every, .int .i64 a.ex.kind, .int .i64 a.ex.fn, .int .i64 a.ex.op, .int .i64 a.ex.num, .string a.ex.metric, .slice pm a.ex.mats.length cm, .int .i64 a.ex.span, .slice pn a.ex.names.length cn, .slice pk a.ex.kids.length ck, .slice pi a.ins.length ci] [.int .i64 b.every, .int .i64 b.ex.kind, .int .i64 b.ex.fn, .int .i64 b.ex.op, .int .i64 b.ex.num, .string b.ex.metric, .slice qm b.ex.mats.length dm, .int .i64 b.ex.span, .slice qn b.ex.names.length dn, .slice qk b.ex.kids.length dk, .slice qi b.ins.length di] _ _
  have B : Blk X (w.heap.size + 1) 39 [.int .i64 b.every, .int .i64 b.ex.kind, .int .i64 b.ex.fn, .int .i64 b.ex.op, .int .i64 b.ex.num, .string b.ex.metric, .slice qm b.ex.mats.length dm, .int .i64 b.ex.span, .slice qn b.ex.names.length dn, .slice qk b.ex.kids.length dk, .slice qi b.ins.length di] := by rw [← hW]; exact two_at' w _ [.int .i64 b.every, .int .i64 b.ex.kind, .int .i64 b.ex.fn, .int .i64 b.ex.op, .int .i64 b.ex.num, .string b.ex.metric, .slice qm b.ex.mats.length dm, .int .i64 b.ex.span, .slice qn b.ex.names.length dn, .slice qk b.ex.kids.length dk, .slice qi b.ins.length di] _
  rw [hW]; clear hW
  have HB := Lib.hid kb; have HA1 := Lib.hid A; have HB1 := Lib.hid B
  have d0 := A.cell 0 _ rfl; have d1 := A.cell 1 _ rfl; have d2 := A.cell 2 _ rfl; have d3 := A.cell 3 _ rfl; have d4 := A.cell 4 _ rfl; have d5 := A.cell 5 _ rfl; have d6 := A.cell 6 _ rfl; have d7 := A.cell 7 _ rfl; have d8 := A.cell 8 _ rfl; have d9 := A.cell 9 _ rfl; have d10 := A.cell 10 _ rfl
  have e0 := B.cell 0 _ rfl; have e1 := B.cell 1 _ rfl; have e2 := B.cell 2 _ rfl; have e3 := B.cell 3 _ rfl; have e4 := B.cell 4 _ rfl; have e5 := B.cell 5 _ rfl; have e6 := B.cell 6 _ rfl; have e7 := B.cell 7 _ rfl; have e8 := B.cell 8 _ rfl; have e9 := B.cell 9 _ rfl; have e10 := B.cell 10 _ rfl
  have HS := Lib.hid (aSame a.ex b.ex _ _ n X (Nat.le_trans hn kb.size) (Hea.out.mono (kb.mono hn) (Nat.le_refl _)) (Heb.out.mono (kb.mono hn) (Nat.le_refl _)))
  clear A B kb
  by_cases h1 : a.every = b.every
  · have h1b : (a.every == b.every) = true := by simpa using h1
    have H1 := Lib.hid h1; clear h1
    go_wp2_with fail
    refine HS.out.mono ?_; rintro e' w1 ⟨rfl, hb1⟩; clear d0 d1 d2 d3 d4 d5 d6 d7 d8 d9 d10 e0 e1 e2 e3 e4 e5 e6 e7 e8 e9 e10; have a1 := HA1.out.keep hb1; have b1 := HB1.out.keep hb1; have d0 := a1.cell 0 _ rfl; have d1 := a1.cell 1 _ rfl; have d2 := a1.cell 2 _ rfl; have d3 := a1.cell 3 _ rfl; have d4 := a1.cell 4 _ rfl; have d5 := a1.cell 5 _ rfl; have d6 := a1.cell 6 _ rfl; have d7 := a1.cell 7 _ rfl; have d8 := a1.cell 8 _ rfl; have d9 := a1.cell 9 _ rfl; have d10 := a1.cell 10 _ rfl; have e0 := b1.cell 0 _ rfl; have e1 := b1.cell 1 _ rfl; have e2 := b1.cell 2 _ rfl; have e3 := b1.cell 3 _ rfl; have e4 := b1.cell 4 _ rfl; have e5 := b1.cell 5 _ rfl; have e6 := b1.cell 6 _ rfl; have e7 := b1.cell 7 _ rfl; have e8 := b1.cell 8 _ rfl; have e9 := b1.cell 9 _ rfl; have e10 := b1.cell 10 _ rfl; have HB := Lib.hid (HB.out.trans (hb1.mono HB.out.size)); clear hb1 a1 b1
    by_cases h2 : a.ex = b.ex
    · rw [decide_eq_true h2]
      have H2 := Lib.hid h2; clear h2; have HE := Lib.hid (eqInts a.ins b.ins _ _ n w1 (Nat.le_trans hn HB.out.size) (Hia.out.mono (HB.out.mono hn) (Nat.le_refl _)) (Hib.out.mono (HB.out.mono hn) (Nat.le_refl _)))
      go_wp2_with fail
      refine HE.out.mono ?_; rintro e' w2 ⟨rfl, hb2⟩; have HB := Lib.hid (HB.out.trans (hb2.mono HB.out.size)); clear hb2; go_wp2; go_ret; refine ⟨ret_bool ?_, HB.out⟩
      by_cases h3 : a.ins = b.ins
      · rw [decide_eq_true h3, eq_comm, ndEq_iff]
        cases a; cases b; simp only at h3; have h4 := H1.out; have h5 := H2.out; simp only at h4 h5; subst h3 h4 h5; rfl
      · rw [decide_eq_false h3, ndEq_false (fun h => h3 h.2.2)]
    · rw [decide_eq_false h2]
      have H2 := Lib.hid h2; clear h2; go_wp2; go_ret; exact ⟨ret_bool (ndEq_false (fun h => H2.out h.2.1)).symm, HB.out⟩
  · have h1b : (a.every == b.every) = false := by simpa using h1
    have H1 := Lib.hid h1; clear h1; go_wp2; go_ret; exact ⟨ret_bool (ndEq_false (fun h => H1.out h.1)).symm, HB.out⟩
end Go.Proofs.YtdjdikiimhhjpaaGreatDoor
namespace Go.Proofs.YtdjdikiimhhjpaaGreatDoor
open Go.RowKit
set_option linter.unusedSimpArgs false
set_option linter.unusedVariables false
theorem pRightC (x y : Nd) (rx ry : List Value) (g n : Nat) (w : World) (hn : n ≤ w.heap.size) (hB : Blk w g 39 rx) (hx : IsNd n w x rx) (hy : IsNd n w y ry) :
    Calls Tryz.prog 54 #[.agg ry.toArray, .pointer (some ⟨g, 0, none⟩)] w fun e' w' => e' = .returned (.bool (ndEq x y)) ∧ Below w.heap.size w w' := by
  obtain ⟨pm, cm, pn, cn, pk, ck, pi, ci, hrx, hex, hix⟩ := hx.cells
  obtain ⟨qm, dm, qn, dn, qk, dk, qi, di, hry, hey, hiy⟩ := hy.cells
  subst hrx hry
  clear hex hix hey hiy
  have Hx := Lib.hid hx; have Hy := Lib.hid hy; clear hx hy
  have hg := hB.lt
  have hbw : Below w.heap.size w (w.alloc (.cells (ndCells y qm dm qn dn qk dk qi di).toArray 39)) := (Below.refl _ _).alloc (Nat.le_refl _) _
  have HN := Lib.hid (Blk.new w (ndCells y qm dm qn dn qk dk qi di) 39)
  have HX := Lib.hid (hB.keep hbw)
  have HB := Lib.hid hbw
  unfold ndCells at *
  clear hB hbw
  go_enter Tryz.func54, Tryz.ntmps54; (try simp only [List.append_eq, List.cons_append, List.nil_append])
  go_upto_region 1 with fail
  obtain ⟨X, hW⟩ : ∃ z, w.alloc (.cells #[.int .i64 y.every, .int .i64 y.ex.kind, .int .i64 y.ex.fn, .int .i64 y.ex.op, .int .i64 y.ex.num, .string y.ex.metric, .slice qm y.ex.mats.length dm, .int .i64 y.ex.span, .slice qn y.ex.names.length dn, .slice qk y.ex.kids.length dk, .slice qi y.ins.length di] 39) = z := ⟨_, rfl⟩
  have hn' := HN.out; have hx' := HX.out; have hb' := HB.out
  rw [show w.alloc (.cells ([.int .i64 y.every, .int .i64 y.ex.kind, .int .i64 y.ex.fn, .int .i64 y.ex.op, .int .i64 y.ex.num, .string y.ex.metric, .slice qm y.ex.mats.length dm, .int .i64 y.ex.span, .slice qn y.ex.names.length dn, .slice qk y.ex.kids.length dk, .slice qi y.ins.length di] : List Value).toArray 39) = X from hW] at hn' hx' hb'
  rw [hW]; clear hW HN HX HB
  have e0 := hn'.cell 0 _ rfl; have e1 := hn'.cell 1 _ rfl; have e2 := hn'.cell 2 _ rfl; have e3 := hn'.cell 3 _ rfl; have e4 := hn'.cell 4 _ rfl; have e5 := hn'.cell 5 _ rfl; have e6 := hn'.cell 6 _ rfl; have e7 := hn'.cell 7 _ rfl; have e8 := hn'.cell 8 _ rfl; have e9 := hn'.cell 9 _ rfl; have e10 := hn'.cell 10 _ rfl
  have d0 := hx'.cell 0 _ rfl; have d1 := hx'.cell 1 _ rfl; have d2 := hx'.cell 2 _ rfl; have d3 := hx'.cell 3 _ rfl; have d4 := hx'.cell 4 _ rfl; have d5 := hx'.cell 5 _ rfl; have d6 := hx'.cell 6 _ rfl; have d7 := hx'.cell 7 _ rfl; have d8 := hx'.cell 8 _ rfl; have d9 := hx'.cell 9 _ rfl; have d10 := hx'.cell 10 _ rfl
  have HS := Lib.hid (pSame x y _ _ n X (Nat.le_trans hn hb'.size) (Hx.out.mono (hb'.mono hn) (Nat.le_refl _)) (Hy.out.mono (hb'.mono hn) (Nat.le_refl _)))
  have HB := Lib.hid hb'
  clear hn' hx' hb'
  go_wp2_with fail
  refine HS.out.mono ?_
  rintro e' w1 ⟨rfl, hb1⟩
  have HB := Lib.hid (HB.out.trans (hb1.mono HB.out.size)); clear hb1
  go_wp2
  go_ret
  exact ⟨rfl, HB.out⟩
theorem any_snoc {α : Type} (f : α → Bool) (l : List α) (k : Nat) (hk : k < l.length) : (l.take (k + 1)).any f = ((l.take k).any f || f l[k]) := by
  rw [List.take_succ_eq_append_getElem hk, List.any_append]; simp
theorem any_at {α : Type} {f : α → Bool} {l : List α} {k : Nat} (hk : k < l.length) (h : f l[k] = true) : l.any f = true := List.any_eq_true.2 ⟨_, List.getElem_mem hk, h⟩
theorem sIndexNd (x : Nd) (rx : List Value) (l : List Nd) (v : Value) (g n : Nat) (w : World) (hn : n ≤ w.heap.size) (hB : Blk w g 39 rx) (hx : IsNd n w x rx) (hl : IsNds n w v l) :
    Calls Tryz.prog 77 #[v, .func (.func 54) #[] #[.pointer (some ⟨g, 0, none⟩)]] w fun e' w' => (∃ r : Int, e' = .returned (.int .i64 r) ∧ decide (0 ≤ r) = l.any (ndEq x)) ∧ Below w.heap.size w w' := by
  obtain ⟨p, cap, rfl, _, _, hlm⟩ := hl.open
  unfold maxLen at hlm
  have Hx := Lib.hid hx; have Hl := Lib.hid hl; have HBx := Lib.hid hB; clear hx hl hB
  go_enter Tryz.func77, Tryz.ntmps77; (try simp only [List.append_eq, List.cons_append, List.nil_append])
  go_wp2
  go_loopw [8] (fun i wr => ∃ k : Nat, k ≤ l.length ∧ i = .int .i64 k ∧ (l.take k).any (ndEq x) = false ∧ Below w.heap.size w wr) (fun i _ => l.length - (intOf i).toNat)
  case atStart => exact ⟨0, Nat.zero_le _, rfl, by simp, Below.refl _ _⟩
  case round =>
    obtain ⟨k, hk, rfl, hr, hb⟩ := hrel; have Hr := Lib.hid hr; clear hr; have Hb := Lib.hid hb; clear hb
    by_cases hlt : k < l.length
    · obtain ⟨b, off, pm, cm, pn, cn, pk, ck, pi, ci, rfl, hbn, hex, hix, hc⟩ := (Hl.out.mono (Hb.out.mono hn) (Nat.le_refl _)).get hlt
      have hy : IsNd n wr l[k] (ndCells l[k] pm cm pn cn pk ck pi ci) := ⟨_, _, rfl, hex, hix⟩; have HS := Lib.hid (pRightC x l[k] rx _ g n wr (Nat.le_trans hn Hb.out.size) (HBx.out.keep Hb.out) (Hx.out.mono (Hb.out.mono hn) (Nat.le_refl _)) hy); have Hany := Lib.hid (any_snoc (ndEq x) l k hlt); have Hat := Lib.hid (fun h => any_at (f := ndEq x) (l := l) hlt h); unfold ndCells at hc HS; have c0 := hc 0 _ rfl; have c1 := hc 1 _ rfl; have c2 := hc 2 _ rfl; have c3 := hc 3 _ rfl; have c4 := hc 4 _ rfl; have c5 := hc 5 _ rfl; have c6 := hc 6 _ rfl; have c7 := hc 7 _ rfl; have c8 := hc 8 _ rfl; have c9 := hc 9 _ rfl; have c10 := hc 10 _ rfl; simp only [Nat.add_zero] at c0; clear hc hy hex hix; generalize l[k] = y at *; obtain ⟨bq, hbq⟩ : ∃ bq, ndEq x y = bq := ⟨_, rfl⟩; rw [hbq] at HS Hany Hat; clear hbq
      go_wp2_with fail
      refine HS.out.mono ?_; rintro e' w1 ⟨rfl, hb1⟩; have Hb := Lib.hid (Hb.out.trans (hb1.mono Hb.out.size)); clear hb1; cases bq with
      | true =>
        go_wp2; go_ret; exact ⟨⟨(k : Int), rfl, by rw [Hat.out (by first | rfl | trivial)]; simp⟩, Hb.out⟩
      | false =>
        go_wp2; exact ⟨⟨k + 1, by omega, by go_num, by rw [Hany.out, Hr.out]; rfl, Hb.out⟩, by simp [intOf]; omega⟩
    · have hk' : k = l.length := by omega
      subst hk'; have hr := Hr.out; rw [List.take_of_length_le (Nat.le_refl _)] at hr; have Hr2 := Lib.hid hr; clear hr; go_wp2; go_ret; exact ⟨⟨-1, rfl, by rw [Hr2.out]; rfl⟩, Hb.out⟩
theorem sHasNd (x : Nd) (rx : List Value) (l : List Nd) (v : Value) (g n : Nat) (w : World) (hn : n ≤ w.heap.size) (hB : Blk w g 39 rx) (hx : IsNd n w x rx) (hl : IsNds n w v l) :
    Calls Tryz.prog 53 #[v, .func (.func 54) #[] #[.pointer (some ⟨g, 0, none⟩)]] w fun e' w' => e' = .returned (.bool (l.any (ndEq x))) ∧ Below w.heap.size w w' := by
  have HS := Lib.hid (sIndexNd x rx l v g n w hn hB hx hl)
  clear hB hx hl
  go_enter Tryz.func53, Tryz.ntmps53; (try simp only [List.append_eq, List.cons_append, List.nil_append])
  go_wp2_with fail
  refine HS.out.mono ?_
  rintro e' w1 ⟨⟨r, rfl, hr⟩, hb⟩
  have HB := Lib.hid hb; have HR := Lib.hid hr; clear hb hr
  go_wp2
  go_ret
  exact ⟨ret_bool HR.out, HB.out⟩
end Go.Proofs.YtdjdikiimhhjpaaGreatDoor
namespace Go.Proofs.YtdjdikiimhhjpaaGreatDoor
open Go.RowKit
set_option linter.unusedSimpArgs false
set_option linter.unusedVariables false
end Go.Proofs.YtdjdikiimhhjpaaGreatDoor
namespace Go.Proofs.YtdjdikiimhhjpaaGreatDoor
open Go.RowKit
set_option linter.unusedSimpArgs false
set_option linter.unusedVariables false
mutual
def Ex.leaves : Ex → List Ex
  | .mk a b c d e f g h ks => (if a = 1 then [.mk a b c d e f g h ks] else []) ++ leavess ks
def leavess : List Ex → List Ex
  | [] => []
  | k :: ks => k.leaves ++ leavess ks
end
theorem Ex.leaves_eq (e : Ex) : e.leaves = (if e.kind = 1 then [e] else []) ++ leavess e.kids := by cases e; simp only [Ex.leaves, Ex.kids, Ex.kind]; congr
theorem leavess_append (a b : List Ex) : leavess (a ++ b) = leavess a ++ leavess b := by
  induction a with
  | nil => simp [leavess]
  | cons k a ih => simp only [List.cons_append, leavess, ih, List.append_assoc]
theorem leavess_step {l : List Ex} {k : Nat} (h : k < l.length) : leavess (l.take (k + 1)) = leavess (l.take k) ++ l[k].leaves := by
  rw [List.take_succ_eq_append_getElem h, leavess_append]; simp [leavess]
theorem leaves_filter : ∀ e : Ex, e.leaves = e.flat.filter fun x => decide (x.kind = 1) := by
  refine Ex.ind fun e ih => ?_
  have : ∀ l : List Ex, (∀ k ∈ l, k.leaves = k.flat.filter fun x => decide (x.kind = 1)) → leavess l = (flats l).filter fun x => decide (x.kind = 1) := by
    intro l
    induction l with
    | nil => intro _; simp [leavess, flats]
    | cons x l ih => intro h; simp only [leavess, flats, List.filter_append]; rw [h x (by simp), ih (fun k hk => h k (by simp [hk]))]
  rw [Ex.leaves_eq, Ex.flat_eq, List.filter_cons, this _ ih]
  by_cases h : e.kind = 1 <;> simp [h]
theorem leavess_filter (l : List Ex) : leavess l = (flats l).filter fun x => decide (x.kind = 1) := by
  induction l with
  | nil => simp [leavess, flats]
  | cons x l ih => simp only [leavess, flats, List.filter_append, ih, leaves_filter]
theorem leaves_length (e : Ex) : e.leaves.length ≤ e.size := by
  rw [leaves_filter, ← flat_length]; exact List.length_filter_le _ _
theorem leavess_length (l : List Ex) : (leavess l).length ≤ sizes l := by
  rw [leavess_filter, ← flats_length]; exact List.length_filter_le _ _
end Go.Proofs.YtdjdikiimhhjpaaGreatDoor
namespace Go.Proofs.YtdjdikiimhhjpaaGreatDoor
open Go.Shelf
open Go.RowKit
set_option linter.unusedSimpArgs false
set_option linter.unusedVariables false
structure Two (W W' : World) (c : Nat) (row : Option Nat) : Prop where
  os : W'.os = W.os
  tape : W'.tape = W.tape
  output : W'.output = W.output
  size : W.heap.size ≤ W'.heap.size
  block : ∀ k, k < W.heap.size → k ≠ c → some k ≠ row → W'.heap[k]? = W.heap[k]?
theorem Two.grown {W A B : World} {c : Nat} {row r : Option Nat} (h : Two W A c row) (hg : A.grownBy B r) (hr : ∀ g, r = some g → g = c ∨ some g = row ∨ W.heap.size ≤ g) : Two W B c row :=
  ⟨hg.os.trans h.os, hg.tape.trans h.tape, hg.output.trans h.output, Nat.le_trans h.size hg.size, fun k hk h1 h2 => (hg.block k (Nat.lt_of_lt_of_le hk h.size) (fun e => by
    rcases hr k e.symm with rfl | h | h
    · exact h1 rfl
    · exact h2 h
    · omega)).trans (h.block k hk h1 h2)⟩
theorem Two.refl (W : World) (c : Nat) (row : Option Nat) : Two W W c row := ⟨rfl, rfl, rfl, Nat.le_refl _, fun _ _ _ _ => rfl⟩
theorem Two.drew {W A : World} {c : Nat} {row : Option Nat} (h : Two W A c row) : Two W A.drew c row := ⟨h.os, h.tape, h.output, h.size, h.block⟩
theorem Two.below {W A : World} {a : World} {B c : Nat} {row : Option Nat} (h : Two W A c row) (hb : Below B a W) (hB : B ≤ W.heap.size) (hc : B ≤ c) (hr : ∀ g, row = some g → B ≤ g) : Below B a A :=
  hb.trans ⟨h.os, h.tape, h.output, h.size, fun k hk => h.block k (by omega) (by omega) (fun e => by have := hr k e.symm; omega)⟩
theorem put9 {w : World} {base e g n cap : Nat} {xs : List Value} {z0 z1 z2 z3 z4 z5 z6 z7 z8 c0 c1 c2 c3 c4 c5 c6 c7 c8 : Value} (hl : xs.length = n * 9)
    (h : w.ownsRow base e 9 (.slice (some ⟨g, 0, none⟩) (n + 1) cap) (n + 1) (xs ++ [z0, z1, z2, z3, z4, z5, z6, z7, z8])) :
    (((((((((w.setCell ⟨g, n * 9, none⟩ c0).setCell ⟨g, n * 9 + 1, none⟩ c1).setCell ⟨g, n * 9 + 2, none⟩ c2).setCell ⟨g, n * 9 + 3, none⟩ c3).setCell ⟨g, n * 9 + 4, none⟩ c4).setCell ⟨g, n * 9 + 5, none⟩ c5).setCell ⟨g, n * 9 + 6, none⟩ c6).setCell ⟨g, n * 9 + 7, none⟩ c7).setCell ⟨g, n * 9 + 8, none⟩ c8).ownsRow base e 9 (.slice (some ⟨g, 0, none⟩) (n + 1) cap) (n + 1) (xs ++ [c0, c1, c2, c3, c4, c5, c6, c7, c8]) ∧
    ∀ (W : World) (c : Nat) (row : Option Nat), Two W w c row → (some g = row ∨ W.heap.size ≤ g) → Two W (((((((((w.setCell ⟨g, n * 9, none⟩ c0).setCell ⟨g, n * 9 + 1, none⟩ c1).setCell ⟨g, n * 9 + 2, none⟩ c2).setCell ⟨g, n * 9 + 3, none⟩ c3).setCell ⟨g, n * 9 + 4, none⟩ c4).setCell ⟨g, n * 9 + 5, none⟩ c5).setCell ⟨g, n * 9 + 6, none⟩ c6).setCell ⟨g, n * 9 + 7, none⟩ c7).setCell ⟨g, n * 9 + 8, none⟩ c8) c row := by
  have st := fun (w : World) (xs : List Value) (j : Nat) (u : Value) (h : w.ownsRow base e 9 (.slice (some ⟨g, 0, none⟩) (n + 1) cap) (n + 1) xs) => h.stored j u
  have hs : ∀ (j : Nat) (l : List Value) (u : Value), (xs ++ l).set (n * 9 + j) u = xs ++ l.set j u := fun j l u => by
    rw [List.set_append_right _ _ (by omega), hl, Nat.add_sub_cancel_left]
  have s0 := st _ _ (n * 9) c0 h
  rw [show (xs ++ [z0, z1, z2, z3, z4, z5, z6, z7, z8]).set (n * 9) c0 = xs ++ [c0, z1, z2, z3, z4, z5, z6, z7, z8] from hs 0 _ _] at s0
  have s1 := st _ _ (n * 9 + 1) c1 s0.1
  rw [hs 1] at s1
  have s2 := st _ _ (n * 9 + 2) c2 s1.1
  rw [hs 2] at s2
  have s3 := st _ _ (n * 9 + 3) c3 s2.1
  rw [hs 3] at s3
  have s4 := st _ _ (n * 9 + 4) c4 s3.1
  rw [hs 4] at s4
  have s5 := st _ _ (n * 9 + 5) c5 s4.1
  rw [hs 5] at s5
  have s6 := st _ _ (n * 9 + 6) c6 s5.1
  rw [hs 6] at s6
  have s7 := st _ _ (n * 9 + 7) c7 s6.1
  rw [hs 7] at s7
  have s8 := st _ _ (n * 9 + 8) c8 s7.1
  rw [hs 8] at s8
  refine ⟨s8.1, fun W c row hW hg => ?_⟩
  have hr : ∀ k, some g = some k → k = c ∨ some k = row ∨ W.heap.size ≤ k := fun k e => by cases e; exact .inr hg
  exact ((((((((hW.grown s0.2 hr).grown s1.2 hr).grown s2.2 hr).grown s3.2 hr).grown s4.2 hr).grown s5.2 hr).grown s6.2 hr).grown s7.2 hr).grown s8.2 hr
theorem own_snoc {n base : Nat} {W W' : World} {v' : Value} {l : List Ex} {rows : List (List Value)} {x : Ex} {cs : List Value} (hl : rows.length = l.length)
    (hg : ∀ (k : Nat) (r : List Value) (e : Ex), rows[k]? = some r → l[k]? = some e → IsEx n W e r) (hx : IsEx n W x cs) (hb : Below n W W')
    (h : W'.ownsRow base 37 9 v' (l.length + 1) (rows.flatten ++ cs)) : Own n base W' v' (l ++ [x]) :=
  Own.app (rows2 := [cs]) hl rfl hg (fun k r e' hr he' => by
    cases k with
    | zero => simp at hr he'; subst hr; subst he'; exact hx
    | succ k => simp at hr) hb (by simpa using h)
def Vl (n₀ c t : Nat) (W : World) : Prop := n₀ ≤ c ∧ ∃ v, Boxed W c t v ∧ ∀ k, v.ownBlock = some k → n₀ ≤ k ∧ ∃ cs e, W.heap[k]? = some (.cells cs e (0, 0))
def Xl (c : Nat) (W : World) (k : Nat) : Prop := k = c ∨ ∃ v, W.cell? ⟨c, 0, none⟩ = some v ∧ v.ownBlock = some k
theorem dirtyL {n₀ c t : Nat} : Dirty n₀ (Vl n₀ c t) (Xl c) where
  lo := fun W k hv hx => by
    obtain ⟨hc, v, hb, hk⟩ := hv; rcases hx with rfl | ⟨v', hv', hk'⟩
    · exact ⟨hc, hb.lt⟩
    · rw [hb.cell] at hv'; cases hv'
      obtain ⟨h1, cs, e, h2⟩ := hk k hk'; exact ⟨h1, (Array.getElem?_eq_some_iff.1 h2).1⟩
  al := fun W o hv => by
    obtain ⟨hc, v, hb, hk⟩ := hv; refine ⟨⟨hc, v, hb.alloc o, fun k h => ?_⟩, fun k hx => ?_⟩
    · obtain ⟨h1, cs, e, h2⟩ := hk k h
      exact ⟨h1, cs, e, (Below.heap_alloc _ _ _ (Array.getElem?_eq_some_iff.1 h2).1).trans h2⟩
    rcases hx with rfl | ⟨v', hv', hk'⟩
    · exact .inl rfl
    · rw [(hb.alloc o).cell] at hv'; cases hv'
      exact .inr ⟨v, hb.cell, hk'⟩
  pu := fun W l o o' hv hl ho => by
    obtain ⟨hc, v, hb, hk⟩ := hv; have hne : ∀ (j : Nat) (cs : Array Value) (e : TypeId), W.heap[j]? = some (.cells cs e (0, 0)) → j ≠ l := by
      rintro j cs e hj rfl; rw [hj] at hl; cases hl; cases ho
    have hb' : Boxed (W.putObj l o') c t v := by
      rw [Boxed, World.putObj_heap_other (hne _ _ _ hb)]; exact hb
    refine ⟨⟨hc, v, hb', fun k h => ?_⟩, fun k hx => ?_⟩
    · obtain ⟨h1, cs, e, h2⟩ := hk k h
      exact ⟨h1, cs, e, (World.putObj_heap_other (hne _ _ _ h2)).trans h2⟩
    rcases hx with rfl | ⟨v', hv', hk'⟩
    · exact .inl rfl
    · rw [hb'.cell] at hv'; cases hv'
      exact .inr ⟨v, hb.cell, hk'⟩
theorem ownsRow_cells {w : World} {base e sz n : Nat} {v : Value} {xs : List Value} (h : w.ownsRow base e sz v n xs) : ∀ k, v.ownBlock = some k → ∃ cs, w.heap[k]? = some (.cells cs e (0, 0)) := by
  intro k hk
  rcases h.2 with ⟨rfl, _⟩ | ⟨g, cap, cur, rfl, hg, hh, _⟩
  · simp [Value.ownBlock] at hk
  · simp [Value.ownBlock] at hk
    subst hk; exact ⟨_, hh⟩
theorem two_post {n₀ base c t e sz : Nat} {B k k' : Nat} {W W' : World} {v v' : Value} {xs xs' : List Value} (h : Two W W' c v.ownBlock) (hb : Boxed W c t v) (hb' : Boxed W' c t v') (ho : W.ownsRow base e sz v k xs) (ho' : W'.ownsRow base e sz v' k' xs')
    (hv : v'.ownBlock = v.ownBlock ∨ ∃ g, v'.ownBlock = some g ∧ W.heap.size ≤ g) (hc : n₀ ≤ c) (hbase : n₀ ≤ base) :
    KeepsFrom B W W' ∧ KpX (Vl n₀ c t) (Xl c) W W' := by
  have hcells : ∀ j, j = c ∨ some j = v.ownBlock → ∃ cs e, W.heap[j]? = some (.cells cs e (0, 0)) := by
    rintro j (rfl | hj)
    · exact ⟨_, _, hb⟩
    · obtain ⟨cs, hcs⟩ := ownsRow_cells ho j hj.symm
      exact ⟨cs, _, hcs⟩
  refine ⟨⟨h.size, fun j o _ hj hno => ?_⟩, fun hV => ⟨⟨hc, v', hb', fun j hj => ?_⟩, ⟨h.size, fun j o hj _ hx => ?_, fun j hx => ?_⟩⟩⟩
  · have hlt := (Array.getElem?_eq_some_iff.1 hj).1
    have hn : ∀ cs e, W.heap[j]? ≠ some (.cells cs e (0, 0)) := by
      intro cs e e'; rw [hj] at e'; cases e'; cases hno
    refine (h.block j hlt (fun e => ?_) (fun e => ?_)).trans hj
    · obtain ⟨cs, e', h'⟩ := hcells j (.inl e)
      exact hn _ _ h'
    · obtain ⟨cs, e', h'⟩ := hcells j (.inr e)
      exact hn _ _ h'
  · obtain ⟨cs, hcs⟩ := ownsRow_cells ho' j hj
    exact ⟨Nat.le_trans hbase (ownsRow_block ho' j hj).1, cs, _, hcs⟩
  · have hlt := (Array.getElem?_eq_some_iff.1 hj).1
    exact (h.block j hlt (fun e => hx (.inl e)) (fun e => hx (.inr ⟨v, hb.cell, e.symm⟩))).trans hj
  · rcases hx with rfl | ⟨v2, hv2, hj⟩
    · exact .inl (.inl rfl)
    · rw [hb'.cell] at hv2; cases hv2
      rcases hv with e | ⟨g, e, hg⟩
      · exact .inl (.inr ⟨v, hb.cell, by rw [← e]; exact hj⟩)
      · rw [e] at hj; cases hj; exact .inr hg
def Post1 (n base c : Nat) (row : Option Nat) (l : List Ex) (W W' : World) : Prop :=
  ∃ v', Boxed W' c 35 v' ∧ Own n base W' v' l ∧ Two W W' c row ∧ (v'.ownBlock = row ∨ ∃ g, v'.ownBlock = some g ∧ W.heap.size ≤ g)
theorem fin9a {n base c g cap : Nat} {row : Option Nat} {W w3 : World} {v : Value} {l : List Ex} {rows : List (List Value)} {x : Ex} {z0 z1 z2 z3 z4 z5 z6 z7 z8 c0 c1 c2 c3 c4 c5 c6 c7 c8 : Value}
    (hl : rows.length = l.length) (hf : rows.flatten.length = l.length * 9) (hg : ∀ (k : Nat) (r : List Value) (e : Ex), rows[k]? = some r → l[k]? = some e → IsEx n W e r) (hx : IsEx n W x [c0, c1, c2, c3, c4, c5, c6, c7, c8])
    (ht : Two W w3 c row) (hb : Boxed w3 c 35 v) (ho : w3.ownsRow base 37 9 (.slice (some ⟨g, 0, none⟩) (l.length + 1) cap) (l.length + 1) (rows.flatten ++ [z0, z1, z2, z3, z4, z5, z6, z7, z8]))
    (hgw : some g = row ∨ W.heap.size ≤ g) (hn : n ≤ W.heap.size) (hnc : n ≤ c) (hnr : ∀ k, row = some k → n ≤ k) :
    Post1 n base c row (l ++ [x]) W ((((((((((w3.setCell ⟨g, l.length * 9, none⟩ c0).setCell ⟨g, l.length * 9 + 1, none⟩ c1).setCell ⟨g, l.length * 9 + 2, none⟩ c2).setCell ⟨g, l.length * 9 + 3, none⟩ c3).setCell ⟨g, l.length * 9 + 4, none⟩ c4).setCell ⟨g, l.length * 9 + 5, none⟩ c5).setCell ⟨g, l.length * 9 + 6, none⟩ c6).setCell ⟨g, l.length * 9 + 7, none⟩ c7).setCell ⟨g, l.length * 9 + 8, none⟩ c8).setCell ⟨c, 0, none⟩ (.slice (some ⟨g, 0, none⟩) (l.length + 1) cap)) := by
  have q := put9 (c0 := c0) (c1 := c1) (c2 := c2) (c3 := c3) (c4 := c4) (c5 := c5) (c6 := c6) (c7 := c7) (c8 := c8) hf ho
  have hgc : c ≠ g := fun e => hb.not_row (by decide) ho (by rw [e]; rfl)
  have hb9 : Boxed (((((((((w3.setCell ⟨g, l.length * 9, none⟩ c0).setCell ⟨g, l.length * 9 + 1, none⟩ c1).setCell ⟨g, l.length * 9 + 2, none⟩ c2).setCell ⟨g, l.length * 9 + 3, none⟩ c3).setCell ⟨g, l.length * 9 + 4, none⟩ c4).setCell ⟨g, l.length * 9 + 5, none⟩ c5).setCell ⟨g, l.length * 9 + 6, none⟩ c6).setCell ⟨g, l.length * 9 + 7, none⟩ c7).setCell ⟨g, l.length * 9 + 8, none⟩ c8) c 35 v := by
    unfold Boxed
    iterate 9 rw [Below.heap_setCell _ _ _ _ hgc]
    exact hb
  have tt := (q.2 W c row ht hgw).grown (grownBy_setCell' _ c (.slice (some ⟨g, 0, none⟩) (l.length + 1) cap)) (fun k e => by cases e; exact .inl rfl)
  refine ⟨.slice (some ⟨g, 0, none⟩) (l.length + 1) cap, hb9.set _, ?_, tt, hgw.elim .inl fun h => .inr ⟨g, rfl, h⟩⟩
  exact own_snoc hl hg hx (tt.below (Below.refl n W) hn hnc hnr) (q.1.kept (grownBy_setCell' _ c _) (.inr fun e => hgc (by simpa [Value.ownBlock] using e.symm)))
theorem fin9b {n base c g cap : Nat} {row : Option Nat} {W w3 : World} {v : Value} {l : List Ex} {rows : List (List Value)} {x : Ex} {z0 z1 z2 z3 z4 z5 z6 z7 z8 c0 c1 c2 c3 c4 c5 c6 c7 c8 : Value}
    (hl : rows.length = l.length) (hf : rows.flatten.length = l.length * 9) (hg : ∀ (k : Nat) (r : List Value) (e : Ex), rows[k]? = some r → l[k]? = some e → IsEx n W e r) (hx : IsEx n W x [c0, c1, c2, c3, c4, c5, c6, c7, c8])
    (ht : Two W w3 c row) (hb : Boxed w3 c 35 v) (ho : w3.ownsRow base 37 9 (.slice (some ⟨g, 0, none⟩) (l.length + 1) cap) (l.length + 1) (rows.flatten ++ [z0, z1, z2, z3, z4, z5, z6, z7, z8]))
    (hgw : some g = row ∨ W.heap.size ≤ g) (hn : n ≤ W.heap.size) (hnc : n ≤ c) (hnr : ∀ k, row = some k → n ≤ k) :
    Post1 n base c row (l ++ [x]) W ((((((((((w3.setCell ⟨c, 0, none⟩ (.slice (some ⟨g, 0, none⟩) (l.length + 1) cap)).setCell ⟨g, l.length * 9, none⟩ c0).setCell ⟨g, l.length * 9 + 1, none⟩ c1).setCell ⟨g, l.length * 9 + 2, none⟩ c2).setCell ⟨g, l.length * 9 + 3, none⟩ c3).setCell ⟨g, l.length * 9 + 4, none⟩ c4).setCell ⟨g, l.length * 9 + 5, none⟩ c5).setCell ⟨g, l.length * 9 + 6, none⟩ c6).setCell ⟨g, l.length * 9 + 7, none⟩ c7).setCell ⟨g, l.length * 9 + 8, none⟩ c8) := by
  have hgc : c ≠ g := fun e => hb.not_row (by decide) ho (by rw [e]; rfl)
  have ho' : (w3.setCell ⟨c, 0, none⟩ (.slice (some ⟨g, 0, none⟩) (l.length + 1) cap)).ownsRow base 37 9 (.slice (some ⟨g, 0, none⟩) (l.length + 1) cap) (l.length + 1) (rows.flatten ++ [z0, z1, z2, z3, z4, z5, z6, z7, z8]) :=
    ho.kept (grownBy_setCell' _ c _) (.inr fun e => hgc (by simpa [Value.ownBlock] using e.symm))
  have q := put9 (c0 := c0) (c1 := c1) (c2 := c2) (c3 := c3) (c4 := c4) (c5 := c5) (c6 := c6) (c7 := c7) (c8 := c8) hf ho'
  have hb1 := hb.set (.slice (some ⟨g, 0, none⟩) (l.length + 1) cap)
  have t1 := ht.grown (grownBy_setCell' _ c (.slice (some ⟨g, 0, none⟩) (l.length + 1) cap)) (fun k e => by cases e; exact .inl rfl)
  have tt := q.2 W c row t1 hgw
  refine ⟨.slice (some ⟨g, 0, none⟩) (l.length + 1) cap, ?_, ?_, tt, hgw.elim .inl fun h => .inr ⟨g, rfl, h⟩⟩
  · unfold Boxed
    iterate 9 rw [Below.heap_setCell _ _ _ _ hgc]
    exact hb1
  · exact own_snoc hl hg hx (tt.below (Below.refl n W) hn hnc hnr) q.1
end Go.Proofs.YtdjdikiimhhjpaaGreatDoor
namespace Go.Proofs.YtdjdikiimhhjpaaGreatDoor
open Go.RowKit
set_option linter.unusedSimpArgs false
set_option linter.unusedVariables false
theorem keepCalls {P : Program} {f : FuncId} {args : Array Value} {W : World} {R : Ending → World → Prop} (h : ∀ X, Below W.heap.size W X → Calls P f args X fun e w' => R e w' ∧ Below X.heap.size X w') :
    ∀ X, Below W.heap.size W X → Calls P f args X fun e w' => R e w' ∧ Below W.heap.size W w' ∧ Below X.heap.size X w' ∧ ∀ b o, b < W.heap.size → w'.cell? ⟨b, o, none⟩ = X.cell? ⟨b, o, none⟩ := by
  intro X hX
  refine (h X hX).mono ?_
  rintro e w' ⟨hR, hb⟩
  exact ⟨hR, hX.trans (hb.mono hX.size), hb, fun b o hb' => hb.cell (p := ⟨b, o, none⟩) (by have := hX.size; simp; omega)⟩
theorem weigh_thin : ∀ (d : Nat) (e : Ex) (most : Int), 0 ≤ most → weigh d e most ≤ most → ∀ x ∈ e.flat, (x.mats.length : Int) ≤ most ∧ (x.names.length : Int) ≤ most := by
  intro d
  induction d with
  | zero => intro e most h hw; simp only [weigh] at hw; omega
  | succ d ih =>
    intro e most h hw; rw [weigh_eq] at hw; have key : ∀ (l : List Ex), weighTo d e most l ≤ most → ((e.mats.length : Int) ≤ most ∧ (e.names.length : Int) ≤ most) ∧ ∀ x ∈ flats l, (x.mats.length : Int) ≤ most ∧ (x.names.length : Int) ≤ most := by
      intro l
      induction l using snoc_ind with
      | nil =>
        intro hl; simp only [weighTo, List.foldl_nil] at hl; exact ⟨by omega, by simp [flats]⟩
      | snoc l k ihl =>
        intro hl; have hs : weighTo d e most (l ++ [k]) = if weighTo d e most l ≤ most then weighTo d e most l + weigh d k (most - weighTo d e most l) else weighTo d e most l := by
          simp only [weighTo, List.foldl_append]; rfl
        rw [hs] at hl
        by_cases hle : weighTo d e most l ≤ most
        · rw [if_pos hle] at hl
          have hb := weighTo_bd d e most l h; have h1 := ihl hle; have h2 := ih k (most - weighTo d e most l) (by omega) (by omega); refine ⟨h1.1, fun x hx => ?_⟩; rw [flats_append] at hx; simp only [flats, List.append_nil, List.mem_append] at hx; rcases hx with hx | hx
          · exact h1.2 x hx
          · have := h2 x hx; omega
        · rw [if_neg hle] at hl; omega
    have hk := key _ hw; intro x hx; rw [Ex.flat_eq] at hx; rcases List.mem_cons.1 hx with rfl | hx
    · exact hk.1
    · exact hk.2 x hx
theorem light_thin {e : Ex} (h : light e 400 = true) : e.thin := by
  unfold light at h
  simp only [Bool.and_eq_true, decide_eq_true_eq] at h
  intro x hx
  have := weigh_thin 40 e 400 (by omega) h.1 x hx
  omega
end Go.Proofs.YtdjdikiimhhjpaaGreatDoor
