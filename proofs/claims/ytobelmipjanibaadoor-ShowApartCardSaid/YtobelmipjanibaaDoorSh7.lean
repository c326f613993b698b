/- ShowNames: lives and the walk. -/
import Derived.Test.YtobelmipjanibaaDoorSh6
import Derived.Test.YtobelmipjanibaaDoorApp
namespace Go.Proofs.YtobelmipjanibaaDoor
open Go.RowKit
set_option linter.unusedSimpArgs false
set_option linter.unusedVariables false

theorem IsEx.len9 {n : Nat} {w : World} {e : Ex} {r : List Value} (h : IsEx n w e r) : r.length = 9 := by cases h; rfl
theorem arrBlk {w : World} {g t n sz : Nat} {rows : List (List Value)} (h : Blk w g t rows.flatten) (hg : g < n) (hsz : ∀ r ∈ rows, r.length = sz) (hn : rows.length ≤ maxLen) :
    Arr n w (.slice (some ⟨g, 0, none⟩) rows.length rows.length) sz rows := by
  refine ⟨_, _, rfl, Nat.le_refl _, hn, fun _ => ⟨g, 0, rfl, hg, fun k r hr j x hx => ?_⟩⟩
  rw [Nat.zero_add]
  exact h.cell _ _ (flatten_at hsz hr hx)
theorem setRow_other (w : World) (g k : Nat) (cs : Array Value) (h : k ≠ g) : (w.setRow g cs).heap[k]? = w.heap[k]? := by
  show (w.heap.modify g _)[k]? = _
  rw [Array.getElem?_modify, if_neg (by omega)]
theorem strsBlk {w : World} {g n : Nat} (l : List ByteArray) (h : Blk w g 9 (l.map fun s => [Value.string s]).flatten) (hg : g < n) (hs : ∀ x ∈ l, x.size ≤ maxLen) (hn : l.length ≤ maxLen) : IsStrs n w (.slice (some ⟨g, 0, none⟩) l.length l.length) l := by
  have := arrBlk (sz := 1) h hg (by intro r hr; obtain ⟨x, _, rfl⟩ := List.mem_map.1 hr; rfl) (by rw [List.length_map]; exact hn)
  rw [List.length_map] at this
  exact ⟨this, hs⟩
theorem exsBlk {w : World} {g n m : Nat} (l : List Ex) (rows : List (List Value)) (h : Blk w g 26 rows.flatten) (hg : g < n) (hnm : m ≤ n) (hl : rows.length = l.length) (hm : rows.length ≤ maxLen) (hr : ∀ (k : Nat) (r : List Value) (e : Ex), rows[k]? = some r → l[k]? = some e → IsEx m w e r) :
    IsExs n w (.slice (some ⟨g, 0, none⟩) rows.length rows.length) l := by
  refine ⟨rows, arrBlk h hg (fun r hr' => ?_) hm, hl, fun k r e h1 h2 => (hr k r e h1 h2).mono (Below.refl _ _) hnm⟩
  obtain ⟨k, hk, rfl⟩ := List.getElem_of_mem hr'
  exact (hr k rows[k] (l[k]'(by omega)) (by simp) (by simp)).len9
theorem IsEx.node {n : Nat} {w : World} {kind fn op num span : Int} {names : List ByteArray} {kids : List Ex} {vn vk : Value} (hn : IsStrs n w vn names) (hk : IsExs n w vk kids) :
    IsEx n w (.mk kind fn op num ⟨#[]⟩ [] span names kids) [.int .i64 kind, .int .i64 fn, .int .i64 op, .int .i64 num, .string ⟨#[]⟩, .slice none 0 0, .int .i64 span, vn, vk] := by
  obtain ⟨rows, h1, h2, h3⟩ := hk
  exact .mk (by decide) ⟨Arr.nil _ _ _, by simp⟩ hn h1 h2 h3
theorem noStrs (n : Nat) (w : World) : IsStrs n w (.slice none 0 0) [] := ⟨Arr.nil _ _ _, by simp⟩

/-- A window over a metric. -/
def sumE (m : ByteArray) : Ex := .mk 1 1 0 0 m [] 1 [] []
def sumC (m : ByteArray) : List Value := [.int .i64 1, .int .i64 1, .int .i64 0, .int .i64 0, .string m, .slice none 0 0, .int .i64 1, .slice none 0 0, .slice none 0 0]
theorem sum_is (m : ByteArray) (hm : m.size ≤ maxLen) (n : Nat) (w : World) : IsEx n w (sumE m) (sumC m) :=
  .mk (rows := []) hm ⟨Arr.nil _ _ _, by simp⟩ ⟨Arr.nil _ _ _, by simp⟩ (Arr.nil _ _ _) rfl (fun k r e hr _ => by simp at hr)
def winE (fn span : Int) : Ex := .mk 1 fn 0 0 ⟨#[99, 112, 117]⟩ [] span [] []
theorem win_is2 (fn span : Int) (n : Nat) (w : World) : IsEx n w (winE fn span) [.int .i64 1, .int .i64 fn, .int .i64 0, .int .i64 0, .string ⟨#[99, 112, 117]⟩, .slice none 0 0, .int .i64 span, .slice none 0 0, .slice none 0 0] :=
  .mk (rows := []) (by decide) ⟨Arr.nil _ _ _, by simp⟩ ⟨Arr.nil _ _ _, by simp⟩ (Arr.nil _ _ _) rfl (fun k r e hr _ => by simp at hr)
theorem xWin (fn span : Int) (w : World) : Calls Tryd.prog 23 #[.int .i64 fn, .int .i64 span] w fun e' w' =>
    e' = .returned (.agg #[.int .i64 1, .int .i64 fn, .int .i64 0, .int .i64 0, .string ⟨#[99, 112, 117]⟩, .slice none 0 0, .int .i64 span, .slice none 0 0, .slice none 0 0]) ∧ Below w.heap.size w w' := by
  go_enter Tryd.func23, Tryd.ntmps23; (try simp only [List.append_eq, List.cons_append, List.nil_append])
  go_wp2
  exact bodyPost_agg (g := w.heap.size) (fr := (0, 0)) rfl rfl (World.alloc_heap_new w _) Tryd.underlying26 rfl (by kernel_rfl) rfl ⟨rfl, (Below.refl _ _).alloc (Nat.le_refl _) _⟩
theorem xSum (m : ByteArray) (w : World) : Calls Tryd.prog 8 #[.string m] w fun e' w' =>
    e' = .returned (.agg #[.int .i64 1, .int .i64 1, .int .i64 0, .int .i64 0, .string m, .slice none 0 0, .int .i64 1, .slice none 0 0, .slice none 0 0]) ∧ Below w.heap.size w w' := by
  go_enter Tryd.func8, Tryd.ntmps8; (try simp only [List.append_eq, List.cons_append, List.nil_append])
  go_wp2
  exact bodyPost_agg (g := w.heap.size) (fr := (0, 0)) rfl rfl (World.alloc_heap_new w _) Tryd.underlying26 rfl (by kernel_rfl) rfl ⟨rfl, (Below.refl _ _).alloc (Nat.le_refl _) _⟩
def twoE (op : Int) (a b : Ex) : Ex := .mk 3 0 op 0 ⟨#[]⟩ [] 0 [] [a, b]

set_option maxRecDepth 100000 in
set_option maxHeartbeats 4000000 in
theorem xTwo (op : Int) (a b : Ex) (ca cb : List Value) (n : Nat) (w : World) (hn : n ≤ w.heap.size) (ha : IsEx n w a ca) (hb : IsEx n w b cb) : Calls Tryd.prog 7 #[.int .i64 op, .agg ca.toArray, .agg cb.toArray] w fun e' w' =>
    ∃ g, e' = .returned (.agg #[.int .i64 3, .int .i64 0, .int .i64 op, .int .i64 0, .string ⟨#[]⟩, .slice none 0 0, .int .i64 0, .slice none 0 0, .slice (some ⟨g, 0, none⟩) 2 2]) ∧
      IsEx w'.heap.size w' (twoE op a b) [.int .i64 3, .int .i64 0, .int .i64 op, .int .i64 0, .string ⟨#[]⟩, .slice none 0 0, .int .i64 0, .slice none 0 0, .slice (some ⟨g, 0, none⟩) 2 2] ∧ Below w.heap.size w w' := by
  obtain ⟨pm, cm, pn, cn, pk, ck, rfl, -⟩ := ha.cellsE
  obtain ⟨qm, dm, qn, dn, qk, dk, rfl, -⟩ := hb.cellsE
  have Ha := Lib.hid ha; clear ha
  have Hb := Lib.hid hb; clear hb
  go_enter Tryd.func7, Tryd.ntmps7; (try simp only [List.append_eq, List.cons_append, List.nil_append])
  go_upto_region 1 with fail
  have k1 : Blk (((w.alloc (.cells #[.int .i64 a.kind, .int .i64 a.fn, .int .i64 a.op, .int .i64 a.num, .string a.metric, .slice pm a.mats.length cm, .int .i64 a.span, .slice pn a.names.length cn, .slice pk a.kids.length ck] 26)).alloc (.cells #[.int .i64 b.kind, .int .i64 b.fn, .int .i64 b.op, .int .i64 b.num, .string b.metric, .slice qm b.mats.length dm, .int .i64 b.span, .slice qn b.names.length dn, .slice qk b.kids.length dk] 26)).alloc (.cells #[.int .i64 0, .int .i64 0, .int .i64 0, .int .i64 0, .string ⟨#[]⟩, .slice none 0 0, .int .i64 0, .slice none 0 0, .slice none 0 0] 26)) w.heap.size 26 [.int .i64 a.kind, .int .i64 a.fn, .int .i64 a.op, .int .i64 a.num, .string a.metric, .slice pm a.mats.length cm, .int .i64 a.span, .slice pn a.names.length cn, .slice pk a.kids.length ck] :=
    ((Blk.new w _ _).keep ((Below.refl _ _).alloc (Nat.le_refl _) _)).keep ((Below.refl _ _).alloc (Nat.le_refl _) _)
  have k2 : Blk (((w.alloc (.cells #[.int .i64 a.kind, .int .i64 a.fn, .int .i64 a.op, .int .i64 a.num, .string a.metric, .slice pm a.mats.length cm, .int .i64 a.span, .slice pn a.names.length cn, .slice pk a.kids.length ck] 26)).alloc (.cells #[.int .i64 b.kind, .int .i64 b.fn, .int .i64 b.op, .int .i64 b.num, .string b.metric, .slice qm b.mats.length dm, .int .i64 b.span, .slice qn b.names.length dn, .slice qk b.kids.length dk] 26)).alloc (.cells #[.int .i64 0, .int .i64 0, .int .i64 0, .int .i64 0, .string ⟨#[]⟩, .slice none 0 0, .int .i64 0, .slice none 0 0, .slice none 0 0] 26)) (w.heap.size + 1) 26 [.int .i64 b.kind, .int .i64 b.fn, .int .i64 b.op, .int .i64 b.num, .string b.metric, .slice qm b.mats.length dm, .int .i64 b.span, .slice qn b.names.length dn, .slice qk b.kids.length dk] := by
    have h := (Blk.new (w.alloc (.cells #[.int .i64 a.kind, .int .i64 a.fn, .int .i64 a.op, .int .i64 a.num, .string a.metric, .slice pm a.mats.length cm, .int .i64 a.span, .slice pn a.names.length cn, .slice pk a.kids.length ck] 26)) [.int .i64 b.kind, .int .i64 b.fn, .int .i64 b.op, .int .i64 b.num, .string b.metric, .slice qm b.mats.length dm, .int .i64 b.span, .slice qn b.names.length dn, .slice qk b.kids.length dk] 26).keep ((Below.refl _ _).alloc (Nat.le_refl _) (.cells #[.int .i64 0, .int .i64 0, .int .i64 0, .int .i64 0, .string ⟨#[]⟩, .slice none 0 0, .int .i64 0, .slice none 0 0, .slice none 0 0] 26))
    simpa using h
  have k3 : Blk (((w.alloc (.cells #[.int .i64 a.kind, .int .i64 a.fn, .int .i64 a.op, .int .i64 a.num, .string a.metric, .slice pm a.mats.length cm, .int .i64 a.span, .slice pn a.names.length cn, .slice pk a.kids.length ck] 26)).alloc (.cells #[.int .i64 b.kind, .int .i64 b.fn, .int .i64 b.op, .int .i64 b.num, .string b.metric, .slice qm b.mats.length dm, .int .i64 b.span, .slice qn b.names.length dn, .slice qk b.kids.length dk] 26)).alloc (.cells #[.int .i64 0, .int .i64 0, .int .i64 0, .int .i64 0, .string ⟨#[]⟩, .slice none 0 0, .int .i64 0, .slice none 0 0, .slice none 0 0] 26)) (w.heap.size + 1 + 1) 26 [.int .i64 0, .int .i64 0, .int .i64 0, .int .i64 0, .string ⟨#[]⟩, .slice none 0 0, .int .i64 0, .slice none 0 0, .slice none 0 0] := by
    have h := Blk.new ((w.alloc (.cells #[.int .i64 a.kind, .int .i64 a.fn, .int .i64 a.op, .int .i64 a.num, .string a.metric, .slice pm a.mats.length cm, .int .i64 a.span, .slice pn a.names.length cn, .slice pk a.kids.length ck] 26)).alloc (.cells #[.int .i64 b.kind, .int .i64 b.fn, .int .i64 b.op, .int .i64 b.num, .string b.metric, .slice qm b.mats.length dm, .int .i64 b.span, .slice qn b.names.length dn, .slice qk b.kids.length dk] 26)) [.int .i64 0, .int .i64 0, .int .i64 0, .int .i64 0, .string ⟨#[]⟩, .slice none 0 0, .int .i64 0, .slice none 0 0, .slice none 0 0] 26
    simpa using h
  have hbw : Below w.heap.size w (((w.alloc (.cells #[.int .i64 a.kind, .int .i64 a.fn, .int .i64 a.op, .int .i64 a.num, .string a.metric, .slice pm a.mats.length cm, .int .i64 a.span, .slice pn a.names.length cn, .slice pk a.kids.length ck] 26)).alloc (.cells #[.int .i64 b.kind, .int .i64 b.fn, .int .i64 b.op, .int .i64 b.num, .string b.metric, .slice qm b.mats.length dm, .int .i64 b.span, .slice qn b.names.length dn, .slice qk b.kids.length dk] 26)).alloc (.cells #[.int .i64 0, .int .i64 0, .int .i64 0, .int .i64 0, .string ⟨#[]⟩, .slice none 0 0, .int .i64 0, .slice none 0 0, .slice none 0 0] 26)) := (((Below.refl _ _).alloc (Nat.le_refl _) _).alloc (by simp) _).alloc (by simp; omega) _
  have hsz : (((w.alloc (.cells #[.int .i64 a.kind, .int .i64 a.fn, .int .i64 a.op, .int .i64 a.num, .string a.metric, .slice pm a.mats.length cm, .int .i64 a.span, .slice pn a.names.length cn, .slice pk a.kids.length ck] 26)).alloc (.cells #[.int .i64 b.kind, .int .i64 b.fn, .int .i64 b.op, .int .i64 b.num, .string b.metric, .slice qm b.mats.length dm, .int .i64 b.span, .slice qn b.names.length dn, .slice qk b.kids.length dk] 26)).alloc (.cells #[.int .i64 0, .int .i64 0, .int .i64 0, .int .i64 0, .string ⟨#[]⟩, .slice none 0 0, .int .i64 0, .slice none 0 0, .slice none 0 0] 26)).heap.size = w.heap.size + 3 := by simp
  generalize ((w.alloc (.cells #[.int .i64 a.kind, .int .i64 a.fn, .int .i64 a.op, .int .i64 a.num, .string a.metric, .slice pm a.mats.length cm, .int .i64 a.span, .slice pn a.names.length cn, .slice pk a.kids.length ck] 26)).alloc (.cells #[.int .i64 b.kind, .int .i64 b.fn, .int .i64 b.op, .int .i64 b.num, .string b.metric, .slice qm b.mats.length dm, .int .i64 b.span, .slice qn b.names.length dn, .slice qk b.kids.length dk] 26)).alloc (.cells #[.int .i64 0, .int .i64 0, .int .i64 0, .int .i64 0, .string ⟨#[]⟩, .slice none 0 0, .int .i64 0, .slice none 0 0, .slice none 0 0] 26) = X at *
  obtain ⟨d0, d1, d2, d3, d4, d5, d6, d7, d8⟩ : X.cell? ⟨w.heap.size, 0, none⟩ = some (.int .i64 a.kind) ∧ X.cell? ⟨w.heap.size, 1, none⟩ = some (.int .i64 a.fn) ∧ X.cell? ⟨w.heap.size, 2, none⟩ = some (.int .i64 a.op) ∧ X.cell? ⟨w.heap.size, 3, none⟩ = some (.int .i64 a.num) ∧ X.cell? ⟨w.heap.size, 4, none⟩ = some (.string a.metric) ∧ X.cell? ⟨w.heap.size, 5, none⟩ = some (.slice pm a.mats.length cm) ∧ X.cell? ⟨w.heap.size, 6, none⟩ = some (.int .i64 a.span) ∧ X.cell? ⟨w.heap.size, 7, none⟩ = some (.slice pn a.names.length cn) ∧ X.cell? ⟨w.heap.size, 8, none⟩ = some (.slice pk a.kids.length ck) := ⟨k1.cell 0 _ rfl, k1.cell 1 _ rfl, k1.cell 2 _ rfl, k1.cell 3 _ rfl, k1.cell 4 _ rfl, k1.cell 5 _ rfl, k1.cell 6 _ rfl, k1.cell 7 _ rfl, k1.cell 8 _ rfl⟩
  obtain ⟨e0, e1, e2, e3, e4, e5, e6, e7, e8⟩ : X.cell? ⟨w.heap.size + 1, 0, none⟩ = some (.int .i64 b.kind) ∧ X.cell? ⟨w.heap.size + 1, 1, none⟩ = some (.int .i64 b.fn) ∧ X.cell? ⟨w.heap.size + 1, 2, none⟩ = some (.int .i64 b.op) ∧ X.cell? ⟨w.heap.size + 1, 3, none⟩ = some (.int .i64 b.num) ∧ X.cell? ⟨w.heap.size + 1, 4, none⟩ = some (.string b.metric) ∧ X.cell? ⟨w.heap.size + 1, 5, none⟩ = some (.slice qm b.mats.length dm) ∧ X.cell? ⟨w.heap.size + 1, 6, none⟩ = some (.int .i64 b.span) ∧ X.cell? ⟨w.heap.size + 1, 7, none⟩ = some (.slice qn b.names.length dn) ∧ X.cell? ⟨w.heap.size + 1, 8, none⟩ = some (.slice qk b.kids.length dk) := ⟨k2.cell 0 _ rfl, k2.cell 1 _ rfl, k2.cell 2 _ rfl, k2.cell 3 _ rfl, k2.cell 4 _ rfl, k2.cell 5 _ rfl, k2.cell 6 _ rfl, k2.cell 7 _ rfl, k2.cell 8 _ rfl⟩
  have K3 := Lib.hid (k3.keep ((Below.refl _ _).alloc (Nat.le_refl _) (.cells #[.int .i64 a.kind, .int .i64 a.fn, .int .i64 a.op, .int .i64 a.num, .string a.metric, .slice pm a.mats.length cm, .int .i64 a.span, .slice pn a.names.length cn, .slice pk a.kids.length ck, .int .i64 b.kind, .int .i64 b.fn, .int .i64 b.op, .int .i64 b.num, .string b.metric, .slice qm b.mats.length dm, .int .i64 b.span, .slice qn b.names.length dn, .slice qk b.kids.length dk] 26)))
  have KN := Lib.hid (Blk.new X [.int .i64 a.kind, .int .i64 a.fn, .int .i64 a.op, .int .i64 a.num, .string a.metric, .slice pm a.mats.length cm, .int .i64 a.span, .slice pn a.names.length cn, .slice pk a.kids.length ck, .int .i64 b.kind, .int .i64 b.fn, .int .i64 b.op, .int .i64 b.num, .string b.metric, .slice qm b.mats.length dm, .int .i64 b.span, .slice qn b.names.length dn, .slice qk b.kids.length dk] 26)
  have Hbw := Lib.hid hbw; clear hbw
  have Hsz := Lib.hid hsz; clear hsz k1 k2 k3
  go_wp2_with (refine wpList_store_row rfl 26 _ _ rfl (w.heap.size + 1 + 1) #[.int .i64 3, .int .i64 0, .int .i64 op, .int .i64 0, .string ⟨#[]⟩, .slice none 0 0, .int .i64 0, .slice none 0 0, .slice (some ⟨X.heap.size, 0, none⟩) 2 2] rfl rfl 26 _ K3.out (by kernel_rfl) rfl (by kernel_rfl) ?_)
  have hsz := Hsz.out
  refine bodyPost_agg (g := w.heap.size + 1 + 1) (fr := (0, 0)) rfl rfl (setRow_at K3.out _) Tryd.underlying26 rfl (by kernel_rfl) rfl ?_
  refine ⟨X.heap.size, rfl, ?_, below_setRow (Hbw.out.alloc (by omega) _) (by omega) _⟩
  have hbf := below_setRow (B := w.heap.size) (g := w.heap.size + 1 + 1) (Hbw.out.alloc (by omega) (.cells #[.int .i64 a.kind, .int .i64 a.fn, .int .i64 a.op, .int .i64 a.num, .string a.metric, .slice pm a.mats.length cm, .int .i64 a.span, .slice pn a.names.length cn, .slice pk a.kids.length ck, .int .i64 b.kind, .int .i64 b.fn, .int .i64 b.op, .int .i64 b.num, .string b.metric, .slice qm b.mats.length dm, .int .i64 b.span, .slice qn b.names.length dn, .slice qk b.kids.length dk] 26)) (by omega) #[.int .i64 3, .int .i64 0, .int .i64 op, .int .i64 0, .string ⟨#[]⟩, .slice none 0 0, .int .i64 0, .slice none 0 0, .slice (some ⟨X.heap.size, 0, none⟩) 2 2]
  have hK : Blk ((X.alloc (.cells #[.int .i64 a.kind, .int .i64 a.fn, .int .i64 a.op, .int .i64 a.num, .string a.metric, .slice pm a.mats.length cm, .int .i64 a.span, .slice pn a.names.length cn, .slice pk a.kids.length ck, .int .i64 b.kind, .int .i64 b.fn, .int .i64 b.op, .int .i64 b.num, .string b.metric, .slice qm b.mats.length dm, .int .i64 b.span, .slice qn b.names.length dn, .slice qk b.kids.length dk] 26)).setRow (w.heap.size + 1 + 1) #[.int .i64 3, .int .i64 0, .int .i64 op, .int .i64 0, .string ⟨#[]⟩, .slice none 0 0, .int .i64 0, .slice none 0 0, .slice (some ⟨X.heap.size, 0, none⟩) 2 2]) X.heap.size 26 [[.int .i64 a.kind, .int .i64 a.fn, .int .i64 a.op, .int .i64 a.num, .string a.metric, .slice pm a.mats.length cm, .int .i64 a.span, .slice pn a.names.length cn, .slice pk a.kids.length ck], [.int .i64 b.kind, .int .i64 b.fn, .int .i64 b.op, .int .i64 b.num, .string b.metric, .slice qm b.mats.length dm, .int .i64 b.span, .slice qn b.names.length dn, .slice qk b.kids.length dk]].flatten :=
    (setRow_other _ _ _ _ (by omega)).trans KN.out
  have hsf : X.heap.size < ((X.alloc (.cells #[.int .i64 a.kind, .int .i64 a.fn, .int .i64 a.op, .int .i64 a.num, .string a.metric, .slice pm a.mats.length cm, .int .i64 a.span, .slice pn a.names.length cn, .slice pk a.kids.length ck, .int .i64 b.kind, .int .i64 b.fn, .int .i64 b.op, .int .i64 b.num, .string b.metric, .slice qm b.mats.length dm, .int .i64 b.span, .slice qn b.names.length dn, .slice qk b.kids.length dk] 26)).setRow (w.heap.size + 1 + 1) #[.int .i64 3, .int .i64 0, .int .i64 op, .int .i64 0, .string ⟨#[]⟩, .slice none 0 0, .int .i64 0, .slice none 0 0, .slice (some ⟨X.heap.size, 0, none⟩) 2 2]).heap.size := by rw [setRow_size]; simp
  refine IsEx.node (noStrs _ _) (exsBlk (m := n) [a, b] [[.int .i64 a.kind, .int .i64 a.fn, .int .i64 a.op, .int .i64 a.num, .string a.metric, .slice pm a.mats.length cm, .int .i64 a.span, .slice pn a.names.length cn, .slice pk a.kids.length ck], [.int .i64 b.kind, .int .i64 b.fn, .int .i64 b.op, .int .i64 b.num, .string b.metric, .slice qm b.mats.length dm, .int .i64 b.span, .slice qn b.names.length dn, .slice qk b.kids.length dk]] hK hsf (by have := hbf.size; omega) rfl (by show 2 ≤ maxLen; decide) (fun k r e hr he => ?_))
  match k, hr, he with
  | 0, hr, he => simp only [List.getElem?_cons_zero, Option.some.injEq] at hr he; subst hr he; exact Ha.out.mono (hbf.mono hn) (Nat.le_refl _)
  | 1, hr, he => simp only [List.getElem?_cons_succ, List.getElem?_cons_zero, Option.some.injEq] at hr he; subst hr he; exact Hb.out.mono (hbf.mono hn) (Nat.le_refl _)
  | k + 2, hr, he => simp at hr
end Go.Proofs.YtobelmipjanibaaDoor
