/- Copies of lists; GridCalls: the walk. -/
import Derived.Test.YtdmojmadklckbaaGr13
import Derived.Deep.RegionHeld3
import Derived.Deep.DrawnRows
namespace Go.Proofs.Ytdmojmadklckbaa
open Go.RowKit
set_option linter.unusedSimpArgs false
set_option linter.unusedVariables false
attribute [local go_sem ↓] Go.wp_at_zero Go.wp_at_succ

/-- A nil slice has no room. -/
def NilOk (v : Value) : Prop := ∀ len cap, v = .slice none len cap → cap = 0
theorem flat1 (l : List Int) : (l.map fun i => [Value.int .i64 i]).flatten = l.map fun i => Value.int .i64 i := by
  induction l with
  | nil => rfl
  | cons x l ih => rw [List.map_cons, List.flatten_cons, List.map_cons, ih]; rfl
theorem IsInts.srcP {n : Nat} {w : World} {v : Value} {l : List Int} (h : IsInts n w v l) (hn : NilOk v) : Src w v 1 l.length (l.map fun i => .int .i64 i) := by
  obtain ⟨p, cap, rfl, _, _, _⟩ := h.open
  have h' : Arr n w (.slice p (l.map fun i => [Value.int .i64 i]).length cap) 1 (l.map fun i => [.int .i64 i]) := by rw [List.length_map]; exact h
  have := Src.of_arr h' (by intro r hr; obtain ⟨i, _, rfl⟩ := List.mem_map.1 hr; rfl) (by decide) (fun e => by subst e; exact hn _ _ rfl)
  rw [List.length_map] at this
  rw [flat1] at this
  exact this
theorem ints_one (l : List Int) : ∀ u ∈ (l.map fun i => Value.int .i64 i), u.oneCell' = true := by
  intro u hu; obtain ⟨i, _, rfl⟩ := List.mem_map.1 hu; rfl
theorem own_noneI (W : World) (t sz : Nat) : (W.alloc (.cells #[] t)).ownsRow W.heap.size t sz (.slice (some ⟨W.heap.size, 0, none⟩) 0 0) 0 [] :=
  ⟨by simp, .inr ⟨W.heap.size, 0, #[], rfl, Nat.le_refl _, World.alloc_heap_new W _, Nat.le_refl _, Nat.zero_le _, by simp, by simp⟩⟩
theorem Src.alloc {w : World} {v : Value} {sz m : Nat} {news : List Value} (h : Src w v sz m news) (o : Obj) : Src (w.alloc o) v sz m news :=
  h.keep fun p x hx => (World.cell?_alloc_lt w o _ (World.block_lt_of_cell? w _ hx)).trans hx

theorem infoQ : (Try.prog.info? 28).map (fun i => (i.zero, i.size, i.bytes)) = some (some (.agg #[.int .i64 0, .int .i64 0, .int .i64 0, .int .i64 0, .int .i64 0, .string ⟨#[]⟩, .slice none 0 0, .int .i64 0, .slice none 0 0, .slice none 0 0]), 10, 136) := by kernel_rfl
/-- The rows of queries. -/
def QRows (n : Nat) (w : World) (rows : List (List Value)) (l : List (Int × Ex)) : Prop :=
  rows.length = l.length ∧ ∀ (k : Nat) (r : List Value) (q : Int × Ex), rows[k]? = some r → l[k]? = some q → ∃ cs, r = .int .i64 q.1 :: cs ∧ IsEx n w q.2 cs
theorem QRows.mono {n m : Nat} {w w' : World} {rows : List (List Value)} {l : List (Int × Ex)} (h : QRows n w rows l) (hb : Below n w w') (hm : n ≤ m) : QRows m w' rows l :=
  ⟨h.1, fun k r q hr hq => by obtain ⟨cs, e, he⟩ := h.2 k r q hr hq; exact ⟨cs, e, he.mono hb hm⟩⟩
theorem QRows.len {n : Nat} {w : World} {rows : List (List Value)} {l : List (Int × Ex)} (h : QRows n w rows l) : ∀ r ∈ rows, r.length = 10 := by
  intro r hr
  obtain ⟨k, hk, rfl⟩ := List.getElem_of_mem hr
  obtain ⟨cs, e, he⟩ := h.2 k (rows[k]) (l[k]'(by have := h.1; omega)) (List.getElem?_eq_getElem hk) (List.getElem?_eq_getElem _)
  rw [e, List.length_cons, he.length]
theorem QRows.one {n : Nat} {w : World} {rows : List (List Value)} {l : List (Int × Ex)} (h : QRows n w rows l) : ∀ u ∈ rows.flatten, u.oneCell' = true := by
  intro u hu
  obtain ⟨r, hr, hur⟩ := List.mem_flatten.1 hu
  obtain ⟨k, hk, rfl⟩ := List.getElem_of_mem hr
  obtain ⟨cs, e, he⟩ := h.2 k (rows[k]) (l[k]'(by have := h.1; omega)) (List.getElem?_eq_getElem hk) (List.getElem?_eq_getElem _)
  rw [e] at hur
  rcases List.mem_cons.1 hur with rfl | hu
  · rfl
  · exact he.oneCells u hu
theorem IsQs.rows {n : Nat} {w : World} {v : Value} {l : List (Int × Ex)} (h : IsQs n w v l) (hn : NilOk v) : ∃ rows, QRows n w rows l ∧ Src w v 10 l.length rows.flatten := by
  obtain ⟨p, cap, rfl, _, _, _⟩ := h.open
  obtain ⟨rows, h1, h2, h3⟩ := h
  have hq : QRows n w rows l := ⟨h2, h3⟩
  refine ⟨rows, hq, ?_⟩
  rw [← h2] at h1 ⊢
  exact Src.of_arr h1 hq.len (by decide) (fun e => by subst e; exact hn _ _ rfl)
/-- The list as a slice that is read. -/
theorem QRows.qs {n base m : Nat} {w : World} {v : Value} {l : List (Int × Ex)} {rows : List (List Value)} (h : QRows n w rows l) (h1 : w.ownsRow base 28 10 v l.length rows.flatten) (hm : w.heap.size ≤ m) (hn : n ≤ m) : IsQs m w v l := by
  refine ⟨rows, ?_, h.1, (h.mono (Below.refl _ _) hn).2⟩
  have h2 := h.1
  rcases h1.2 with ⟨rfl, hl⟩ | ⟨g, cap, cur, rfl, hg, hh, hc1, hc2, hc3, hc4⟩
  · have : rows = [] := List.eq_nil_of_length_eq_zero (by omega)
    subst this
    exact Arr.nil _ _ _
  · refine ⟨_, cap, by rw [h2], by omega, hc2, fun _ => ⟨g, 0, rfl, ?_, fun k r hr j x hx => ?_⟩⟩
    · have := (Array.getElem?_eq_some_iff.1 hh).1; omega
    · have hcell := h1.cells (g := g) rfl (k * 10 + j) x (flatten_at h.len hr hx)
      have e0 : (⟨g, 0, none⟩ : Addr).add (k * 10 + j) = ⟨g, 0 + k * 10 + j, none⟩ := by
        unfold Addr.add
        split <;> simp <;> omega
      rw [e0] at hcell
      exact hcell

theorem max_case (mark : Int) : (0 < mark ∧ max 0 mark = mark) ∨ (mark ≤ 0 ∧ max 0 mark = 0) := by omega

theorem wpList_clone {P : Program} {ops : Array Oper} {rest : List Oper} {o : Oper} {a : Act} {Q : Exit → Act → World → Prop} (W : World) (hgd : o.guard = none) (s x : Operand) (t : TypeId)
    (ho : o.op = .call { callee := .builtin .append, args := #[s, x], argTypes := #[t, t] })
    (e : TypeId) (i : TypeInfo) (z : Value) (size bytes : Nat) (ht : P.underlying t = some (.slice e)) (hi : P.info? e = some i) (hz : i.zero = some z)
    (hsize : i.size = size) (hby : i.bytes = bytes) (hzs : z.cells.size = size) (hsz : 0 < size)
    (hs : a.eval s = .slice (some ⟨W.heap.size, 0, none⟩) 0 0) (src : Value) (m : Nat) (news : List Value) (hx : a.eval x = src) (hsrc : Src W src size m news) (h1 : ∀ u ∈ news, u.oneCell' = true)
    (h63 : m ≤ maxLen) (hbytes : m * bytes ≤ 140737488355328)
    (h : ∀ v' w', w'.ownsRow W.heap.size e size v' m news → Below W.heap.size W w' → wpList P ops Q rest (a.put o.dst v') w') :
    wpList P ops Q (o :: rest) a (W.alloc (.cells #[] e)) := by
  refine wpList_append_src _ hgd s x t ho W.heap.size e i z size bytes ht hi hz hsize hby hzs hsz _ 0 [] hs (own_noneI W e size) src m news hx (hsrc.alloc _) h1 (by rw [Nat.zero_add]; exact h63) (by rw [Nat.zero_add]; exact hbytes) (by simp) ?_
  intro v' w' hown hgr _
  rw [Nat.zero_add, List.nil_append] at hown
  exact h v' w' hown (below_app ((Below.refl _ _).alloc (Nat.le_refl _) _) (own_noneI W e size) hgr (Nat.le_refl _) (by simp))

theorem wp_clone {P : Program} {o : Oper} {a : Act} {K : Act → World → Prop} {Q : Exit → Act → World → Prop} (W : World) (s x : Operand) (t : TypeId)
    (ho : o.op = .call { callee := .builtin .append, args := #[s, x], argTypes := #[t, t] })
    (e : TypeId) (i : TypeInfo) (z : Value) (size bytes : Nat) (ht : P.underlying t = some (.slice e)) (hi : P.info? e = some i) (hz : i.zero = some z)
    (hsize : i.size = size) (hby : i.bytes = bytes) (hzs : z.cells.size = size) (hsz : 0 < size)
    (hs : a.eval s = .slice (some ⟨W.heap.size, 0, none⟩) 0 0) (src : Value) (m : Nat) (news : List Value) (hx : a.eval x = src) (hsrc : Src W src size m news) (h1 : ∀ u ∈ news, u.oneCell' = true)
    (h63 : m ≤ maxLen) (hbytes : m * bytes ≤ 140737488355328)
    (h : ∀ v' w', w'.ownsRow W.heap.size e size v' m news → Below W.heap.size W w' → K (a.put o.dst v') w') : o.wp P a (W.alloc (.cells #[] e)) K Q := by
  refine wp_append_src _ s x t ho W.heap.size e i z size bytes ht hi hz hsize hby hzs hsz _ 0 [] hs (own_noneI W e size) src m news hx (hsrc.alloc _) h1 (by rw [Nat.zero_add]; exact h63) (by rw [Nat.zero_add]; exact hbytes) (by simp) ?_
  intro v' w' hown hgr _
  rw [Nat.zero_add, List.nil_append] at hown
  exact h v' w' hown (below_app ((Below.refl _ _).alloc (Nat.le_refl _) _) (own_noneI W e size) hgr (Nat.le_refl _) (by simp))
theorem Blk.ten {w : World} {g t : Nat} {x0 x1 x2 x3 x4 x5 x6 x7 x8 x9 : Value} (h : Blk w g t [x0, x1, x2, x3, x4, x5, x6, x7, x8, x9]) :
    w.cell? ⟨g, 0, none⟩ = some x0 ∧ w.cell? ⟨g, 1, none⟩ = some x1 ∧ w.cell? ⟨g, 2, none⟩ = some x2 ∧ w.cell? ⟨g, 3, none⟩ = some x3 ∧ w.cell? ⟨g, 4, none⟩ = some x4 ∧ w.cell? ⟨g, 5, none⟩ = some x5 ∧ w.cell? ⟨g, 6, none⟩ = some x6 ∧ w.cell? ⟨g, 7, none⟩ = some x7 ∧ w.cell? ⟨g, 8, none⟩ = some x8 ∧ w.cell? ⟨g, 9, none⟩ = some x9 :=
  ⟨h.cell 0 _ rfl, h.cell 1 _ rfl, h.cell 2 _ rfl, h.cell 3 _ rfl, h.cell 4 _ rfl, h.cell 5 _ rfl, h.cell 6 _ rfl, h.cell 7 _ rfl, h.cell 8 _ rfl, h.cell 9 _ rfl⟩

theorem timesYes2 (l : List Int) (va vb : Value) (n : Nat) (w : World) (hn : n ≤ w.heap.size) (ha : IsInts n w va l) (hb : IsInts n w vb l) :
    Calls Try.prog 18 #[va, vb] w fun e w' => e = .returned (.bool true) ∧ Below w.heap.size w w' := by
  have := kTimes l l va vb n w hn ha hb
  rwa [decide_eq_true rfl] at this

/-- What the law says. -/
def LawTrue (w : World) (e : Ending) (w' : World) : Prop := e = .returned (.bool true) ∧ Below w.heap.size w w'

set_option maxRecDepth 100000 in
set_option maxHeartbeats 8000000 in
theorem wCalls (ev mark til time span : Int) (e : Ex) (cs : List Value) (l : List (Int × Ex)) (vl : Value) (ts : List Int) (vt : Value) (late : Int) (n : Nat) (w : World) (hn : n ≤ w.heap.size) (he : IsEx n w e cs)
    (hm : i64 mark) (hti : i64 time) (hsp : i64 span) (hla : i64 late) (hl : IsQs n w vl l) (hln : NilOk vl) (ht : IsInts n w vt ts) (htn : NilOk vt) :
    Calls Try.prog 5 #[.agg (.int .i64 ev :: cs).toArray, .int .i64 mark, .int .i64 til, .int .i64 time, .int .i64 span, vl, vt, .int .i64 late] w (LawTrue w) := by
  have He := Lib.hid he
  have Hqc := Lib.hid he.qc
  obtain ⟨pm, cm, pn, cn, pk, ck, rfl, -⟩ := he.cellsE
  clear he
  have hlo := hl.open
  have hto := ht.open
  obtain ⟨pl, cl, rfl, _, _, hll⟩ := hlo
  obtain ⟨pt, ct, rfl, _, _, htl⟩ := hto
  have HLl := Lib.hid hl; clear hl
  have HTt := Lib.hid ht; clear ht
  have HLn := Lib.hid hln; clear hln
  have HTn := Lib.hid htn; clear htn
  have HM := Lib.hid hm; clear hm
  have HTI := Lib.hid hti; clear hti
  have HSP := Lib.hid hsp; clear hsp
  have HLA := Lib.hid hla; clear hla
  unfold maxLen at hll htl
  obtain ⟨i0, hi, hz0, hz1, hz2⟩ := info_parts infoL
  obtain ⟨i1, gi, gz0, gz1, gz2⟩ := info_parts infoQ
  have HL := Lib.hid (fun wx => lLives wx)
  go_enter Try.func5, Try.ntmps5; (try simp only [List.append_eq, List.cons_append, List.nil_append])
  go_upto_region 0 with fail
  go_cut [8, 16] (fun s8 s16 wx => s8 = .pointer (some ⟨w.heap.size, 0, none⟩) ∧ s16 = .bool false ∧ Below w.heap.size w wx ∧ Blk wx w.heap.size 28 [.int .i64 ev, .int .i64 e.kind, .int .i64 e.fn, .int .i64 e.op, .int .i64 e.num, .string e.metric, .slice pm e.mats.length cm, .int .i64 e.span, .slice pn e.names.length cn, .slice pk e.kids.length ck])
  case first =>
    go_wp2
    go_meet
    exact ⟨rfl, rfl, (Below.refl _ _).alloc (Nat.le_refl _) _, Blk.new _ _ _⟩
  case rest =>
    obtain ⟨rfl, rfl, hw0, hq⟩ := hcut
    obtain ⟨W, rfl⟩ : ∃ W : World, W = wc := ⟨_, rfl⟩
    have HW0 := Lib.hid hw0; clear hw0
    have d0 := hq.cell 0 _ rfl; have d1 := hq.cell 1 _ rfl; have d2 := hq.cell 2 _ rfl; have d3 := hq.cell 3 _ rfl; have d4 := hq.cell 4 _ rfl; have d5 := hq.cell 5 _ rfl; have d6 := hq.cell 6 _ rfl; have d7 := hq.cell 7 _ rfl; have d8 := hq.cell 8 _ rfl; have d9 := hq.cell 9 _ rfl
    have hlq := hq.lt
    have HQ := Lib.hid hq; clear hq
    have HB := Lib.hid (Below.refl W.heap.size W)
    have hnW : n ≤ W.heap.size := by omega
    cases hlt : light e 100 with
    | false =>
      go_wp2_with (first
        | (go_at_call 7; refine (HL.out _).mono ?_; rintro e' w1 ⟨rfl, hb⟩; have HB := Lib.hid (HB.out.trans (hb.mono HB.out.size)); clear hb; have hs1 := HB.out.size; clear d0 d1 d2 d3 d4 d5 d6 d7 d8 d9; have hq1 := HQ.out.mono HB.out HQ.out.lt; have d0 := hq1.cell 0 _ rfl; have d1 := hq1.cell 1 _ rfl; have d2 := hq1.cell 2 _ rfl; have d3 := hq1.cell 3 _ rfl; have d4 := hq1.cell 4 _ rfl; have d5 := hq1.cell 5 _ rfl; have d6 := hq1.cell 6 _ rfl; have d7 := hq1.cell 7 _ rfl; have d8 := hq1.cell 8 _ rfl; have d9 := hq1.cell 9 _ rfl; clear hq1)
        | (go_at_call 8; refine (kLight e _ 100 n _ (by omega) (by decide) (by decide) (He.out.mono ((HW0.out.trans (HB.out.mono HW0.out.size)).mono hn) (Nat.le_refl _))).mono ?_; rintro e' w2 ⟨rfl, hb⟩; rw [hlt]; have HB := Lib.hid (HB.out.trans (hb.mono HB.out.size)); clear hb; have hs2 := HB.out.size; clear d0 d1 d2 d3 d4 d5 d6 d7 d8 d9; have hq1 := HQ.out.mono HB.out HQ.out.lt; have d0 := hq1.cell 0 _ rfl; have d1 := hq1.cell 1 _ rfl; have d2 := hq1.cell 2 _ rfl; have d3 := hq1.cell 3 _ rfl; have d4 := hq1.cell 4 _ rfl; have d5 := hq1.cell 5 _ rfl; have d6 := hq1.cell 6 _ rfl; have d7 := hq1.cell 7 _ rfl; have d8 := hq1.cell 8 _ rfl; have d9 := hq1.cell 9 _ rfl; clear hq1))
      all_goals go_ret
      all_goals exact ⟨rfl, HW0.out.trans (HB.out.mono HW0.out.size)⟩
    | true =>
      have hsz := light_size hlt (by decide)
      by_cases h20 : l.length ≤ 20
      · by_cases h100 : ts.length ≤ 100
        · have g1 : ¬ (20 : Int) < (l.length : Int) := by omega
          have g2 : ¬ (100 : Int) < (ts.length : Int) := by omega
          go_upto_region 6 with (first
            | (go_at_call 7; refine (HL.out _).mono ?_; rintro e' w1 ⟨rfl, hb⟩; have HB := Lib.hid (HB.out.trans (hb.mono HB.out.size)); clear hb; have hs1 := HB.out.size; clear d0 d1 d2 d3 d4 d5 d6 d7 d8 d9; have hq1 := HQ.out.mono HB.out HQ.out.lt; have d0 := hq1.cell 0 _ rfl; have d1 := hq1.cell 1 _ rfl; have d2 := hq1.cell 2 _ rfl; have d3 := hq1.cell 3 _ rfl; have d4 := hq1.cell 4 _ rfl; have d5 := hq1.cell 5 _ rfl; have d6 := hq1.cell 6 _ rfl; have d7 := hq1.cell 7 _ rfl; have d8 := hq1.cell 8 _ rfl; have d9 := hq1.cell 9 _ rfl; clear hq1)
            | (go_at_call 8; refine (kLight e _ 100 n _ (by omega) (by decide) (by decide) (He.out.mono ((HW0.out.trans (HB.out.mono HW0.out.size)).mono hn) (Nat.le_refl _))).mono ?_; rintro e' w2 ⟨rfl, hb⟩; rw [hlt]; have HB := Lib.hid (HB.out.trans (hb.mono HB.out.size)); clear hb; have hs2 := HB.out.size; clear d0 d1 d2 d3 d4 d5 d6 d7 d8 d9; have hq1 := HQ.out.mono HB.out HQ.out.lt; have d0 := hq1.cell 0 _ rfl; have d1 := hq1.cell 1 _ rfl; have d2 := hq1.cell 2 _ rfl; have d3 := hq1.cell 3 _ rfl; have d4 := hq1.cell 4 _ rfl; have d5 := hq1.cell 5 _ rfl; have d6 := hq1.cell 6 _ rfl; have d7 := hq1.cell 7 _ rfl; have d8 := hq1.cell 8 _ rfl; have d9 := hq1.cell 9 _ rfl; clear hq1))
          have HB0 := HB
          go_loopw [17] (fun i wr => ∃ k : Nat, k ≤ l.length ∧ i = .int .i64 k ∧ (∀ q ∈ l.take k, light q.2 100 = true) ∧ Below W.heap.size W wr) (fun i _ => l.length - (intOf i).toNat)
          case atStart => exact ⟨0, Nat.zero_le _, rfl, by simp, HB0.out⟩
          case round =>
            obtain ⟨k, hk, rfl, hr, hb⟩ := hrel
            have Hr := Lib.hid hr; clear hr
            have HB := Lib.hid hb; clear hb
            have hsr := HB.out.size
            have hbn := (HW0.out.trans (HB.out.mono HW0.out.size))
            have HBN := Lib.hid hbn; clear hbn
            by_cases hlk : k < l.length
            · have HG := Lib.hid ((HLl.out.mono (HBN.out.mono hn) (Nat.le_refl _)).get hlk)
              obtain ⟨b, off, pm', cm', pn', cn', pk', ck', rfl, hbn, hei, e0, e1, e2, e3, e4, e5, e6, e7, e8, e9⟩ := HG.out
              have Hei := Lib.hid hei; clear hei HG
              have Hsn : Hid (light l[k].2 100 = true → ∀ q ∈ l.take (k + 1), light q.2 100 = true) := fun h q hq => by
                rw [List.take_succ_eq_append_getElem hlk] at hq
                rcases List.mem_append.1 hq with h' | h'
                · exact Hr.out q h'
                · simp at h'; subst h'; exact h
              clear d0 d1 d2 d3 d4 d5 d6 d7 d8 d9 e0
              cases hlx : light l[k].2 100
              all_goals
                rw [hlx] at Hsn
                go_wp2_with (go_at_call 8; refine (kLight l[k].2 _ 100 n _ (by omega) (by decide) (by decide) Hei.out).mono ?_; rintro e' w3 ⟨rfl, hb⟩; rw [hlx]; have HB3 := Lib.hid (HB.out.trans (hb.mono hsr)); clear hb)
              · go_ret
                exact ⟨rfl, HW0.out.trans (HB3.out.mono HW0.out.size)⟩
              · exact ⟨⟨k + 1, by omega, by go_num, Hsn.out (by first | rfl | trivial), HB3.out⟩, by simp [intOf]; omega⟩
            · have hk' : k = l.length := by omega
              subst hk'
              rw [List.take_length] at Hr
              have HQs : Hid (∀ q ∈ l, q.2.size ≤ 1000000) := fun q hq => by have := light_size (Hr.out q hq) (by decide); omega
              clear d0 d1 d2 d3 d4 d5 d6 d7 d8 d9; have hq1 := HQ.out.mono HB.out HQ.out.lt; have d0 := hq1.cell 0 _ rfl; have d1 := hq1.cell 1 _ rfl; have d2 := hq1.cell 2 _ rfl; have d3 := hq1.cell 3 _ rfl; have d4 := hq1.cell 4 _ rfl; have d5 := hq1.cell 5 _ rfl; have d6 := hq1.cell 6 _ rfl; have d7 := hq1.cell 7 _ rfl; have d8 := hq1.cell 8 _ rfl; have d9 := hq1.cell 9 _ rfl; clear hq1
              have HN1 := Lib.hid (fun wx => by have := gNext ev mark e _ wx Hqc.out HM.out; rw [nextV_eq] at this; exact this)
              have HN2 := Lib.hid (fun wx => by have := rNext ev mark e _ wx Hqc.out HM.out; rw [nextV_eq] at this; exact this)
              go_upto_region 14 with (first
                | (go_at_call 15; refine (HN1.out _).mono ?_; rintro e' w4 ⟨rfl, hb⟩; have HB := Lib.hid (HB.out.trans (hb.mono HB.out.size)); clear hb; have hs4 := HB.out.size; clear d0 d1 d2 d3 d4 d5 d6 d7 d8 d9; have hq1 := HQ.out.mono HB.out HQ.out.lt; have d0 := hq1.cell 0 _ rfl; have d1 := hq1.cell 1 _ rfl; have d2 := hq1.cell 2 _ rfl; have d3 := hq1.cell 3 _ rfl; have d4 := hq1.cell 4 _ rfl; have d5 := hq1.cell 5 _ rfl; have d6 := hq1.cell 6 _ rfl; have d7 := hq1.cell 7 _ rfl; have d8 := hq1.cell 8 _ rfl; have d9 := hq1.cell 9 _ rfl; clear hq1)
                | (go_at_call 21; refine (HN2.out _).mono ?_; rintro e' w4 ⟨rfl, hb⟩; have HB := Lib.hid (HB.out.trans (hb.mono HB.out.size)); clear hb; have hs4 := HB.out.size; clear d0 d1 d2 d3 d4 d5 d6 d7 d8 d9; have hq1 := HQ.out.mono HB.out HQ.out.lt; have d0 := hq1.cell 0 _ rfl; have d1 := hq1.cell 1 _ rfl; have d2 := hq1.cell 2 _ rfl; have d3 := hq1.cell 3 _ rfl; have d4 := hq1.cell 4 _ rfl; have d5 := hq1.cell 5 _ rfl; have d6 := hq1.cell 6 _ rfl; have d7 := hq1.cell 7 _ rfl; have d8 := hq1.cell 8 _ rfl; have d9 := hq1.cell 9 _ rfl; clear hq1)
                | (at_builtin; refine wpList_clone _ rfl _ _ _ rfl 2 i0 _ 1 8 Try.underlying46 hi hz0 hz1 hz2 rfl (by decide) rfl (.slice pt ts.length ct) ts.length (ts.map fun i => .int .i64 i) rfl ((HTt.out.mono ((HW0.out.trans (HB.out.mono HW0.out.size)).mono hn) (Nat.le_refl _)).srcP HTn.out) (ints_one _) (by unfold maxLen; omega) (by omega) ?_; intro v5 w5 hown5 hb; have HO5 := Lib.hid hown5; clear hown5; have HB := Lib.hid (HB.out.trans (hb.mono HB.out.size)); clear hb; have hs5 := HB.out.size; clear d0 d1 d2 d3 d4 d5 d6 d7 d8 d9; have hq1 := HQ.out.mono HB.out HQ.out.lt; have d0 := hq1.cell 0 _ rfl; have d1 := hq1.cell 1 _ rfl; have d2 := hq1.cell 2 _ rfl; have d3 := hq1.cell 3 _ rfl; have d4 := hq1.cell 4 _ rfl; have d5 := hq1.cell 5 _ rfl; have d6 := hq1.cell 6 _ rfl; have d7 := hq1.cell 7 _ rfl; have d8 := hq1.cell 8 _ rfl; have d9 := hq1.cell 9 _ rfl; clear hq1)
                | (go_at_call 17; refine (gMark late ts _ _ _ HLA.out (OwnI.ints (t := 2) HO5.out (Nat.le_refl _))).mono ?_; rintro e' w' ⟨rfl, rfl⟩)
                | (go_at_call 22; refine (rMark late ts _ n _ HLA.out (HTt.out.mono ((HW0.out.trans (HB.out.mono HW0.out.size)).mono hn) (Nat.le_refl _))).mono ?_; rintro e' w' ⟨rfl, rfl⟩))
              have hX := HB.out
              have HE := Lib.hid (fun X (h : Below W.heap.size W X) => He.out.mono ((HW0.out.trans (h.mono HW0.out.size)).mono hn) (Nat.le_refl n))
              have HLX := Lib.hid (fun X (h : Below W.heap.size W X) => HLl.out.mono ((HW0.out.trans (h.mono HW0.out.size)).mono hn) (Nat.le_refl n))
              have HLS := Lib.hid (fun X (h : Below W.heap.size W X) => (HLX.out X h).rows HLn.out)
              have C1 := Lib.hid (fun X (h : Below W.heap.size W X) => show Calls Try.prog _ _ X (fun e' w' => e' = .returned (.int .i64 (lastT ev mark)) ∧ Below W.heap.size W w') from (gLast ev mark e _ X Hqc.out HM.out).mono (fun e' w' ⟨h1, h2⟩ => ⟨h1, h.trans (h2.mono h.size)⟩))
              have C2 := Lib.hid (fun X (h : Below W.heap.size W X) => show Calls Try.prog _ _ X (fun e' w' => e' = .returned (.int .i64 (lastT ev mark)) ∧ Below W.heap.size W w') from (rLast ev mark e _ X Hqc.out HM.out).mono (fun e' w' ⟨h1, h2⟩ => ⟨h1, h.trans (h2.mono h.size)⟩))
              have C3 := Lib.hid (fun X (h : Below W.heap.size W X) => show Calls Try.prog _ _ X (fun e' w' => ∃ v, e' = .returned v ∧ IsInts w'.heap.size w' v (betL ev mark til) ∧ Below W.heap.size W w') from (gBetween ev mark til e _ X Hqc.out HM.out).mono (fun e' w' ⟨v, h1, h2, h3⟩ => ⟨v, h1, h2.ints (Nat.le_refl _), h.trans (h3.mono h.size)⟩))
              have C4 := Lib.hid (fun X (h : Below W.heap.size W X) => show Calls Try.prog _ _ X (fun e' w' => ∃ v, e' = .returned v ∧ IsInts w'.heap.size w' v (betL ev mark til) ∧ Below W.heap.size W w' ∧ Below X.heap.size X w') from (rBetw ev mark til e _ X Hqc.out HM.out).mono (fun e' w' ⟨v, h1, h2, h3⟩ => ⟨v, h1, h2.ints (Nat.le_refl _), h.trans (h3.mono h.size), h3⟩))
              have C5 := Lib.hid (fun X (h : Below W.heap.size W X) => show Calls Try.prog _ _ X (fun e' w' => e' = .returned (.int .i64 (firstT ev mark)) ∧ Below W.heap.size W w') from (gFirst ev mark e _ X Hqc.out HM.out).mono (fun e' w' ⟨h1, h2⟩ => ⟨h1, h.trans (h2.mono h.size)⟩))
              have C6 := Lib.hid (fun X (h : Below W.heap.size W X) => show Calls Try.prog _ _ X (fun e' w' => e' = .returned (.int .i64 (firstT ev mark)) ∧ Below W.heap.size W w') from (rFirst ev mark e _ X Hqc.out HM.out).mono (fun e' w' ⟨h1, h2⟩ => ⟨h1, h.trans (h2.mono h.size)⟩))
              have C7 := Lib.hid (fun X (h : Below W.heap.size W X) => show Calls Try.prog _ _ X (fun e' w' => e' = .returned (.bool (neededT ev e mark time)) ∧ Below W.heap.size W w') from (gNeeded ev mark time e _ n X (by have := h.size; omega) (HE.out X h) (by omega) HM.out HTI.out).mono (fun e' w' ⟨h1, h2⟩ => ⟨h1, h.trans (h2.mono h.size)⟩))
              have C8 := Lib.hid (fun X (h : Below W.heap.size W X) => show Calls Try.prog _ _ X (fun e' w' => e' = .returned (.bool (neededT ev e mark time)) ∧ Below W.heap.size W w') from (rNeeded ev mark time e _ n X (by have := h.size; omega) (HE.out X h) (by omega) HM.out HTI.out).mono (fun e' w' ⟨h1, h2⟩ => ⟨h1, h.trans (h2.mono h.size)⟩))
              have C9 := Lib.hid (fun X (h : Below W.heap.size W X) => show Calls Try.prog _ _ X (fun e' w' => e' = .returned (.int .i64 (keepTo (max 0 mark) l)) ∧ Below W.heap.size W w') from (rKeepM l mark (max 0 mark) _ n X (by have := h.size; omega) (HLX.out X h) HQs.out (by omega) HM.out (max_case mark)).mono (fun e' w' ⟨h1, h2⟩ => ⟨h1, h.trans (h2.mono h.size)⟩))
              have C10 := Lib.hid (fun w' => gIn span mark time w' HSP.out HM.out HTI.out)
              have C11 := Lib.hid (fun w' => rIn span mark time w' HSP.out HM.out HTI.out)
              clear d0 d1 d2 d3 d4 d5 d6 d7 d8 d9
              go_region_held3 (fun w' => w'.cell? ⟨w.heap.size, 0, none⟩ = some (.int .i64 ev) ∧ w'.cell? ⟨w.heap.size, 1, none⟩ = some (.int .i64 e.kind) ∧ w'.cell? ⟨w.heap.size, 2, none⟩ = some (.int .i64 e.fn) ∧ w'.cell? ⟨w.heap.size, 3, none⟩ = some (.int .i64 e.op) ∧ w'.cell? ⟨w.heap.size, 4, none⟩ = some (.int .i64 e.num) ∧ w'.cell? ⟨w.heap.size, 5, none⟩ = some (.string e.metric) ∧ w'.cell? ⟨w.heap.size, 6, none⟩ = some (.slice pm e.mats.length cm) ∧ w'.cell? ⟨w.heap.size, 7, none⟩ = some (.int .i64 e.span) ∧ w'.cell? ⟨w.heap.size, 8, none⟩ = some (.slice pn e.names.length cn) ∧ w'.cell? ⟨w.heap.size, 9, none⟩ = some (.slice pk e.kids.length ck)) ((first | exact (HQ.out.mono (by assumption) HQ.out.lt).ten | exact (HQ.out.mono (Below.drew (by assumption)) HQ.out.lt).ten | exact (HQ.out.mono (Below.alloc (by assumption) (by have := hA8.size; omega) _) HQ.out.lt).ten))
               ((first
                | (go_at_call 23; refine (C1.out _ (by first | assumption | exact Below.drew (by assumption))).mono ?_; rintro e' _ ⟨rfl, hA1⟩)
                | (go_at_call 24; refine (C2.out _ (by first | assumption | exact Below.drew (by assumption))).mono ?_; rintro e' _ ⟨rfl, hA2⟩)
                | (go_at_call 19; refine (C3.out _ (by first | assumption | exact Below.drew (by assumption))).mono ?_; rintro e' _ ⟨v6, rfl, ho6, hA3⟩)
                | (go_at_call 25; refine (C4.out _ (by first | assumption | exact Below.drew (by assumption))).mono ?_; rintro e' _ ⟨v7, rfl, ho7, hA4, hb⟩; have ho66 := ho6.mono hb hb.size; clear hb)
                | (go_at_call 18; refine (timesYes2 _ _ _ _ _ (Nat.le_refl _) ho66 ho7).mono ?_; rintro e' _ ⟨rfl, hb⟩; have hA5 := hA4.trans (hb.mono hA4.size); clear hb)
                | (go_at_call 20; refine (C5.out _ (by first | assumption | exact Below.drew (by assumption))).mono ?_; rintro e' _ ⟨rfl, hA6⟩)
                | (go_at_call 26; refine (C6.out _ (by first | assumption | exact Below.drew (by assumption))).mono ?_; rintro e' _ ⟨rfl, hA7⟩)
                | (go_at_call 12; refine (C10.out _).mono ?_; rintro e' w' ⟨rfl, rfl⟩)
                | (go_at_call 27; refine (C11.out _).mono ?_; rintro e' w' ⟨rfl, rfl⟩)
                | (go_at_call 13; refine (C7.out _ (by first | assumption | exact Below.drew (by assumption))).mono ?_; rintro e' _ ⟨rfl, hA9⟩)
                | (go_at_call 28; refine (C8.out _ (by first | assumption | exact Below.drew (by assumption))).mono ?_; rintro e' _ ⟨rfl, hA8⟩)
                | (rw [if_pos (by rfl)]; obtain ⟨rows, hrw, hsrc⟩ := HLS.out _ hA8; refine wp_clone _ _ _ _ rfl 28 i1 _ 10 136 Try.underlying29 gi gz0 gz1 gz2 rfl (by decide) rfl (.slice pl l.length cl) l.length rows.flatten rfl hsrc hrw.one (by unfold maxLen; omega) (by omega) ?_; clear hsrc; intro v8 w8 hown8 hb; have hQ8 := (hrw.mono (hb.mono (by have := hA8.size; omega)) (Nat.le_refl _)).qs hown8 (Nat.le_refl _) (by have := hb.size; have := hA8.size; omega); clear hown8; have hA10 := hA8.trans (hb.mono hA8.size); clear hb hrw)
                | (go_at_call 14; refine (gKeepM l mark (max 0 mark) _ _ _ (Nat.le_refl _) hQ8 HQs.out (by omega) HM.out (max_case mark)).mono ?_; rintro e' _ ⟨rfl, hb⟩; have hA11 := hA10.trans (hb.mono hA10.size); clear hb)
                | (go_at_call 29; refine (C9.out _ (by first | assumption | exact Below.drew (by assumption))).mono ?_; rintro e' _ ⟨rfl, hA12⟩)))
              all_goals go_wp2
              all_goals go_ret
              all_goals exact ⟨rfl, HW0.out.trans (hA12.mono HW0.out.size)⟩
        · have g1 : ¬ (20 : Int) < (l.length : Int) := by omega
          have g2 : (100 : Int) < (ts.length : Int) := by omega
          go_wp2_with (first
            | (go_at_call 7; refine (HL.out _).mono ?_; rintro e' w1 ⟨rfl, hb⟩; have HB := Lib.hid (HB.out.trans (hb.mono HB.out.size)); clear hb; have hs1 := HB.out.size; clear d0 d1 d2 d3 d4 d5 d6 d7 d8 d9; have hq1 := HQ.out.mono HB.out HQ.out.lt; have d0 := hq1.cell 0 _ rfl; have d1 := hq1.cell 1 _ rfl; have d2 := hq1.cell 2 _ rfl; have d3 := hq1.cell 3 _ rfl; have d4 := hq1.cell 4 _ rfl; have d5 := hq1.cell 5 _ rfl; have d6 := hq1.cell 6 _ rfl; have d7 := hq1.cell 7 _ rfl; have d8 := hq1.cell 8 _ rfl; have d9 := hq1.cell 9 _ rfl; clear hq1)
            | (go_at_call 8; refine (kLight e _ 100 n _ (by omega) (by decide) (by decide) (He.out.mono ((HW0.out.trans (HB.out.mono HW0.out.size)).mono hn) (Nat.le_refl _))).mono ?_; rintro e' w2 ⟨rfl, hb⟩; rw [hlt]; have HB := Lib.hid (HB.out.trans (hb.mono HB.out.size)); clear hb; have hs2 := HB.out.size; clear d0 d1 d2 d3 d4 d5 d6 d7 d8 d9; have hq1 := HQ.out.mono HB.out HQ.out.lt; have d0 := hq1.cell 0 _ rfl; have d1 := hq1.cell 1 _ rfl; have d2 := hq1.cell 2 _ rfl; have d3 := hq1.cell 3 _ rfl; have d4 := hq1.cell 4 _ rfl; have d5 := hq1.cell 5 _ rfl; have d6 := hq1.cell 6 _ rfl; have d7 := hq1.cell 7 _ rfl; have d8 := hq1.cell 8 _ rfl; have d9 := hq1.cell 9 _ rfl; clear hq1))
          all_goals go_ret
          all_goals exact ⟨rfl, HW0.out.trans (HB.out.mono HW0.out.size)⟩
      · have g1 : (20 : Int) < (l.length : Int) := by omega
        go_wp2_with (first
          | (go_at_call 7; refine (HL.out _).mono ?_; rintro e' w1 ⟨rfl, hb⟩; have HB := Lib.hid (HB.out.trans (hb.mono HB.out.size)); clear hb; have hs1 := HB.out.size; clear d0 d1 d2 d3 d4 d5 d6 d7 d8 d9; have hq1 := HQ.out.mono HB.out HQ.out.lt; have d0 := hq1.cell 0 _ rfl; have d1 := hq1.cell 1 _ rfl; have d2 := hq1.cell 2 _ rfl; have d3 := hq1.cell 3 _ rfl; have d4 := hq1.cell 4 _ rfl; have d5 := hq1.cell 5 _ rfl; have d6 := hq1.cell 6 _ rfl; have d7 := hq1.cell 7 _ rfl; have d8 := hq1.cell 8 _ rfl; have d9 := hq1.cell 9 _ rfl; clear hq1)
          | (go_at_call 8; refine (kLight e _ 100 n _ (by omega) (by decide) (by decide) (He.out.mono ((HW0.out.trans (HB.out.mono HW0.out.size)).mono hn) (Nat.le_refl _))).mono ?_; rintro e' w2 ⟨rfl, hb⟩; rw [hlt]; have HB := Lib.hid (HB.out.trans (hb.mono HB.out.size)); clear hb; have hs2 := HB.out.size; clear d0 d1 d2 d3 d4 d5 d6 d7 d8 d9; have hq1 := HQ.out.mono HB.out HQ.out.lt; have d0 := hq1.cell 0 _ rfl; have d1 := hq1.cell 1 _ rfl; have d2 := hq1.cell 2 _ rfl; have d3 := hq1.cell 3 _ rfl; have d4 := hq1.cell 4 _ rfl; have d5 := hq1.cell 5 _ rfl; have d6 := hq1.cell 6 _ rfl; have d7 := hq1.cell 7 _ rfl; have d8 := hq1.cell 8 _ rfl; have d9 := hq1.cell 9 _ rfl; clear hq1))
        all_goals go_ret
        all_goals exact ⟨rfl, HW0.out.trans (HB.out.mono HW0.out.size)⟩

end Go.Proofs.Ytdmojmadklckbaa
