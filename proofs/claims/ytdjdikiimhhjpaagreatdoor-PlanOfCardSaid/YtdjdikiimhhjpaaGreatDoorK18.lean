/- What plan.expr builds, in memory. -/
import Derived.Test.YtdjdikiimhhjpaaGreatDoorK16
import Derived.Test.YtdjdikiimhhjpaaGreatDoorK17
import Derived.Test.YtdjdikiimhhjpaaGreatDoorK1
import Derived.Test.YtdjdikiimhhjpaaGreatDoorK11
import Derived.Test.YtdjdikiimhhjpaaGreatDoorK12
import Derived.Test.YtdjdikiimhhjpaaGreatDoorK14
import Derived.Test.YtdjdikiimhhjpaaGreatDoorK9
import Derived.Test.YtdjdikiimhhjpaaGreatDoorK15
set_option maxRecDepth 100000
set_option maxHeartbeats 16000000
namespace Go.Proofs.YtdjdikiimhhjpaaGreatDoor
open Go.RowKit
set_option linter.unusedSimpArgs false
set_option linter.unusedVariables false
theorem Fresh.small {lo hi : Nat} {w : World} {e : Ex} {cs : List Value} (h : Fresh lo hi w e cs) : e.metric.size ≤ maxLen ∧ (∀ m ∈ e.mats, m.small) ∧ ∀ s ∈ e.names, s.size ≤ maxLen := by
  cases h with
  | mk hs hms hns h1 h2 h3 hl hr => exact ⟨hs, hms, hns⟩
theorem own_ne {lo lo' e e' sz sz' n n' : Nat} {w : World} {v v' : Value} {xs xs' : List Value} (h : w.ownsRow lo e sz v n xs) (h' : w.ownsRow lo' e' sz' v' n' xs') (hne : e ≠ e') {g : Nat} (hg : v.ownBlock = some g) : v'.ownBlock ≠ some g := by
  intro hg'
  rcases h.2 with ⟨rfl, _⟩ | ⟨g1, c1, u1, rfl, _, hh, _⟩
  · cases hg
  · rcases h'.2 with ⟨rfl, _⟩ | ⟨g2, c2, u2, rfl, _, hh', _⟩
    · cases hg'
    · simp [Value.ownBlock] at hg hg'
      subst hg hg'; rw [hh] at hh'
      simp at hh'
      exact hne hh'.2
structure XpW (a0 b0 R B5 : Nat) (e : Ex) (pm : Option Addr) (cm : Nat) (pn : Option Addr) (cn : Nat) (vs v : Value) (ks : List Ex) (rows : List (List Value)) (W : World) : Prop where
  mats : OwnIn a0 b0 W 77 3 (.slice pm e.mats.length cm) e.mats.length (e.mats.map Mat.cells).flatten
  names : OwnIn a0 b0 W 9 1 (.slice pn e.names.length cn) e.names.length (e.names.map fun s => [Value.string s]).flatten
  b5 : Blk W B5 37 [.int .i64 e.kind, .int .i64 e.fn, .int .i64 e.op, .int .i64 e.num, .string e.metric, .slice pm e.mats.length cm, .int .i64 e.span, .slice pn e.names.length cn, vs]
  br : Blk W R 37 [.int .i64 0, .int .i64 0, .int .i64 0, .int .i64 0, .string ⟨#[]⟩, .slice none 0 0, .int .i64 0, .slice none 0 0, .slice none 0 0]
  own : W.ownsRow a0 37 9 v ks.length rows.flatten
  len : rows.length = ks.length
  row : ∀ (k : Nat) (r : List Value) (x : Ex), rows[k]? = some r → ks[k]? = some x → ∃ a b, B5 < a ∧ b ≤ W.heap.size ∧ (∀ g, v.ownBlock = some g → ¬ (a ≤ g ∧ g < b)) ∧ Fresh a b W x r
  ne : ∀ g, v.ownBlock = some g → g ≠ B5
  ord : R < a0 ∧ a0 ≤ b0 ∧ b0 ≤ B5 ∧ B5 < W.heap.size
section
variable {a0 b0 R B5 : Nat} {e : Ex} {pm : Option Addr} {cm : Nat} {pn : Option Addr} {cn : Nat} {vs v : Value} {ks : List Ex} {rows : List (List Value)} {W W' : World}
theorem XpW.keep (h : XpW a0 b0 R B5 e pm cm pn cn vs v ks rows W) (hb : Below W.heap.size W W') : XpW a0 b0 R B5 e pm cm pn cn vs v ks rows W' := by
  obtain ⟨h1, h2, h3, h4⟩ := h.ord
  refine ⟨h.mats.keep (fun k _ hk => hb.block k (by omega)), h.names.keep (fun k _ hk => hb.block k (by omega)), h.b5.keep hb, h.br.keep hb, ownsRow_keep h.own hb, h.len, fun k r x hr hx => ?_, h.ne, ⟨h1, h2, h3, Nat.lt_of_lt_of_le h4 hb.size⟩⟩
  obtain ⟨a, b, k1, k2, k3, k4⟩ := h.row k r x hr hx
  exact ⟨a, b, k1, Nat.le_trans k2 hb.size, k3, k4.keep (fun k _ hk => hb.block k (by omega))⟩
theorem XpW.app (h : XpW a0 b0 R B5 e pm cm pn cn vs v ks rows W) {x : Ex} {cs : List Value} {a b : Nat} (hx : Fresh a b W x cs) (ha : B5 < a) (hb : b ≤ W.heap.size) (hv : ∀ g, v.ownBlock = some g → g < a) {v' : Value}
    (hown : W'.ownsRow a0 37 9 v' (ks.length + 1) (rows.flatten ++ cs)) (hg : W.grownBy W' v.ownBlock) (hat : v'.ownBlock = v.ownBlock ∨ v'.ownBlock = some W.heap.size) :
    XpW a0 b0 R B5 e pm cm pn cn vs v' (ks ++ [x]) (rows ++ [cs]) W' := by
  obtain ⟨h1, h2, h3, h4⟩ := h.ord
  have keepB : ∀ {k : Nat}, k < W.heap.size → v.ownBlock ≠ some k → W'.heap[k]? = W.heap[k]? := fun hk hne => hg.block _ hk (fun e => hne e.symm)
  have hm : OwnIn a0 b0 W' 77 3 (.slice pm e.mats.length cm) e.mats.length (e.mats.map Mat.cells).flatten := by
    refine ⟨ownsRow_offM h.mats.1 (OffM.grown hg) (fun g hgm hgr => ?_), h.mats.2⟩; exact own_ne h.own h.mats.1 (by decide) hgr hgm
  have hnm : OwnIn a0 b0 W' 9 1 (.slice pn e.names.length cn) e.names.length (e.names.map fun s => [Value.string s]).flatten := by
    refine ⟨ownsRow_offM h.names.1 (OffM.grown hg) (fun g hgm hgr => ?_), h.names.2⟩; exact own_ne h.own h.names.1 (by decide) hgr hgm
  have hnew : ∀ g, v'.ownBlock = some g → v.ownBlock = some g ∨ g = W.heap.size := fun g hg' => by
    rcases hat with e1 | e1
    · left; rw [← e1]; exact hg'
    · right; rw [e1] at hg'; exact (Option.some.inj hg').symm
  refine ⟨hm, hnm, (keepB h4 (fun e1 => h.ne _ e1 rfl)).trans h.b5, (keepB (by omega) (fun e1 => by have := (ownsRow_block h.own _ e1).1; omega)).trans h.br, ?_, by rw [List.length_append, List.length_append, h.len]; rfl, fun k r y hr hy => ?_, fun g hg' => ?_, ⟨h1, h2, h3, Nat.lt_of_lt_of_le h4 hg.size⟩⟩
  · rw [List.length_append, List.flatten_append]
    simpa using hown
  · have hlen := h.len
    by_cases hk : k < rows.length
    · rw [List.getElem?_append_left hk] at hr
      rw [List.getElem?_append_left (by omega)] at hy; obtain ⟨a', b', k1, k2, k3, k4⟩ := h.row k r y hr hy; refine ⟨a', b', k1, Nat.le_trans k2 hg.size, fun g hg' => ?_, k4.keep (fun i i1 i2 => keepB (by omega) (fun e1 => k3 i e1 ⟨i1, i2⟩))⟩; rcases hnew g hg' with e1 | e1
      · exact k3 g e1
      · omega
    · rw [List.getElem?_append_right (by omega)] at hr
      rw [List.getElem?_append_right (by omega)] at hy; have e0 : k - rows.length = 0 := by have := (List.getElem?_eq_some_iff.1 hr).1; simp at this; omega
      rw [e0] at hr; rw [show k - ks.length = 0 by omega] at hy
      simp at hr hy
      subst hr hy; refine ⟨a, b, ha, Nat.le_trans hb hg.size, fun g hg' => ?_, hx.keep (fun i i1 i2 => keepB (by omega) (fun e1 => by have := hv i e1; omega))⟩; rcases hnew g hg' with e1 | e1
      · have := hv g e1; omega
      · omega
  · rcases hnew g hg' with e1 | e1
    · exact h.ne g e1
    · omega
theorem XpW.store (h : XpW a0 b0 R B5 e pm cm pn cn vs v ks rows W) : XpW a0 b0 R B5 e pm cm pn cn v v ks rows (W.setCell ⟨B5, 8, none⟩ v) := by
  obtain ⟨h1, h2, h3, h4⟩ := h.ord
  have ho := OffM.cell1 W B5 8 v
  have hs : (W.setCell ⟨B5, 8, none⟩ v).heap.size = W.heap.size := by unfold World.setCell; simp
  have hk : ∀ k, k < W.heap.size → k ≠ B5 → (W.setCell ⟨B5, 8, none⟩ v).heap[k]? = W.heap[k]? := fun k hk hne => ho.block k hk hne
  refine ⟨h.mats.keep (fun k _ hk' => hk k (by omega) (by omega)), h.names.keep (fun k _ hk' => hk k (by omega) (by omega)), h.b5.set_ 8 v, h.br.far (by simp; omega) _, ownsRow_offM h.own ho (fun g hg => h.ne g hg), h.len, fun k r x hr hx => ?_, h.ne, ⟨h1, h2, h3, by rw [hs]; exact h4⟩⟩
  obtain ⟨a, b, k1, k2, k3, k4⟩ := h.row k r x hr hx
  exact ⟨a, b, k1, by rw [hs]; exact k2, k3, k4.keep (fun i i1 i2 => hk i (by omega) (by omega))⟩
theorem XpW.start (hx : Fresh a0 b0 W e [.int .i64 e.kind, .int .i64 e.fn, .int .i64 e.op, .int .i64 e.num, .string e.metric, .slice pm e.mats.length cm, .int .i64 e.span, .slice pn e.names.length cn, v]) (hkid : e.kids = [])
    (hb5 : Blk W B5 37 [.int .i64 e.kind, .int .i64 e.fn, .int .i64 e.op, .int .i64 e.num, .string e.metric, .slice pm e.mats.length cm, .int .i64 e.span, .slice pn e.names.length cn, v]) (hbr : Blk W R 37 [.int .i64 0, .int .i64 0, .int .i64 0, .int .i64 0, .string ⟨#[]⟩, .slice none 0 0, .int .i64 0, .slice none 0 0, .slice none 0 0]) (ho : R < a0 ∧ a0 ≤ b0 ∧ b0 ≤ B5) :
    XpW a0 b0 R B5 e pm cm pn cn v v [] [] W := by
  obtain ⟨vm, vn, vk, rows, hcs, h1, h2, h3, h4, -⟩ := hx.cells
  simp at hcs
  obtain ⟨rfl, rfl, rfl⟩ := hcs
  rw [hkid] at h3 h4
  have : rows = [] := List.eq_nil_of_length_eq_zero h4
  subst this
  refine ⟨h1, h2, hb5, hbr, h3.1, rfl, fun k r x hr => by simp at hr, fun g hg => ?_, ⟨ho.1, ho.2.1, ho.2.2, hb5.lt⟩⟩
  have := h3.2 g hg; omega
theorem XpW.done (h : XpW a0 b0 R B5 e pm cm pn cn vs v ks rows W) (hs : e.metric.size ≤ maxLen ∧ (∀ m ∈ e.mats, m.small) ∧ ∀ s ∈ e.names, s.size ≤ maxLen) :
    Fresh a0 W.heap.size W (e.withKids ks) [.int .i64 e.kind, .int .i64 e.fn, .int .i64 e.op, .int .i64 e.num, .string e.metric, .slice pm e.mats.length cm, .int .i64 e.span, .slice pn e.names.length cn, v] := by
  obtain ⟨h1, h2, h3, h4⟩ := h.ord
  refine .mk hs.1 hs.2.1 hs.2.2 (h.mats.more (Nat.le_refl _) (by omega)) (h.names.more (Nat.le_refl _) (by omega)) ⟨h.own, fun g hg => (ownsRow_block h.own g hg).2⟩ h.len fun k r x hr hx => ?_
  obtain ⟨a, b, k1, k2, k3, k4⟩ := h.row k r x hr hx
  exact k4.more (by omega) k2
end
end Go.Proofs.YtdjdikiimhhjpaaGreatDoor
namespace Go.Proofs.YtdjdikiimhhjpaaGreatDoor
open Go.RowKit
set_option linter.unusedSimpArgs false
set_option linter.unusedVariables false
def SrcN (w : World) (v : Value) (sz m : Nat) (news : List Value) : Prop := Src w v sz m news ∨ ∃ c, v = .slice none 0 c ∧ m = 0 ∧ news = []
theorem SrcN.of_arr {n : Nat} {w : World} {p : Option Addr} {c sz : Nat} {rows : List (List Value)} (h : Arr n w (.slice p rows.length c) sz rows) (hr : ∀ r ∈ rows, r.length = sz) (hsz : 0 < sz) : SrcN w (.slice p rows.length c) sz rows.length rows.flatten := by
  cases p with
  | some ad => exact .inl (Src.of_arr h hr hsz (fun e => by cases e))
  | none =>
    cases rows with
    | nil => exact .inr ⟨c, rfl, rfl, rfl⟩
    | cons r rows =>
      obtain ⟨p, cap, hv, -, -, h3⟩ := h; obtain ⟨b, off, hp, -⟩ := h3 (by simp); subst hp
      simp at hv
theorem run_append_noneC {P : Program} {w : World} (base : Nat) (t ty e : TypeId) (i : TypeInfo) (size c : Nat) (ht : P.underlying t = some (.slice e)) (hi : P.info? e = some i) (v : Value) (n : Nat) (xs : List Value) (hown : w.ownsRow base e size v n xs) :
    (Builtin.append_ #[t, t] ty #[v, .slice none 0 c]).run P w = .ok v w := by
  rcases hown.2 with ⟨rfl, rfl⟩ | ⟨g, cap, cur, rfl, _, _, hnc, _⟩
  · simp [Builtin.append_, run_underlying ht, sizeOf, typeInfo, hi, Builtin.lenOf, Builtin.firstCells]
  · simp [Builtin.append_, run_underlying ht, sizeOf, typeInfo, hi, Builtin.lenOf, Builtin.firstCells, hnc, storeCells]
theorem wp_append_srcN {P : Program} (w : World) {o : Oper} {a : Act} {K : Act → World → Prop} {Q : Exit → Act → World → Prop} (s x : Operand) (t : TypeId)
    (ho : o.op = .call { callee := .builtin .append, args := #[s, x], argTypes := #[t, t] })
    (base : Nat) (e : TypeId) (i : TypeInfo) (z : Value) (size bytes : Nat) (ht : P.underlying t = some (.slice e)) (hi : P.info? e = some i) (hz : i.zero = some z)
    (hsize : i.size = size) (hby : i.bytes = bytes) (hzs : z.cells.size = size) (hsz : 0 < size)
    (v : Value) (n : Nat) (xs : List Value) (hs : a.eval s = v) (hown : w.ownsRow base e size v n xs)
    (src : Value) (m : Nat) (news : List Value) (hx : a.eval x = src) (hsrc : SrcN w src size m news) (h1 : ∀ u ∈ news, u.oneCell' = true)
    (h63 : n + m ≤ maxLen) (hbytes : (n + m) * bytes ≤ 140737488355328) (hbase : base ≤ w.heap.size)
    (h : ∀ v' w', w'.ownsRow base e size v' (n + m) (xs ++ news) → w.grownBy w' v.ownBlock → (v'.ownBlock = v.ownBlock ∨ v'.ownBlock = some w.heap.size) → K (a.put o.dst v') w') :
    o.wp P a w K Q := by
  rcases hsrc with hsrc | ⟨c, rfl, rfl, rfl⟩
  · exact wp_append_src w s x t ho base e i z size bytes ht hi hz hsize hby hzs hsz v n xs hs hown src m news hx hsrc h1 h63 hbytes hbase h
  · have hr := run_append_noneC (P := P) (w := w) base t o.type e i size c ht hi v n xs hown
    unfold Oper.wp execOp; simp only [ho, resolve, invoke, builtin, Sem.run_bind, Sem.run_pure, Result.andThen_ok, List.map_toArray, List.map_cons, List.map_nil, hs, hx, hr]; exact h v w (by simpa using hown) (World.grownBy.refl w _) (.inl rfl)
theorem own_empty0 (t sz : Nat) (W : World) : (W.alloc (.cells #[] t)).ownsRow W.heap.size t sz (.slice (some ⟨W.heap.size, 0, none⟩) 0 0) 0 [] :=
  ⟨by simp, .inr ⟨W.heap.size, 0, #[], rfl, Nat.le_refl _, World.alloc_heap_new W _, Nat.le_refl _, Nat.zero_le _, by simp, by simp⟩⟩
theorem own_other {w w' : World} {b1 b2 e1 e2 s1 s2 n1 n2 : Nat} {v1 v2 : Value} {x1 x2 : List Value} (h : w.ownsRow b1 e1 s1 v1 n1 x1) (k : w.ownsRow b2 e2 s2 v2 n2 x2) (hne : e1 ≠ e2) (hg : w.grownBy w' v2.ownBlock) : w'.ownsRow b1 e1 s1 v1 n1 x1 :=
  ownsRow_offM h (OffM.grown hg) (fun g hg1 hg2 => own_ne h k hne hg1 hg2)
end Go.Proofs.YtdjdikiimhhjpaaGreatDoor
namespace Go.Proofs.YtdjdikiimhhjpaaGreatDoor
open Go.RowKit
set_option linter.unusedSimpArgs false
set_option linter.unusedVariables false
theorem infoMt : (Tryz.prog.info? 77).map (fun i => (i.zero, i.size, i.bytes)) = some (some (.agg #[.int .i64 0, .string ⟨#[]⟩, .string ⟨#[]⟩]), 3, 40) := by kernel_rfl
theorem infoSt : (Tryz.prog.info? 9).map (fun i => (i.zero, i.size, i.bytes)) = some (some (.string ⟨#[]⟩), 1, 16) := by kernel_rfl
def KidsF (base : Nat) (w : World) (vk : Value) (rows : List (List Value)) (kids : List Ex) : Prop :=
  ∀ (k : Nat) (r : List Value) (x : Ex), rows[k]? = some r → kids[k]? = some x → ∃ lo hi, base ≤ lo ∧ hi ≤ w.heap.size ∧ Fresh lo hi w x r ∧ ∀ g, vk.ownBlock = some g → g < lo ∨ hi ≤ g
theorem KidsF.nil {base : Nat} {w : World} {vk : Value} {kids : List Ex} : KidsF base w vk [] kids := fun k r x hr => by simp at hr
theorem KidsF.turn {base : Nat} {W W' : World} {vk vk' : Value} {rows : List (List Value)} {kids : List Ex} (h : KidsF base W vk rows kids) (hs : W.heap.size ≤ W'.heap.size)
    (hb : ∀ i, base ≤ i → i < W.heap.size → vk.ownBlock ≠ some i → W'.heap[i]? = W.heap[i]?) (hv : ∀ g, vk'.ownBlock = some g → vk.ownBlock = some g ∨ W.heap.size ≤ g) : KidsF base W' vk' rows kids := by
  intro k r x hr hx
  obtain ⟨lo, hi, h1, h2, h3, h4⟩ := h k r x hr hx
  refine ⟨lo, hi, h1, by omega, h3.keep (fun i g1 g2 => hb i (by omega) (by omega) (fun e => by have := h4 i e; omega)), fun g hg => ?_⟩
  rcases hv g hg with e | e
  · exact h4 g e
  · right; omega
theorem KidsF.snoc {base lo hi i : Nat} {w : World} {vk : Value} {rows : List (List Value)} {kids : List Ex} {x : Ex} {cs : List Value} (hrl : rows.length = i) (hlt : i < kids.length) (hx : kids[i] = x) (h1 : base ≤ lo) (h2 : hi ≤ w.heap.size) (h3 : Fresh lo hi w x cs) (h4 : ∀ g, vk.ownBlock = some g → g < lo ∨ hi ≤ g)
    (h : KidsF base w vk rows kids) : KidsF base w vk (rows ++ [cs]) kids := by
  intro k r y hr hy
  by_cases hk : k < rows.length
  · rw [List.getElem?_append_left hk] at hr
    exact h k r y hr hy
  · rw [List.getElem?_append_right (by omega)] at hr
    have e0 : k - rows.length = 0 := by have := (List.getElem?_eq_some_iff.1 hr).1; simp at this; omega
    rw [e0] at hr
    simp at hr
    subst hr; have hki : k = i := by omega
    subst hki; rw [List.getElem?_eq_getElem hlt, hx] at hy; cases hy; exact ⟨lo, hi, h1, h2, h3, h4⟩
theorem Fresh.of {lo hi n : Nat} {w w0 : World} {e : Ex} {cs : List Value} {vm vn vk : Value} {rows : List (List Value)} (he : IsEx n w0 e cs) (hms : ∀ m ∈ e.mats, m.small) (hns : ∀ s ∈ e.names, s.size ≤ maxLen) (hm : OwnIn lo hi w 77 3 vm e.mats.length (e.mats.map Mat.cells).flatten)
    (hn : OwnIn lo hi w 9 1 vn e.names.length (e.names.map fun s => [Value.string s]).flatten) (hk : OwnIn lo hi w 37 9 vk e.kids.length rows.flatten) (hl : rows.length = e.kids.length)
    (hr : ∀ (k : Nat) (r : List Value) (x : Ex), rows[k]? = some r → e.kids[k]? = some x → Fresh lo hi w x r) : Fresh lo hi w e [.int .i64 e.kind, .int .i64 e.fn, .int .i64 e.op, .int .i64 e.num, .string e.metric, vm, .int .i64 e.span, vn, vk] := by
  cases he with
  | mk hs _ _ _ _ _ => exact .mk hs hms hns hm hn hk hl hr
theorem srcB {X : World} {b t sz m c : Nat} {cs : List Value} (h : Blk X b t cs) (hl : cs.length = m * sz) : Src X (.slice (some ⟨b, 0, none⟩) m c) sz m cs := by
  refine .inr ⟨_, c, rfl, hl, fun j u hu => ?_⟩
  have e : (⟨b, 0, none⟩ : Addr).add j = ⟨b, j, none⟩ := by
    unfold Addr.add
    split <;> simp <;> omega
  rw [e]
  exact h.cell j u hu
theorem rCopied : ∀ (e : Ex) (cs : List Value) (n : Nat) (w : World), n ≤ w.heap.size → IsEx n w e cs → e.thin → e.size ≤ 1000000 →
    Calls Tryz.prog 49 #[.agg cs.toArray] w fun e' w' => ∃ cs' : List Value, e' = .returned (.agg cs'.toArray) ∧ Fresh w.heap.size w'.heap.size w' e cs' ∧ Below w.heap.size w w' := by
  refine Ex.ind fun e ih => ?_
  intro cs n w hn he hth hsz
  obtain ⟨pm, cm, pn, cn, pk, ck, rfl, hms, hma, hna, hka⟩ := he.cellsE
  obtain ⟨hth1, hth2⟩ := e.thin_self hth
  have hkl : e.kids.length ≤ 1000000 := by have := length_le_sizes e.kids; have := e.size_eq; omega
  have Hth := Lib.hid hth; clear hth
  have HMa := Lib.hid hma; have HNa := Lib.hid hna; have HKa := Lib.hid hka; have Hih := Lib.hid ih; have He := Lib.hid he; have Hms := Lib.hid hms
  clear hma hna hka ih he hms
  obtain ⟨im, gm0, gm1, gm2, gm3⟩ := info_parts infoMt
  obtain ⟨is_, gs0, gs1, gs2, gs3⟩ := info_parts infoSt
  go_enter Tryz.func49, Tryz.ntmps49; (try simp only [List.append_eq, List.cons_append, List.nil_append])
  go_upto_region 1 with fail
  have HBk := Lib.hid ((Blk.new w [.int .i64 e.kind, .int .i64 e.fn, .int .i64 e.op, .int .i64 e.num, .string e.metric, .slice pm e.mats.length cm, .int .i64 e.span, .slice pn e.names.length cn, .slice pk e.kids.length ck] 37).keep ((Below.refl _ _).alloc (Nat.le_refl _) (.cells #[.int .i64 0, .int .i64 0, .int .i64 0, .int .i64 0, .string ⟨#[]⟩, .slice none 0 0, .int .i64 0, .slice none 0 0, .slice none 0 0] 37)))
  have HB2 := Lib.hid (Blk.new (w.alloc (.cells #[.int .i64 e.kind, .int .i64 e.fn, .int .i64 e.op, .int .i64 e.num, .string e.metric, .slice pm e.mats.length cm, .int .i64 e.span, .slice pn e.names.length cn, .slice pk e.kids.length ck] 37)) [.int .i64 0, .int .i64 0, .int .i64 0, .int .i64 0, .string ⟨#[]⟩, .slice none 0 0, .int .i64 0, .slice none 0 0, .slice none 0 0] 37)
  have HBY := Lib.hid (((Below.refl w.heap.size w).alloc (Nat.le_refl _) (.cells #[.int .i64 e.kind, .int .i64 e.fn, .int .i64 e.op, .int .i64 e.num, .string e.metric, .slice pm e.mats.length cm, .int .i64 e.span, .slice pn e.names.length cn, .slice pk e.kids.length ck] 37)).alloc (by simp) (.cells #[.int .i64 0, .int .i64 0, .int .i64 0, .int .i64 0, .string ⟨#[]⟩, .slice none 0 0, .int .i64 0, .slice none 0 0, .slice none 0 0] 37))
  have hzY : ((w.alloc (.cells #[.int .i64 e.kind, .int .i64 e.fn, .int .i64 e.op, .int .i64 e.num, .string e.metric, .slice pm e.mats.length cm, .int .i64 e.span, .slice pn e.names.length cn, .slice pk e.kids.length ck] 37)).alloc (.cells #[.int .i64 0, .int .i64 0, .int .i64 0, .int .i64 0, .string ⟨#[]⟩, .slice none 0 0, .int .i64 0, .slice none 0 0, .slice none 0 0] 37)).heap.size = w.heap.size + 2 := by simp
  have HZ0 := Lib.hid (World.size_alloc w (.cells #[.int .i64 e.kind, .int .i64 e.fn, .int .i64 e.op, .int .i64 e.num, .string e.metric, .slice pm e.mats.length cm, .int .i64 e.span, .slice pn e.names.length cn, .slice pk e.kids.length ck] 37))
  obtain ⟨Y, hY⟩ : ∃ z, (w.alloc (.cells #[.int .i64 e.kind, .int .i64 e.fn, .int .i64 e.op, .int .i64 e.num, .string e.metric, .slice pm e.mats.length cm, .int .i64 e.span, .slice pn e.names.length cn, .slice pk e.kids.length ck] 37)).alloc (.cells #[.int .i64 0, .int .i64 0, .int .i64 0, .int .i64 0, .string ⟨#[]⟩, .slice none 0 0, .int .i64 0, .slice none 0 0, .slice none 0 0] 37) = z := ⟨_, rfl⟩
  rw [show (w.alloc (.cells ([.int .i64 e.kind, .int .i64 e.fn, .int .i64 e.op, .int .i64 e.num, .string e.metric, .slice pm e.mats.length cm, .int .i64 e.span, .slice pn e.names.length cn, .slice pk e.kids.length ck] : List Value).toArray 37)).alloc (.cells #[.int .i64 0, .int .i64 0, .int .i64 0, .int .i64 0, .string ⟨#[]⟩, .slice none 0 0, .int .i64 0, .slice none 0 0, .slice none 0 0] 37) = Y from hY] at HBk
  rw [show (w.alloc (.cells #[.int .i64 e.kind, .int .i64 e.fn, .int .i64 e.op, .int .i64 e.num, .string e.metric, .slice pm e.mats.length cm, .int .i64 e.span, .slice pn e.names.length cn, .slice pk e.kids.length ck] 37)).alloc (.cells ([.int .i64 0, .int .i64 0, .int .i64 0, .int .i64 0, .string ⟨#[]⟩, .slice none 0 0, .int .i64 0, .slice none 0 0, .slice none 0 0] : List Value).toArray 37) = Y from hY, HZ0.out] at HB2
  rw [hY] at HBY hzY ⊢
  clear hY HZ0
  have HZY := Lib.hid hzY; clear hzY
  have HSm : Hid (∀ X, Below Y.heap.size Y X → SrcN X (.slice pm e.mats.length cm) 3 e.mats.length (e.mats.map Mat.cells).flatten) := Lib.hid (fun X hX => by
    have h1 := HMa.out.mono ((HBY.out.trans (hX.mono HBY.out.size)).mono hn) (Nat.le_refl _); have h2 := SrcN.of_arr (rows := e.mats.map Mat.cells) (p := pm) (c := cm) (by rw [List.length_map]; exact h1.1) (mats_len _) (by decide)
    rwa [List.length_map] at h2)
  have HSn : Hid (∀ X, Below Y.heap.size Y X → SrcN X (.slice pn e.names.length cn) 1 e.names.length (e.names.map fun s => [Value.string s]).flatten) := Lib.hid (fun X hX => by
    have h1 := HNa.out.mono ((HBY.out.trans (hX.mono HBY.out.size)).mono hn) (Nat.le_refl _); have h2 := SrcN.of_arr (rows := e.names.map fun s => [Value.string s]) (p := pn) (c := cn) (by rw [List.length_map]; exact h1.1) (names_len _) (by decide)
    rwa [List.length_map] at h2)
  go_cut [1, 2] from 5 to 14 (fun s1 s2 wx => ∃ vm vn, s1 = .pointer (some ⟨w.heap.size, 0, none⟩) ∧ s2 = .pointer (some ⟨w.heap.size + 1, 0, none⟩) ∧ Blk wx w.heap.size 37 [.int .i64 e.kind, .int .i64 e.fn, .int .i64 e.op, .int .i64 e.num, .string e.metric, vm, .int .i64 e.span, vn, .slice pk e.kids.length ck] ∧ Blk wx (w.heap.size + 1) 37 [.int .i64 0, .int .i64 0, .int .i64 0, .int .i64 0, .string ⟨#[]⟩, .slice none 0 0, .int .i64 0, .slice none 0 0, .slice none 0 0] ∧
    wx.ownsRow Y.heap.size 77 3 vm e.mats.length (e.mats.map Mat.cells).flatten ∧ wx.ownsRow Y.heap.size 9 1 vn e.names.length (e.names.map fun s => [Value.string s]).flatten ∧ Below w.heap.size w wx ∧ w.heap.size + 2 ≤ wx.heap.size)
  case first =>
    refine wp_region_late [9, 11] (fun X => Blk X w.heap.size 37 [.int .i64 e.kind, .int .i64 e.fn, .int .i64 e.op, .int .i64 e.num, .string e.metric, .slice pm e.mats.length cm, .int .i64 e.span, .slice pn e.names.length cn, .slice pk e.kids.length ck]) (by kernel_rfl) ?_; have HS := Lib.hid (Below.drew (Below.refl Y.heap.size Y)); have hSd := HBk.out.keep HS.out; obtain ⟨x0, hz⟩ : ∃ z, Y.drew = z := ⟨_, rfl⟩; rw [hz] at HS hSd ⊢; clear hz
    (refine late_take 1 6 (.pointer (some ⟨w.heap.size, 5, none⟩)) rfl rfl (by kernel_rfl) (by kernel_rfl) (by kernel_rfl) rfl (by kernel_rfl) (fun _ _ _ h => h) (by kernel_rfl) ?_ hSd ?_; (intro w' hSw; clear hSw; go_simp); simp only [lsz, lss])
    (refine late_take 2 7 (.slice pm e.mats.length cm) rfl rfl (by kernel_rfl) (by kernel_rfl) (by kernel_rfl) rfl (by kernel_rfl) (fun _ _ _ h => h) (by kernel_rfl) ?_ hSd ?_; (intro w' hSw; have c := hSw; have c0 := c.cell 0 _ rfl; have c1 := c.cell 1 _ rfl; have c2 := c.cell 2 _ rfl; have c3 := c.cell 3 _ rfl; have c4 := c.cell 4 _ rfl; have c5 := c.cell 5 _ rfl; have c6 := c.cell 6 _ rfl; have c7 := c.cell 7 _ rfl; have c8 := c.cell 8 _ rfl; clear hSw; go_simp); simp only [lsz, lss])
    (refine late_take 5 10 (.pointer (some ⟨w.heap.size, 7, none⟩)) rfl rfl (by kernel_rfl) (by kernel_rfl) (by kernel_rfl) rfl (by kernel_rfl) (fun _ _ _ h => h) (by kernel_rfl) ?_ hSd ?_; (intro w' hSw; clear hSw; go_simp); simp only [lsz, lss])
    (refine late_take 6 11 (.slice pn e.names.length cn) rfl rfl (by kernel_rfl) (by kernel_rfl) (by kernel_rfl) rfl (by kernel_rfl) (fun _ _ _ h => h) (by kernel_rfl) ?_ hSd ?_; (intro w' hSw; have c := hSw; have c0 := c.cell 0 _ rfl; have c1 := c.cell 1 _ rfl; have c2 := c.cell 2 _ rfl; have c3 := c.cell 3 _ rfl; have c4 := c.cell 4 _ rfl; have c5 := c.cell 5 _ rfl; have c6 := c.cell 6 _ rfl; have c7 := c.cell 7 _ rfl; have c8 := c.cell 8 _ rfl; clear hSw; go_simp); simp only [lsz, lss])
    clear hSd; refine late_ready (rs := [0, 4]) (by kernel_rfl) (by simp) (.cons rfl true rfl (fun K hK => ?_) (.cons rfl true rfl (fun K hK => ?_) .nil))
    · skip
      rw [if_pos (by kernel_rfl)]
      go_simp
      have hb := (Below.refl x0.heap.size x0).alloc (Nat.le_refl _) (.cells #[] 77); have HE8 := Lib.hid (ownsRow_base (own_empty0 77 3 x0) HS.out.size); have HS := Lib.hid (HS.out.trans (hb.mono HS.out.size)); clear hb; obtain ⟨x1, hz⟩ : ∃ z, x0.alloc (.cells #[] 77) = z := ⟨_, rfl⟩; rw [hz] at HE8 HS  ⊢; clear hz; refine hK.out _ _ (fun _ => HBk.out.keep HS.out) ?_; clear hK K
      (try simp only [Act.put, lsa, lsz, lss])
      refine late_ready (rs := [3, 4]) (by kernel_rfl) (by simp) (.cons rfl true rfl (fun K hK => ?_) (.cons rfl true rfl (fun K hK => ?_) .nil))
      · skip
        rw [if_pos (by kernel_rfl)]; refine wp_append_srcN _ _ _ _ rfl Y.heap.size 77 im _ 3 40 Tryz.underlying33 gm0 gm1 gm2 gm3 rfl (by decide) _ 0 [] rfl HE8.out _ _ _ rfl (HSm.out _ HS.out) (mats_one _) (by unfold maxLen; omega) (by omega) HS.out.size ?_; intro vm x2 hown hg hat; rw [Nat.zero_add, List.nil_append] at hown; have hb := below_app (Below.refl _ _) HE8.out hg (Nat.le_refl _) HS.out.size; obtain ⟨am, cam, hv⟩ := ownsRow_slice hown; subst hv; have HM8 := Lib.hid hown; have HS := Lib.hid (HS.out.trans hb); clear hown hg hat hb HE8; refine hK.out _ _ (fun _ => HBk.out.keep HS.out) ?_; clear hK K
        (try simp only [Act.put, lsa, lsz, lss])
        have hBk := HBk.out.keep HS.out
        (refine late_take 8 13 (.pointer (some ⟨w.heap.size, 5, none⟩)) rfl rfl (by kernel_rfl) (by kernel_rfl) (by kernel_rfl) rfl (by kernel_rfl) (fun _ _ _ h => h) (by kernel_rfl) ?_ hBk ?_; (intro w' hSw; clear hSw; go_simp); simp only [lsz, lss])
        clear hBk; refine late_ready (rs := [4]) (by kernel_rfl) (by simp) (.cons rfl true rfl (fun K hK => ?_) .nil); rw [if_pos (by kernel_rfl)]
        go_simp
        have hb := (Below.refl x2.heap.size x2).alloc (Nat.le_refl _) (.cells #[] 9); have HE12 := Lib.hid (ownsRow_base (own_empty0 9 1 x2) HS.out.size); have HM8 := Lib.hid (ownsRow_keep HM8.out hb); have HS := Lib.hid (HS.out.trans (hb.mono HS.out.size)); clear hb; obtain ⟨x3, hz⟩ : ∃ z, x2.alloc (.cells #[] 9) = z := ⟨_, rfl⟩; rw [hz] at HE12 HS HM8 ⊢; clear hz; refine hK.out _ _ (fun _ => HBk.out.keep HS.out) ?_; clear hK K
        (try simp only [Act.put, lsa, lsz, lss])
        refine late_ready (rs := [7]) (by kernel_rfl) (by simp) (.cons rfl true rfl (fun K hK => ?_) .nil); rw [if_pos (by kernel_rfl)]; refine wp_append_srcN _ _ _ _ rfl Y.heap.size 9 is_ _ 1 16 Tryz.underlying34 gs0 gs1 gs2 gs3 rfl (by decide) _ 0 [] rfl HE12.out _ _ _ rfl (HSn.out _ HS.out) (names_one _) (by unfold maxLen; omega) (by omega) HS.out.size ?_; intro vn x4 hown hg hat; rw [Nat.zero_add, List.nil_append] at hown; have hb := below_app (Below.refl _ _) HE12.out hg (Nat.le_refl _) HS.out.size; obtain ⟨an, can, hv⟩ := ownsRow_slice hown; subst hv; have HM8 := Lib.hid (own_other HM8.out HE12.out (by decide) hg); have HM12 := Lib.hid hown; have HS := Lib.hid (HS.out.trans hb); clear hown hg hat hb HE12; refine hK.out _ _ (fun _ => HBk.out.keep HS.out) ?_; clear hK K
        (try simp only [Act.put, lsa, lsz, lss])
        have hBk := HBk.out.keep HS.out; have k5 := hBk.cell 5 _ rfl; have k7 := hBk.cell 7 _ rfl; have fr5 := hBk.free 5; have fr7 := hBk.free 7; have hs5 := HM8.out; have hs12 := HM12.out; clear hs5 hs12; refine late_ready (rs := [9]) (by kernel_rfl) (by simp) (.cons rfl false rfl (fun K hK => ?_) .nil); rw [if_pos (by kernel_rfl)]
        go_simp
        refine hK.out _ _ (fun h => by cases h) ?_; clear hK K
        (try simp only [Act.put, lsa, lsz, lss])
        refine late_ready (rs := [10]) (by kernel_rfl) (by simp) (.cons rfl false rfl (fun K hK => ?_) .nil); rw [if_pos (by kernel_rfl)]
        go_simp
        refine hK.out _ _ (fun h => by cases h) ?_; clear hK K
        (try simp only [Act.put, lsa, lsz, lss])
        refine late_ready (rs := [11]) (by kernel_rfl) (by simp) (.cons rfl false rfl (fun K hK => ?_) .nil); rw [if_pos (by kernel_rfl)]
        go_simp
        refine hK.out _ _ (fun h => by cases h) ?_; clear hK K
        (try simp only [Act.put, lsa, lsz, lss])
        refine late_done (by kernel_rfl) ?_ _; go_wp2
        go_meet
        have hz := HZY.out; have hzw := HS.out.size; refine ⟨_, _, rfl, rfl, (hBk.set_ 5 _).set_ 7 _, ((HB2.out.keep HS.out).far (by simp) _).far (by simp) _, ?_, ?_, ?_, by simp; omega⟩
        · exact ownsRow_offM HM8.out ((OffM.cell1 _ _ _ _).trans (OffM.cell1 _ _ _ _) (fun _ _ h => h)) (fun g hg h => by have := (ownsRow_block HM8.out g hg).1; omega)
        · exact ownsRow_offM HM12.out ((OffM.cell1 _ _ _ _).trans (OffM.cell1 _ _ _ _) (fun _ _ h => h)) (fun g hg h => by have := (ownsRow_block HM12.out g hg).1; omega)
        · exact (HBY.out.trans (HS.out.mono HBY.out.size)).trans (((OffM.cell1 _ _ _ _).trans (OffM.cell1 _ _ _ _) (fun _ _ h => h)).below (fun b hb => by rw [show b = w.heap.size from hb]; exact Nat.le_refl _) (by omega))
      · skip
        rw [if_pos (by kernel_rfl)]
        go_simp
        have hb := (Below.refl x1.heap.size x1).alloc (Nat.le_refl _) (.cells #[] 9); have HE12 := Lib.hid (ownsRow_base (own_empty0 9 1 x1) HS.out.size); have HE8 := Lib.hid (ownsRow_keep HE8.out hb); have HS := Lib.hid (HS.out.trans (hb.mono HS.out.size)); clear hb; obtain ⟨x5, hz⟩ : ∃ z, x1.alloc (.cells #[] 9) = z := ⟨_, rfl⟩; rw [hz] at HE12 HS HE8 ⊢; clear hz; refine hK.out _ _ (fun _ => HBk.out.keep HS.out) ?_; clear hK K
        (try simp only [Act.put, lsa, lsz, lss])
        refine late_ready (rs := [3]) (by kernel_rfl) (by simp) (.cons rfl true rfl (fun K hK => ?_) .nil); rw [if_pos (by kernel_rfl)]; refine wp_append_srcN _ _ _ _ rfl Y.heap.size 77 im _ 3 40 Tryz.underlying33 gm0 gm1 gm2 gm3 rfl (by decide) _ 0 [] rfl HE8.out _ _ _ rfl (HSm.out _ HS.out) (mats_one _) (by unfold maxLen; omega) (by omega) HS.out.size ?_; intro vm x6 hown hg hat; rw [Nat.zero_add, List.nil_append] at hown; have hb := below_app (Below.refl _ _) HE8.out hg (Nat.le_refl _) HS.out.size; obtain ⟨am, cam, hv⟩ := ownsRow_slice hown; subst hv; have HE12 := Lib.hid (own_other HE12.out HE8.out (by decide) hg); have HM8 := Lib.hid hown; have HS := Lib.hid (HS.out.trans hb); clear hown hg hat hb HE8; refine hK.out _ _ (fun _ => HBk.out.keep HS.out) ?_; clear hK K
        (try simp only [Act.put, lsa, lsz, lss])
        have hBk := HBk.out.keep HS.out
        (refine late_take 8 13 (.pointer (some ⟨w.heap.size, 5, none⟩)) rfl rfl (by kernel_rfl) (by kernel_rfl) (by kernel_rfl) rfl (by kernel_rfl) (fun _ _ _ h => h) (by kernel_rfl) ?_ hBk ?_; (intro w' hSw; clear hSw; go_simp); simp only [lsz, lss])
        clear hBk; refine late_ready (rs := [7]) (by kernel_rfl) (by simp) (.cons rfl true rfl (fun K hK => ?_) .nil); rw [if_pos (by kernel_rfl)]; refine wp_append_srcN _ _ _ _ rfl Y.heap.size 9 is_ _ 1 16 Tryz.underlying34 gs0 gs1 gs2 gs3 rfl (by decide) _ 0 [] rfl HE12.out _ _ _ rfl (HSn.out _ HS.out) (names_one _) (by unfold maxLen; omega) (by omega) HS.out.size ?_; intro vn x7 hown hg hat; rw [Nat.zero_add, List.nil_append] at hown; have hb := below_app (Below.refl _ _) HE12.out hg (Nat.le_refl _) HS.out.size; obtain ⟨an, can, hv⟩ := ownsRow_slice hown; subst hv; have HM8 := Lib.hid (own_other HM8.out HE12.out (by decide) hg); have HM12 := Lib.hid hown; have HS := Lib.hid (HS.out.trans hb); clear hown hg hat hb HE12; refine hK.out _ _ (fun _ => HBk.out.keep HS.out) ?_; clear hK K
        (try simp only [Act.put, lsa, lsz, lss])
        have hBk := HBk.out.keep HS.out; have k5 := hBk.cell 5 _ rfl; have k7 := hBk.cell 7 _ rfl; have fr5 := hBk.free 5; have fr7 := hBk.free 7; have hs5 := HM8.out; have hs12 := HM12.out; clear hs5 hs12; refine late_ready (rs := [9]) (by kernel_rfl) (by simp) (.cons rfl false rfl (fun K hK => ?_) .nil); rw [if_pos (by kernel_rfl)]
        go_simp
        refine hK.out _ _ (fun h => by cases h) ?_; clear hK K
        (try simp only [Act.put, lsa, lsz, lss])
        refine late_ready (rs := [10]) (by kernel_rfl) (by simp) (.cons rfl false rfl (fun K hK => ?_) .nil); rw [if_pos (by kernel_rfl)]
        go_simp
        refine hK.out _ _ (fun h => by cases h) ?_; clear hK K
        (try simp only [Act.put, lsa, lsz, lss])
        refine late_ready (rs := [11]) (by kernel_rfl) (by simp) (.cons rfl false rfl (fun K hK => ?_) .nil); rw [if_pos (by kernel_rfl)]
        go_simp
        refine hK.out _ _ (fun h => by cases h) ?_; clear hK K
        (try simp only [Act.put, lsa, lsz, lss])
        refine late_done (by kernel_rfl) ?_ _; go_wp2
        go_meet
        have hz := HZY.out; have hzw := HS.out.size; refine ⟨_, _, rfl, rfl, (hBk.set_ 5 _).set_ 7 _, ((HB2.out.keep HS.out).far (by simp) _).far (by simp) _, ?_, ?_, ?_, by simp; omega⟩
        · exact ownsRow_offM HM8.out ((OffM.cell1 _ _ _ _).trans (OffM.cell1 _ _ _ _) (fun _ _ h => h)) (fun g hg h => by have := (ownsRow_block HM8.out g hg).1; omega)
        · exact ownsRow_offM HM12.out ((OffM.cell1 _ _ _ _).trans (OffM.cell1 _ _ _ _) (fun _ _ h => h)) (fun g hg h => by have := (ownsRow_block HM12.out g hg).1; omega)
        · exact (HBY.out.trans (HS.out.mono HBY.out.size)).trans (((OffM.cell1 _ _ _ _).trans (OffM.cell1 _ _ _ _) (fun _ _ h => h)).below (fun b hb => by rw [show b = w.heap.size from hb]; exact Nat.le_refl _) (by omega))
    · skip
      rw [if_pos (by kernel_rfl)]
      go_simp
      have hb := (Below.refl x0.heap.size x0).alloc (Nat.le_refl _) (.cells #[] 9); have HE12 := Lib.hid (ownsRow_base (own_empty0 9 1 x0) HS.out.size); have HS := Lib.hid (HS.out.trans (hb.mono HS.out.size)); clear hb; obtain ⟨x8, hz⟩ : ∃ z, x0.alloc (.cells #[] 9) = z := ⟨_, rfl⟩; rw [hz] at HE12 HS  ⊢; clear hz; refine hK.out _ _ (fun _ => HBk.out.keep HS.out) ?_; clear hK K
      (try simp only [Act.put, lsa, lsz, lss])
      refine late_ready (rs := [0]) (by kernel_rfl) (by simp) (.cons rfl true rfl (fun K hK => ?_) .nil); rw [if_pos (by kernel_rfl)]
      go_simp
      have hb := (Below.refl x8.heap.size x8).alloc (Nat.le_refl _) (.cells #[] 77); have HE8 := Lib.hid (ownsRow_base (own_empty0 77 3 x8) HS.out.size); have HE12 := Lib.hid (ownsRow_keep HE12.out hb); have HS := Lib.hid (HS.out.trans (hb.mono HS.out.size)); clear hb; obtain ⟨x9, hz⟩ : ∃ z, x8.alloc (.cells #[] 77) = z := ⟨_, rfl⟩; rw [hz] at HE8 HS HE12 ⊢; clear hz; refine hK.out _ _ (fun _ => HBk.out.keep HS.out) ?_; clear hK K
      (try simp only [Act.put, lsa, lsz, lss])
      refine late_ready (rs := [3]) (by kernel_rfl) (by simp) (.cons rfl true rfl (fun K hK => ?_) .nil); rw [if_pos (by kernel_rfl)]; refine wp_append_srcN _ _ _ _ rfl Y.heap.size 77 im _ 3 40 Tryz.underlying33 gm0 gm1 gm2 gm3 rfl (by decide) _ 0 [] rfl HE8.out _ _ _ rfl (HSm.out _ HS.out) (mats_one _) (by unfold maxLen; omega) (by omega) HS.out.size ?_; intro vm x10 hown hg hat; rw [Nat.zero_add, List.nil_append] at hown; have hb := below_app (Below.refl _ _) HE8.out hg (Nat.le_refl _) HS.out.size; obtain ⟨am, cam, hv⟩ := ownsRow_slice hown; subst hv; have HE12 := Lib.hid (own_other HE12.out HE8.out (by decide) hg); have HM8 := Lib.hid hown; have HS := Lib.hid (HS.out.trans hb); clear hown hg hat hb HE8; refine hK.out _ _ (fun _ => HBk.out.keep HS.out) ?_; clear hK K
      (try simp only [Act.put, lsa, lsz, lss])
      have hBk := HBk.out.keep HS.out
      (refine late_take 8 13 (.pointer (some ⟨w.heap.size, 5, none⟩)) rfl rfl (by kernel_rfl) (by kernel_rfl) (by kernel_rfl) rfl (by kernel_rfl) (fun _ _ _ h => h) (by kernel_rfl) ?_ hBk ?_; (intro w' hSw; clear hSw; go_simp); simp only [lsz, lss])
      clear hBk; refine late_ready (rs := [7]) (by kernel_rfl) (by simp) (.cons rfl true rfl (fun K hK => ?_) .nil); rw [if_pos (by kernel_rfl)]; refine wp_append_srcN _ _ _ _ rfl Y.heap.size 9 is_ _ 1 16 Tryz.underlying34 gs0 gs1 gs2 gs3 rfl (by decide) _ 0 [] rfl HE12.out _ _ _ rfl (HSn.out _ HS.out) (names_one _) (by unfold maxLen; omega) (by omega) HS.out.size ?_; intro vn x11 hown hg hat; rw [Nat.zero_add, List.nil_append] at hown; have hb := below_app (Below.refl _ _) HE12.out hg (Nat.le_refl _) HS.out.size; obtain ⟨an, can, hv⟩ := ownsRow_slice hown; subst hv; have HM8 := Lib.hid (own_other HM8.out HE12.out (by decide) hg); have HM12 := Lib.hid hown; have HS := Lib.hid (HS.out.trans hb); clear hown hg hat hb HE12; refine hK.out _ _ (fun _ => HBk.out.keep HS.out) ?_; clear hK K
      (try simp only [Act.put, lsa, lsz, lss])
      have hBk := HBk.out.keep HS.out; have k5 := hBk.cell 5 _ rfl; have k7 := hBk.cell 7 _ rfl; have fr5 := hBk.free 5; have fr7 := hBk.free 7; have hs5 := HM8.out; have hs12 := HM12.out; clear hs5 hs12; refine late_ready (rs := [9]) (by kernel_rfl) (by simp) (.cons rfl false rfl (fun K hK => ?_) .nil); rw [if_pos (by kernel_rfl)]
      go_simp
      refine hK.out _ _ (fun h => by cases h) ?_; clear hK K
      (try simp only [Act.put, lsa, lsz, lss])
      refine late_ready (rs := [10]) (by kernel_rfl) (by simp) (.cons rfl false rfl (fun K hK => ?_) .nil); rw [if_pos (by kernel_rfl)]
      go_simp
      refine hK.out _ _ (fun h => by cases h) ?_; clear hK K
      (try simp only [Act.put, lsa, lsz, lss])
      refine late_ready (rs := [11]) (by kernel_rfl) (by simp) (.cons rfl false rfl (fun K hK => ?_) .nil); rw [if_pos (by kernel_rfl)]
      go_simp
      refine hK.out _ _ (fun h => by cases h) ?_; clear hK K
      (try simp only [Act.put, lsa, lsz, lss])
      refine late_done (by kernel_rfl) ?_ _; go_wp2
      go_meet
      have hz := HZY.out; have hzw := HS.out.size; refine ⟨_, _, rfl, rfl, (hBk.set_ 5 _).set_ 7 _, ((HB2.out.keep HS.out).far (by simp) _).far (by simp) _, ?_, ?_, ?_, by simp; omega⟩
      · exact ownsRow_offM HM8.out ((OffM.cell1 _ _ _ _).trans (OffM.cell1 _ _ _ _) (fun _ _ h => h)) (fun g hg h => by have := (ownsRow_block HM8.out g hg).1; omega)
      · exact ownsRow_offM HM12.out ((OffM.cell1 _ _ _ _).trans (OffM.cell1 _ _ _ _) (fun _ _ h => h)) (fun g hg h => by have := (ownsRow_block HM12.out g hg).1; omega)
      · exact (HBY.out.trans (HS.out.mono HBY.out.size)).trans (((OffM.cell1 _ _ _ _).trans (OffM.cell1 _ _ _ _) (fun _ _ h => h)).below (fun b hb => by rw [show b = w.heap.size from hb]; exact Nat.le_refl _) (by omega))
  case rest =>
    obtain ⟨vm, vn, rfl, rfl, hg1, hg2, hm8, hm12, hbw, hsz2⟩ := hcut; obtain ⟨C, rfl⟩ : ∃ z, z = wc := ⟨_, rfl⟩; obtain ⟨am, cam, rfl⟩ := ownsRow_slice hm8; obtain ⟨an, can, rfl⟩ := ownsRow_slice hm12; have HG1 := Lib.hid hg1; have HG2 := Lib.hid hg2; have HM8 := Lib.hid hm8; have HM12 := Lib.hid hm12; have HBw := Lib.hid hbw; have HzC := Lib.hid hsz2; clear hg1 hg2 hm8 hm12 hbw hsz2 HSm HSn HBk HB2; obtain ⟨i0, hi, hz0, hz1, hz2⟩ := info_parts infoE
    go_wp2_with fail
    go_loopw [3, 4] (fun vk j wr => ∃ (i : Nat) (rows : List (List Value)), i ≤ e.kids.length ∧ j = .int .i64 i ∧ rows.length = i ∧ wr.ownsRow C.heap.size 37 9 vk i rows.flatten ∧ KidsF C.heap.size wr vk rows e.kids ∧ Below C.heap.size C wr) (fun _ j _ => e.kids.length - (intOf j).toNat)
    case atStart => exact ⟨0, [], Nat.zero_le _, rfl, rfl, World.ownsRow_nil _ _ _ _, KidsF.nil, Below.refl _ _⟩
    case round =>
      obtain ⟨i, rows, hik, rfl, hrl, hown, hkf, hbl⟩ := hrel; obtain ⟨W0, rfl⟩ : ∃ z, z = wr := ⟨_, rfl⟩; have HOwn := Lib.hid hown; have HKf := Lib.hid hkf; have HBl := Lib.hid hbl; have HRl := Lib.hid hrl; clear hown hkf hbl hrl; have c := HG1.out.keep HBl.out; have d0 := c.cell 0 _ rfl; have d1 := c.cell 1 _ rfl; have d2 := c.cell 2 _ rfl; have d3 := c.cell 3 _ rfl; have d4 := c.cell 4 _ rfl; have d5 := c.cell 5 _ rfl; have d6 := c.cell 6 _ rfl; have d7 := c.cell 7 _ rfl; have d8 := c.cell 8 _ rfl; clear c
      by_cases hlt : i < e.kids.length
      · have hki : (i : Int) < (e.kids.length : Int) := by omega
        obtain ⟨b, off, rm, sm, rn, sn, rk, sk, rfl, hbn, hyx, c0, c1, c2, c3, c4, c5, c6, c7, c8⟩ := (HKa.out.mono ((HBw.out.trans (HBl.out.mono HBw.out.size)).mono hn) (Nat.le_refl _)).getE (Cells.refl _ _) hlt; have hnw : n ≤ W0.heap.size := by have := HBw.out.size; have := HBl.out.size; omega
        have hys : e.kids[i].size ≤ 1000000 := by have h1 := sizes_step (l := e.kids) hlt; have h2 := sizes_take_le e.kids (i + 1); have h3 := e.size_eq; omega
        have HIH := Lib.hid (Hih.out e.kids[i] (List.getElem_mem hlt) _ n W0 hnw hyx (Ex.thin_kid Hth.out hlt) hys); have HNew := Lib.hid (fun (vk' : Value) (w' : World) (cs' : List Value) (lo hh : Nat) (h1 : C.heap.size ≤ lo) (h2 : hh ≤ w'.heap.size) (h3 : Fresh lo hh w' e.kids[i] cs') (h4 : ∀ g, vk'.ownBlock = some g → g < lo ∨ hh ≤ g) (h5 : KidsF C.heap.size w' vk' rows e.kids) => KidsF.snoc HRl.out hlt rfl h1 h2 h3 h4 h5); clear hyx hys; generalize e.kids[i] = y at *
        go_wp2_with fail
        refine HIH.out.mono ?_; rintro e' w2 ⟨cs', rfl, hfr, hb2⟩; obtain ⟨ym, yn, yk, rows', rfl, m1, m2, m3, -, -⟩ := hfr.cells; obtain ⟨qm, dm, rfl⟩ := ownsRow_slice m1.1; obtain ⟨qn, dn, rfl⟩ := ownsRow_slice m2.1; obtain ⟨qk, dk, rfl⟩ := ownsRow_slice m3.1; clear m1 m2 m3 c0 c1 c2 c3 c4 c5 c6 c7 c8 d0 d1 d2 d3 d4 d5 d6 d7 d8; have HFr := Lib.hid hfr; have HB2 := Lib.hid hb2; clear hfr hb2; have bA : Below w2.heap.size w2 (w2.alloc (.cells #[.int .i64 y.kind, .int .i64 y.fn, .int .i64 y.op, .int .i64 y.num, .string y.metric, .slice qm y.mats.length dm, .int .i64 y.span, .slice qn y.names.length dn, .slice qk y.kids.length dk] 37)) := (Below.refl _ _).alloc (Nat.le_refl _) _; have nA := Blk.new w2 [.int .i64 y.kind, .int .i64 y.fn, .int .i64 y.op, .int .i64 y.num, .string y.metric, .slice qm y.mats.length dm, .int .i64 y.span, .slice qn y.names.length dn, .slice qk y.kids.length dk] 37; have hzA : (w2.alloc (.cells #[.int .i64 y.kind, .int .i64 y.fn, .int .i64 y.op, .int .i64 y.num, .string y.metric, .slice qm y.mats.length dm, .int .i64 y.span, .slice qn y.names.length dn, .slice qk y.kids.length dk] 37)).heap.size = w2.heap.size + 1 := World.size_alloc _ _; have hown2 := ownsRow_keep (ownsRow_keep HOwn.out HB2.out) bA; have hCs : C.heap.size ≤ w2.heap.size := Nat.le_trans HBl.out.size HB2.out.size
        go_wp2_with (at_builtin; refine wpList_append_src _ rfl _ _ _ rfl C.heap.size 37 i0 _ 9 128 Tryz.underlying35 hi hz0 hz1 hz2 rfl (by decide) _ i rows.flatten rfl hown2 (.slice (some ⟨w2.heap.size, 0, none⟩) 1 1) 1 [.int .i64 y.kind, .int .i64 y.fn, .int .i64 y.op, .int .i64 y.num, .string y.metric, .slice qm y.mats.length dm, .int .i64 y.span, .slice qn y.names.length dn, .slice qk y.kids.length dk] rfl (srcB nA rfl) (by intro u hu; simp at hu; rcases hu with rfl | rfl | rfl | rfl | rfl | rfl | rfl | rfl | rfl <;> rfl) (by unfold maxLen; omega) (by omega) (by simp; omega) ?_)
        intro vk' w4 hown4 hgr hat; obtain ⟨A, hA⟩ : ∃ z, w2.alloc (.cells #[.int .i64 y.kind, .int .i64 y.fn, .int .i64 y.op, .int .i64 y.num, .string y.metric, .slice qm y.mats.length dm, .int .i64 y.span, .slice qn y.names.length dn, .slice qk y.kids.length dk] 37) = z := ⟨_, rfl⟩; rw [hA] at bA hzA hown2 hgr; clear hA nA; have hb4 : Below C.heap.size C w4 := below_app ((HBl.out.trans (HB2.out.mono HBl.out.size)).trans (bA.mono hCs)) hown2 hgr (Nat.le_refl _) (by omega); have hv0 : ∀ g, u3.ownBlock = some g → C.heap.size ≤ g ∧ g < W0.heap.size := fun g hg => ownsRow_block HOwn.out g hg
        have hv4 : ∀ g, vk'.ownBlock = some g → u3.ownBlock = some g ∨ g = w2.heap.size + 1 := fun g hg => by
          rcases hat with h1 | h1
          · rw [h1] at hg; exact Or.inl hg
          · rw [h1] at hg; have := Option.some.inj hg; right; first | omega | (simp at this; omega)
        have hs02 := HB2.out.size; have hsz4 := hgr.size; have hkf4 : KidsF C.heap.size w4 vk' rows e.kids := HKf.out.turn (W' := w4) (by omega) (fun i h1 h2 h3 => (hgr.block i (by omega) (fun e => h3 e.symm)).trans ((bA.block i (by omega)).trans (HB2.out.block i h2))) (fun g hg => by
          rcases hv4 g hg with h1 | h1
          · exact Or.inl h1
          · right; omega)
        have hfr4 : Fresh W0.heap.size w2.heap.size w4 y [.int .i64 y.kind, .int .i64 y.fn, .int .i64 y.op, .int .i64 y.num, .string y.metric, .slice qm y.mats.length dm, .int .i64 y.span, .slice qn y.names.length dn, .slice qk y.kids.length dk] := HFr.out.keep (fun i h1 h2 => (hgr.block i (by omega) (fun e => by have := (hv0 i e.symm).2; omega)).trans (bA.block i h2)); have HKf4 := Lib.hid (HNew.out vk' w4 [.int .i64 y.kind, .int .i64 y.fn, .int .i64 y.op, .int .i64 y.num, .string y.metric, .slice qm y.mats.length dm, .int .i64 y.span, .slice qn y.names.length dn, .slice qk y.kids.length dk] W0.heap.size w2.heap.size HBl.out.size (by omega) hfr4 (fun g hg => by
          rcases hv4 g hg with h1 | h1
          · have := (hv0 g h1).2; omega
          · omega) hkf4)
        have Hown4 := Lib.hid hown4; have Hb4 := Lib.hid hb4; clear hkf4 hfr4 hown4 hb4 hv0 hv4 hgr hat hown2 bA hzA hsz4 hs02; go_wp2; refine ⟨⟨i + 1, rows ++ [[.int .i64 y.kind, .int .i64 y.fn, .int .i64 y.op, .int .i64 y.num, .string y.metric, .slice qm y.mats.length dm, .int .i64 y.span, .slice qn y.names.length dn, .slice qk y.kids.length dk]], by omega, by go_num, by rw [List.length_append, HRl.out]; rfl, ?_, HKf4.out, Hb4.out⟩, by simp [intOf]; omega⟩; rw [List.flatten_append]; exact Hown4.out
      · have hi2 : i = e.kids.length := by omega
        subst hi2; obtain ⟨ak, cak, hvk⟩ := ownsRow_slice HOwn.out; subst hvk; have fr8 := (HG1.out.keep HBl.out).free 8
        go_upto_region 8 with fail
        have hb1 := (HG1.out.keep HBl.out).set_ 8 (.slice ak e.kids.length cak); have og1 := OffM.cell1 W0 w.heap.size 8 (.slice ak e.kids.length cak); have hb2 := (HG2.out.keep HBl.out).far (p := ⟨w.heap.size, 8, none⟩) (by simp) (.slice ak e.kids.length cak); obtain ⟨X, hX⟩ : ∃ z, W0.setCell ⟨w.heap.size, 8, none⟩ (.slice ak e.kids.length cak) = z := ⟨_, rfl⟩; rw [hX] at hb1 og1 hb2 ⊢; clear hX d0 d1 d2 d3 d4 d5 d6 d7 d8 fr8; have HB1 := Lib.hid hb1; have HBB := Lib.hid hb2; have HOg := Lib.hid og1; have c := hb1; have c0 := c.cell 0 _ rfl; have c1 := c.cell 1 _ rfl; have c2 := c.cell 2 _ rfl; have c3 := c.cell 3 _ rfl; have c4 := c.cell 4 _ rfl; have c5 := c.cell 5 _ rfl; have c6 := c.cell 6 _ rfl; have c7 := c.cell 7 _ rfl; have c8 := c.cell 8 _ rfl; clear c hb1 hb2 og1
        go_wp2_with (refine wpList_store_row rfl 37 _ _ rfl (w.heap.size + 1) #[.int .i64 e.kind, .int .i64 e.fn, .int .i64 e.op, .int .i64 e.num, .string e.metric, .slice am e.mats.length cam, .int .i64 e.span, .slice an e.names.length can, .slice ak e.kids.length cak] rfl rfl 37 _ HBB.out (by kernel_rfl) rfl (by kernel_rfl) ?_)
        refine bodyPost_agg (g := w.heap.size + 1) (fr := (0, 0)) rfl rfl (setRow_at HBB.out _) Tryz.underlying37 rfl (by kernel_rfl) rfl ?_; have orw := OffM.row X (w.heap.size + 1) #[.int .i64 e.kind, .int .i64 e.fn, .int .i64 e.op, .int .i64 e.num, .string e.metric, .slice am e.mats.length cam, .int .i64 e.span, .slice an e.names.length can, .slice ak e.kids.length cak]; obtain ⟨Z, hZ⟩ : ∃ z, X.setRow (w.heap.size + 1) #[.int .i64 e.kind, .int .i64 e.fn, .int .i64 e.op, .int .i64 e.num, .string e.metric, .slice am e.mats.length cam, .int .i64 e.span, .slice an e.names.length can, .slice ak e.kids.length cak] = z := ⟨_, rfl⟩; rw [hZ] at orw ⊢; have hoff : OffM (fun k => k = w.heap.size ∨ k = w.heap.size + 1) W0 Z := OffM.trans (OffM.trans (OffM.of (Below.refl W0.heap.size W0)) HOg.out (fun i _ h => Or.inl h)) orw (fun i _ h => Or.inr h); have hzc := HzC.out; have hzy := HZY.out; have hsl := HBl.out.size; have hsz := hoff.size; have hbf : Below w.heap.size w Z := (HBw.out.trans (HBl.out.mono HBw.out.size)).trans (hoff.below (fun b hb => by rcases hb with h | h <;> omega) (by have := HBw.out.size; omega)); have how : ∀ {t sz m : Nat} {v : Value} {xs : List Value} {lo : Nat}, w.heap.size + 2 ≤ lo → W0.ownsRow lo t sz v m xs → OwnIn w.heap.size Z.heap.size Z t sz v m xs := fun hlo h => OwnIn.of_own (ownsRow_base (ownsRow_offM h hoff (fun g hg hm => by have := (ownsRow_block h g hg).1; omega)) (by omega)) (Nat.le_refl _)
        refine ⟨_, rfl, Fresh.of He.out HMa.out.2 HNa.out.2 (how (by omega) (ownsRow_keep HM8.out HBl.out)) (how (by omega) (ownsRow_keep HM12.out HBl.out)) (how (by omega) HOwn.out) HRl.out (fun k r x hr hx => ?_), hbf⟩; obtain ⟨lo, hi, g1, g2, g3, -⟩ := HKf.out k r x hr hx; exact (g3.keep (fun i h1 h2 => hoff.block i (by omega) (fun h => by omega))).more (by omega) (by omega)
end Go.Proofs.YtdjdikiimhhjpaaGreatDoor
namespace Go.Proofs.YtdjdikiimhhjpaaGreatDoor
open Go.RowKit
set_option linter.unusedSimpArgs false
set_option linter.unusedVariables false
def ThinP (p : List Nd) : Prop := ∀ x ∈ p, x.ex.thin
end Go.Proofs.YtdjdikiimhhjpaaGreatDoor
namespace Go.Proofs.YtdjdikiimhhjpaaGreatDoor
open Go.RowKit
set_option linter.unusedSimpArgs false
set_option linter.unusedVariables false
theorem ndQuery_bad {p : List Nd} {t : Int} (h : ndCheck p ≠ 0) : ndQuery p t = (0, noX, ndCheck p) := by unfold ndQuery; rw [if_neg h]
theorem ndQuery_arg {p : List Nd} {t : Int} (h : ndCheck p = 0) (h2 : ¬ (1 ≤ t ∧ t ≤ (p.length : Int))) : ndQuery p t = (0, noX, 2) := by unfold ndQuery; rw [if_pos h, if_neg h2]
theorem ndQuery_long {p : List Nd} {t : Int} (h : ndCheck p = 0) (h2 : 1 ≤ t ∧ t ≤ (p.length : Int)) (h3 : 200 < (exprAt p t).size ∨ 16 < (exprAt p t).deep) : ndQuery p t = (0, noX, 3) := by unfold ndQuery; rw [if_pos h, if_pos h2, if_pos h3]
theorem ndQuery_ok {p : List Nd} {t : Int} (h : ndCheck p = 0) (h2 : 1 ≤ t ∧ t ≤ (p.length : Int)) (h3 : ¬ (200 < (exprAt p t).size ∨ 16 < (exprAt p t).deep)) : ndQuery p t = (everyAt p t, exprAt p t, 0) := by unfold ndQuery; rw [if_pos h, if_pos h2, if_neg h3]
theorem everyAt_of {p : List Nd} {k : Nat} (h : k < p.length) : everyAt p ((k : Int) + 1) = p[k].every := by
  unfold everyAt
  rw [show ((k : Int) + 1).toNat - 1 = k by omega, List.getElem?_eq_getElem h]
theorem noX_is (n : Nat) (w : World) : IsEx n w noX [.int .i64 0, .int .i64 0, .int .i64 0, .int .i64 0, .string ⟨#[]⟩, .slice none 0 0, .int .i64 0, .slice none 0 0, .slice none 0 0] := .mk (by show 0 ≤ maxLen; simp [maxLen]) ⟨Arr.nil _ _ _, by simp⟩ ⟨Arr.nil _ _ _, by simp⟩ (Arr.nil _ _ _) rfl (fun k r e h => by simp at h)
end Go.Proofs.YtdjdikiimhhjpaaGreatDoor
namespace Go.Proofs.YtdjdikiimhhjpaaGreatDoor
open Go.RowKit
set_option linter.unusedSimpArgs false
set_option linter.unusedVariables false
theorem ndOnly_bad {p : List Nd} {roots : List Int} (h : ndCheck p ≠ 0) : ndOnly p roots = ([], [], ndCheck p) := by unfold ndOnly; rw [if_neg h]
theorem ndOnly_arg {p : List Nd} {roots : List Int} (h : ndCheck p = 0) (h2 : ¬ ∀ r ∈ roots, 1 ≤ r ∧ r ≤ (p.length : Int)) : ndOnly p roots = ([], [], 2) := by unfold ndOnly; rw [if_pos h, if_neg h2]
theorem ndOnly_ok {p : List Nd} {roots : List Int} (h : ndCheck p = 0) (h2 : ∀ r ∈ roots, 1 ≤ r ∧ r ≤ (p.length : Int)) : ndOnly p roots = ((onlyF p (usedL p roots) [] []).1, (onlyF p (usedL p roots) [] []).2, 0) := by unfold ndOnly; rw [if_pos h, if_pos h2]
theorem outs_iff {L : Nat} {roots : List Int} : roots.any (outB L) = false ↔ ∀ r ∈ roots, 1 ≤ r ∧ r ≤ (L : Int) := by
  rw [List.any_eq_false]
  constructor
  · intro h r hr; have := h r hr; unfold outB at this; simp at this; omega
  · intro h r hr; have := h r hr; unfold outB; simp; omega
theorem onlyF_step {p : List Nd} {m : List Bool} {k : Nat} (h : k < p.length) (q : List Nd) (tt : List Int) :
    onlyF (p.drop k) (m.drop k) q tt = if m.getD k false then onlyF (p.drop (k + 1)) (m.drop (k + 1)) (q ++ [⟨p[k].every, p[k].ex, p[k].ins.map (toAt tt)⟩]) (tt ++ [(q.length : Int) + 1]) else onlyF (p.drop (k + 1)) (m.drop (k + 1)) q (tt ++ [0]) := by
  rw [List.drop_eq_getElem_cons h, onlyF]
  have e1 : (m.drop k).headD false = m.getD k false := by rw [List.headD_eq_head?_getD, List.head?_drop, List.getD_eq_getElem?_getD]
  have e2 : (m.drop k).tail = m.drop (k + 1) := by rw [List.tail_drop]
  rw [e1, e2]
def toL (L : Nat) (tt : List Int) : List Int := tt ++ List.replicate (L - tt.length) 0
theorem toL_len {L : Nat} {tt : List Int} (h : tt.length ≤ L) : (toL L tt).length = L := by unfold toL; simp; omega
theorem toL_at {L : Nat} {tt : List Int} {j : Nat} (h : j < tt.length) : (toL L tt)[j]? = some (toAt tt ((j : Int) + 1)) := by
  unfold toL toAt
  rw [List.getElem?_append_left h, show ((j : Int) + 1).toNat - 1 = j by omega, List.getD_eq_getElem?_getD, List.getElem?_eq_getElem h]; rfl
theorem toL_set {L : Nat} {tt : List Int} (h : tt.length < L) (x : Int) : (toL L tt).set tt.length x = toL L (tt ++ [x]) := by
  unfold toL
  rw [List.set_append_right _ _ (Nat.le_refl _), Nat.sub_self]
  obtain ⟨d, hd⟩ : ∃ d, L - tt.length = d + 1 := ⟨L - tt.length - 1, by omega⟩
  rw [hd, List.replicate_succ, List.set_cons_zero, List.length_append, List.append_assoc]
  congr 2
  rw [List.length_singleton, show L - (tt.length + 1) = d by omega]
  rfl
theorem toL_next {L : Nat} {tt : List Int} (h : tt.length < L) : (toL L tt)[tt.length]? = some 0 := by
  unfold toL
  rw [List.getElem?_append_right (Nat.le_refl _), Nat.sub_self, List.getElem?_replicate, if_pos (by omega)]
theorem toL_zero {L : Nat} {tt : List Int} (h : tt.length < L) : toL L tt = toL L (tt ++ [0]) := by
  rw [← toL_set h]
  apply List.ext_getElem?
  intro i
  rw [List.getElem?_set]
  by_cases e : tt.length = i
  · subst e
    rw [if_pos rfl, if_pos (by rw [toL_len (Nat.le_of_lt h)]; exact h)]; unfold toL; rw [List.getElem?_append_right (Nat.le_refl _), Nat.sub_self, List.getElem?_replicate, if_pos (by omega)]
  · rw [if_neg e]
theorem Blk.put9 {W : World} {g t : Nat} {z0 z1 z2 z3 z4 z5 z6 z7 z8 z9 z10 : Value} (h : Blk W g t [z0, z1, z2, z3, z4, z5, z6, z7, z8, z9, z10]) (v1 v2 v3 v4 v5 v6 v7 v8 v9 : Value) :
    Blk (((((((((W.setCell ⟨g, 1, none⟩ v1).setCell ⟨g, 2, none⟩ v2).setCell ⟨g, 3, none⟩ v3).setCell ⟨g, 4, none⟩ v4).setCell ⟨g, 5, none⟩ v5).setCell ⟨g, 6, none⟩ v6).setCell ⟨g, 7, none⟩ v7).setCell ⟨g, 8, none⟩ v8).setCell ⟨g, 9, none⟩ v9) g t [z0, v1, v2, v3, v4, v5, v6, v7, v8, v9, z10] :=
  ((((((((h.set_ 1 v1).set_ 2 v2).set_ 3 v3).set_ 4 v4).set_ 5 v5).set_ 6 v6).set_ 7 v7).set_ 8 v8).set_ 9 v9
theorem off9 (W : World) (g : Nat) (v1 v2 v3 v4 v5 v6 v7 v8 v9 : Value) :
    OffM (fun k => k = g) W (((((((((W.setCell ⟨g, 1, none⟩ v1).setCell ⟨g, 2, none⟩ v2).setCell ⟨g, 3, none⟩ v3).setCell ⟨g, 4, none⟩ v4).setCell ⟨g, 5, none⟩ v5).setCell ⟨g, 6, none⟩ v6).setCell ⟨g, 7, none⟩ v7).setCell ⟨g, 8, none⟩ v8).setCell ⟨g, 9, none⟩ v9) :=
  ((((((((OffM.cell1 W g 1 v1).trans (OffM.cell1 _ g 2 v2) (fun _ _ h => h)).trans (OffM.cell1 _ g 3 v3) (fun _ _ h => h)).trans (OffM.cell1 _ g 4 v4) (fun _ _ h => h)).trans (OffM.cell1 _ g 5 v5) (fun _ _ h => h)).trans (OffM.cell1 _ g 6 v6) (fun _ _ h => h)).trans (OffM.cell1 _ g 7 v7) (fun _ _ h => h)).trans (OffM.cell1 _ g 8 v8) (fun _ _ h => h)).trans (OffM.cell1 _ g 9 v9) (fun _ _ h => h)
def mixL (f : Int → Int) (l : List Int) (i : Nat) : List Int := (l.map f).take i ++ l.drop i
theorem mixL_len (f : Int → Int) (l : List Int) (i : Nat) : (mixL f l i).length = l.length := by unfold mixL; simp; omega
theorem mixL_at {f : Int → Int} {l : List Int} {i : Nat} (h : i < l.length) : (mixL f l i)[i]? = some l[i] := by
  unfold mixL
  rw [List.getElem?_append_right (by simp; omega)]
  have : i - ((l.map f).take i).length = 0 := by simp; omega
  rw [this, List.getElem?_drop, Nat.add_zero, List.getElem?_eq_getElem h]
theorem mixL_set {f : Int → Int} {l : List Int} {i : Nat} (h : i < l.length) : (mixL f l i).set i (f l[i]) = mixL f l (i + 1) := by
  unfold mixL
  have hl : ((l.map f).take i).length = i := by simp; omega
  have hd : l.drop i = l[i] :: l.drop (i + 1) := List.drop_eq_getElem_cons h
  rw [List.set_append_right _ _ (by omega), hl, Nat.sub_self, hd, List.set_cons_zero, List.take_succ_eq_append_getElem (by simpa using h), List.append_assoc, List.getElem_map]
  rfl
theorem mixL_all (f : Int → Int) (l : List Int) : mixL f l l.length = l.map f := by unfold mixL; rw [List.drop_length, List.append_nil, List.take_of_length_le (by simp)]
theorem own_form {w : World} {base size n : Nat} {e : TypeId} {v : Value} {xs : List Value} (h : w.ownsRow base e size v n xs) (hn : 0 < n) : ∃ g cap, v = .slice (some ⟨g, 0, none⟩) n cap := by
  rcases h.2 with ⟨_, h0⟩ | ⟨g, cap, _, hv, _⟩
  · omega
  · exact ⟨g, cap, hv⟩
theorem infoN : (Tryz.prog.info? 39).map (fun i => (i.zero, i.size, i.bytes)) = some (some (.agg #[.int .i64 0, .int .i64 0, .int .i64 0, .int .i64 0, .int .i64 0, .string ⟨#[]⟩, .slice none 0 0, .int .i64 0, .slice none 0 0, .slice none 0 0, .slice none 0 0]), 11, 160) := by kernel_rfl
end Go.Proofs.YtdjdikiimhhjpaaGreatDoor
