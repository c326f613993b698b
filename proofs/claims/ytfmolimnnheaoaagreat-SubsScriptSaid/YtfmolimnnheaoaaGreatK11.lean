/- A board of many queries in memory (the program's), and what of it turns. (For SubsScript.) No walk here. -/
import Derived.Test.YtfmolimnnheaoaaGreatK7
import Derived.Test.YtfmolimnnheaoaaGreatK10
import Derived.Test.YtfmolimnnheaoaaGreatK9
namespace Go.Proofs.YtfmolimnnheaoaaGreat
open Go.RowKit
set_option linter.unusedSimpArgs false
set_option linter.unusedVariables false
open Go.Maps

theorem MapB.mp {W : World} {g n : Nat} {l : List (Int × Nat)} (h : MapB W g n l) : MpB W g := by
  obtain ⟨es, clock, h1, -⟩ := h
  exact ⟨_, _, h1⟩
theorem MapB.insAny {t e : Nat} (ht : Tryz.prog.underlying t = some (.map 3 e)) {W : World} {g m : Nat} {l : List (Int × Nat)} (h : MapB W g m l) (hm : m ≤ 200000) {n : Int} (hn : i64 n) (hl : ∀ x ∈ l, x.1 ≠ n) (b : Nat) :
    ∃ W', (Instr.mapUpdate t (.map (some g)) (.int .i64 n) (.pointer (some ⟨b, 0, none⟩))).run Tryz.prog W = .ok () W' ∧ MapB W' g (m + 1) (l.take (placeN Prod.fst n l) ++ (n, b) :: l.drop (placeN Prod.fst n l)) ∧ W.grownBy W' (some g) := by
  obtain ⟨W', hrun, ho, hg⟩ := World.ownsMap.update h (int_keyed Tryz.underlying3) ht (by unfold maxLen; omega) (keyI hn) (val := .pointer (some ⟨b, 0, none⟩)) (d := .lit (.int .i64 b)) (ps := []) rfl
  exact ⟨W', hrun, by unfold MapB; rw [← putE_any l n b hl]; exact ho, hg⟩
theorem MapB.drop {t e : Nat} (ht : Tryz.prog.underlying t = some (.map 3 e)) {W : World} {g m : Nat} {l : List (Int × Nat)} (h : MapB W g m l) {n : Int} (hn : i64 n) (ty : Nat) :
    ∃ W', (Builtin.delete_ #[t, 3] ty #[.map (some g), .int .i64 n]).run Tryz.prog W = .ok (.tuple #[]) W' ∧ MapB W' g m (l.filter fun x => x.1 != n) ∧ W.grownBy W' (some g) := by
  obtain ⟨W', hrun, ho, hg⟩ := World.ownsMap.drop h (int_keyed Tryz.underlying3) ht (keyI hn) ty
  exact ⟨W', hrun, by unfold MapB; rw [← delE]; exact ho, hg.grown⟩
def qPair (e : QE) : Int × Nat := (e.id, e.blk)
def sPair (e : SE) : Int × Nat := (e.s.id, e.blk)
structure BrdA (base : Nat) (W : World) (g hq hs nq ns : Nat) (room id : Int) (Q : List QE) (S : List SE) : Prop where
  blk : Blk W g 55 [.int .i64 room, .map (some hq), .map (some hs), .int .i64 (id + 1)]
  mq : MapB W hq nq (Q.map qPair)
  ms : MapB W hs ns (S.map sPair)
  q : Fam (QMem base) QFoot W Q
  s : Fam (SMem base) SFoot W S
  low : base ≤ g ∧ base ≤ hq ∧ base ≤ hs ∧ hq ≠ hs
/-- The blocks of a board. -/
def FootA (g hq hs : Nat) (Q : List QE) (S : List SE) (k : Nat) : Prop := k = g ∨ k = hq ∨ k = hs ∨ (∃ e ∈ Q, QFoot e k) ∨ ∃ s ∈ S, SFoot s k
section
variable {base : Nat} {W W' : World} {g hq hs nq ns : Nat} {room id : Int} {Q : List QE} {S : List SE} {M : Nat → Prop}
theorem BrdA.foot (h : BrdA base W g hq hs nq ns room id Q S) {k : Nat} (hk : FootA g hq hs Q S k) : base ≤ k ∧ ((∃ t, TyB W k t ∧ t ≠ 95 ∧ t ≠ 106) ∨ MpB W k) := by
  rcases hk with rfl | rfl | rfl | ⟨e, he, hk⟩ | ⟨s, hs, hk⟩
  · exact ⟨h.low.1, .inl ⟨_, h.blk.ty, by decide, by decide⟩⟩
  · exact ⟨h.low.2.1, .inr h.mq.mp⟩
  · exact ⟨h.low.2.2.1, .inr h.ms.mp⟩
  · obtain ⟨h1, h2⟩ := (h.q.mem e he).ty hk
    refine ⟨h1, .inl ?_⟩
    rcases h2 with h2 | h2
    · exact ⟨_, h2, by decide, by decide⟩
    · exact ⟨_, h2, by decide, by decide⟩
  · obtain ⟨h1, h2⟩ := (h.s.mem s hs).ty hk
    exact ⟨h1, .inl ⟨_, h2, by decide, by decide⟩⟩
theorem BrdA.quiet (h : BrdA base W g hq hs nq ns room id Q S) : Quiet base W (FootA g hq hs Q S) := Quiet.of_ty fun _ hk => h.foot hk
theorem BrdA.foot_lt (h : BrdA base W g hq hs nq ns room id Q S) {k : Nat} (hk : FootA g hq hs Q S k) : k < W.heap.size := by
  rcases (h.foot hk).2 with ⟨t, ht, -⟩ | ⟨es, c, hm⟩
  · exact ht.lt
  · exact (Array.getElem?_eq_some_iff.1 hm).1
theorem BrdA.off (h : BrdA base W g hq hs nq ns room id Q S) (ho : OffM M W W') (hq' : Quiet base W M) (hM : ∀ k, FootA g hq hs Q S k → ¬ M k) : BrdA base W' g hq hs nq ns room id Q S :=
  ⟨(ho.block _ h.blk.lt (hM _ (.inl rfl))).trans h.blk, h.mq.keep (ho.block _ h.mq.lt (hM _ (.inr (.inl rfl)))), h.ms.keep (ho.block _ h.ms.lt (hM _ (.inr (.inr (.inl rfl))))),
    h.q.off (qStays base) ho hq' fun e he k hk => hM k (.inr (.inr (.inr (.inl ⟨e, he, hk⟩)))), h.s.off (sStays base) ho hq' fun e he k hk => hM k (.inr (.inr (.inr (.inr ⟨e, he, hk⟩)))), h.low⟩
theorem BrdA.keep (h : BrdA base W g hq hs nq ns room id Q S) (hb : Below W.heap.size W W') : BrdA base W' g hq hs nq ns room id Q S := h.off (OffM.of (M := fun _ => False) hb) (Quiet.none _ _) fun _ _ h => h
/-- No block of a query is another one of the board. -/
theorem BrdA.qne (h : BrdA base W g hq hs nq ns room id Q S) {e : QE} (he : e ∈ Q) {k : Nat} (hk : QFoot e k) : k ≠ g ∧ k ≠ hq ∧ k ≠ hs ∧ ∀ s ∈ S, ¬ SFoot s k := by
  have h2 := ((h.q.mem e he).ty hk).2
  refine ⟨?_, ?_, ?_, fun s hs hk2 => ?_⟩
  · rcases h2 with h2 | h2 <;> exact h2.ne h.blk.ty (by decide)
  · rcases h2 with h2 | h2 <;> exact h2.neM h.mq.mp
  · rcases h2 with h2 | h2 <;> exact h2.neM h.ms.mp
  · have h3 := ((h.s.mem s hs).ty hk2).2
    rcases h2 with h2 | h2 <;> exact h2.ne h3 (by decide) rfl
theorem BrdA.sne (h : BrdA base W g hq hs nq ns room id Q S) {s : SE} (hs' : s ∈ S) {k : Nat} (hk : SFoot s k) : k ≠ g ∧ k ≠ hq ∧ k ≠ hs ∧ ∀ e ∈ Q, ¬ QFoot e k := by
  have h2 := ((h.s.mem s hs').ty hk).2
  exact ⟨h2.ne h.blk.ty (by decide), h2.neM h.mq.mp, h2.neM h.ms.mp, fun e he hk2 => (h.qne he hk2).2.2.2 s hs' hk⟩
theorem map_set_pair {i : Nat} {e e' : QE} (hi : Q[i]? = some e) (h : qPair e' = qPair e) : (Q.set i e').map qPair = Q.map qPair := by
  rw [List.map_set, h]
  obtain ⟨hl, rfl⟩ := List.getElem?_eq_some_iff.1 hi
  apply List.ext_getElem?
  intro j
  by_cases hij : i = j
  · subst hij; rw [List.getElem?_set_self (by rw [List.length_map]; exact hl)]; simp [hl]
  · rw [List.getElem?_set_ne hij]
theorem map_set_pairS {i : Nat} {e e' : SE} (hi : S[i]? = some e) (h : sPair e' = sPair e) : (S.set i e').map sPair = S.map sPair := by
  rw [List.map_set, h]
  obtain ⟨hl, rfl⟩ := List.getElem?_eq_some_iff.1 hi
  apply List.ext_getElem?
  intro j
  by_cases hij : i = j
  · subst hij; rw [List.getElem?_set_self (by rw [List.length_map]; exact hl)]; simp [hl]
  · rw [List.getElem?_set_ne hij]
/-- A query turns. -/
theorem BrdA.setQ (h : BrdA base W g hq hs nq ns room id Q S) {i : Nat} {e e' : QE} (hi : Q[i]? = some e) (hp : qPair e' = qPair e) (ho : OffM M W W') (hM : ∀ k, k < W.heap.size → M k → QFoot e k) (hm : QMem base W' e') (hf : ∀ k, QFoot e' k → QFoot e k ∨ W.heap.size ≤ k) :
    BrdA base W' g hq hs nq ns room id (Q.set i e') S ∧ Turn (FootA g hq hs Q S) W (FootA g hq hs (Q.set i e') S) W' := by
  have he := List.mem_of_getElem? hi
  have ho := ho.more (N := QFoot e) hM
  have hq1 : Quiet base W (QFoot e) := fun k hk hl => h.quiet k (.inr (.inr (.inr (.inl ⟨e, he, hk⟩)))) hl
  refine ⟨⟨(ho.block _ h.blk.lt fun hk => (h.qne he hk).1 rfl).trans h.blk, ?_, h.ms.keep (ho.block _ h.ms.lt fun hk => (h.qne he hk).2.2.1 rfl), h.q.set (qStays base) hi ho hq1 (fun e2 h2 k hk hk2 => hk2) hm hf,
    h.s.off (sStays base) ho hq1 fun s hs k hk hk2 => (h.qne he hk2).2.2.2 s hs hk, h.low⟩, ho.more fun k hl hk => .inr (.inr (.inr (.inl ⟨e, he, hk⟩))), fun k hk => ?_⟩
  · rw [map_set_pair hi hp]
    exact h.mq.keep (ho.block _ h.mq.lt fun hk => (h.qne he hk).2.1 rfl)
  · rcases hk with hk | hk | hk | ⟨e2, he2, hk⟩ | hk
    · exact .inl (.inl hk)
    · exact .inl (.inr (.inl hk))
    · exact .inl (.inr (.inr (.inl hk)))
    · rcases List.mem_or_eq_of_mem_set he2 with h2 | rfl
      · exact .inl (.inr (.inr (.inr (.inl ⟨e2, h2, hk⟩))))
      · rcases hf k hk with h3 | h3
        · exact .inl (.inr (.inr (.inr (.inl ⟨e, he, h3⟩))))
        · exact .inr h3
    · exact .inl (.inr (.inr (.inr (.inr hk))))
/-- A subscriber turns. -/
theorem BrdA.setS (h : BrdA base W g hq hs nq ns room id Q S) {i : Nat} {e e' : SE} (hi : S[i]? = some e) (hp : sPair e' = sPair e) (ho : OffM M W W') (hM : ∀ k, k < W.heap.size → M k → SFoot e k) (hm : SMem base W' e') :
    BrdA base W' g hq hs nq ns room id Q (S.set i e') ∧ Turn (FootA g hq hs Q S) W (FootA g hq hs Q (S.set i e')) W' := by
  have he := List.mem_of_getElem? hi
  have ho := ho.more (N := SFoot e) hM
  have hq1 : Quiet base W (SFoot e) := fun k hk hl => h.quiet k (.inr (.inr (.inr (.inr ⟨e, he, hk⟩)))) hl
  have hf : ∀ k, SFoot e' k → SFoot e k := fun k hk => by
    unfold SFoot at *
    rw [hk]; exact congrArg Prod.snd hp
  refine ⟨⟨(ho.block _ h.blk.lt fun hk => (h.sne he hk).1 rfl).trans h.blk, h.mq.keep (ho.block _ h.mq.lt fun hk => (h.sne he hk).2.1 rfl), ?_, h.q.off (qStays base) ho hq1 fun s hs k hk hk2 => (h.sne he hk2).2.2.2 s hs hk,
    h.s.set (sStays base) hi ho hq1 (fun e2 h2 k hk hk2 => hk2) hm (fun k hk => .inl (hf k hk)), h.low⟩, ho.more fun k hl hk => .inr (.inr (.inr (.inr ⟨e, he, hk⟩))), fun k hk => ?_⟩
  · rw [map_set_pairS hi hp]
    exact h.ms.keep (ho.block _ h.ms.lt fun hk => (h.sne he hk).2.2.1 rfl)
  · rcases hk with hk | hk | hk | hk | ⟨e2, he2, hk⟩
    · exact .inl (.inl hk)
    · exact .inl (.inr (.inl hk))
    · exact .inl (.inr (.inr (.inl hk)))
    · exact .inl (.inr (.inr (.inr (.inl hk))))
    · rcases List.mem_or_eq_of_mem_set he2 with h2 | rfl
      · exact .inl (.inr (.inr (.inr (.inr ⟨e2, h2, hk⟩))))
      · exact .inl (.inr (.inr (.inr (.inr ⟨e, he, hf k hk⟩))))
end
/-! ### a board and its plain one -/
structure StI (base g i : Nat) (W : World) (b : GB) (hq hs nq ns : Nat) (Q : List QE) (S : List SE) : Prop where
  m : BrdA base W g hq hs nq ns b.room b.id Q S
  q : b.q = Q.map QE.qy
  s : b.s = S.map SE.s
  inv : GInv b
  num : nq ≤ i ∧ ns ≤ i ∧ b.id ≤ i ∧ i ≤ 10000
  ids : ∀ x ∈ b.q, i64 x.id
  lo : base ≤ W.heap.size
def StA (base g i : Nat) (F : Nat → Prop) (W : World) (b : GB) : Prop := ∃ hq hs nq ns Q S, StI base g i W b hq hs nq ns Q S ∧ F = FootA g hq hs Q S
section
variable {base : Nat} {W W' : World} {g i hq hs nq ns : Nat} {b : GB} {Q : List QE} {S : List SE} {M F : Nat → Prop}
theorem StI.keep (h : StI base g i W b hq hs nq ns Q S) (hb : Below W.heap.size W W') : StI base g i W' b hq hs nq ns Q S := ⟨h.m.keep hb, h.q, h.s, h.inv, h.num, h.ids, Nat.le_trans h.lo hb.size⟩
theorem StI.off (h : StI base g i W b hq hs nq ns Q S) (ho : OffM M W W') (hq' : Quiet base W M) (hM : ∀ k, FootA g hq hs Q S k → ¬ M k) : StI base g i W' b hq hs nq ns Q S := ⟨h.m.off ho hq' hM, h.q, h.s, h.inv, h.num, h.ids, Nat.le_trans h.lo ho.size⟩
theorem StI.more {i' : Nat} (h : StI base g i W b hq hs nq ns Q S) (hi : i ≤ i') (h9 : i' ≤ 10000) : StI base g i' W b hq hs nq ns Q S := ⟨h.m, h.q, h.s, h.inv, ⟨Nat.le_trans h.num.1 hi, Nat.le_trans h.num.2.1 hi, Int.le_trans h.num.2.2.1 (by omega), h9⟩, h.ids, h.lo⟩
theorem StI.st (h : StI base g i W b hq hs nq ns Q S) : StA base g i (FootA g hq hs Q S) W b := ⟨hq, hs, nq, ns, Q, S, h, rfl⟩
theorem StA.keep (h : StA base g i F W b) (hb : Below W.heap.size W W') : StA base g i F W' b := by
  obtain ⟨hq, hs, nq, ns, Q, S, h, rfl⟩ := h
  exact (h.keep hb).st
theorem StA.off (h : StA base g i F W b) (ho : OffM M W W') (hq' : Quiet base W M) (hM : ∀ k, F k → ¬ M k) : StA base g i F W' b := by
  obtain ⟨hq, hs, nq, ns, Q, S, h, rfl⟩ := h
  exact (h.off ho hq' hM).st
theorem StA.more {i' : Nat} (h : StA base g i F W b) (hi : i ≤ i') (h9 : i' ≤ 10000) : StA base g i' F W b := by
  obtain ⟨hq, hs, nq, ns, Q, S, h, rfl⟩ := h
  exact (h.more hi h9).st
theorem StA.quiet (h : StA base g i F W b) : Quiet base W F := by
  obtain ⟨hq, hs, nq, ns, Q, S, h, rfl⟩ := h
  exact h.m.quiet
theorem StA.lt (h : StA base g i F W b) {k : Nat} (hk : F k) : k < W.heap.size := by
  obtain ⟨hq, hs, nq, ns, Q, S, h, rfl⟩ := h
  exact h.m.foot_lt hk
theorem StA.inv (h : StA base g i F W b) : GInv b := by
  obtain ⟨hq, hs, nq, ns, Q, S, h, rfl⟩ := h
  exact h.inv
theorem StA.lo (h : StA base g i F W b) : base ≤ W.heap.size := by
  obtain ⟨hq, hs, nq, ns, Q, S, h, rfl⟩ := h
  exact h.lo
/-! ### finding -/
theorem StI.qIds (h : StI base g i W b hq hs nq ns Q S) : (Q.map QE.id).Pairwise (· < ·) := by
  have h1 := h.inv.qs
  rw [h.q, List.map_map] at h1
  exact h1
theorem StI.sIds (h : StI base g i W b hq hs nq ns Q S) : (S.map fun e => e.s.id).Pairwise (· < ·) := by
  have h1 := h.inv.ss
  rw [h.s, List.map_map] at h1
  exact h1
theorem StI.findQ (h : StI base g i W b hq hs nq ns Q S) (id : Int) : findQ b id = (Q.find? fun e => e.id == id).map QE.qy := by
  unfold Go.Proofs.YtfmolimnnheaoaaGreat.findQ
  rw [h.q, List.find?_map]
  rfl
theorem StI.findU (h : StI base g i W b hq hs nq ns Q S) (n : Int) : findU b n = (S.find? fun e => e.s.id == n).map SE.s := by
  unfold Go.Proofs.YtfmolimnnheaoaaGreat.findU
  rw [h.s, List.find?_map]
  rfl
theorem find_get {α : Type} {p : α → Bool} {l : List α} {x : α} (h : l.find? p = some x) : p x = true ∧ ∃ k : Nat, l[k]? = some x := by
  refine ⟨List.find?_some h, ?_⟩
  obtain ⟨k, hk, rfl⟩ := List.getElem_of_mem (List.mem_of_find?_eq_some h)
  exact ⟨k, List.getElem?_eq_getElem hk⟩
theorem StI.atQ (h : StI base g i W b hq hs nq ns Q S) {id : Int} {x : Qy (List Rs)} (hf : Go.Proofs.YtfmolimnnheaoaaGreat.findQ b id = some x) : ∃ (k : Nat) (e : QE), Q[k]? = some e ∧ e.qy = x ∧ e.id = id := by
  rw [h.findQ] at hf
  cases he : Q.find? fun e => e.id == id with
  | none => rw [he] at hf; cases hf
  | some e =>
    rw [he] at hf
    obtain ⟨h1, k, hk⟩ := find_get he
    exact ⟨k, e, hk, Option.some.inj hf, by simpa using h1⟩
theorem StI.atU (h : StI base g i W b hq hs nq ns Q S) {n : Int} {x : Su} (hf : Go.Proofs.YtfmolimnnheaoaaGreat.findU b n = some x) : ∃ (k : Nat) (e : SE), S[k]? = some e ∧ e.s = x ∧ e.s.id = n := by
  rw [h.findU] at hf
  cases he : S.find? fun e => e.s.id == n with
  | none => rw [he] at hf; cases hf
  | some e =>
    rw [he] at hf
    obtain ⟨h1, k, hk⟩ := find_get he
    exact ⟨k, e, hk, Option.some.inj hf, by simpa using h1⟩
theorem lookE_map {α : Type} (f : α → Int × Nat) (l : List α) (n : Int) : lookE (l.map f) n = (l.find? fun e => (f e).1 == n).map fun e => (f e).2 := by
  unfold lookE
  rw [List.find?_map, Option.map_map]
  rfl
theorem find_uniq {α : Type} {key : α → Int} {l : List α} (h : (l.map key).Pairwise (· < ·)) {k : Nat} {x : α} (hk : l[k]? = some x) : (l.find? fun e => key e == key x) = some x := by
  cases hf : l.find? fun e => key e == key x with
  | none =>
    have := List.find?_eq_none.1 hf x (List.mem_of_getElem? hk)
    simp at this
  | some y =>
    obtain ⟨h1, j, hj⟩ := find_get hf
    have := at_one h hj hk (by simpa using h1)
    subst this
    rw [hj] at hk
    exact hk
theorem StI.lookQ (h : StI base g i W b hq hs nq ns Q S) {k : Nat} {e : QE} (hk : Q[k]? = some e) : (Instr.lookup 52 (.map (some hq)) (.int .i64 e.id) false).run Tryz.prog W = .ok (.pointer (some ⟨e.blk, 0, none⟩)) W := by
  have hi : i64 e.id := h.ids e.qy (by rw [h.q]; exact List.mem_map.2 ⟨e, List.mem_of_getElem? hk, rfl⟩)
  have h1 := h.m.mq.lookQ hi
  rw [lookE_map, show (fun x => (qPair x).1 == e.id) = fun x : QE => x.id == e.id from rfl, find_uniq h.qIds hk] at h1
  exact h1
theorem StI.lookQN (h : StI base g i W b hq hs nq ns Q S) {id : Int} (hi : i64 id) (hf : Go.Proofs.YtfmolimnnheaoaaGreat.findQ b id = none) : (Instr.lookup 52 (.map (some hq)) (.int .i64 id) false).run Tryz.prog W = .ok (.pointer none) W := by
  have h1 := h.m.mq.lookQ hi
  rw [h.findQ] at hf
  have hf := Option.map_eq_none_iff.1 hf
  rw [lookE_map, show (fun x => (qPair x).1 == id) = fun x : QE => x.id == id from rfl, hf] at h1
  exact h1
theorem StI.lookS (h : StI base g i W b hq hs nq ns Q S) {k : Nat} {e : SE} (hk : S[k]? = some e) : (Instr.lookup 53 (.map (some hs)) (.int .i64 e.s.id) false).run Tryz.prog W = .ok (.pointer (some ⟨e.blk, 0, none⟩)) W := by
  have hm : e.s ∈ b.s := by rw [h.s]; exact List.mem_map.2 ⟨e, List.mem_of_getElem? hk, rfl⟩
  have hi : i64 e.s.id := by
    have h1 := (h.inv.uok _ hm).id
    have h2 := h.num
    constructor <;> omega
  have h1 := h.m.ms.lookS hi
  rw [lookE_map, show (fun x => (sPair x).1 == e.s.id) = fun x : SE => x.s.id == e.s.id from rfl, find_uniq (key := fun x : SE => x.s.id) h.sIds hk] at h1
  exact h1
theorem StI.lookSN (h : StI base g i W b hq hs nq ns Q S) {n : Int} (hi : i64 n) (hf : Go.Proofs.YtfmolimnnheaoaaGreat.findU b n = none) : (Instr.lookup 53 (.map (some hs)) (.int .i64 n) false).run Tryz.prog W = .ok (.pointer none) W := by
  have h1 := h.m.ms.lookS hi
  rw [h.findU] at hf
  have hf := Option.map_eq_none_iff.1 hf
  rw [lookE_map, show (fun x => (sPair x).1 == n) = fun x : SE => x.s.id == n from rfl, hf] at h1
  exact h1
/-! ### turning -/
theorem StI.setQ (h : StI base g i W b hq hs nq ns Q S) {k : Nat} {e e' : QE} (hk : Q[k]? = some e) (hp : qPair e' = qPair e) (ho : OffM M W W') (hM : ∀ k, k < W.heap.size → M k → QFoot e k) (hm : QMem base W' e') (hf : ∀ k, QFoot e' k → QFoot e k ∨ W.heap.size ≤ k)
    (f : Qy (List Rs) → Qy (List Rs)) (he : e'.qy = f e.qy) (hinv : GInv { b with q := turnQ e.id f b.q }) :
    StI base g i W' { b with q := turnQ e.id f b.q } hq hs nq ns (Q.set k e') S ∧ Turn (FootA g hq hs Q S) W (FootA g hq hs (Q.set k e') S) W' := by
  obtain ⟨h1, h2⟩ := h.m.setQ hk hp ho hM hm hf
  have e1 : turnQ e.id f b.q = (Q.set k e').map QE.qy := by
    rw [List.map_set, he]
    unfold turnQ
    refine (turn_set (key := Qy.id) h.inv.qs (i := k) (x := e.qy) ?_ rfl f).trans ?_
    · rw [h.q, List.getElem?_map, hk]; rfl
    · rw [h.q]
  refine ⟨⟨h1, e1, h.s, hinv, h.num, fun x hx => ?_, Nat.le_trans h.lo ho.size⟩, h2⟩
  rw [show ({ b with q := turnQ e.id f b.q } : GB).q = _ from e1] at hx
  obtain ⟨y, hy, rfl⟩ := List.mem_map.1 hx
  rcases List.mem_or_eq_of_mem_set hy with h3 | rfl
  · exact h.ids _ (by rw [h.q]; exact List.mem_map.2 ⟨y, h3, rfl⟩)
  · have : y.qy.id = e.id := congrArg Prod.fst hp
    rw [this]
    exact h.ids e.qy (by rw [h.q]; exact List.mem_map.2 ⟨e, List.mem_of_getElem? hk, rfl⟩)
theorem StI.setS (h : StI base g i W b hq hs nq ns Q S) {k : Nat} {e : SE} (hk : S[k]? = some e) (f : Su → Su) (hid : (f e.s).id = e.s.id) (ho : OffM M W W') (hM : ∀ k, k < W.heap.size → M k → SFoot e k) (hm : Blk W' e.blk 73 (subV (f e.s)))
    (hinv : GInv { b with s := turnU e.s.id f b.s }) :
    StI base g i W' { b with s := turnU e.s.id f b.s } hq hs nq ns Q (S.set k ⟨f e.s, e.blk⟩) ∧ Turn (FootA g hq hs Q S) W (FootA g hq hs Q (S.set k ⟨f e.s, e.blk⟩)) W' := by
  obtain ⟨h1, h2⟩ := h.m.setS (e' := ⟨f e.s, e.blk⟩) hk (by unfold sPair; rw [hid]) ho hM ⟨hm, (h.m.s.mem e (List.mem_of_getElem? hk)).2⟩
  have e1 : turnU e.s.id f b.s = (S.set k ⟨f e.s, e.blk⟩).map SE.s := by
    rw [List.map_set]
    unfold turnU
    refine (turn_set (key := Su.id) h.inv.ss (i := k) (x := e.s) ?_ rfl f).trans ?_
    · rw [h.s, List.getElem?_map, hk]; rfl
    · rw [h.s]
  exact ⟨⟨h1, h.q, e1, hinv, h.num, h.ids, Nat.le_trans h.lo ho.size⟩, h2⟩
end
end Go.Proofs.YtfmolimnnheaoaaGreat
