/- SubsAll: the state of a round in memory; each method of the board, as SubsAll calls it; lists of times of the call's own. -/
import Derived.Test.YtfmolimnnheaoaaBm3
import Derived.Test.YtfmolimnnheaoaaBo0
import Derived.Test.YtfmolimnnheaoaaBe3
namespace Go.Proofs.Ytfmolimnnheaoaa
open Go.RowKit
set_option linter.unusedSimpArgs false
set_option linter.unusedVariables false
open Go.Maps

section
variable {base : Nat} {W W' : World} {g hq hs nq ns xq : Nat} {q : Option Nat} {b : Bd} {kv : Value} {bl : List Nat}
/-- What is none of a board's blocks turns. -/
theorem BrdM.offM {M : Nat → Prop} (h : BrdM base W g hq hs nq ns q b kv bl) (ho : OffM M W W') (hM : ∀ k, M k → ¬ BTy W.heap[k]?) : BrdM base W' g hq hs nq ns q b kv bl :=
  ⟨(ho.block _ h.blk.lt (fun m => hM _ m (BTyM.blk h.blk (.inl rfl) h.low.1).2)).trans h.blk,
   h.mq.keep (ho.block _ h.mq.lt (fun m => hM _ m (BTyM.map h.mq h.low.2.1).2)),
   h.ms.keep (ho.block _ h.ms.lt (fun m => hM _ m (BTyM.map h.ms h.low.2.2.1).2)), h.len,
   fun x hx => ⟨(ho.block _ (h.qb x hx).1.lt (fun m => hM _ m (BTyM.blk (h.qb x hx).1 (.inr (.inl rfl)) (h.qb x hx).2).2)).trans (h.qb x hx).1, (h.qb x hx).2⟩,
   ownsRow_offM h.kept ho (fun k hk m => hM _ m (BTyM.own h.kept hk).2),
   fun i s x h1 h2 => (ho.block _ (h.sb i s x h1 h2).lt (fun m => hM _ m (BTyM.blk (h.sb i s x h1 h2) (.inr (.inr (.inl rfl))) (h.low.2.2.2.2 x (List.mem_of_getElem? h2))).2)).trans (h.sb i s x h1 h2),
   h.nd, h.ids, h.next, h.low, h.num, h.subsN, h.keptN⟩
/-- Times of the call's own are none of a board's blocks. -/
theorem own_notB {lo : Nat} {v : Value} {l : List Int} (h : OwnI 2 lo W v l) {k : Nat} (hk : v.ownBlock = some k) : ¬ BTy W.heap[k]? := by
  rcases h.2 with ⟨rfl, _⟩ | ⟨g1, c1, u1, rfl, hb, hh, _⟩
  · cases hk
  · simp [Value.ownBlock] at hk
    subst hk
    rw [hh]
    intro h
    rcases h with h | h | h | h <;> exact absurd h (by decide)
theorem OwnI.offB {lo : Nat} {v : Value} {l : List Int} (h : OwnI 2 lo W v l) (ho : OffM (BTyM base W) W W') : OwnI 2 lo W' v l := h.offM ho (fun k hk m => own_notB h hk m.2)
theorem Blk.offB {x : Nat} {cs : List Value} (h : Blk W x 38 cs) (ho : OffM (BTyM base W) W W') : Blk W' x 38 cs :=
  (ho.block _ h.lt (fun m => by
    have m := m.2
    have h' : W.heap[x]? = some (.cells cs.toArray 38 (0, 0)) := h
    rw [h'] at m
    rcases m with h | h | h | h <;> exact absurd h (by decide))).trans h
end
/-- Two lists lie apart. -/
def Dis (v u : Value) : Prop := ∀ g, v.ownBlock = some g → u.ownBlock ≠ some g
theorem Dis.symm {v u : Value} (h : Dis v u) : Dis u v := fun g h1 h2 => h g h2 h1
theorem infoI64 : (Try.prog.info? 2).map (fun i => (i.zero, i.size, i.bytes)) = some (some (.int .i64 0), 1, 8) := by kernel_rfl
theorem app_i64 {ops : Array Oper} {rest : List Oper} {o : Oper} {a : Act} {w : World} {Q : Exit → Act → World → Prop} (hgd : o.guard = none) (s x : Operand)
    (ho : o.op = .call { callee := .builtin .append, args := #[s, x], argTypes := #[33, 33] }) (base : Nat) (v : Value) (l : List Int) (i : Int) (g : Nat)
    (hs : a.eval s = v) (hx : a.eval x = .slice (some ⟨g, 0, none⟩) 1 1) (hown : OwnI 2 base w v l) (hc : w.cell? ⟨g, 0, none⟩ = some (.int .i64 i)) (hl : l.length ≤ 1000000) (hbase : base ≤ w.heap.size)
    (h : ∀ v' w', OwnI 2 base w' v' (l ++ [i]) → w.grownBy w' v.ownBlock → (v'.ownBlock = v.ownBlock ∨ v'.ownBlock = some w.heap.size) → wpList Try.prog ops Q rest (a.put o.dst v') w') :
    wpList Try.prog ops Q (o :: rest) a w := by
  obtain ⟨i0, hi, hz0, hz1, hz2⟩ := info_parts infoI64
  refine wpList_append_src _ hgd s x 33 ho base 2 i0 (.int .i64 0) 1 8 Try.underlying33 hi hz0 hz1 hz2 rfl (by decide) v l.length _ hs hown _ 1 [.int .i64 i] hx (.inr ⟨⟨g, 0, none⟩, 1, rfl, rfl, ?_⟩) (by intro u hu; simp at hu; subst hu; rfl) (by unfold maxLen; omega) (by omega) hbase ?_
  · intro j u hj
    match j, hj with
    | 0, hj => simp at hj; subst hj; simpa [Addr.add] using hc
    | j + 1, hj => simp at hj
  · intro v' w' h1 h2 h3
    refine h v' w' ?_ h2 h3
    unfold OwnI
    rw [List.length_append, List.map_append]
    exact h1
theorem OwnI.cut {t base k : Nat} {w : World} {p : Option Addr} {n c : Nat} {l : List Int} (h : OwnI t base w (.slice p n c) l) (hk : k ≤ l.length) : OwnI t base w (.slice p k c) (l.take k) := by
  unfold OwnI at h ⊢
  rw [List.length_take, Nat.min_eq_left hk]
  refine ⟨by simp [Nat.min_eq_left hk], ?_⟩
  rcases h.2 with ⟨hv, hl⟩ | ⟨g, cap, cur, hv, hg, hh, h1, h2, h3, h4⟩
  · have : k = 0 := by omega
    subst this
    cases hv
    exact .inl ⟨rfl, rfl⟩
  · cases hv
    refine .inr ⟨g, c, cur, rfl, hg, hh, by omega, h2, h3, ?_⟩
    rw [List.map_take, ← h4, List.take_take]
    congr 1
    omega
/-- What SubsAll has of the board. -/
def SttP (P : Bd → Prop) (base g hq hs xq i : Nat) (W : World) (put : List Int) (k a : Nat) (t : Int) : Prop :=
  ∃ nq ns b kv bl, BrdM base W g hq hs nq ns (some xq) b kv bl ∧ SI i b put k a t ∧ ns ≤ i + 1 ∧ P b
def Stt := SttP fun _ => True
def AnsT (e : Ending) : Prop := ∃ x y : Int, e = .returned (.tuple #[.int .i64 x, .int .i64 y])
def AnsI (e : Ending) : Prop := ∃ x : Int, e = .returned (.int .i64 x)
def AnsNP (e : Ending) : Prop := ∃ x : Int, x ≤ 0 ∧ e = .returned (.int .i64 x)
section
variable {P : Bd → Prop} {base g hq hs xq i : Nat} {W W' : World} {put : List Int} {k a : Nat} {t : Int}
theorem SttP.keep (h : SttP P base g hq hs xq i W put k a t) (hb : Below W.heap.size W W') : SttP P base g hq hs xq i W' put k a t := by
  obtain ⟨nq, ns, b, kv, bl, h1, h2, h3, h4⟩ := h
  exact ⟨nq, ns, b, kv, bl, h1.keep hb, h2, h3, h4⟩
theorem SttP.more (h : SttP P base g hq hs xq i W put k a t) : SttP P base g hq hs xq (i + 1) W put k a t := by
  obtain ⟨nq, ns, b, kv, bl, h1, h2, h3, h4⟩ := h
  exact ⟨nq, ns, b, kv, bl, h1, h2.more, by omega, h4⟩
theorem SttP.any (h : SttP P base g hq hs xq i W put k a t) : Stt base g hq hs xq i W put k a t := by
  obtain ⟨nq, ns, b, kv, bl, h1, h2, h3, h4⟩ := h
  exact ⟨nq, ns, b, kv, bl, h1, h2, h3, trivial⟩
theorem SttP.grown {lo : Nat} {v : Value} {l : List Int} (h : SttP P base g hq hs xq i W put k a t) (hv : OwnI 2 lo W v l) (hg : W.grownBy W' v.ownBlock) : SttP P base g hq hs xq i W' put k a t := by
  obtain ⟨nq, ns, b, kv, bl, h1, h2, h3, h4⟩ := h
  exact ⟨nq, ns, b, kv, bl, h1.offM (OffM.grown hg) (fun m hm => own_notB hv hm), h2, h3, h4⟩
theorem stSub (h : Stt base g hq hs xq i W put k a t) (hi : i ≤ 60) (hbs : base ≤ W.heap.size) :
    Calls Try.prog 10 #[.pointer (some ⟨g, 0, none⟩), .int .i64 1] W fun e w' => AnsT e ∧ Stt base g hq hs xq (i + 1) w' put k a t ∧ OffM (BTyM base W) W w' := by
  obtain ⟨nq, ns, b, kv, bl, h1, h2, h3, -⟩ := h
  refine (bSubscribe h1 hbs (by have := h2.nx.2; omega) (by omega)).mono ?_
  rintro e w' ⟨rfl, ns', bl', hn, hB, ho⟩
  exact ⟨⟨_, _, rfl⟩, ⟨nq, ns', _, kv, bl', hB, si_join h2 _, by omega, trivial⟩, ho⟩
theorem stResume (x : Int) (h : Stt base g hq hs xq i W put k a t) (hi : i ≤ 60) (hbs : base ≤ W.heap.size) :
    Calls Try.prog 12 #[.pointer (some ⟨g, 0, none⟩), .int .i64 1, .int .i64 x] W fun e w' => AnsT e ∧ Stt base g hq hs xq (i + 1) w' put k a t ∧ OffM (BTyM base W) W w' := by
  obtain ⟨nq, ns, b, kv, bl, h1, h2, h3, -⟩ := h
  refine (bResume (t := x) h1 hbs (by have := h2.nx.2; omega) (by omega)).mono ?_
  rintro e w' ⟨rfl, ns', bl', hn, hB, ho⟩
  exact ⟨⟨_, _, rfl⟩, ⟨nq, ns', _, kv, bl', hB, si_resume h2 _, by omega, trivial⟩, ho⟩
theorem stGone {n : Int} (h : Stt base g hq hs xq i W put k a t) (hn : n ≠ 1) (h6 : i64 n) (hbs : base ≤ W.heap.size) :
    Calls Try.prog 13 #[.pointer (some ⟨g, 0, none⟩), .int .i64 n] W fun e w' => AnsI e ∧ SttP (fun b => findB b n = none) base g hq hs xq i w' put k a t ∧ OffM (BTyM base W) W w' := by
  obtain ⟨nq, ns, b, kv, bl, h1, h2, h3, -⟩ := h
  refine (bUnsub (n := n) h1 h6 (rise_kept h2.inv) hbs).mono ?_
  rintro e w' ⟨kv', bl', rfl, hB, ho⟩
  exact ⟨⟨_, rfl⟩, ⟨nq, ns, _, kv', bl', hB, si_gone h2 hn, h3, gone_find b n⟩, ho⟩
theorem stBackN {n : Int} (h : SttP (fun b => findB b n = none) base g hq hs xq i W put k a t) (h6 : i64 n) :
    Calls Try.prog 14 #[.pointer (some ⟨g, 0, none⟩), .int .i64 n] W fun e w' => AnsI e ∧ SttP (fun b => findB b n = none) base g hq hs xq i w' put k a t ∧ OffM (BTyM base W) W w' := by
  obtain ⟨nq, ns, b, kv, bl, h1, h2, h3, h4⟩ := h
  refine (bBack (n := n) h1 h6).mono ?_
  rintro e w' ⟨rfl, hB, ho⟩
  rw [back_none h4] at hB
  exact ⟨⟨_, rfl⟩, ⟨nq, ns, b, kv, bl, hB, h2, h3, h4⟩, ho⟩
theorem stAckN {n : Int} (x : Int) (h : SttP (fun b => findB b n = none) base g hq hs xq i W put k a t) (h6 : i64 n) (hbs : base ≤ W.heap.size) :
    Calls Try.prog 15 #[.pointer (some ⟨g, 0, none⟩), .int .i64 n, .int .i64 x] W fun e w' => AnsI e ∧ Stt base g hq hs xq i w' put k a t ∧ OffM (BTyM base W) W w' := by
  obtain ⟨nq, ns, b, kv, bl, h1, h2, h3, h4⟩ := h
  refine (bAck (n := n) (t := x) h1 h6 (rise_kept h2.inv) hbs).mono ?_
  rintro e w' ⟨kv', rfl, hB, ho⟩
  rw [ack_none h4] at hB
  exact ⟨⟨_, rfl⟩, ⟨nq, ns, b, kv', bl, hB, h2, h3, trivial⟩, ho⟩
theorem stBack (h : Stt base g hq hs xq i W put k a t) :
    Calls Try.prog 14 #[.pointer (some ⟨g, 0, none⟩), .int .i64 1] W fun e w' => e = .returned (.int .i64 0) ∧ Stt base g hq hs xq i w' put a a t ∧ OffM (BTyM base W) W w' := by
  obtain ⟨nq, ns, b, kv, bl, h1, h2, h3, h4⟩ := h
  refine (bBack (n := 1) h1 ⟨by omega, by omega⟩).mono ?_
  rintro e w' ⟨rfl, hB, ho⟩
  obtain ⟨e1, e2⟩ := si_back h2
  rw [e1]
  exact ⟨rfl, ⟨nq, ns, _, kv, bl, hB, e2, h3, trivial⟩, ho⟩
theorem stAck {a' : Nat} {x : Int} (h : Stt base g hq hs xq i W put k a t) (h1a : a ≤ a') (h2a : a' ≤ k) (hx : x = lastK put a') (hbs : base ≤ W.heap.size) :
    Calls Try.prog 15 #[.pointer (some ⟨g, 0, none⟩), .int .i64 1, .int .i64 x] W fun e w' => e = .returned (.int .i64 0) ∧ Stt base g hq hs xq i w' put k a' t ∧ OffM (BTyM base W) W w' := by
  obtain ⟨nq, ns, b, kv, bl, h1, h2, h3, h4⟩ := h
  subst hx
  refine (bAck (n := 1) (t := lastK put a') h1 ⟨by omega, by omega⟩ (rise_kept h2.inv) hbs).mono ?_
  rintro e w' ⟨kv', rfl, hB, ho⟩
  obtain ⟨e1, e2⟩ := si_ack h2 h1a h2a
  rw [e1]
  exact ⟨rfl, ⟨nq, ns, _, kv', bl, hB, e2, h3, trivial⟩, ho⟩
def PollR (base g hq hs xq i : Nat) (W : World) (put : List Int) (k a : Nat) (t m : Int) (e : Ending) (w' : World) : Prop :=
  ∃ v, e = .returned (.tuple #[v, .int .i64 0]) ∧ OwnT W.heap.size w' v ((put.drop k).take (max 0 m).toNat) ∧ Stt base g hq hs xq i w' put (k + ((put.drop k).take (max 0 m).toNat).length) a t ∧ OffM (BTyM base W) W w'
theorem stPoll {m : Int} (h : Stt base g hq hs xq i W put k a t) (hm : i64 m) (hbs : base ≤ W.heap.size) :
    Calls Try.prog 16 #[.pointer (some ⟨g, 0, none⟩), .int .i64 1, .int .i64 m] W (PollR base g hq hs xq i W put k a t m) := by
  obtain ⟨nq, ns, b, kv, bl, h1, h2, h3, h4⟩ := h
  refine (bPoll (n := 1) h1 ⟨by omega, by omega⟩ hm (rise_kept h2.inv) hbs).mono ?_
  rintro e w' ⟨v, rfl, hO, hB, ho⟩
  obtain ⟨e1, e2, e3⟩ := si_poll h2 m
  rw [e1] at hO
  rw [e2]
  exact ⟨v, rfl, hO, ⟨nq, ns, _, kv, bl, hB, e3, h3, trivial⟩, ho⟩
def PutR (base g hq hs xq i : Nat) (W : World) (put : List Int) (k a : Nat) (t' : Int) (e : Ending) (w' : World) : Prop :=
  ((e = .returned (.int .i64 0) ∧ Stt base g hq hs xq (i + 1) w' (put ++ [t']) k a t') ∨ (e = .returned (.int .i64 9) ∧ SttP (fun b => b.room ≤ b.kept.length) base g hq hs xq (i + 1) w' put k a t')) ∧ OffM (BTyM base W) W w'
theorem stPut {p : Int} (h : Stt base g hq hs xq i W put k a t) (hp : 0 ≤ p ∧ p < 9) (hi : i ≤ 60) (hbs : base ≤ W.heap.size) :
    Calls Try.prog 17 #[.pointer (some ⟨g, 0, none⟩), .int .i64 1, .agg #[.int .i64 (t + 1 + p), .slice none 0 0]] W (PutR base g hq hs xq i W put k a (t + 1 + p)) := by
  obtain ⟨nq, ns, b, kv, bl, h1, h2, h3, h4⟩ := h
  refine (bPut (t := t + 1 + p) h1 (rise_kept h2.inv) (kept_last h2.inv) hbs).mono ?_
  rintro e w' ⟨rfl, kv', hB, ho⟩
  refine ⟨?_, ho⟩
  rcases si_put h2 hi hp with ⟨e1, e2⟩ | ⟨e1, e2, e3, e4⟩
  · rw [e1]
    exact .inl ⟨rfl, nq, ns, _, kv', bl, hB, e2, by omega, trivial⟩
  · rw [e1]
    rw [e2] at hB
    exact .inr ⟨rfl, nq, ns, b, kv', bl, hB, e4, by omega, e3⟩
theorem stRoom (h : SttP (fun b => b.room ≤ b.kept.length) base g hq hs xq i W put k a t) :
    Calls Try.prog 19 #[.pointer (some ⟨g, 0, none⟩), .int .i64 1] W fun e w' => AnsNP e ∧ Below W.heap.size W w' := by
  obtain ⟨nq, ns, b, kv, bl, h1, h2, h3, h4⟩ := h
  refine (bRoom h1).mono ?_
  rintro e w' ⟨rfl, hb⟩
  exact ⟨⟨_, by omega, rfl⟩, hb⟩
end
def SmN (m : Nat) (e : Ending) : Prop := (AnsB e ∧ m ≤ 60) ∨ e = .returned (.bool false)
set_option maxRecDepth 100000 in
set_option maxHeartbeats 4000000 in
/-- small: true of at most 60 calls alone. -/
theorem bSmallN {n : Nat} {v : Value} {rows : List (List Value)} {W : World} (hl : IsCalls n W v rows) (hn : n ≤ W.heap.size) :
    Calls Try.prog 11 #[v] W fun e w' => SmN rows.length e ∧ Below W.heap.size W w' := by
  obtain ⟨p, cap, rfl, h1, h2, -⟩ := id hl.1
  have Hl := Lib.hid hl
  unfold maxLen at h2
  have hlen : (rows.length : Int) ≤ 9223372036854775807 := by omega
  have Hn := Lib.hid hn
  clear hl
  go_enter Try.func11, Try.ntmps11; (try simp only [List.append_eq, List.cons_append, List.nil_append])
  go_wp2
  go_loopw [3] (fun j wr => ∃ k : Nat, k ≤ rows.length ∧ k ≤ 61 ∧ j = .int .i64 k ∧ Below W.heap.size W wr) (fun j _ => 62 - (intOf j).toNat)
  case atStart => exact ⟨0, Nat.zero_le _, by omega, rfl, Below.refl _ _⟩
  case round =>
    obtain ⟨k, hk, hk31, rfl, hb⟩ := hrel
    have HB := Lib.hid hb
    have hsz := hb.size
    clear hb
    by_cases hlt : k < rows.length ∧ k ≤ 60
    · obtain ⟨h5, h6⟩ := hlt
      have hki : (k : Int) < (rows.length : Int) := by omega
      have hkj : (k : Int) ≤ 60 := by omega
      obtain ⟨r, hr⟩ : ∃ r, rows[k]? = some r := ⟨_, List.getElem?_eq_getElem h5⟩
      obtain ⟨lv, labs, hr0, hlab⟩ := Hl.out.2 r (List.mem_of_getElem? hr)
      obtain ⟨b1, o1, rfl, hb1, hc⟩ := Arr.at (Arr.mono Hl.out.1 (HB.out.mono Hn.out) (Nat.le_refl _)) k r hr
      have d0 : wr.cell? ⟨b1, o1 + k * 7 + 5, none⟩ = some lv := hc 5 _ hr0
      have d1 : wr.cell? ⟨b1, o1 + k * 7 + 4 + 1, none⟩ = some lv := hc 5 _ hr0
      have hw1 : b1 < wr.heap.size := by omega
      have HC := Lib.hid (kLightVector ⟨Arr.mono hlab.1 (HB.out.mono Hn.out) (Nat.le_refl _), fun r hr => by obtain ⟨a, c, h8, h9⟩ := hlab.2 r hr; exact ⟨a, c, h8, Arr.mono h9 (HB.out.mono Hn.out) (Nat.le_refl _)⟩⟩ (Nat.le_trans Hn.out hsz))
      clear hc hr hr0 hlab
      go_wp2_with fail
      refine HC.out.mono ?_
      rintro e w2 ⟨⟨b, rfl⟩, hb2⟩
      have HB2 := Lib.hid (HB.out.trans (hb2.mono hsz))
      clear hb2
      cases b with
      | true =>
        go_wp2
        exact ⟨⟨k + 1, by omega, by omega, by go_num, HB2.out⟩, by simp [intOf]; omega⟩
      | false =>
        go_wp2
        go_ret
        exact ⟨.inr rfl, HB2.out⟩
    · by_cases h5 : k < rows.length
      · have hki : (k : Int) < (rows.length : Int) := by omega
        have hkj : ¬ (k : Int) ≤ 60 := by omega
        have h6 : ¬ (rows.length : Int) ≤ 60 := by omega
        go_wp2
        go_ret
        exact ⟨.inr rfl, HB.out⟩
      · have hki : ¬ (k : Int) < (rows.length : Int) := by omega
        by_cases h6 : rows.length ≤ 60
        · have h7 : (rows.length : Int) ≤ 60 := by omega
          go_wp2
          go_ret
          exact ⟨.inl ⟨⟨_, rfl⟩, h6⟩, HB.out⟩
        · have h7 : ¬ (rows.length : Int) ≤ 60 := by omega
          go_wp2
          go_ret
          exact ⟨.inr rfl, HB.out⟩
def pick (a m : Int) : Int := if a.tmod m < 0 then a.tmod m + m else a.tmod m
theorem kPick (a m : Int) (w : World) (ha : i64 a) (hm : 1 ≤ m ∧ m ≤ 9223372036854775807) :
    Calls Try.prog 7 #[.int .i64 a, .int .i64 m] w fun e w' => e = .returned (.int .i64 (pick a m)) ∧ w = w' := by
  obtain ⟨a1, a2⟩ := ha
  obtain ⟨m1, m2⟩ := hm
  go_enter Try.func7, Try.ntmps7; (try simp only [List.append_eq, List.cons_append, List.nil_append])
  have h1 : a.tmod m < m := Int.tmod_lt_of_pos a (by omega)
  have h2 : -m < a.tmod m := by have := Int.lt_tmod_of_pos a (show 0 < m by omega); omega
  go_wp2
  all_goals go_ret
  all_goals refine ⟨ret_int ?_, rfl⟩
  · unfold pick; rw [if_pos (by assumption)]
  · unfold pick; rw [if_neg (by omega)]
theorem pick_bd (a m : Int) (hm : 1 ≤ m) : 0 ≤ pick a m ∧ pick a m < m := by
  have h1 : a.tmod m < m := Int.tmod_lt_of_pos a (by omega)
  have h2 : -m < a.tmod m := by have := Int.lt_tmod_of_pos a (show 0 < m by omega); omega
  unfold pick
  split <;> omega
end Go.Proofs.Ytfmolimnnheaoaa
