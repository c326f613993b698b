/- (*Board).Subscribe, Resume, sub. -/
import Derived.Test.YtfmolimnnheaoaaBc0
namespace Go.Proofs.Ytfmolimnnheaoaa
open Go.RowKit
set_option linter.unusedSimpArgs false
set_option linter.unusedVariables false
open Go.Maps

section
variable {base : Nat} {W W' : World} {g hq hs nq ns xq : Nat} {q : Option Nat} {b b' : Bd} {kv kv' : Value} {bl : List Nat}
set_option maxRecDepth 100000 in
set_option maxHeartbeats 4000000 in
theorem bSubscribe0 (n : Int) (W : World) : Calls Try.prog 10 #[.pointer none, .int .i64 n] W fun e w' => e = .returned (.tuple #[.int .i64 0, .int .i64 1]) ∧ w' = W := by
  go_enter Try.func10, Try.ntmps10; (try simp only [List.append_eq, List.cons_append, List.nil_append])
  go_wp2_with fail
  refine (bMade0 _).mono ?_
  rintro e w2 ⟨rfl, rfl⟩
  go_wp2
  go_ret2
  exact ⟨rfl, rfl⟩
theorem bResume0 (n t : Int) (W : World) : Calls Try.prog 12 #[.pointer none, .int .i64 n, .int .i64 t] W fun e w' => e = .returned (.tuple #[.int .i64 0, .int .i64 1]) ∧ w' = W := by
  go_enter Try.func12, Try.ntmps12; (try simp only [List.append_eq, List.cons_append, List.nil_append])
  go_wp2_with fail
  refine (bMade0 _).mono ?_
  rintro e w2 ⟨rfl, rfl⟩
  go_wp2
  go_ret2
  exact ⟨rfl, rfl⟩
set_option maxRecDepth 100000 in
set_option maxHeartbeats 4000000 in
theorem bSubscribe (h : BrdM base W g hq hs nq ns (some xq) b kv bl) (hbs : base ≤ W.heap.size) (hnx : b.next + 1 ≤ 100000) (hns : ns + 1 ≤ 100000) :
    Calls Try.prog 10 #[.pointer (some ⟨g, 0, none⟩), .int .i64 1] W fun e w' => e = .returned (.tuple #[.int .i64 (joinB b b.last).2.1, .int .i64 (joinB b b.last).2.2]) ∧ ∃ ns' bl', ns' ≤ ns + 1 ∧ BrdM base w' g hq hs nq ns' (some xq) (joinB b b.last).1 kv bl' ∧ OffM (BTyM base W) W w' := by
  have H := Lib.hid h
  have hg := h.blk.lt
  have hxq := (h.qb xq rfl).1
  have hxl := hxq.lt
  have c1 : W.cell? ⟨g, 1, none⟩ = some (.map (some hq)) := h.blk.cell 1 _ rfl
  have d1 : W.cell? ⟨xq, 1, none⟩ = some (.int .i64 b.last) := hxq.cell 1 _ rfl
  have hlook := h.lookQ
  clear h hxq
  have HC := Lib.hid (bJoin H.out H.out.num.2.2.1 hbs hnx hns)
  obtain ⟨jr, hjr⟩ : ∃ r, joinB b b.last = r := ⟨_, rfl⟩
  rw [hjr] at HC ⊢
  clear hjr
  go_enter Try.func10, Try.ntmps10; (try simp only [List.append_eq, List.cons_append, List.nil_append])
  go_wp2_with fail
  refine (bMade H.out.blk).mono ?_
  rintro e w2 ⟨rfl, rfl⟩
  go_wp2_with fail
  refine HC.out.mono ?_
  rintro e w3 ⟨rfl, ns', bl', h1, h2, h3⟩
  have H2 := Lib.hid h2; have H3 := Lib.hid h3
  clear h2 h3
  go_wp2
  go_ret2
  exact ⟨rfl, ns', bl', h1, H2.out, H3.out⟩
set_option maxRecDepth 100000 in
set_option maxHeartbeats 4000000 in
theorem bResume {t : Int} (h : BrdM base W g hq hs nq ns (some xq) b kv bl) (hbs : base ≤ W.heap.size) (hnx : b.next + 1 ≤ 100000) (hns : ns + 1 ≤ 100000) :
    Calls Try.prog 12 #[.pointer (some ⟨g, 0, none⟩), .int .i64 1, .int .i64 t] W fun e w' => e = .returned (.tuple #[.int .i64 (resumeB b t).2.1, .int .i64 (resumeB b t).2.2]) ∧ ∃ ns' bl', ns' ≤ ns + 1 ∧ BrdM base w' g hq hs nq ns' (some xq) (resumeB b t).1 kv bl' ∧ OffM (BTyM base W) W w' := by
  have H := Lib.hid h
  have hg := h.blk.lt
  have hxq := (h.qb xq rfl).1
  have hxl := hxq.lt
  have c1 : W.cell? ⟨g, 1, none⟩ = some (.map (some hq)) := h.blk.cell 1 _ rfl
  have d1 : W.cell? ⟨xq, 2, none⟩ = some (.int .i64 b.floor) := hxq.cell 2 _ rfl
  have hlook := h.lookQ
  clear h hxq
  obtain ⟨rr, hrr⟩ : ∃ r, resumeB b t = r := ⟨_, rfl⟩
  rw [hrr]
  unfold resumeB maxTimeB at hrr
  have HR := Lib.hid hrr
  clear hrr
  by_cases ht : 0 ≤ t ∧ t ≤ 1099511627776
  · have HC := Lib.hid (bJoin H.out ht hbs hnx hns)
    have hdt := decide_eq_true ht
    have Ht := Lib.hid ht
    by_cases hf : t < b.floor
    · have HR := Lib.hid ((if_pos hf).symm.trans ((if_neg (show ¬ (t < 0 ∨ 1099511627776 < t) by omega)).symm.trans HR.out))
      clear HC ht
      go_enter Try.func12, Try.ntmps12; (try simp only [List.append_eq, List.cons_append, List.nil_append])
      go_wp2_with fail
      refine (bMade H.out.blk).mono ?_
      rintro e w2 ⟨rfl, rfl⟩
      go_wp2_with fail
      refine (bTime t _).mono ?_
      rintro e w2 ⟨rfl, rfl⟩
      rw [hdt]
      go_wp2
      go_ret2
      have hr := HR.out
      subst hr
      exact ⟨rfl, ns, bl, by omega, H.out, OffM.refl _ _⟩
    · have HR := Lib.hid ((if_neg hf).symm.trans ((if_neg (show ¬ (t < 0 ∨ 1099511627776 < t) by omega)).symm.trans HR.out))
      obtain ⟨jr, hjr⟩ : ∃ r, joinB b t = r := ⟨_, rfl⟩
      rw [hjr] at HC HR
      clear hjr ht
      go_enter Try.func12, Try.ntmps12; (try simp only [List.append_eq, List.cons_append, List.nil_append])
      go_wp2_with fail
      refine (bMade H.out.blk).mono ?_
      rintro e w2 ⟨rfl, rfl⟩
      go_wp2_with fail
      refine (bTime t _).mono ?_
      rintro e w2 ⟨rfl, rfl⟩
      rw [hdt]
      go_wp2_with fail
      refine HC.out.mono ?_
      rintro e w3 ⟨rfl, ns', bl', h1, h2, h3⟩
      have H2 := Lib.hid h2; have H3 := Lib.hid h3
      clear h2 h3
      go_wp2
      go_ret2
      have hr := HR.out
      subst hr
      exact ⟨rfl, ns', bl', h1, H2.out, H3.out⟩
  · have HR := Lib.hid ((if_pos (show t < 0 ∨ 1099511627776 < t by omega)).symm.trans HR.out)
    have hdt := decide_eq_false ht
    clear ht
    go_enter Try.func12, Try.ntmps12; (try simp only [List.append_eq, List.cons_append, List.nil_append])
    go_wp2_with fail
    refine (bMade H.out.blk).mono ?_
    rintro e w2 ⟨rfl, rfl⟩
    go_wp2_with fail
    refine (bTime t _).mono ?_
    rintro e w2 ⟨rfl, rfl⟩
    rw [hdt]
    go_wp2
    go_ret2
    have hr := HR.out
    subst hr
    exact ⟨rfl, ns, bl, by omega, H.out, OffM.refl _ _⟩
/-! ### sub -/
theorem look_none {n : Int} (h : findB b n = none) : lookE ((b.subs.map Sb.id).zip bl) n = none := by
  unfold lookE
  rw [List.find?_eq_none.2]
  · rfl
  · intro x hx
    obtain ⟨i, hi, rfl⟩ := List.getElem_of_mem hx
    rw [List.getElem_zip]
    simp only [List.getElem_map]
    unfold findB at h
    exact List.find?_eq_none.1 h _ (List.getElem_mem _)
theorem find_at {n : Int} {s : Sb} (h : BrdM base W g hq hs nq ns q b kv bl) (hf : findB b n = some s) : s.id = n ∧ ∃ (k : Nat) (x : Nat), b.subs[k]? = some s ∧ bl[k]? = some x := by
  unfold findB at hf
  have h1 := List.find?_some hf
  obtain ⟨k, hk, hs⟩ := List.getElem_of_mem (List.mem_of_find?_eq_some hf)
  exact ⟨by simpa using h1, k, bl[k]'(by rw [h.len]; exact hk), by rw [List.getElem?_eq_getElem hk, hs], List.getElem?_eq_getElem _⟩
theorem bSub0 (n : Int) (W : World) : Calls Try.prog 32 #[.pointer none, .int .i64 n] W fun e w' => e = .returned (.tuple #[.pointer none, .int .i64 1]) ∧ w' = W := by
  go_enter Try.func32, Try.ntmps32; (try simp only [List.append_eq, List.cons_append, List.nil_append])
  go_wp2_with fail
  refine (bMade0 _).mono ?_
  rintro e w2 ⟨rfl, rfl⟩
  go_wp2
  go_ret2
  exact ⟨rfl, rfl⟩
set_option maxRecDepth 100000 in
theorem bSubNone {n : Int} (h : BrdM base W g hq hs nq ns q b kv bl) (hn : i64 n) (hf : findB b n = none) :
    Calls Try.prog 32 #[.pointer (some ⟨g, 0, none⟩), .int .i64 n] W fun e w' => e = .returned (.tuple #[.pointer none, .int .i64 6]) ∧ w' = W := by
  have hlook : (Instr.lookup 57 (.map (some hs)) (.int .i64 n) false).run Try.prog W = .ok (.pointer none) W := by
    have := h.ms.lookS hn
    rw [look_none hf] at this
    exact this
  have H := Lib.hid h
  have hg := h.blk.lt
  have c2 : W.cell? ⟨g, 2, none⟩ = some (.map (some hs)) := h.blk.cell 2 _ rfl
  clear h
  go_enter Try.func32, Try.ntmps32; (try simp only [List.append_eq, List.cons_append, List.nil_append])
  go_wp2_with fail
  refine (bMade H.out.blk).mono ?_
  rintro e w2 ⟨rfl, rfl⟩
  go_wp2
  go_ret2
  exact ⟨rfl, rfl⟩
set_option maxRecDepth 100000 in
theorem bSub {k x : Nat} {s : Sb} (h : BrdM base W g hq hs nq ns q b kv bl) (h1 : b.subs[k]? = some s) (h2 : bl[k]? = some x) :
    Calls Try.prog 32 #[.pointer (some ⟨g, 0, none⟩), .int .i64 s.id] W fun e w' => e = .returned (.tuple #[.pointer (some ⟨x, 0, none⟩), .int .i64 0]) ∧ w' = W := by
  have hlook := h.lookS h1 h2
  have H := Lib.hid h
  have hg := h.blk.lt
  have c2 : W.cell? ⟨g, 2, none⟩ = some (.map (some hs)) := h.blk.cell 2 _ rfl
  clear h
  go_enter Try.func32, Try.ntmps32; (try simp only [List.append_eq, List.cons_append, List.nil_append])
  go_wp2_with fail
  refine (bMade H.out.blk).mono ?_
  rintro e w2 ⟨rfl, rfl⟩
  go_wp2
  go_ret2
  exact ⟨rfl, rfl⟩
end
end Go.Proofs.Ytfmolimnnheaoaa
