/- Room, Kept, Settled, Floor, Last, Subs, Queries, Open, Close: of the board that nobody made, and what the laws ask of one that was. -/
import Derived.Test.YtfmolimnnheaoaaBc5
namespace Go.Proofs.Ytfmolimnnheaoaa
open Go.RowKit
set_option linter.unusedSimpArgs false
set_option linter.unusedVariables false
open Go.Maps

set_option maxRecDepth 100000 in
theorem bOpen0 (n t : Int) (W : World) : Calls Try.prog 9 #[.pointer none, .int .i64 n, .int .i64 t] W fun e w' => e = .returned (.int .i64 1) ∧ w' = W := by
  go_enter Try.func9, Try.ntmps9; (try simp only [List.append_eq, List.cons_append, List.nil_append])
  go_wp2_with fail
  refine (bMade0 _).mono ?_
  rintro e w2 ⟨rfl, rfl⟩
  go_wp2
  go_ret
  exact ⟨rfl, rfl⟩
set_option maxRecDepth 100000 in
theorem bClose0 (n : Int) (W : World) : Calls Try.prog 20 #[.pointer none, .int .i64 n] W fun e w' => e = .returned (.int .i64 1) ∧ w' = W := by
  go_enter Try.func20, Try.ntmps20; (try simp only [List.append_eq, List.cons_append, List.nil_append])
  go_wp2_with fail
  refine (bMade0 _).mono ?_
  rintro e w2 ⟨rfl, rfl⟩
  go_wp2
  go_ret
  exact ⟨rfl, rfl⟩
set_option maxRecDepth 100000 in
theorem bQueries0  (W : World) : Calls Try.prog 26 #[.pointer none] W fun e w' => e = .returned (.slice none 0 0) ∧ w' = W := by
  go_enter Try.func26, Try.ntmps26; (try simp only [List.append_eq, List.cons_append, List.nil_append])
  go_wp2_with fail
  refine (bMade0 _).mono ?_
  rintro e w2 ⟨rfl, rfl⟩
  go_wp2
  go_ret
  exact ⟨rfl, rfl⟩
set_option maxRecDepth 100000 in
theorem bSettled0 (n : Int) (W : World) : Calls Try.prog 21 #[.pointer none, .int .i64 n] W fun e w' => e = .returned (.int .i64 0) ∧ Below W.heap.size W w' := by
  go_enter Try.func21, Try.ntmps21; (try simp only [List.append_eq, List.cons_append, List.nil_append])
  go_wp2_with fail
  refine (bFind0 _ _).mono ?_
  rintro e w2 ⟨rfl, hb⟩
  have HB := Lib.hid hb
  have hsz := hb.size
  clear hb
  go_wp2_with (refine wpList_store_new rfl 63 _ _ rfl #[.slice none 0 0, .int .i64 0, .int .i64 0] _ _ rfl rfl (by kernel_rfl) rfl (by kernel_rfl) ?_)
  go_ret
  exact ⟨rfl, HB.out.alloc hsz _⟩
set_option maxRecDepth 100000 in
theorem bFloor0 (n : Int) (W : World) : Calls Try.prog 22 #[.pointer none, .int .i64 n] W fun e w' => e = .returned (.int .i64 0) ∧ Below W.heap.size W w' := by
  go_enter Try.func22, Try.ntmps22; (try simp only [List.append_eq, List.cons_append, List.nil_append])
  go_wp2_with fail
  refine (bFind0 _ _).mono ?_
  rintro e w2 ⟨rfl, hb⟩
  have HB := Lib.hid hb
  have hsz := hb.size
  clear hb
  go_wp2_with (refine wpList_store_new rfl 63 _ _ rfl #[.slice none 0 0, .int .i64 0, .int .i64 0] _ _ rfl rfl (by kernel_rfl) rfl (by kernel_rfl) ?_)
  go_ret
  exact ⟨rfl, HB.out.alloc hsz _⟩
set_option maxRecDepth 100000 in
theorem bLast0 (n : Int) (W : World) : Calls Try.prog 23 #[.pointer none, .int .i64 n] W fun e w' => e = .returned (.int .i64 0) ∧ Below W.heap.size W w' := by
  go_enter Try.func23, Try.ntmps23; (try simp only [List.append_eq, List.cons_append, List.nil_append])
  go_wp2_with fail
  refine (bFind0 _ _).mono ?_
  rintro e w2 ⟨rfl, hb⟩
  have HB := Lib.hid hb
  have hsz := hb.size
  clear hb
  go_wp2_with (refine wpList_store_new rfl 63 _ _ rfl #[.slice none 0 0, .int .i64 0, .int .i64 0] _ _ rfl rfl (by kernel_rfl) rfl (by kernel_rfl) ?_)
  go_ret
  exact ⟨rfl, HB.out.alloc hsz _⟩
set_option maxRecDepth 100000 in
theorem bRoom0 (n : Int) (W : World) : Calls Try.prog 19 #[.pointer none, .int .i64 n] W fun e w' => e = .returned (.int .i64 0) ∧ Below W.heap.size W w' := by
  go_enter Try.func19, Try.ntmps19; (try simp only [List.append_eq, List.cons_append, List.nil_append])
  go_wp2_with fail
  refine (bFind0 _ _).mono ?_
  rintro e w2 ⟨rfl, hb⟩
  have HB := Lib.hid hb
  have hsz := hb.size
  clear hb
  go_wp2_with (refine wpList_store_new rfl 63 _ _ rfl #[.slice none 0 0, .int .i64 0, .int .i64 0] _ _ rfl rfl (by kernel_rfl) rfl (by kernel_rfl) ?_)
  go_ret
  exact ⟨rfl, HB.out.alloc hsz _⟩
set_option maxRecDepth 100000 in
theorem bSubs0 (n : Int) (W : World) : Calls Try.prog 25 #[.pointer none, .int .i64 n] W fun e w' => e = .returned (.slice none 0 0) ∧ Below W.heap.size W w' := by
  go_enter Try.func25, Try.ntmps25; (try simp only [List.append_eq, List.cons_append, List.nil_append])
  go_wp2_with fail
  refine (bFind0 _ _).mono ?_
  rintro e w2 ⟨rfl, hb⟩
  have HB := Lib.hid hb
  have hsz := hb.size
  clear hb
  go_wp2_with (refine wpList_store_new rfl 63 _ _ rfl #[.slice none 0 0, .int .i64 0, .int .i64 0] _ _ rfl rfl (by kernel_rfl) rfl (by kernel_rfl) ?_)
  go_ret
  exact ⟨rfl, HB.out.alloc hsz _⟩
set_option maxRecDepth 100000 in
theorem bKept0 (n : Int) (W : World) : Calls Try.prog 24 #[.pointer none, .int .i64 n] W fun e w' => ∃ a c, e = .returned (.slice a 0 c) ∧ Below W.heap.size W w' := by
  go_enter Try.func24, Try.ntmps24; (try simp only [List.append_eq, List.cons_append, List.nil_append])
  go_wp2_with fail
  refine (bFind0 _ _).mono ?_
  rintro e w2 ⟨rfl, hb⟩
  have HB := Lib.hid hb
  have hsz := hb.size
  clear hb
  go_wp2_with (refine wpList_store_new rfl 63 _ _ rfl #[.slice none 0 0, .int .i64 0, .int .i64 0] _ _ rfl rfl (by kernel_rfl) rfl (by kernel_rfl) ?_)
  refine (bCopied (n := 0) (l := []) (Arr.nil _ _ _) (Nat.zero_le _) (by simp)).mono ?_
  rintro e w3 ⟨v3, rfl, hown, hb3⟩
  obtain ⟨a3, c3, rfl⟩ := ownsRow_slice hown
  have HB3 := Lib.hid hb3
  clear hown hb3
  go_wp2
  go_ret
  exact ⟨_, _, rfl, (HB.out.alloc hsz _).trans (HB3.out.mono (by simp; omega))⟩
section
variable {base : Nat} {W W' : World} {g hq hs nq ns xq : Nat} {q : Option Nat} {b b' : Bd} {kv kv' : Value} {bl : List Nat}
set_option maxRecDepth 100000 in
theorem bRoom (h : BrdM base W g hq hs nq ns (some xq) b kv bl) : Calls Try.prog 19 #[.pointer (some ⟨g, 0, none⟩), .int .i64 1] W fun e w' => e = .returned (.int .i64 (b.room - b.kept.length)) ∧ Below W.heap.size W w' := by
  have HF := Lib.hid (bFind h)
  obtain ⟨ak, ck, hkv⟩ := ownsRow_slice h.kept
  subst hkv
  have H := Lib.hid h
  have hnum := h.num.1
  have hkn := h.keptN.1
  clear h
  go_enter Try.func19, Try.ntmps19; (try simp only [List.append_eq, List.cons_append, List.nil_append])
  go_wp2_with fail
  refine HF.out.mono ?_
  rintro e w2 ⟨rfl, hb⟩
  have HB := Lib.hid hb
  have hsz := hb.size
  have hb' := (H.out.keep (hb.trans (((Below.refl _ w2).alloc (Nat.le_refl _) (.cells #[.slice ak b.kept.length ck, .int .i64 b.last, .int .i64 b.floor] 63)).mono hsz))).blk
  have H2 := (H.out.keep hb).blk
  have c0 : w2.cell? ⟨g, 0, none⟩ = some (.int .i64 b.room) := H2.cell 0 _ rfl
  have hg2 := H2.lt
  clear hb hb' H2
  go_wp2_with (refine wpList_store_new rfl 63 _ _ rfl #[.slice ak b.kept.length ck, .int .i64 b.last, .int .i64 b.floor] _ _ rfl rfl (by kernel_rfl) rfl (by kernel_rfl) ?_)
  go_quiet (fail)
  go_wp2
  go_ret
  exact ⟨rfl, below_drewN (HB.out.alloc hsz _) _⟩
set_option maxRecDepth 100000 in
theorem bKept (h : BrdM base W g hq hs nq ns (some xq) b kv bl) : Calls Try.prog 24 #[.pointer (some ⟨g, 0, none⟩), .int .i64 1] W fun e w' => ∃ v, e = .returned v ∧ OwnT W.heap.size w' v b.kept ∧ Below W.heap.size W w' := by
  have HF := Lib.hid (bFind h)
  obtain ⟨ak, ck, hkv⟩ := ownsRow_slice h.kept
  subst hkv
  have H := Lib.hid h
  have hkn := h.keptN.1
  clear h
  go_enter Try.func24, Try.ntmps24; (try simp only [List.append_eq, List.cons_append, List.nil_append])
  go_wp2_with fail
  refine HF.out.mono ?_
  rintro e w2 ⟨rfl, hb⟩
  have HB := Lib.hid hb
  have hsz := hb.size
  clear hb
  go_wp2_with (refine wpList_store_new rfl 63 _ _ rfl #[.slice ak b.kept.length ck, .int .i64 b.last, .int .i64 b.floor] _ _ rfl rfl (by kernel_rfl) rfl (by kernel_rfl) ?_)
  have HB2 := Lib.hid (HB.out.alloc hsz (.cells #[.slice ak b.kept.length ck, .int .i64 b.last, .int .i64 b.floor] 63))
  refine (bCopied (OwnT.isT (H.out.keep HB2.out).kept (Nat.le_refl _)) (Nat.le_refl _) (by omega)).mono ?_
  rintro e w3 ⟨v3, rfl, hown, hb3⟩
  have HO := Lib.hid hown; have HB3 := Lib.hid hb3
  clear hown hb3
  go_wp2
  go_ret
  exact ⟨_, rfl, ownsRow_base HO.out HB2.out.size, HB2.out.trans (HB3.out.mono HB2.out.size)⟩
set_option maxRecDepth 100000 in
theorem bOpenThere {t : Int} (h : BrdM base W g hq hs nq ns (some xq) b kv bl) (ht : 0 ≤ t ∧ t ≤ 1099511627776) : Calls Try.prog 9 #[.pointer (some ⟨g, 0, none⟩), .int .i64 1, .int .i64 t] W fun e w' => e = .returned (.int .i64 7) ∧ w' = W := by
  have H := Lib.hid h
  have hlook := h.lookQ
  have hg := h.blk.lt
  have c1 : W.cell? ⟨g, 1, none⟩ = some (.map (some hq)) := h.blk.cell 1 _ rfl
  have Ht := Lib.hid ht
  clear h ht
  go_enter Try.func9, Try.ntmps9; (try simp only [List.append_eq, List.cons_append, List.nil_append])
  go_wp2_with fail
  refine (bMade H.out.blk).mono ?_
  rintro e w2 ⟨rfl, rfl⟩
  go_wp2_with fail
  refine (bTime t _).mono ?_
  rintro e w2 ⟨rfl, rfl⟩
  rw [decide_eq_true Ht.out]
  go_wp2
  go_ret
  exact ⟨rfl, rfl⟩
set_option maxRecDepth 100000 in
theorem bOpenBad {t : Int} (h : BrdM base W g hq hs nq ns q b kv bl) : Calls Try.prog 9 #[.pointer (some ⟨g, 0, none⟩), .int .i64 0, .int .i64 t] W fun e w' => e = .returned (.int .i64 2) ∧ w' = W := by
  have H := Lib.hid h
  clear h
  go_enter Try.func9, Try.ntmps9; (try simp only [List.append_eq, List.cons_append, List.nil_append])
  go_wp2_with fail
  refine (bMade H.out.blk).mono ?_
  rintro e w2 ⟨rfl, rfl⟩
  go_wp2
  go_ret
  exact ⟨rfl, rfl⟩
set_option maxRecDepth 100000 in
theorem bCloseNone (h : BrdM base W g hq hs nq ns (some xq) b kv bl) : Calls Try.prog 20 #[.pointer (some ⟨g, 0, none⟩), .int .i64 2] W fun e w' => e = .returned (.int .i64 6) ∧ w' = W := by
  have H := Lib.hid h
  have hlook : (Instr.lookup 56 (.map (some hq)) (.int .i64 2) false).run Try.prog W = .ok (.pointer none) W := h.mq.lookQ (n := 2) ⟨by omega, by omega⟩
  have hg := h.blk.lt
  have c1 : W.cell? ⟨g, 1, none⟩ = some (.map (some hq)) := h.blk.cell 1 _ rfl
  clear h
  go_enter Try.func20, Try.ntmps20; (try simp only [List.append_eq, List.cons_append, List.nil_append])
  go_wp2_with fail
  refine (bMade H.out.blk).mono ?_
  rintro e w2 ⟨rfl, rfl⟩
  go_wp2
  go_ret
  exact ⟨rfl, rfl⟩
set_option maxRecDepth 100000 in
theorem bSettledAt (h : BrdM base W g hq hs nq ns (some xq) b kv bl) (hbs : base ≤ W.heap.size) : Calls Try.prog 21 #[.pointer (some ⟨g, 0, none⟩), .int .i64 1] W fun e w' => e = .returned (.int .i64 (settledB b)) ∧ Below W.heap.size W w' := by
  have HF := Lib.hid (bFind h)
  obtain ⟨ak, ck, hkv⟩ := ownsRow_slice h.kept
  subst hkv
  have H := Lib.hid h
  clear h
  go_enter Try.func21, Try.ntmps21; (try simp only [List.append_eq, List.cons_append, List.nil_append])
  go_wp2_with fail
  refine HF.out.mono ?_
  rintro e w2 ⟨rfl, hb⟩
  have HB := Lib.hid hb
  have hsz := hb.size
  clear hb
  go_wp2_with (refine wpList_store_new rfl 63 _ _ rfl #[.slice ak b.kept.length ck, .int .i64 b.last, .int .i64 b.floor] _ _ rfl rfl (by kernel_rfl) rfl (by kernel_rfl) ?_)
  have HB2 := Lib.hid (HB.out.alloc hsz (.cells #[.slice ak b.kept.length ck, .int .i64 b.last, .int .i64 b.floor] 63))
  refine (bSettled (H.out.keep HB2.out) (Nat.le_trans hbs HB2.out.size)).mono ?_
  rintro e w3 ⟨rfl, hb3⟩
  have HB3 := Lib.hid hb3
  clear hb3
  go_wp2
  go_ret
  exact ⟨rfl, HB2.out.trans (HB3.out.mono HB2.out.size)⟩
end
end Go.Proofs.Ytfmolimnnheaoaa
