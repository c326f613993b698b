/- A map's keys, sorted (slices.Sorted(maps.Keys(m))). -/
import Derived.Test.YtfmolimnnheaoaaGreatK10
import Derived.Test.YtfmolimnnheaoaaGreatSk
import Derived.Test.YtfmolimnnheaoaaGreatK1
namespace Go.Proofs.YtfmolimnnheaoaaGreat
open Go.RowKit
set_option linter.unusedSimpArgs false
set_option linter.unusedVariables false
open Go.Maps Go.Sort Go.Shelf

theorem sortsA (m : Nat) : AnyZI.SortsIn Tryz.prog Tryz.sortedA_ren Fence.wide m :=
  ⟨fun blk off cap ss W hH hblk hsz => callsIn_wide.2 (AnyM.slices_Sort_int Tryz.sortA blk off cap ss W hH hblk hsz),
   fun p cap W => callsIn_wide.2 (AnyM.slices_Sort_int_none Tryz.sortA p cap W)⟩
theorem sKeys (mb : Option Nat) (W : World) : Calls Tryz.prog 65 #[.map mb] W fun e w' => e = .returned (.func (.func 82) #[] #[.pointer (some ⟨W.heap.size, 0, none⟩)]) ∧ w' = W.alloc (.cells #[.map mb] 53) := (callsIn_wide (n := 5)).1 (AnyZI.keys_in Tryz.keysA Fence.wide 5 trivial rfl mb W)
theorem sSorted {b n x : Nat} {l : List (Int × Nat)} {W : World} (h : MapB W b n l) (hr : RiseK l) (hl : l.length ≤ 100000) (hx : Blk W x 53 [.map (some b)]) : Calls Tryz.prog 64 #[.func (.func 82) #[] #[.pointer (some ⟨x, 0, none⟩)]] W fun e w' => ∃ v, e = .returned v ∧ OwnI 3 W.heap.size w' v (l.map Prod.fst) ∧ Below W.heap.size W w' := by
  refine (callsIn_wide (n := 6)).1 ?_
  have hxl := hx.lt
  have hseq : SeqGives Fence.wide 3 Tryz.prog 82 #[.pointer (some ⟨x, 0, none⟩)] encZ (fun ss => ss.Perm (intKeys (mapE l))) (Maps.size (mapE l)) W :=
    AnyZI.keys_gives (ρ := Tryz.keysA_ren) { Tryz.keysA with } Fence.wide _ trivial rfl (by omega) x b n (mapE l) W hxl (hx.cell 0 _ rfl) h
  have cS := AnyZI.sorted_in Tryz.sortedA Fence.wide 6 trivial trivial trivial trivial rfl (by omega) (sortsA _) (enters_of Tryz.func81 (by kernel_rfl) rfl) 82 #[.pointer (some ⟨x, 0, none⟩)] trivial (enters_of Tryz.func82 (by kernel_rfl) rfl) _ _ (by rw [sizeE]; unfold maxLen; omega) (by rw [sizeE]; omega) _ hseq
  change CallsIn _ _ Tryz.prog 64 _ _ _ at cS
  refine cS.mono ?_
  rintro e w' ⟨v, ss, rfl, hS, hrow, -, hb⟩
  rw [keysE] at hS
  rw [rise_sorted hr hS] at hrow
  have e1 : ss.length = (l.map Prod.fst).length := hS.length_eq
  rw [e1] at hrow
  exact ⟨v, rfl, hrow, hb⟩
end Go.Proofs.YtfmolimnnheaoaaGreat

/- (*Board).of: a query's subscribers. -/
namespace Go.Proofs.YtfmolimnnheaoaaGreat
open Go.RowKit
set_option linter.unusedSimpArgs false
set_option linter.unusedVariables false
open Go.Maps

def ptrB (x : Nat) : Value := .pointer (some ⟨x, 0, none⟩)
/-- Pointers in a block of the call's own. -/
def OwnP (base : Nat) (w : World) (v : Value) (l : List Nat) : Prop := w.ownsRow base 71 1 v l.length (l.map ptrB)
theorem infoP : (Tryz.prog.info? 71).map (fun i => (i.zero, i.size, i.bytes)) = some (some (.pointer none), 1, 8) := by kernel_rfl
theorem app_ptr {ops : Array Oper} {rest : List Oper} {o : Oper} {a : Act} {w : World} {Q : Exit → Act → World → Prop} (hgd : o.guard = none) (s x : Operand)
    (ho : o.op = .call { callee := .builtin .append, args := #[s, x], argTypes := #[69, 69] }) (base : Nat) (v : Value) (l : List Nat) (i : Nat) (g : Nat)
    (hs : a.eval s = v) (hx : a.eval x = .slice (some ⟨g, 0, none⟩) 1 1) (hown : OwnP base w v l) (hc : w.cell? ⟨g, 0, none⟩ = some (ptrB i)) (hl : l.length ≤ 1000000) (hbase : base ≤ w.heap.size)
    (h : ∀ v' w', OwnP base w' v' (l ++ [i]) → w.grownBy w' v.ownBlock → (v'.ownBlock = v.ownBlock ∨ v'.ownBlock = some w.heap.size) → wpList Tryz.prog ops Q rest (a.put o.dst v') w') :
    wpList Tryz.prog ops Q (o :: rest) a w := by
  obtain ⟨i0, hi, hz0, hz1, hz2⟩ := info_parts infoP
  refine wpList_append_src _ hgd s x 69 ho base 71 i0 (.pointer none) 1 8 Tryz.underlying69 hi hz0 hz1 hz2 rfl (by decide) v l.length _ hs hown _ 1 [ptrB i] hx (.inr ⟨⟨g, 0, none⟩, 1, rfl, rfl, ?_⟩) (by intro u hu; simp at hu; subst hu; rfl) (by unfold maxLen; omega) (by omega) hbase ?_
  · intro j u hj
    match j, hj with
    | 0, hj => simp at hj; subst hj; simpa [Addr.add] using hc
    | j + 1, hj => simp at hj
  · intro v' w' h1 h2 h3
    refine h v' w' ?_ h2 h3
    unfold OwnP
    rw [List.length_append, List.map_append]
    exact h1
theorem OwnP.app {base B : Nat} {a w w' : World} {v : Value} {l : List Nat} (h : Below B a w) (ho : OwnP base w v l) {o : Obj} (hg : (w.alloc o).grownBy w' v.ownBlock) (hB : B ≤ base) (hs : B ≤ w.heap.size) : Below B a w' :=
  below_app (h.alloc hs o) (ownsRow_keep ho ((Below.refl _ _).alloc (Nat.le_refl _) o)) hg hB (by simp; omega)
theorem find_rise : ∀ {l : List (Int × Nat)} {k : Nat} {x : Int × Nat}, RiseK l → l[k]? = some x → lookE l x.1 = some x.2
  | [], k, x, _, h => by simp at h
  | y :: l, 0, x, _, h => by
    simp at h; subst h
    unfold lookE; simp
  | y :: l, k + 1, x, hr, h => by
    rw [List.getElem?_cons_succ] at h
    unfold RiseK at hr
    rw [List.map_cons, List.pairwise_cons] at hr
    have h1 := hr.1 x.1 (List.mem_map.2 ⟨x, List.mem_of_getElem? h, rfl⟩)
    have h2 := find_rise (l := l) hr.2 h
    unfold lookE at h2 ⊢
    rw [List.find?_cons, show (y.1 == x.1) = false by simp; omega]
    exact h2
section
variable {base : Nat} {W : World} {g hq hs nq ns : Nat} {q : Option Nat} {b : Bd} {kv : Value} {bl : List Nat}
theorem zip_fst (h : bl.length = b.subs.length) : ((b.subs.map Sb.id).zip bl).map Prod.fst = b.subs.map Sb.id := List.map_fst_zip (by rw [List.length_map]; omega)
theorem zip_rise (h : BrdM base W g hq hs nq ns q b kv bl) : RiseK ((b.subs.map Sb.id).zip bl) := by
  unfold RiseK
  rw [zip_fst h.len]
  exact h.ids
theorem zip_get {k : Nat} {s : Sb} {x : Nat} (h1 : b.subs[k]? = some s) (h2 : bl[k]? = some x) : ((b.subs.map Sb.id).zip bl)[k]? = some (s.id, x) := by
  rw [List.getElem?_zip_eq_some]
  exact ⟨by rw [List.getElem?_map, h1]; rfl, h2⟩
theorem BrdM.few (h : BrdM base W g hq hs nq ns q b kv bl) : b.subs.length ≤ 100000 := by
  have hn := h.num
  have hs := h.ms
  obtain ⟨es, clock, hb, F, h1, h2⟩ := hs
  have := World.ownsMap.size_le h.ms
  rw [sizeE, List.length_zip, List.length_map, h.len, Nat.min_self] at this
  omega
theorem BrdM.id64 (h : BrdM base W g hq hs nq ns q b kv bl) {s : Sb} (hm : s ∈ b.subs) : i64 s.id := by
  have := h.next s hm
  have := h.num
  constructor <;> omega
/-- A subscriber is looked up. -/
theorem BrdM.lookS (h : BrdM base W g hq hs nq ns q b kv bl) {k : Nat} {s : Sb} {x : Nat} (h1 : b.subs[k]? = some s) (h2 : bl[k]? = some x) : (Instr.lookup 53 (.map (some hs)) (.int .i64 s.id) false).run Tryz.prog W = .ok (.pointer (some ⟨x, 0, none⟩)) W := by
  have := h.ms.lookS (h.id64 (List.mem_of_getElem? h1))
  rw [find_rise (zip_rise h) (zip_get h1 h2)] at this
  exact this
set_option maxRecDepth 100000 in
set_option maxHeartbeats 4000000 in
theorem bOf (h : BrdM base W g hq hs nq ns q b kv bl) (hbs : base ≤ W.heap.size) :
    Calls Tryz.prog 35 #[.pointer (some ⟨g, 0, none⟩), .int .i64 1] W fun e w' => ∃ v, e = .returned v ∧ OwnP W.heap.size w' v bl ∧ Below W.heap.size W w' := by
  have H := Lib.hid h
  have hg := h.blk.lt
  have c2 : W.cell? ⟨g, 2, none⟩ = some (.map (some hs)) := h.blk.cell 2 _ rfl
  have Hfew := Lib.hid h.few
  clear h
  go_enter Tryz.func35, Tryz.ntmps35; (try simp only [List.append_eq, List.cons_append, List.nil_append])
  go_wp2_with fail
  refine (sKeys _ _).mono ?_
  rintro e w1 ⟨rfl, rfl⟩
  have hb1 := (Below.refl W.heap.size W).alloc (Nat.le_refl _) (.cells #[.map (some hs)] 53)
  go_wp2_with fail
  refine (sSorted (H.out.ms.keep (hb1.block _ H.out.ms.lt)) (zip_rise H.out) (by rw [List.length_zip, List.length_map, H.out.len, Nat.min_self]; exact Hfew.out) (Blk.new W [.map (some hs)] 53)).mono ?_
  rintro e w1 ⟨v1, rfl, hown, hb2⟩
  rw [zip_fst H.out.len] at hown
  have HB := Lib.hid (hb1.trans (hb2.mono (by simp)))
  obtain ⟨pk, ck, rfl⟩ := ownsRow_slice hown
  have Hown := Lib.hid hown
  have hsz1 := HB.out.size
  have Hbs := Lib.hid hbs
  clear hown hb1 hb2 hbs
  have hll : (List.map Sb.id b.subs).length = b.subs.length := List.length_map _
  rw [hll]
  have Hll := Lib.hid hll
  clear hll
  go_wp2_with fail
  go_loopw [5, 15] (fun v j wr => ∃ k : Nat, k ≤ b.subs.length ∧ j = .int .i64 k ∧ OwnP w1.heap.size wr v (bl.take k) ∧ Below w1.heap.size w1 wr) (fun _ j _ => b.subs.length - (intOf j).toNat)
  case atStart => exact ⟨0, Nat.zero_le _, rfl, by rw [List.take_zero]; exact World.ownsRow_nil _ _ _ _, Below.refl _ _⟩
  case round =>
    obtain ⟨k, hk, rfl, hown, hb⟩ := hrel
    have Hown2 := Lib.hid hown; have Hb := Lib.hid hb
    clear hown hb
    by_cases hlt : k < b.subs.length
    · have hki : (k : Int) < (b.subs.length : Int) := by omega
      obtain ⟨s, hs1⟩ : ∃ s, b.subs[k]? = some s := ⟨_, List.getElem?_eq_getElem hlt⟩
      obtain ⟨x, hx1⟩ : ∃ x, bl[k]? = some x := ⟨_, List.getElem?_eq_getElem (by rw [H.out.len]; exact hlt)⟩
      have hW := HB.out.trans (Hb.out.mono hsz1)
      have h' := H.out.keep hW
      have hlook := h'.lookS hs1 hx1
      have hsb := h'.sb k s x hs1 hx1
      have d1 : wr.cell? ⟨x, 1, none⟩ = some (.int .i64 1) := hsb.cell 1 _ rfl
      have e2 : wr.cell? ⟨g, 2, none⟩ = some (.map (some hs)) := h'.blk.cell 2 _ rfl
      have hgw := h'.blk.lt
      have hxw := hsb.lt
      obtain ⟨bk, ok, hpk, -, hkey⟩ := ((Hown.out.keep Hb.out).ints (Nat.le_refl _)).get (k := k) (by rw [Hll.out]; exact hlt)
      rw [show (List.map Sb.id b.subs)[k]'(by rw [Hll.out]; exact hlt) = s.id by rw [List.getElem_map]; rw [List.getElem?_eq_getElem hlt] at hs1; cases hs1; rfl] at hkey
      subst hpk
      have htk : bl.take (k + 1) = bl.take k ++ [x] := by rw [List.take_add_one, hx1]; rfl
      have htl : (bl.take k).length ≤ 1000000 := by rw [List.length_take]; have := Hfew.out; have := H.out.len; omega
      have Htk := Lib.hid htk
      clear h' hsb hW htk
      go_wp2_with (at_builtin; refine app_ptr rfl _ _ rfl w1.heap.size _ (bl.take k) x wr.heap.size rfl rfl (ownsRow_keep Hown2.out ((Below.refl _ _).alloc (Nat.le_refl _) _)) (by unfold ptrB; go_simp) htl (by have := Hb.out.size; simp; omega) ?_)
      intro v' w4 hown4 hg4 _
      have hb4 := OwnP.app Hb.out Hown2.out hg4 (Nat.le_refl _) Hb.out.size
      have Hown4 := Lib.hid hown4; have Hb4 := Lib.hid hb4
      clear hown4 hg4 hb4
      have hf := Hfew.out
      have hkb : (k : Int) ≤ 100000 := by omega
      go_wp2
      exact ⟨⟨k + 1, by omega, by go_num, by rw [Htk.out]; exact Hown4.out, Hb4.out⟩, by simp [intOf]; omega⟩
    · have hk' : k = b.subs.length := by omega
      subst hk'
      have hki : ¬ ((b.subs.length : Int) < (b.subs.length : Int)) := by omega
      rw [show bl.take b.subs.length = bl by rw [← H.out.len]; exact List.take_length] at Hown2
      go_wp2
      go_ret
      exact ⟨_, rfl, ownsRow_base Hown2.out hsz1, HB.out.trans (Hb.out.mono hsz1)⟩
end
end Go.Proofs.YtfmolimnnheaoaaGreat

/- (*Board).settled. -/
namespace Go.Proofs.YtfmolimnnheaoaaGreat
open Go.RowKit
set_option linter.unusedSimpArgs false
set_option linter.unusedVariables false
open Go.Maps

theorem OwnP.get {base : Nat} {w : World} {v : Value} {l : List Nat} (h : OwnP base w v l) {p : Option Addr} {n c : Nat} (hv : v = .slice p n c) {k x : Nat} (hx : l[k]? = some x) : ∃ gb, p = some ⟨gb, 0, none⟩ ∧ gb < w.heap.size ∧ w.cell? ⟨gb, k, none⟩ = some (ptrB x) := by
  have hk : k < l.length := (List.getElem?_eq_some_iff.1 hx).1
  rcases h.2 with ⟨rfl, hl⟩ | ⟨g, cap, cur, rfl, hg, hh, _⟩
  · omega
  · cases hv
    have hc := World.ownsRow.cells h (g := g) rfl k (ptrB x) (by rw [List.getElem?_map, hx]; rfl)
    refine ⟨g, rfl, (Array.getElem?_eq_some_iff.1 hh).1, ?_⟩
    rw [show (⟨g, 0, none⟩ : Addr).add k = ⟨g, k, none⟩ by unfold Addr.add; split <;> simp <;> omega] at hc
    exact hc
section
variable {base : Nat} {W : World} {g hq hs nq ns xq : Nat} {q : Option Nat} {b : Bd} {kv : Value} {bl : List Nat}
theorem BrdM.lookQ (h : BrdM base W g hq hs nq ns (some xq) b kv bl) : (Instr.lookup 52 (.map (some hq)) (.int .i64 1) false).run Tryz.prog W = .ok (.pointer (some ⟨xq, 0, none⟩)) W := h.mq.lookQ (n := 1) ⟨by omega, by omega⟩
theorem take_fold {b : Bd} {k : Nat} {s : Sb} (h : b.subs[k]? = some s) : (b.subs.take (k + 1)).foldl (fun m s => min m s.acked) b.last = min ((b.subs.take k).foldl (fun m s => min m s.acked) b.last) s.acked := by
  rw [List.take_add_one, h, List.foldl_append]
  rfl
set_option maxRecDepth 100000 in
set_option maxHeartbeats 4000000 in
theorem bSettled (h : BrdM base W g hq hs nq ns (some xq) b kv bl) (hbs : base ≤ W.heap.size) :
    Calls Tryz.prog 66 #[.pointer (some ⟨g, 0, none⟩), .int .i64 1] W fun e w' => e = .returned (.int .i64 (settledB b)) ∧ Below W.heap.size W w' := by
  have H := Lib.hid h
  have hg := h.blk.lt
  have hxq := (h.qb xq rfl).1.lt
  have c1 : W.cell? ⟨g, 1, none⟩ = some (.map (some hq)) := h.blk.cell 1 _ rfl
  have c2 : W.cell? ⟨xq, 1, none⟩ = some (.int .i64 b.last) := (h.qb xq rfl).1.cell 1 _ rfl
  have hlook := h.lookQ
  have Hfew := Lib.hid h.few
  clear h
  go_enter Tryz.func66, Tryz.ntmps66; (try simp only [List.append_eq, List.cons_append, List.nil_append])
  go_wp2_with fail
  refine (bOf H.out hbs).mono ?_
  rintro e w1 ⟨v1, rfl, hown, hb1⟩
  obtain ⟨pk, ck, rfl⟩ := ownsRow_slice hown
  have Hown := Lib.hid hown; have HB := Lib.hid hb1
  have hsz1 := hb1.size
  have hll := H.out.len
  clear hown hb1
  rw [hll]
  have Hll := Lib.hid hll
  clear hll hlook c1 c2
  go_wp2_with fail
  go_loopw [5, 21] (fun v j wr => ∃ k : Nat, k ≤ b.subs.length ∧ j = .int .i64 k ∧ v = .int .i64 ((b.subs.take k).foldl (fun m s => min m s.acked) b.last) ∧ wr = w1) (fun _ j _ => b.subs.length - (intOf j).toNat)
  case atStart => exact ⟨0, Nat.zero_le _, rfl, rfl, rfl⟩
  case round =>
    obtain ⟨k, hk, rfl, rfl, rfl⟩ := hrel
    by_cases hlt : k < b.subs.length
    · have hki : (k : Int) < (b.subs.length : Int) := by omega
      obtain ⟨s, hs1⟩ : ∃ s, b.subs[k]? = some s := ⟨_, List.getElem?_eq_getElem hlt⟩
      obtain ⟨x, hx1⟩ : ∃ x, bl[k]? = some x := ⟨_, List.getElem?_eq_getElem (by rw [H.out.len]; exact hlt)⟩
      have h' := H.out.keep HB.out
      have hsb := h'.sb k s x hs1 hx1
      have d1 : wr.cell? ⟨x, 3, none⟩ = some (.int .i64 s.acked) := hsb.cell 3 _ rfl
      have hxw := hsb.lt
      obtain ⟨bk, hpk, hbk, hkey⟩ := Hown.out.get rfl hx1
      unfold ptrB at hkey
      subst hpk
      have Htk := Lib.hid (take_fold hs1)
      obtain ⟨m0, hm0⟩ : ∃ m0, (b.subs.take k).foldl (fun m s => min m s.acked) b.last = m0 := ⟨_, rfl⟩
      rw [hm0] at Htk ⊢
      clear h' hsb hm0
      have hf := Hfew.out
      have hkb : (k : Int) ≤ 100000 := by omega
      go_wp2
      exact ⟨⟨k + 1, by omega, by go_num, by rw [Htk.out], trivial⟩, by simp [intOf]; omega⟩
    · have hk' : k = b.subs.length := by omega
      subst hk'
      have hki : ¬ ((b.subs.length : Int) < (b.subs.length : Int)) := by omega
      rw [List.take_length]
      go_wp2
      go_ret
      exact ⟨rfl, HB.out⟩
end
end Go.Proofs.YtfmolimnnheaoaaGreat

/- What is kept above a time: a binary search. -/
namespace Go.Proofs.YtfmolimnnheaoaaGreat
open Go.RowKit
set_option linter.unusedSimpArgs false
set_option linter.unusedVariables false
open Go.Maps

theorem bNaN (x : Int) (W : World) : Calls Tryz.prog 83 #[.int .i64 x] W fun e w' => e = .returned (.bool false) ∧ w' = W := by
  go_enter Tryz.func83, Tryz.ntmps83; (try simp only [List.append_eq, List.cons_append, List.nil_append])
  go_wp2
  go_ret
  exact ⟨by simp, rfl⟩
def cmpI (x t : Int) : Int := if x < t then -1 else if t < x then 1 else 0
theorem bCmp (x t : Int) (W : World) : Calls Tryz.prog 70 #[.int .i64 x, .int .i64 t] W fun e w' => e = .returned (.int .i64 (cmpI x t)) ∧ w' = W := by
  unfold cmpI
  by_cases h1 : x < t
  · rw [if_pos h1]
    go_enter Tryz.func70, Tryz.ntmps70; (try simp only [List.append_eq, List.cons_append, List.nil_append])
    go_wp2_with fail
    refine (bNaN x _).mono ?_
    rintro e w1 ⟨rfl, rfl⟩
    go_wp2_with fail
    refine (bNaN t _).mono ?_
    rintro e w1 ⟨rfl, rfl⟩
    go_wp2
    go_ret
    exact ⟨rfl, rfl⟩
  · rw [if_neg h1]
    by_cases h2 : t < x
    · rw [if_pos h2]
      go_enter Tryz.func70, Tryz.ntmps70; (try simp only [List.append_eq, List.cons_append, List.nil_append])
      go_wp2_with fail
      refine (bNaN x _).mono ?_
      rintro e w1 ⟨rfl, rfl⟩
      go_wp2_with fail
      refine (bNaN t _).mono ?_
      rintro e w1 ⟨rfl, rfl⟩
      go_wp2
      go_ret
      exact ⟨rfl, rfl⟩
    · rw [if_neg h2]
      go_enter Tryz.func70, Tryz.ntmps70; (try simp only [List.append_eq, List.cons_append, List.nil_append])
      go_wp2_with fail
      refine (bNaN x _).mono ?_
      rintro e w1 ⟨rfl, rfl⟩
      go_wp2_with fail
      refine (bNaN t _).mono ?_
      rintro e w1 ⟨rfl, rfl⟩
      go_wp2
      go_ret
      exact ⟨rfl, rfl⟩
theorem bAboveC (x t : Int) (W : World) : Calls Tryz.prog 69 #[.agg #[.int .i64 x, .slice none 0 0], .int .i64 t] W fun e w' => e = .returned (.int .i64 (cmpI x t)) ∧ Below W.heap.size W w' := by
  go_enter Tryz.func69, Tryz.ntmps69; (try simp only [List.append_eq, List.cons_append, List.nil_append])
  go_wp2_with fail
  refine (bCmp x t _).mono ?_
  rintro e w1 ⟨rfl, rfl⟩
  go_wp2
  go_ret
  exact ⟨rfl, (Below.refl _ W).alloc (Nat.le_refl _) _⟩
/-- A list of told times without results. -/
def IsT (n : Nat) (w : World) (v : Value) (l : List Int) : Prop := Arr n w v 2 (l.map toldC)
theorem IsT.mono {n m : Nat} {w w' : World} {v : Value} {l : List Int} (h : IsT n w v l) (hb : Below n w w') (hm : n ≤ m) : IsT m w' v l := Arr.mono h hb hm
theorem IsT.open {n : Nat} {w : World} {v : Value} {l : List Int} (h : IsT n w v l) : ∃ p cap, v = .slice p l.length cap ∧ l.length ≤ cap ∧ cap ≤ maxLen := by
  obtain ⟨p, cap, hv, h1, h2, _⟩ := h
  simp only [List.length_map] at hv h1
  exact ⟨p, cap, hv, h1, h2⟩
theorem IsT.get {n : Nat} {w : World} {p : Option Addr} {len cap : Nat} {l : List Int} (h : IsT n w (.slice p len cap) l) {k : Nat} {x : Int} (hx : l[k]? = some x) :
    ∃ b off, p = some ⟨b, off, none⟩ ∧ b < n ∧ w.cell? ⟨b, off + k * 2, none⟩ = some (.int .i64 x) ∧ w.cell? ⟨b, off + k * 2 + 1, none⟩ = some (.slice none 0 0) := by
  obtain ⟨b, off, hp, hb, hc⟩ := Arr.at h k (toldC x) (by rw [List.getElem?_map, hx]; rfl)
  exact ⟨b, off, hp, hb, by simpa using hc 0 _ rfl, hc 1 _ rfl⟩
set_option maxRecDepth 100000 in
set_option maxHeartbeats 4000000 in
theorem bSearch {n : Nat} {v : Value} {l : List Int} {W : World} (hl : IsT n W v l) (hn : n ≤ W.heap.size) (hr : Rise l) (hlen : l.length ≤ 1000000) (t : Int) :
    Calls Tryz.prog 68 #[v, .int .i64 t, .func (.func 69) #[] #[]] W fun e w' => ∃ k : Nat, k ≤ l.length ∧ e = .returned (.tuple #[.int .i64 k, .bool (decide (l[k]? = some t))]) ∧ (∀ j x, l[j]? = some x → (x < t ↔ j < k)) ∧ Below W.heap.size W w' := by
  obtain ⟨p, cap, rfl, hcap1, hcap2⟩ := hl.open
  have Hl := Lib.hid hl; have Hr := Lib.hid hr
  clear hl hr
  go_enter Tryz.func68, Tryz.ntmps68; (try simp only [List.append_eq, List.cons_append, List.nil_append])
  go_wp2
  go_loopw [9, 10] (fun v9 v10 wr => ∃ lo hi : Nat, v9 = .int .i64 lo ∧ v10 = .int .i64 hi ∧ lo ≤ hi ∧ hi ≤ l.length ∧ (∀ j x, l[j]? = some x → j < lo → x < t) ∧ (∀ j x, l[j]? = some x → hi ≤ j → t ≤ x) ∧ Below W.heap.size W wr) (fun v9 v10 _ => (intOf v10).toNat - (intOf v9).toNat)
  case atStart => exact ⟨0, l.length, rfl, rfl, Nat.zero_le _, Nat.le_refl _, fun j x _ h => by omega, fun j x h1 h2 => by have := (List.getElem?_eq_some_iff.1 h1).1; omega, Below.refl _ _⟩
  case round =>
    obtain ⟨lo, hi, rfl, rfl, hlh, hin, hlo, hhi, hb⟩ := hrel
    have Hlo := Lib.hid hlo; have Hhi := Lib.hid hhi; have HB := Lib.hid hb
    clear hlo hhi hb
    by_cases hlt : lo < hi
    · obtain ⟨x, hx⟩ : ∃ x, l[(lo + hi) / 2]? = some x := ⟨_, List.getElem?_eq_getElem (by omega)⟩
      have HX := Lib.hid hx
      obtain ⟨bb, off, rfl, hbb, d0, d1⟩ := (Hl.out.mono (HB.out.mono hn) (Nat.le_refl _)).get hx
      have hsz := HB.out.size
      have hbw : bb < wr.heap.size := by omega
      clear hx
      have E0 := Lib.hid (show ((lo : Int) + (hi : Int)) / 2 = (((lo + hi) / 2 : Nat) : Int) by omega)
      by_cases hxt : x < t
      · have hc : cmpI x t < 0 := by unfold cmpI; rw [if_pos hxt]; decide
        go_wp2_with fail
        refine (bAboveC x t _).mono ?_
        rintro e w1 ⟨rfl, hb1⟩
        have HB1 := Lib.hid (HB.out.trans (hb1.mono HB.out.size))
        clear hb1
        generalize cmpI x t = c at *
        go_wp2
        refine ⟨⟨(lo + hi) / 2 + 1, hi, by rw [E0.out]; go_num, rfl, by omega, hin, fun j y hy hj => ?_, Hhi.out, HB1.out⟩, by rw [E0.out]; simp only [intOf]; omega⟩
        rcases Nat.lt_or_ge j ((lo + hi) / 2) with h1 | h1
        · have h2 : j < l.length := by omega
          have h3 := rise_get Hr.out h1 (by omega)
          rw [List.getElem?_eq_getElem h2] at hy
          have hx2 := HX.out
          rw [List.getElem?_eq_getElem (by omega)] at hx2
          have e1 := Option.some.inj hy
          have e2 := Option.some.inj hx2
          omega
        · have : j = (lo + hi) / 2 := by omega
          subst this
          rw [HX.out] at hy; cases hy; exact hxt
      · have hc : ¬ cmpI x t < 0 := by unfold cmpI; rw [if_neg hxt]; split <;> decide
        go_wp2_with fail
        refine (bAboveC x t _).mono ?_
        rintro e w1 ⟨rfl, hb1⟩
        have HB1 := Lib.hid (HB.out.trans (hb1.mono HB.out.size))
        clear hb1
        generalize cmpI x t = c at *
        go_wp2
        refine ⟨⟨lo, (lo + hi) / 2, rfl, by rw [E0.out], by omega, by omega, Hlo.out, fun j y hy hj => ?_, HB1.out⟩, by rw [E0.out]; simp only [intOf]; omega⟩
        rcases Nat.lt_or_ge ((lo + hi) / 2) j with h1 | h1
        · have h2 : j < l.length := (List.getElem?_eq_some_iff.1 hy).1
          have h3 := rise_get Hr.out h1 h2
          rw [List.getElem?_eq_getElem h2] at hy
          have hx2 := HX.out
          rw [List.getElem?_eq_getElem (by omega)] at hx2
          have e1 := Option.some.inj hy
          have e2 := Option.some.inj hx2
          omega
        · have : j = (lo + hi) / 2 := by omega
          subst this
          rw [HX.out] at hy; cases hy; omega
    · obtain rfl : hi = lo := by omega
      by_cases hl2 : hi < l.length
      · obtain ⟨x, hx⟩ : ∃ x, l[hi]? = some x := ⟨_, List.getElem?_eq_getElem (by omega)⟩
        have HX := Lib.hid hx
        obtain ⟨bb, off, rfl, hbb, d0, d1⟩ := (Hl.out.mono (HB.out.mono hn) (Nat.le_refl _)).get hx
        have hsz := HB.out.size
        have hbw : bb < wr.heap.size := by omega
        clear hx
        go_wp2_with fail
        refine (bAboveC x t _).mono ?_
        rintro e w1 ⟨rfl, hb1⟩
        have HB1 := Lib.hid (HB.out.trans (hb1.mono HB.out.size))
        clear hb1
        have HC := Lib.hid (show (cmpI x t == 0) = decide (l[hi]? = some t) from by
          rw [HX.out]
          unfold cmpI
          by_cases h1 : x < t
          · rw [if_pos h1]; simp; omega
          · rw [if_neg h1]
            by_cases h2 : t < x
            · rw [if_pos h2]; simp; omega
            · rw [if_neg h2]; simp; omega)
        generalize cmpI x t = c at *
        go_wp2
        go_ret2
        refine ⟨hi, by omega, by rw [← HC.out]; rfl, fun j y hy => ⟨fun h => ?_, fun h => Hlo.out j y hy h⟩, HB1.out⟩
        rcases Nat.lt_or_ge j hi with h1 | h1
        · exact h1
        · have := Hhi.out j y hy h1; omega
      · go_wp2
        go_ret2
        refine ⟨hi, by omega, by rw [List.getElem?_eq_none (by omega)]; rfl, fun j y hy => ⟨fun h => ?_, fun h => Hlo.out j y hy h⟩, HB.out⟩
        have := (List.getElem?_eq_some_iff.1 hy).1
        omega
/-- Where a list that rises is cut. -/
theorem above_at {l : List Int} {t : Int} {k : Nat} (hk : k ≤ l.length) (h : ∀ j x, l[j]? = some x → (x < t ↔ j < k)) (hr : Rise l) : (if l[k]? = some t then k + 1 else k) = aboveN l t := by
  have key : ∀ (l : List Int) (m : Nat), m ≤ l.length → (∀ j x, l[j]? = some x → (x ≤ t ↔ j < m)) → aboveN l t = m := by
    intro l
    induction l with
    | nil => intro m hm _; simp at hm; subst hm; rfl
    | cons x l ih =>
      intro m hm h
      unfold aboveN
      rw [List.takeWhile_cons]
      by_cases hx : x ≤ t
      · rw [if_pos (by simpa using hx), List.length_cons]
        have h0 := (h 0 x rfl).1 hx
        have := ih (m - 1) (by simp at hm; omega) (fun j y hy => by have := h (j + 1) y (by simpa using hy); rw [this]; omega)
        unfold aboveN at this
        omega
      · rw [if_neg (by simpa using hx)]
        have h0 : ¬ (0 < m) := fun h0 => hx ((h 0 x rfl).2 h0)
        simp; omega
  split
  · rename_i ht
    have hk2 := (List.getElem?_eq_some_iff.1 ht).1
    refine (key l (k + 1) (by omega) fun j x hx => ?_).symm
    have hj := (List.getElem?_eq_some_iff.1 hx).1
    have h1 := h j x hx
    constructor
    · intro h2
      rcases Nat.lt_or_ge j (k + 1) with h3 | h3
      · exact h3
      · have h4 := rise_get hr (show k < j by omega) hj
        rw [List.getElem?_eq_getElem hj] at hx
        rw [List.getElem?_eq_getElem hk2] at ht
        have e1 := Option.some.inj hx
        have e2 := Option.some.inj ht
        omega
    · intro h2
      rcases Nat.lt_or_ge j k with h3 | h3
      · have := h1.2 h3; omega
      · have : j = k := by omega
        subst this
        rw [ht] at hx
        have := Option.some.inj hx
        omega
  · rename_i ht
    refine (key l k hk fun j x hx => ?_).symm
    have h1 := h j x hx
    constructor
    · intro h2
      rcases Int.lt_or_eq_of_le h2 with h3 | h3
      · exact h1.1 h3
      · subst h3
        rcases Nat.lt_trichotomy j k with h4 | h4 | h4
        · exact h4
        · subst h4; exact absurd hx ht
        · exfalso
          have hj := (List.getElem?_eq_some_iff.1 hx).1
          have h5 := rise_get hr h4 hj
          have h6 := (h k l[k] (List.getElem?_eq_getElem (by omega))).1
          rw [List.getElem?_eq_getElem hj] at hx
          have e1 := Option.some.inj hx
          omega
    · intro h2; have := h1.2 h2; omega
set_option maxRecDepth 100000 in
theorem bAbove {n : Nat} {v : Value} {l : List Int} {W : World} (hl : IsT n W v l) (hn : n ≤ W.heap.size) (hr : Rise l) (hlen : l.length ≤ 1000000) (t : Int) :
    Calls Tryz.prog 42 #[v, .int .i64 t] W fun e w' => e = .returned (.int .i64 (aboveN l t)) ∧ Below W.heap.size W w' := by
  have hs := bSearch hl hn hr hlen t
  have Hr := Lib.hid hr
  clear hl hr
  go_enter Tryz.func42, Tryz.ntmps42; (try simp only [List.append_eq, List.cons_append, List.nil_append])
  go_wp2_with fail
  refine hs.mono ?_
  rintro e w1 ⟨k, hk, rfl, hall, hb1⟩
  have E := Lib.hid (above_at hk hall Hr.out)
  have HB := Lib.hid hb1
  clear hall hb1
  by_cases ht : l[k]? = some t
  · rw [if_pos ht] at E
    simp only [ht, decide_true]
    go_wp2
    go_ret
    exact ⟨by rw [← E.out]; go_num, HB.out⟩
  · rw [if_neg ht] at E
    simp only [ht, decide_false]
    go_wp2
    go_ret
    exact ⟨by rw [← E.out]; rfl, HB.out⟩
end Go.Proofs.YtfmolimnnheaoaaGreat

/- What was told, cloned; appended; in a block of the call's own. -/
namespace Go.Proofs.YtfmolimnnheaoaaGreat
open Go.RowKit
set_option linter.unusedSimpArgs false
set_option linter.unusedVariables false
open Go.Maps

theorem infoTold : (Tryz.prog.info? 34).map (fun i => (i.zero, i.size, i.bytes)) = some (some (.agg #[.int .i64 0, .slice none 0 0]), 2, 32) := by kernel_rfl
/-- Told times in a block of the call's own. -/
def OwnT (base : Nat) (w : World) (v : Value) (l : List Int) : Prop := w.ownsRow base 34 2 v l.length (l.map toldC).flatten
theorem told_len (l : List Int) : ∀ r ∈ l.map toldC, r.length = 2 := by
  intro r hr
  obtain ⟨t, -, rfl⟩ := List.mem_map.1 hr
  rfl
theorem told_one (l : List Int) : ∀ u ∈ (l.map toldC).flatten, u.oneCell' = true := by
  intro u hu
  obtain ⟨r, hr, hu⟩ := List.mem_flatten.1 hu
  obtain ⟨t, -, rfl⟩ := List.mem_map.1 hr
  simp [toldC] at hu
  rcases hu with rfl | rfl <;> rfl
theorem told_flat (l : List Int) : (l.map toldC).flatten.length = l.length * 2 := by
  induction l with
  | nil => rfl
  | cons t l ih => rw [List.map_cons, List.flatten_cons, List.length_append, ih, List.length_cons]; show 2 + _ = _; omega
theorem OwnT.isT {base m : Nat} {w : World} {v : Value} {l : List Int} (h : OwnT base w v l) (hm : w.heap.size ≤ m) : IsT m w v l := by
  rcases h.2 with ⟨rfl, hl⟩ | ⟨g, cap, cur, rfl, hg, hh, hc1, hc2, hc3, hc4⟩
  · have : l = [] := List.eq_nil_of_length_eq_zero (by omega)
    subst this
    exact Arr.nil _ _ _
  · refine ⟨_, cap, by rw [List.length_map], by simpa using hc1, hc2, fun _ => ⟨g, 0, rfl, ?_, fun k r hr j x hx => ?_⟩⟩
    · have := (Array.getElem?_eq_some_iff.1 hh).1; omega
    · have hcell := World.ownsRow.cells h (g := g) rfl (k * 2 + j) x (flatten_at (told_len l) hr hx)
      rw [show (⟨g, 0, none⟩ : Addr).add (k * 2 + j) = ⟨g, 0 + k * 2 + j, none⟩ by unfold Addr.add; split <;> simp <;> omega] at hcell
      exact hcell
theorem OwnT.nil {base : Nat} {w : World} : OwnT base w (.slice none 0 0) [] := World.ownsRow_nil _ _ _ _
theorem OwnT.keep {base : Nat} {w w' : World} {v : Value} {l : List Int} (h : OwnT base w v l) (hb : Below w.heap.size w w') : OwnT base w' v l := ownsRow_keep h hb
set_option maxRecDepth 100000 in
set_option maxHeartbeats 1000000 in
theorem cloneT (l : List Int) (v : Value) (n : Nat) (w : World) (hn : n ≤ w.heap.size) (ha : IsT n w v l) (hl : l.length ≤ 1000000) :
    Calls Tryz.prog 67 #[v] w fun e' w' => ∃ v', e' = .returned v' ∧ OwnT w.heap.size w' v' l ∧ Below w.heap.size w w' := by
  obtain ⟨i0, hi, hz0, hz1, hz2⟩ := info_parts infoTold
  obtain ⟨p, cap, rfl, hc1, hc2⟩ := ha.open
  have Ha := Lib.hid ha; clear ha
  cases p with
  | none =>
    have hrow : l = [] := by
      cases l with
      | nil => rfl
      | cons r rows =>
        obtain ⟨b, off, hp, _⟩ := Ha.out.get (k := 0) rfl
        cases hp
    have Hrow := Lib.hid hrow; clear hrow
    have hnil : ∀ w, (binOp .eql 37 (.slice none l.length cap) (.slice none 0 0)).run Tryz.prog w = .ok (.bool true) w := fun w => Lib.run_eql_slice_nil (P := Tryz.prog) w 37 _ none l.length cap 0 0 Tryz.underlying37
    go_enter Tryz.func67, Tryz.ntmps67; (try simp only [List.append_eq, List.cons_append, List.nil_append])
    go_wp2
    go_ret
    refine ⟨_, rfl, ?_, Below.refl _ _⟩
    rw [Hrow.out]
    exact OwnT.nil
  | some ad =>
    have hnil : ∀ w, (binOp .eql 37 (.slice (some ad) l.length cap) (.slice none 0 0)).run Tryz.prog w = .ok (.bool false) w := fun w => Lib.run_eql_slice_nil (P := Tryz.prog) w 37 _ (some ad) l.length cap 0 0 Tryz.underlying37
    have hll : (l.map toldC).length = l.length := List.length_map _
    have hs0 := Src.of_arr (rows := l.map toldC) (c := cap) (p := some ad) (n := w.heap.size + 1) (w := w.alloc (.cells #[] 34)) (by rw [hll]; exact Arr.mono Ha.out ((Below.refl _ _).alloc hn _) (by omega)) (told_len l) (by decide) (by simp)
    rw [hll] at hs0
    have HS := Lib.hid hs0; clear hs0
    go_enter Tryz.func67, Tryz.ntmps67; (try simp only [List.append_eq, List.cons_append, List.nil_append])
    go_wp2_with (at_builtin; refine wpList_append_src _ rfl _ _ _ rfl w.heap.size 34 i0 _ 2 32 Tryz.underlying37 hi hz0 hz1 hz2 rfl (by decide) (.slice (some ⟨w.heap.size, 0, none⟩) 0 0) 0 [] rfl ⟨rfl, .inr ⟨_, 0, #[], rfl, Nat.le_refl _, World.alloc_heap_new w _, Nat.le_refl _, Nat.zero_le _, rfl, rfl⟩⟩ _ l.length (l.map toldC).flatten rfl HS.out (told_one l) (by unfold maxLen; omega) (by omega) (by simp) ?_; intro v3 w3 hown3 hgr3 hat3)
    go_ret
    exact ⟨_, rfl, by unfold OwnT; simpa using hown3, ((Below.refl _ _).alloc (Nat.le_refl _) _).grown hgr3 (by simp) (by simp [Value.ownBlock])⟩
end Go.Proofs.YtfmolimnnheaoaaGreat
