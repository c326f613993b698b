/- (*Board).of: a query's subscribers. -/
import Derived.Test.YtfmolimnnheaoaaBb2
import Derived.Test.YtfmolimnnheaoaaBs1
namespace Go.Proofs.Ytfmolimnnheaoaa
open Go.RowKit
set_option linter.unusedSimpArgs false
set_option linter.unusedVariables false
open Go.Maps

def ptrB (x : Nat) : Value := .pointer (some ⟨x, 0, none⟩)
/-- Pointers in a block of the call's own. -/
def OwnP (base : Nat) (w : World) (v : Value) (l : List Nat) : Prop := w.ownsRow base 65 1 v l.length (l.map ptrB)
theorem infoP : (Try.prog.info? 65).map (fun i => (i.zero, i.size, i.bytes)) = some (some (.pointer none), 1, 8) := by kernel_rfl
theorem app_ptr {ops : Array Oper} {rest : List Oper} {o : Oper} {a : Act} {w : World} {Q : Exit → Act → World → Prop} (hgd : o.guard = none) (s x : Operand)
    (ho : o.op = .call { callee := .builtin .append, args := #[s, x], argTypes := #[76, 76] }) (base : Nat) (v : Value) (l : List Nat) (i : Nat) (g : Nat)
    (hs : a.eval s = v) (hx : a.eval x = .slice (some ⟨g, 0, none⟩) 1 1) (hown : OwnP base w v l) (hc : w.cell? ⟨g, 0, none⟩ = some (ptrB i)) (hl : l.length ≤ 1000000) (hbase : base ≤ w.heap.size)
    (h : ∀ v' w', OwnP base w' v' (l ++ [i]) → w.grownBy w' v.ownBlock → (v'.ownBlock = v.ownBlock ∨ v'.ownBlock = some w.heap.size) → wpList Try.prog ops Q rest (a.put o.dst v') w') :
    wpList Try.prog ops Q (o :: rest) a w := by
  obtain ⟨i0, hi, hz0, hz1, hz2⟩ := info_parts infoP
  refine wpList_append_src _ hgd s x 76 ho base 65 i0 (.pointer none) 1 8 Try.underlying76 hi hz0 hz1 hz2 rfl (by decide) v l.length _ hs hown _ 1 [ptrB i] hx (.inr ⟨⟨g, 0, none⟩, 1, rfl, rfl, ?_⟩) (by intro u hu; simp at hu; subst hu; rfl) (by unfold maxLen; omega) (by omega) hbase ?_
  · intro j u hj
    match j, hj with
    | 0, hj => simp at hj; subst hj; simpa [Addr.add] using hc
    | j + 1, hj => simp at hj
  · intro v' w' h1 h2 h3
    refine h v' w' ?_ h2 h3
    unfold OwnP
    rw [List.length_append, List.map_append]
    exact h1
theorem OwnP.app {base B : Nat} {a w w' : World} {v : Value} {l : List Nat} (h : Below B a w) (ho : OwnP base w v l) {o : Obj} (hg : (w.alloc o).grownBy w' v.ownBlock) (hB : B ≤ base) (hs : B ≤ w.heap.size) : Below B a w' :=
  below_app (h.alloc hs o) (ownsRow_keep ho ((Below.refl _ _).alloc (Nat.le_refl _) o)) hg hB (by simp; omega)
theorem find_rise : ∀ {l : List (Int × Nat)} {k : Nat} {x : Int × Nat}, RiseK l → l[k]? = some x → lookE l x.1 = some x.2
  | [], k, x, _, h => by simp at h
  | y :: l, 0, x, _, h => by
    simp at h; subst h
    unfold lookE; simp
  | y :: l, k + 1, x, hr, h => by
    rw [List.getElem?_cons_succ] at h
    unfold RiseK at hr
    rw [List.map_cons, List.pairwise_cons] at hr
    have h1 := hr.1 x.1 (List.mem_map.2 ⟨x, List.mem_of_getElem? h, rfl⟩)
    have h2 := find_rise (l := l) hr.2 h
    unfold lookE at h2 ⊢
    rw [List.find?_cons, show (y.1 == x.1) = false by simp; omega]
    exact h2
section
variable {base : Nat} {W : World} {g hq hs nq ns : Nat} {q : Option Nat} {b : Bd} {kv : Value} {bl : List Nat}
theorem zip_fst (h : bl.length = b.subs.length) : ((b.subs.map Sb.id).zip bl).map Prod.fst = b.subs.map Sb.id := List.map_fst_zip (by rw [List.length_map]; omega)
theorem zip_rise (h : BrdM base W g hq hs nq ns q b kv bl) : RiseK ((b.subs.map Sb.id).zip bl) := by
  unfold RiseK
  rw [zip_fst h.len]
  exact h.ids
theorem zip_get {k : Nat} {s : Sb} {x : Nat} (h1 : b.subs[k]? = some s) (h2 : bl[k]? = some x) : ((b.subs.map Sb.id).zip bl)[k]? = some (s.id, x) := by
  rw [List.getElem?_zip_eq_some]
  exact ⟨by rw [List.getElem?_map, h1]; rfl, h2⟩
theorem BrdM.few (h : BrdM base W g hq hs nq ns q b kv bl) : b.subs.length ≤ 100000 := by
  have hn := h.num
  have hs := h.ms
  obtain ⟨es, clock, hb, F, h1, h2⟩ := hs
  have := World.ownsMap.size_le h.ms
  rw [sizeE, List.length_zip, List.length_map, h.len, Nat.min_self] at this
  omega
theorem BrdM.id64 (h : BrdM base W g hq hs nq ns q b kv bl) {s : Sb} (hm : s ∈ b.subs) : i64 s.id := by
  have := h.next s hm
  have := h.num
  constructor <;> omega
/-- A subscriber is looked up. -/
theorem BrdM.lookS (h : BrdM base W g hq hs nq ns q b kv bl) {k : Nat} {s : Sb} {x : Nat} (h1 : b.subs[k]? = some s) (h2 : bl[k]? = some x) : (Instr.lookup 57 (.map (some hs)) (.int .i64 s.id) false).run Try.prog W = .ok (.pointer (some ⟨x, 0, none⟩)) W := by
  have := h.ms.lookS (h.id64 (List.mem_of_getElem? h1))
  rw [find_rise (zip_rise h) (zip_get h1 h2)] at this
  exact this
set_option maxRecDepth 100000 in
set_option maxHeartbeats 4000000 in
theorem bOf (h : BrdM base W g hq hs nq ns q b kv bl) (hbs : base ≤ W.heap.size) :
    Calls Try.prog 38 #[.pointer (some ⟨g, 0, none⟩), .int .i64 1] W fun e w' => ∃ v, e = .returned v ∧ OwnP W.heap.size w' v bl ∧ Below W.heap.size W w' := by
  have H := Lib.hid h
  have hg := h.blk.lt
  have c2 : W.cell? ⟨g, 2, none⟩ = some (.map (some hs)) := h.blk.cell 2 _ rfl
  have Hfew := Lib.hid h.few
  clear h
  go_enter Try.func38, Try.ntmps38; (try simp only [List.append_eq, List.cons_append, List.nil_append])
  go_wp2_with fail
  refine (sKeys _ _).mono ?_
  rintro e w1 ⟨rfl, rfl⟩
  have hb1 := (Below.refl W.heap.size W).alloc (Nat.le_refl _) (.cells #[.map (some hs)] 57)
  go_wp2_with fail
  refine (sSorted (H.out.ms.keep (hb1.block _ H.out.ms.lt)) (zip_rise H.out) (by rw [List.length_zip, List.length_map, H.out.len, Nat.min_self]; exact Hfew.out) (Blk.new W [.map (some hs)] 57)).mono ?_
  rintro e w1 ⟨v1, rfl, hown, hb2⟩
  rw [zip_fst H.out.len] at hown
  have HB := Lib.hid (hb1.trans (hb2.mono (by simp)))
  obtain ⟨pk, ck, rfl⟩ := ownsRow_slice hown
  have Hown := Lib.hid hown
  have hsz1 := HB.out.size
  have Hbs := Lib.hid hbs
  clear hown hb1 hb2 hbs
  have hll : (List.map Sb.id b.subs).length = b.subs.length := List.length_map _
  rw [hll]
  have Hll := Lib.hid hll
  clear hll
  go_wp2_with fail
  go_loopw [5, 15] (fun v j wr => ∃ k : Nat, k ≤ b.subs.length ∧ j = .int .i64 k ∧ OwnP w1.heap.size wr v (bl.take k) ∧ Below w1.heap.size w1 wr) (fun _ j _ => b.subs.length - (intOf j).toNat)
  case atStart => exact ⟨0, Nat.zero_le _, rfl, by rw [List.take_zero]; exact World.ownsRow_nil _ _ _ _, Below.refl _ _⟩
  case round =>
    obtain ⟨k, hk, rfl, hown, hb⟩ := hrel
    have Hown2 := Lib.hid hown; have Hb := Lib.hid hb
    clear hown hb
    by_cases hlt : k < b.subs.length
    · have hki : (k : Int) < (b.subs.length : Int) := by omega
      obtain ⟨s, hs1⟩ : ∃ s, b.subs[k]? = some s := ⟨_, List.getElem?_eq_getElem hlt⟩
      obtain ⟨x, hx1⟩ : ∃ x, bl[k]? = some x := ⟨_, List.getElem?_eq_getElem (by rw [H.out.len]; exact hlt)⟩
      have hW := HB.out.trans (Hb.out.mono hsz1)
      have h' := H.out.keep hW
      have hlook := h'.lookS hs1 hx1
      have hsb := h'.sb k s x hs1 hx1
      have d1 : wr.cell? ⟨x, 1, none⟩ = some (.int .i64 1) := hsb.cell 1 _ rfl
      have e2 : wr.cell? ⟨g, 2, none⟩ = some (.map (some hs)) := h'.blk.cell 2 _ rfl
      have hgw := h'.blk.lt
      have hxw := hsb.lt
      obtain ⟨bk, ok, hpk, -, hkey⟩ := ((Hown.out.keep Hb.out).ints (Nat.le_refl _)).get (k := k) (by rw [Hll.out]; exact hlt)
      rw [show (List.map Sb.id b.subs)[k]'(by rw [Hll.out]; exact hlt) = s.id by rw [List.getElem_map]; rw [List.getElem?_eq_getElem hlt] at hs1; cases hs1; rfl] at hkey
      subst hpk
      have htk : bl.take (k + 1) = bl.take k ++ [x] := by rw [List.take_add_one, hx1]; rfl
      have htl : (bl.take k).length ≤ 1000000 := by rw [List.length_take]; have := Hfew.out; have := H.out.len; omega
      have Htk := Lib.hid htk
      clear h' hsb hW htk
      go_wp2_with (at_builtin; refine app_ptr rfl _ _ rfl w1.heap.size _ (bl.take k) x wr.heap.size rfl rfl (ownsRow_keep Hown2.out ((Below.refl _ _).alloc (Nat.le_refl _) _)) (by unfold ptrB; go_simp) htl (by have := Hb.out.size; simp; omega) ?_)
      intro v' w4 hown4 hg4 _
      have hb4 := OwnP.app Hb.out Hown2.out hg4 (Nat.le_refl _) Hb.out.size
      have Hown4 := Lib.hid hown4; have Hb4 := Lib.hid hb4
      clear hown4 hg4 hb4
      have hf := Hfew.out
      have hkb : (k : Int) ≤ 100000 := by omega
      go_wp2
      exact ⟨⟨k + 1, by omega, by go_num, by rw [Htk.out]; exact Hown4.out, Hb4.out⟩, by simp [intOf]; omega⟩
    · have hk' : k = b.subs.length := by omega
      subst hk'
      have hki : ¬ ((b.subs.length : Int) < (b.subs.length : Int)) := by omega
      rw [show bl.take b.subs.length = bl by rw [← H.out.len]; exact List.take_length] at Hown2
      go_wp2
      go_ret
      exact ⟨_, rfl, ownsRow_base Hown2.out hsz1, HB.out.trans (Hb.out.mono hsz1)⟩
end
end Go.Proofs.Ytfmolimnnheaoaa
