/- The law's wrong, kinds, lives. -/
import Derived.Test.YtgjeomcflapmpaaDoorLy2
namespace Go.Proofs.YtgjeomcflapmpaaDoor
open Go.RowKit
set_option linter.unusedSimpArgs false
set_option linter.unusedVariables false

/-- What All tells of a text that is known. -/
theorem allOf {s : ByteArray} {l : List Tok} {er at' : Int} (h : lexAll s = (l, er, at')) (hs : s.size ≤ maxLen) (w : World) :
    Calls Tryd.prog 8 #[.string s] w fun e w' => ∃ p cap, e = .returned (.tuple #[.slice p l.length cap, .agg #[.int .i64 er, .int .i64 at']]) ∧ OwnT w.heap.size w' (.slice p l.length cap) l ∧ Below w.heap.size w w' := by
  refine (lAll s w hs).mono ?_
  rintro e w' ⟨v, he, ho, hb⟩
  rw [h] at he ho
  obtain ⟨A, cap, rfl⟩ := ownsRow_slice ho
  exact ⟨A, cap, he, ho, hb⟩

theorem infoI : (Tryd.prog.info? 3).map (fun i => (i.zero, i.size, i.bytes)) = some (some (.int .i64 0), 1, 8) := by kernel_rfl
/-- Numbers in a block of their own. -/
def OwnI (base : Nat) (w : World) (v : Value) (l : List Int) : Prop := w.ownsRow base 3 1 v l.length (l.map fun i => Value.int .i64 i)
theorem OwnI.ints {base m : Nat} {w : World} {v : Value} {l : List Int} (h : OwnI base w v l) (hm : w.heap.size ≤ m) : IsInts m w v l := by
  rcases h.2 with ⟨rfl, hl⟩ | ⟨g, cap, cur, rfl, hg, hh, hc1, hc2, hc3, hc4⟩
  · have : l = [] := List.eq_nil_of_length_eq_zero (by omega)
    subst this
    exact Arr.nil _ _ _
  · refine ⟨_, cap, by rw [List.length_map], by simpa using hc1, hc2, fun _ => ⟨g, 0, rfl, ?_, fun k r hr j x hx => ?_⟩⟩
    · have := (Array.getElem?_eq_some_iff.1 hh).1; omega
    · obtain ⟨i, hi, rfl⟩ : ∃ i, l[k]? = some i ∧ r = [.int .i64 i] := by
        rw [List.getElem?_map] at hr
        cases hlk : l[k]? with
        | none => rw [hlk] at hr; cases hr
        | some i => rw [hlk] at hr; cases hr; exact ⟨i, rfl, rfl⟩
      cases j with
      | zero =>
        simp at hx; subst hx
        have hcell := h.cells (g := g) rfl k (.int .i64 i) (by simp [hi])
        have e0 : (⟨g, 0, none⟩ : Addr).add k = ⟨g, 0 + k * 1 + 0, none⟩ := by
          unfold Addr.add
          split <;> simp <;> omega
        rw [e0] at hcell
        exact hcell
      | succ j => simp at hx

set_option maxRecDepth 100000 in
set_option maxHeartbeats 1000000 in
theorem lKinds (s : ByteArray) (l : List Tok) (w : World) (hs : s.size ≤ maxLen) (h : lexAll s = (l, 0, 0)) (hl : l.length ≤ 1000) :
    Calls Tryd.prog 18 #[.string s] w fun e w' => ∃ v, e = .returned v ∧ OwnI w.heap.size w' v (l.map Tok.kind) ∧ Below w.heap.size w w' := by
  have Ha := Lib.hid (fun wx => allOf h hs wx)
  obtain ⟨i0, hi, hz0, hz1, hz2⟩ := info_parts infoI
  clear h
  go_enter Tryd.func18, Tryd.ntmps18; (try simp only [List.append_eq, List.cons_append, List.nil_append])
  go_wp2_with (go_at_call 8; refine (Ha.out _).mono ?_; rintro e w1 ⟨p, cap, rfl, ho, hb⟩; have HB := Lib.hid hb; clear hb; have HO := Lib.hid ho; clear ho)
  have hszw := HB.out.size
  have hT := Lib.hid ((HO.out.keep ((Below.refl _ _).alloc (Nat.le_refl _) (.cells #[.int .i64 0, .int .i64 0] 29))).toks (Nat.le_refl _))
  have HB2 : Hid (Below w.heap.size w (w1.alloc (.cells #[.int .i64 0, .int .i64 0] 29))) := HB.out.alloc (by omega) _
  clear HB HO
  generalize (w1.alloc (.cells #[.int .i64 0, .int .i64 0] 29)) = w2 at *
  have hszw2 := HB2.out.size
  clear hszw
  go_loopw [5, 6] (fun v i wr => ∃ k : Nat, k ≤ l.length ∧ i = .int .i64 k ∧ OwnI w2.heap.size wr v ((l.take k).map Tok.kind) ∧ Below w2.heap.size w2 wr) (fun _ i _ => l.length - (intOf i).toNat)
  case atStart => exact ⟨0, Nat.zero_le _, rfl, World.ownsRow_nil _ _ _ _, Below.refl _ _⟩
  case round =>
    obtain ⟨k, hk, rfl, hown, hbl⟩ := hrel
    have Hown := Lib.hid hown; clear hown
    have Hbl := Lib.hid hbl; clear hbl
    have hlen : ((l.take k).map Tok.kind).length = k := by simp; omega
    have hszr := Hbl.out.size
    by_cases hlt : k < l.length
    · obtain ⟨A, cap', rfl⟩ := ownsRow_slice Hown.out
      obtain ⟨b, off, rfl, hbn, h1, -⟩ := (hT.out.mono Hbl.out (Nat.le_refl _)).get hlt
      have hsn : (l.take (k + 1)).map Tok.kind = (l.take k).map Tok.kind ++ [l[k].kind] := by
        rw [List.take_succ_eq_append_getElem hlt, List.map_append]; rfl
      have Hsn := Lib.hid hsn; clear hsn
      have Hlen := Lib.hid hlen; clear hlen
      go_wp2_with (at_builtin; refine wpList_append_src _ rfl _ _ _ rfl w2.heap.size 3 i0 _ 1 8 Tryd.underlying39 hi hz0 hz1 hz2 rfl (by decide) _ _ (((l.take k).map Tok.kind).map fun i => Value.int .i64 i) rfl (ownsRow_keep Hown.out ((Below.refl _ _).alloc (Nat.le_refl _) _)) _ 1 [.int .i64 l[k].kind] rfl (src_new rfl (by simp)) (by intro u hu; simp at hu; subst hu; rfl) (by have := Hlen.out; unfold maxLen; omega) (by have := Hlen.out; omega) (by simp; omega) ?_; intro v3 w3 hown3 hgr3 hat3)
      refine ⟨⟨k + 1, by omega, by go_num, ?_, below_app (((Hbl.out)).alloc (by omega) _) (ownsRow_keep Hown.out ((Below.refl _ _).alloc (Nat.le_refl _) _)) hgr3 (Nat.le_refl _) (by simp; omega)⟩, by simp [intOf]; omega⟩
      unfold OwnI
      rw [Hsn.out]
      simpa using hown3
    · have hk' : k = l.length := by omega
      subst hk'
      rw [List.take_length] at Hown
      clear hlen
      obtain ⟨A, cap', rfl⟩ := ownsRow_slice Hown.out
      go_wp2
      go_ret
      exact ⟨_, rfl, ownsRow_base Hown.out hszw2, HB2.out.trans (Hbl.out.mono hszw2)⟩

theorem arr4 (w : World) : IsInts (w.heap.size + 1) (w.alloc (.cells #[.int .i64 1, .int .i64 4, .int .i64 2, .int .i64 5] 3)) (.slice (some ⟨w.heap.size, 0, none⟩) 4 4) [1, 4, 2, 5] := by
  refine ⟨_, 4, rfl, by decide, by unfold maxLen; omega, fun _ => ⟨w.heap.size, 0, rfl, by omega, fun k r hr j x hx => ?_⟩⟩
  have key := (Blk.new w [.int .i64 1, .int .i64 4, .int .i64 2, .int .i64 5] 3).cell
  match k, hr with
  | 0, hr => simp at hr; subst hr; match j, hx with
    | 0, hx => simp at hx; subst hx; exact key 0 _ rfl
    | j + 1, hx => simp at hx
  | 1, hr => simp at hr; subst hr; match j, hx with
    | 0, hx => simp at hx; subst hx; exact key 1 _ rfl
    | j + 1, hx => simp at hx
  | 2, hr => simp at hr; subst hr; match j, hx with
    | 0, hx => simp at hx; subst hx; exact key 2 _ rfl
    | j + 1, hx => simp at hx
  | 3, hr => simp at hr; subst hr; match j, hx with
    | 0, hx => simp at hx; subst hx; exact key 3 _ rfl
    | j + 1, hx => simp at hx
  | k + 4, hr => simp at hr

def lit1 : ByteArray := ⟨#[115, 117, 109, 40, 99, 112, 117, 123, 97, 33, 61, 34, 120, 92, 34, 34, 125, 91, 49, 48, 93, 41]⟩
def lit1T : List Tok := match (lexAll lit1).1 with | l => l
theorem lit1_eq : lexAll lit1 = ((lexAll lit1).1, 0, 0) ∧ (lexAll lit1).1.length = 13 ∧ (lexAll lit1).1[6]? = some ⟨3, [120, 34], 0, 11⟩ := by decide +kernel

end Go.Proofs.YtgjeomcflapmpaaDoor
