/- kit.Set("y", ""), kit.Res("y", "", 3), law04.lives. -/
import Derived.Test.YtgmdlnobajmjfaaDoorSm9
import Derived.Test.YtgmdlnobajmjfaaDoorSm6
import Derived.Test.YtgmdlnobajmjfaaDoorLa6
namespace Go.Proofs.YtgmdlnobajmjfaaDoor
open Go.RowKit
set_option linter.unusedSimpArgs false
set_option linter.unusedVariables false

def laY : Lab := ⟨⟨#[97]⟩, ⟨#[121]⟩⟩
def rsX : Rs := ⟨[laY], 3, false⟩
def rsY : Rs := ⟨[], 0, true⟩
theorem lives_sort {l' : List Rs} {c : Int} (h : SortP [rsX, rsY] l' c) : l' = [rsY, rsX] ∧ c = 0 := by
  rcases h with ⟨h, -⟩ | ⟨-, h, -⟩ | ⟨-, -, s, hp, hs, h⟩
  · simp at h
  · have : anyBad [rsX, rsY] = false := by decide +kernel
    rw [this] at h; cases h
  · have hl := hp.length_eq
    have hs2 : s = [rsY, rsX] := by
      match s, hl with
      | [p, q], _ =>
        have hm : p ∈ [rsX, rsY] := hp.subset (by simp)
        simp only [List.mem_cons, List.not_mem_nil, or_false] at hm
        rcases hm with rfl | rfl
        · have h1 := List.Perm.cons_inv hp
          have h2 : q = rsY := by simpa using h1.subset (List.mem_singleton.2 rfl)
          subst h2
          have h3 := (List.pairwise_cons.1 hs).1 rsY (by simp)
          exact absurd (show orderL rsY.labs rsX.labs < 0 by decide +kernel) h3
        · have h1 := List.Perm.cons_inv (hp.trans (List.Perm.swap rsY rsX []))
          have h2 : q = rsX := by simpa using h1.subset (List.mem_singleton.2 rfl)
          subst h2; rfl
    subst hs2
    have hc : checkV [rsY, rsX] = 0 := by decide +kernel
    rcases h with ⟨-, h1, h2⟩ | ⟨h1, -⟩
    · exact ⟨h1, h2⟩
    · exact absurd hc h1
theorem lives_lines : (⟨(linesT [rsY, rsX]).toArray⟩ : ByteArray) = ⟨#[123, 125, 32, 111, 118, 101, 114, 10, 123, 97, 61, 34, 121, 34, 125, 32, 51, 10]⟩ := by decide +kernel
theorem srcL {X : World} {b t sz m c : Nat} {cs : List Value} (h : Blk X b t cs) (hl : cs.length = m * sz) : Src X (.slice (some ⟨b, 0, none⟩) m c) sz m cs := by
  refine .inr ⟨_, c, rfl, hl, fun j u hu => ?_⟩
  have e : (⟨b, 0, none⟩ : Addr).add j = ⟨b, j, none⟩ := by
    unfold Addr.add
    split <;> simp <;> omega
  rw [e]
  exact h.cell j u hu
theorem own_offrow {w : World} {base e sz n : Nat} {v : Value} {xs : List Value} (h : w.ownsRow base e sz v n xs) {g : Nat} (hg : g < base) (cs : Array Value) : (w.setRow g cs).ownsRow base e sz v n xs := by
  refine ⟨h.1, ?_⟩
  rcases h.2 with h' | ⟨g1, cap, cur, hv, hb, hh, rest⟩
  · exact .inl h'
  · refine .inr ⟨g1, cap, cur, hv, hb, ?_, rest⟩
    show (w.heap.modify g _)[g1]? = _
    rw [Array.getElem?_modify, if_neg (by omega)]
    exact hh
def SetY (W : World) (e : Ending) (w' : World) : Prop := ∃ p c, e = .returned (.slice p 1 c) ∧ OwnL W.heap.size w' (.slice p 1 c) [laY] ∧ Below W.heap.size W w'
set_option maxHeartbeats 1000000 in
theorem kSetY (W : World) : Calls Tryd.prog 45 #[.string ⟨#[121]⟩, .string ⟨#[]⟩] W (SetY W) := by
  obtain ⟨i0, hi, hz0, hz1, hz2⟩ := info_parts infoLab
  go_enter Tryd.func45, Tryd.ntmps45; (try simp only [List.append_eq, List.cons_append, List.nil_append])
  go_wp2_with (at_builtin; refine wpList_append_src _ rfl _ _ _ rfl W.heap.size 43 i0 _ 2 32 Tryd.underlying23 hi hz0 hz1 hz2 rfl (by decide) (.slice none 0 0) 0 [] rfl (World.ownsRow_nil _ _ _ _) (.slice (some ⟨W.heap.size, 0, none⟩) 1 1) 1 [.string ⟨#[97]⟩, .string ⟨#[121]⟩] rfl (srcL (Blk.new W [.string ⟨#[97]⟩, .string ⟨#[121]⟩] 43) rfl) (by intro u hu; simp at hu; rcases hu with rfl | rfl <;> rfl) (by decide) (by decide) (by simp) ?_)
  intro v3 w3 hown3 hgr3 _
  have hb := ((Below.refl W.heap.size W).alloc (Nat.le_refl _) (.cells #[.string ⟨#[97]⟩, .string ⟨#[121]⟩] 43)).grown hgr3 (by simp) (by simp [Value.ownBlock])
  have hown : OwnL W.heap.size w3 v3 [laY] := hown3
  obtain ⟨p, c, rfl⟩ := ownsRow_slice hown
  have HO := Lib.hid hown
  have HB := Lib.hid hb
  clear hown3 hgr3 hb hown
  go_wp2
  go_ret
  exact ⟨p, c, rfl, HO.out, HB.out⟩
def ResY (W : World) (e : Ending) (w' : World) : Prop := ∃ p c, e = .returned (.agg #[.slice p 1 c, .int .i64 3, .bool false]) ∧ IsLabs w'.heap.size w' (.slice p 1 c) [laY] ∧ Below W.heap.size W w'
set_option maxHeartbeats 1000000 in
theorem kResY (W : World) : Calls Tryd.prog 20 #[.string ⟨#[121]⟩, .string ⟨#[]⟩, .int .i64 3] W (ResY W) := by
  go_enter Tryd.func20, Tryd.ntmps20; (try simp only [List.append_eq, List.cons_append, List.nil_append])
  go_upto_region 1 with fail
  have hb0 := (Below.refl W.heap.size W).alloc (Nat.le_refl _) (.cells #[.slice none 0 0, .int .i64 0, .bool false] 39)
  have hk := Blk.new W [.slice none 0 0, .int .i64 0, .bool false] 39
  obtain ⟨g, hg⟩ : ∃ z, W.heap.size = z := ⟨_, rfl⟩
  obtain ⟨X, hX⟩ : ∃ z, W.alloc (.cells #[.slice none 0 0, .int .i64 0, .bool false] 39) = z := ⟨_, rfl⟩
  rw [show W.alloc (.cells ([.slice none 0 0, .int .i64 0, .bool false] : List Value).toArray 39) = X from hX] at hk
  rw [hX] at hb0 ⊢
  have HB0 := Lib.hid hb0
  rw [hg] at hk ⊢
  have HK := Lib.hid hk
  have HG := Lib.hid hg
  clear hX hb0 hk hg
  go_wp2_with fail
  refine (kSetY _).mono ?_
  rintro e w1 ⟨p, c, rfl, hl, hb1⟩
  have HB1 := Lib.hid (HB0.out.trans (hb1.mono HB0.out.size))
  have HL := Lib.hid hl
  have hkk := HK.out.keep hb1
  have HKK := Lib.hid hkk
  clear hb1 hl
  go_wp2_with (refine wpList_store_row rfl 39 _ _ rfl g #[.slice p 1 c, .int .i64 3, .bool false] rfl rfl 39 #[.slice none 0 0, .int .i64 0, .bool false] hkk (by kernel_rfl) rfl (by kernel_rfl) ?_)
  have hrow := HKK.out.row [.slice p 1 c, .int .i64 3, .bool false]
  have hlb := OwnL.labs (own_offrow HL.out (g := g) (by have := HK.out.lt; omega) #[.slice p 1 c, .int .i64 3, .bool false]) (Nat.le_refl _) (by intro x hx; simp at hx; subst hx; exact ⟨by decide, by decide⟩)
  exact bodyPost_agg (d := _) rfl rfl hrow Tryd.underlying39 rfl (by kernel_rfl) rfl ⟨p, c, rfl, hlb, below_setRow HB1.out (by have := HG.out; omega) _⟩
theorem res_two {w : World} {p : Option Addr} {c : Nat} (h : IsLabs w.heap.size w (.slice p 1 c) [laY]) :
    IsRes (w.alloc (.cells #[.slice p 1 c, .int .i64 3, .bool false, .slice none 0 0, .int .i64 0, .bool true] 39)).heap.size (w.alloc (.cells #[.slice p 1 c, .int .i64 3, .bool false, .slice none 0 0, .int .i64 0, .bool true] 39)) (.slice (some ⟨w.heap.size, 0, none⟩) 2 2) [rsX, rsY] := by
  have hb := (Below.refl w.heap.size w).alloc (Nat.le_refl _) (.cells #[.slice p 1 c, .int .i64 3, .bool false, .slice none 0 0, .int .i64 0, .bool true] 39)
  have hB := Blk.new w [.slice p 1 c, .int .i64 3, .bool false, .slice none 0 0, .int .i64 0, .bool true] 39
  refine ⟨[[.slice p 1 c, .int .i64 3, .bool false], [.slice none 0 0, .int .i64 0, .bool true]], ⟨_, 2, rfl, by simp, by unfold maxLen; omega, fun _ => ⟨w.heap.size, 0, rfl, by simp, fun k r hr j x hx => ?_⟩⟩, rfl, fun k row r hr hl => ?_⟩
  · match k, hr with
    | 0, hr =>
      simp at hr; subst hr
      match j, hx with
      | 0, hx => exact hB.cell 0 x (by simpa using hx)
      | 1, hx => exact hB.cell 1 x (by simpa using hx)
      | 2, hx => exact hB.cell 2 x (by simpa using hx)
      | j + 3, hx => simp at hx
    | 1, hr =>
      simp at hr; subst hr
      match j, hx with
      | 0, hx => exact hB.cell 3 x (by simpa using hx)
      | 1, hx => exact hB.cell 4 x (by simpa using hx)
      | 2, hx => exact hB.cell 5 x (by simpa using hx)
      | j + 3, hx => simp at hx
    | k + 2, hr => simp at hr
  · match k, hr, hl with
    | 0, hr, hl =>
      simp at hr hl; subst hr hl
      exact ⟨p, c, rfl, h.mono hb (by simp), by constructor <;> decide⟩
    | 1, hr, hl =>
      simp at hr hl; subst hr hl
      exact ⟨none, 0, rfl, IsLabs.nil _ _, by constructor <;> decide⟩
    | k + 2, hr, hl => simp at hr
set_option maxHeartbeats 2000000 in
theorem lLives (W : World) (hT : TB W.heap.size W) : Calls Tryd.prog 5 #[] W fun e w' => e = .returned (.bool true) ∧ Below W.heap.size W w' := by
  have HT := Lib.hid hT
  clear hT
  go_enter Tryd.func5, Tryd.ntmps5; (try simp only [List.append_eq, List.cons_append, List.nil_append])
  go_wp2_with fail
  refine (kResY _).mono ?_
  rintro e w1 ⟨p, c, rfl, hl, hb1⟩
  have HB1 := Lib.hid hb1
  have HR := Lib.hid (res_two hl)
  have HBA := Lib.hid ((Below.refl w1.heap.size w1).alloc (Nat.le_refl _) (.cells #[.slice p 1 c, .int .i64 3, .bool false, .slice none 0 0, .int .i64 0, .bool true] 39))
  clear hl hb1
  go_wp2_with fail
  refine (sSort (Nat.le_refl _) HR.out).mono ?_
  rintro e w2 ⟨v', l', cc, rfl, hres, hb2, hp⟩
  obtain ⟨hl', hc⟩ := lives_sort hp
  subst hl' hc
  have HR2 := Lib.hid hres
  have HB2 := Lib.hid (HB1.out.trans ((HBA.out.trans (hb2.mono HBA.out.size)).mono HB1.out.size))
  clear hres hb2 hp HR HBA
  have HT2 := Lib.hid ((HT.out.on HB2.out).less HB2.out.size)
  go_wp2_with fail
  refine (sLines (Nat.le_refl _) HR2.out (by decide) HT2.out).mono ?_
  rintro e w3 ⟨rfl, hb3⟩
  rw [lives_lines]
  have HB3 := Lib.hid (HB2.out.trans (hb3.mono HB2.out.size))
  clear hb3
  go_wp2
  go_ret
  exact ⟨by first | rfl | decide, HB3.out⟩
end Go.Proofs.YtgmdlnobajmjfaaDoor
