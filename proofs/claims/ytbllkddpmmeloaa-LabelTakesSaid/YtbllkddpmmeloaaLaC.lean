/- LabelTakes: the walk. -/
import Derived.Test.YtbllkddpmmeloaaLaA
import Derived.Test.YtbllkddpmmeloaaLaB
namespace Go.Proofs.Ytbllkddpmmeloaa
open Go.RowKit
set_option linter.unusedSimpArgs false
set_option linter.unusedVariables false

theorem own_arr {base e sz m : Nat} {w : World} {v : Value} {rows : List (List Value)} (h : w.ownsRow base e sz v rows.length rows.flatten) (hr : ∀ r ∈ rows, r.length = sz) (hm : w.heap.size ≤ m) : Arr m w v sz rows := by
  rcases h.2 with ⟨rfl, hl⟩ | ⟨g, cap, cur, rfl, hg, hh, hc1, hc2, hc3, hc4⟩
  · have : rows = [] := List.eq_nil_of_length_eq_zero (by omega)
    subst this
    exact Arr.nil _ _ _
  · refine ⟨_, cap, rfl, hc1, hc2, fun _ => ⟨g, 0, rfl, ?_, fun k r hk j x hx => ?_⟩⟩
    · have := (Array.getElem?_eq_some_iff.1 hh).1; omega
    · have hcell := h.cells (g := g) rfl (k * sz + j) x (flatten_at hr hk hx)
      have e0 : (⟨g, 0, none⟩ : Addr).add (k * sz + j) = ⟨g, 0 + k * sz + j, none⟩ := by
        unfold Addr.add
        split <;> simp <;> omega
      rw [e0] at hcell
      exact hcell
def flatM (l : List Mat) : List Value := (l.map Mat.cells).flatten
def OwnM (base : Nat) (w : World) (v : Value) (l : List Mat) : Prop := w.ownsRow base 41 3 v l.length (flatM l)
theorem OwnM.mats {base m : Nat} {w : World} {v : Value} {l : List Mat} (h : OwnM base w v l) (hm : w.heap.size ≤ m) (hs : ∀ x ∈ l, x.small) : IsMats m w v l := by
  have h' : w.ownsRow base 41 3 v (l.map Mat.cells).length (l.map Mat.cells).flatten := by rw [List.length_map]; exact h
  exact ⟨own_arr h' (by intro r hr; obtain ⟨x, _, rfl⟩ := List.mem_map.1 hr; rfl) hm, hs⟩
theorem flatM_append (a b : List Mat) : flatM (a ++ b) = flatM a ++ flatM b := by simp [flatM]
theorem flatM_one (l : List Mat) : ∀ u ∈ flatM l, u.oneCell' = true := by
  intro u hu
  unfold flatM at hu
  obtain ⟨r, hr, hur⟩ := List.mem_flatten.1 hu
  obtain ⟨x, _, rfl⟩ := List.mem_map.1 hr
  simp [Mat.cells] at hur
  rcases hur with rfl | rfl | rfl <;> rfl
def NilOk (v : Value) : Prop := ∀ len cap, v = .slice none len cap → cap = 0
theorem IsMats.src {n : Nat} {w : World} {v : Value} {l : List Mat} (h : IsMats n w v l) (hn : NilOk v) : Src w v 3 l.length (flatM l) := by
  obtain ⟨p, cap, rfl, _, _, _⟩ := h.open
  have h1 : Arr n w (.slice p (l.map Mat.cells).length cap) 3 (l.map Mat.cells) := by rw [List.length_map]; exact h.1
  have := Src.of_arr h1 (by intro r hr; obtain ⟨x, _, rfl⟩ := List.mem_map.1 hr; rfl) (by decide) (fun e => by subst e; exact hn _ _ rfl)
  rw [List.length_map] at this
  exact this
theorem IsMats.sub {n : Nat} {w : World} {b off len cap : Nat} {l : List Mat} (h : IsMats n w (.slice (some ⟨b, off, none⟩) len cap) l) {k c : Nat} (hk : k < l.length) (hc : 1 ≤ c) (hc2 : c ≤ maxLen) :
    IsMats n w (.slice (some ⟨b, off + k * 3, none⟩) 1 c) [l[k]] := by
  obtain ⟨b', off', hp, hb, hcl⟩ := h.1.at k l[k].cells (by simp [hk])
  cases hp
  refine ⟨⟨_, c, rfl, hc, hc2, fun _ => ⟨b, _, rfl, hb, fun j r hr i x hx => ?_⟩⟩, fun y hy => by simp at hy; subst hy; exact h.2 _ (List.getElem_mem hk)⟩
  cases j with
  | zero =>
    simp at hr; subst hr
    have := hcl i x hx
    rw [Nat.zero_mul, Nat.add_zero]; exact this
  | succ j => simp at hr
theorem IsLabs.up {n : Nat} {w w' : World} {v : Value} {l : List Lab} (h : IsLabs n w v l) (hb : Below n w w') (hm : n ≤ w'.heap.size) : IsLabs w'.heap.size w' v l := h.mono hb hm
theorem infoMat : (Try.prog.info? 41).map (fun i => (i.zero, i.size, i.bytes)) = some (some (.agg #[.int .i64 0, .string ⟨#[]⟩, .string ⟨#[]⟩]), 3, 40) := by kernel_rfl
theorem one_none (W : World) (t sz : Nat) : (W.alloc (.cells #[] t)).ownsRow W.heap.size t sz (.slice (some ⟨W.heap.size, 0, none⟩) 0 0) 0 [] :=
  ⟨by simp, .inr ⟨W.heap.size, 0, #[], rfl, Nat.le_refl _, World.alloc_heap_new W _, Nat.le_refl _, Nat.zero_le _, by simp, by simp⟩⟩

theorem wpList_append_grd {P : Program} {ops : Array Oper} {rest : List Oper} {o : Oper} {a : Act} {w : World} {Q : Exit → Act → World → Prop} (hgd : Region.wanted o (yielded ops a.tmps) = true) (s x : Operand) (t : TypeId)
    (ho : o.op = .call { callee := .builtin .append, args := #[s, x], argTypes := #[t, t] })
    (base : Nat) (e : TypeId) (i : TypeInfo) (z : Value) (size bytes : Nat) (ht : P.underlying t = some (.slice e)) (hi : P.info? e = some i) (hz : i.zero = some z)
    (hsize : i.size = size) (hby : i.bytes = bytes) (hzs : z.cells.size = size) (hsz : 0 < size)
    (v : Value) (n : Nat) (xs : List Value) (hs : a.eval s = v) (hown : w.ownsRow base e size v n xs)
    (src : Value) (m : Nat) (news : List Value) (hx : a.eval x = src) (hsrc : Src w src size m news) (h1 : ∀ u ∈ news, u.oneCell' = true)
    (h63 : n + m ≤ maxLen) (hbytes : (n + m) * bytes ≤ 140737488355328) (hbase : base ≤ w.heap.size)
    (h : ∀ v' w', w'.ownsRow base e size v' (n + m) (xs ++ news) → w.grownBy w' v.ownBlock → wpList P ops Q rest (a.put o.dst v') w') :
    wpList P ops Q (o :: rest) a w :=
  wpList_step fun K hK => by
    rw [if_pos hgd]
    exact wp_append_src w s x t ho base e i z size bytes ht hi hz hsize hby hzs hsz v n xs hs hown src m news hx hsrc h1 h63 hbytes hbase fun v' w' h2 h3 _ => hK _ _ (h v' w' h2 h3)

theorem own_app2 {base : Nat} {w : World} {v : Value} {a b : List Mat} (h : w.ownsRow base 41 3 v (0 + a.length + b.length) ([] ++ flatM a ++ flatM b)) : OwnM base w v (a ++ b) := by
  unfold OwnM
  rw [List.length_append, flatM_append]
  rw [Nat.zero_add, List.nil_append] at h
  exact h
/-- What the law speaks of. -/
structure InTakes (l : List Lab) (m n' : List Mat) : Prop where
  ck : checkL l = 0
  cm : checkMats m = 0
  cn : checkMats n' = 0

set_option maxRecDepth 100000 in
set_option maxHeartbeats 8000000 in
theorem wTakes (l : List Lab) (m n' : List Mat) (a b : List ByteArray) (vl vm vn va vb : Value) (n : Nat) (w : World) (hn : n ≤ w.heap.size) (hl : IsLabs n w vl l) (hm : IsMats n w vm m) (hmn : NilOk vm) (hn2 : IsMats n w vn n') (hnn : NilOk vn) (ha : IsStrs n w va a) (hb : IsStrs n w vb b) :
    Calls Try.prog 4 #[vl, vm, vn, va, vb] w (LawTrue w) := by
  have HLv := Lib.hid (fun X => lLives X)
  have HLl := Lib.hid (fun X (h : Below w.heap.size w X) => hl.mono (h.mono hn) (Nat.le_refl n))
  have HMm := Lib.hid (fun X (h : Below w.heap.size w X) => hm.mono (h.mono hn) (Nat.le_refl n))
  have HNn := Lib.hid (fun X (h : Below w.heap.size w X) => hn2.mono (h.mono hn) (Nat.le_refl n))
  have HAa := Lib.hid (fun X (h : Below w.heap.size w X) => ha.mono (h.mono hn) (Nat.le_refl n))
  have HBb := Lib.hid (fun X (h : Below w.heap.size w X) => hb.mono (h.mono hn) (Nat.le_refl n))
  have HmN := Lib.hid hmn; have HnN := Lib.hid hnn
  have hsm := hm.2; have hsn := hn2.2; have hsl := hl.2
  have HSm := Lib.hid hsm; have HSn := Lib.hid hsn; have HSl := Lib.hid hsl
  obtain ⟨pm, cm, rfl, hcm1, hcm2, hml⟩ := hm.open
  obtain ⟨pn, cn, rfl, _, _, hnl⟩ := hn2.open
  clear hl hm hmn hn2 hnn ha hb hsm hsn hsl
  unfold maxLen at hml hnl hcm2
  have HB := Lib.hid (Below.refl w.heap.size w)
  obtain ⟨i1, gi, gv0, gv1, gv2⟩ := info_parts infoMat
  go_enter Try.func4, Try.ntmps4; (try simp only [List.append_eq, List.cons_append, List.nil_append])
  go_upto_region 3 with (go_at_call 7; refine (HLv.out _).mono ?_; rintro e' w1 ⟨rfl, hb⟩; have HB := Lib.hid (HB.out.trans (hb.mono HB.out.size)); clear hb; have hs1 := HB.out.size)
  go_cut [37] from 37 to 37 (fun s37 wx => (∃ b, s37 = .bool b ∧ (b = false → InTakes l m n')) ∧ Below w.heap.size w wx)
  case first =>
    by_cases h1 : checkL l = 0
    · by_cases h2 : checkMats m = 0
      · by_cases h3 : checkMats n' = 0
        · have HI : Hid (InTakes l m n') := InTakes.mk h1 h2 h3
          go_wp2_with (first | (go_at_call 11; (with_reducible refine (lCheck l vl n _ (by have := HB.out.size; omega) (HLl.out _ HB.out)).mono ?_); rintro e' w2 ⟨rfl, hb⟩; rw [h1]; have HB := Lib.hid (HB.out.trans (hb.mono HB.out.size)); clear hb) | (go_at_call 14; (with_reducible refine (lCheckMatch m (.slice pm m.length cm) n _ (by have := HB.out.size; omega) (HMm.out _ HB.out)).mono ?_); rintro e' w3 ⟨rfl, hb⟩; rw [h2]; have HB := Lib.hid (HB.out.trans (hb.mono HB.out.size)); clear hb) | (go_at_call 14; (with_reducible refine (lCheckMatch n' (.slice pn n'.length cn) n _ (by have := HB.out.size; omega) (HNn.out _ HB.out)).mono ?_); rintro e' w3 ⟨rfl, hb⟩; rw [h3]; have HB := Lib.hid (HB.out.trans (hb.mono HB.out.size)); clear hb) | (go_at_call 15; (with_reducible refine (kLightTexts a va n _ (HAa.out _ HB.out)).mono ?_); rintro e' w' ⟨b1, rfl, -, rfl⟩) | (go_at_call 15; (with_reducible refine (kLightTexts b vb n _ (HBb.out _ HB.out)).mono ?_); rintro e' w' ⟨b1, rfl, -, rfl⟩))
          all_goals go_meet
          all_goals exact ⟨⟨_, rfl, fun _ => HI.out⟩, HB.out⟩
        · have h3' : (checkMats n' != 0) = true := by simpa using h3
          go_wp2_with (first | (go_at_call 11; (with_reducible refine (lCheck l vl n _ (by have := HB.out.size; omega) (HLl.out _ HB.out)).mono ?_); rintro e' w2 ⟨rfl, hb⟩; rw [h1]; have HB := Lib.hid (HB.out.trans (hb.mono HB.out.size)); clear hb) | (go_at_call 14; (with_reducible refine (lCheckMatch m (.slice pm m.length cm) n _ (by have := HB.out.size; omega) (HMm.out _ HB.out)).mono ?_); rintro e' w3 ⟨rfl, hb⟩; rw [h2]; have HB := Lib.hid (HB.out.trans (hb.mono HB.out.size)); clear hb) | (go_at_call 14; (with_reducible refine (lCheckMatch n' (.slice pn n'.length cn) n _ (by have := HB.out.size; omega) (HNn.out _ HB.out)).mono ?_); rintro e' w3 ⟨rfl, hb⟩; have HB := Lib.hid (HB.out.trans (hb.mono HB.out.size)); clear hb))
          all_goals go_meet
          all_goals exact ⟨⟨_, rfl, fun hb => by simp at hb⟩, HB.out⟩
      · have h2' : (checkMats m != 0) = true := by simpa using h2
        go_wp2_with (first | (go_at_call 11; (with_reducible refine (lCheck l vl n _ (by have := HB.out.size; omega) (HLl.out _ HB.out)).mono ?_); rintro e' w2 ⟨rfl, hb⟩; rw [h1]; have HB := Lib.hid (HB.out.trans (hb.mono HB.out.size)); clear hb) | (go_at_call 14; (with_reducible refine (lCheckMatch m (.slice pm m.length cm) n _ (by have := HB.out.size; omega) (HMm.out _ HB.out)).mono ?_); rintro e' w3 ⟨rfl, hb⟩; have HB := Lib.hid (HB.out.trans (hb.mono HB.out.size)); clear hb))
        all_goals go_meet
        all_goals exact ⟨⟨_, rfl, fun hb => by simp at hb⟩, HB.out⟩
    · have h1' : (checkL l != 0) = true := by simpa using h1
      go_wp2_with (go_at_call 11; (with_reducible refine (lCheck l vl n _ (by have := HB.out.size; omega) (HLl.out _ HB.out)).mono ?_); rintro e' w2 ⟨rfl, hb⟩; have HB := Lib.hid (HB.out.trans (hb.mono HB.out.size)); clear hb)
      all_goals go_meet
      all_goals exact ⟨⟨_, rfl, fun hb => by simp at hb⟩, HB.out⟩
  case rest =>
    obtain ⟨⟨b0, rfl, hG⟩, hb0⟩ := hcut
    obtain ⟨W, rfl⟩ : ∃ W : World, W = wc := ⟨_, rfl⟩
    clear HB
    have HB := Lib.hid hb0; clear hb0
    have hsW := HB.out.size
    cases b0 with
    | true =>
      go_wp2
      go_ret
      exact ⟨rfl, HB.out⟩
    | false =>
      have hG := hG rfl
      obtain ⟨h1, h2, h3⟩ := hG
      have K1 := Lib.hid h1; have K2 := Lib.hid h2; have K3 := Lib.hid h3
      have hm8 := (checkMats_iff.1 h2).1
      have hn8 := (checkMats_iff.1 h3).1
      clear h1 h2 h3
      go_upto_region 5 with fail
      go_cut [61] from 61 to 61 (fun s61 wx => s61 = .bool false ∧ Below w.heap.size w wx)
      case first =>
        by_cases h8 : m.length + n'.length ≤ 8
        · have c1 : (m.length : Int) + (n'.length : Int) ≤ 8 := by omega
          have HT := Lib.hid (takes_append (l := l) K2.out K3.out h8)
          have HSm1 := Lib.hid (fun X (h : Below w.heap.size w X) => (HMm.out X h).src HmN.out)
          have HSn1 := Lib.hid (fun X (h : Below w.heap.size w X) => (HNn.out X h).src HnN.out)
          have tok1 : True := trivial
          have tok2 : True := trivial
          have tok3 : True := trivial
          have tok4 : True := trivial
          have tok5 : True := trivial
          have HSmn : Hid (∀ x ∈ m ++ n', x.small) := fun x hx => (List.mem_append.1 hx).elim (HSm.out x) (HSn.out x)
          obtain ⟨T1, hT1⟩ : ∃ T, takesAll m l = T := ⟨_, rfl⟩
          obtain ⟨T2, hT2⟩ : ∃ T, takesAll n' l = T := ⟨_, rfl⟩
          rw [hT1, hT2] at HT
          have HT1 := Lib.hid hT1; have HT2 := Lib.hid hT2; clear hT1 hT2
          go_wp2_with (first
            | (at_builtin; clear tok1; refine wpList_append_grd (by kernel_rfl) _ _ _ rfl w.heap.size 41 i1 _ 3 40 Try.underlying36 gi gv0 gv1 gv2 rfl (by decide) _ 0 [] rfl (ownsRow_base (one_none W _ 3) hsW) (.slice pm m.length cm) m.length (flatM m) rfl (HSm1.out _ (HB.out.alloc hsW _)) (flatM_one m) (by unfold maxLen; omega) (by omega) (by simp; omega) ?_; intro v3 w3 hown3 hgr3; have HB3 := Lib.hid (below_app (HB.out.alloc hsW _) (ownsRow_base (one_none W _ 3) hsW) hgr3 (Nat.le_refl _) (by simp; omega)); have HO3 := Lib.hid hown3; clear hown3 hgr3; have hs3 := HB3.out.size)
            | (at_builtin; clear tok2; refine wpList_append_grd (by kernel_rfl) _ _ _ rfl w.heap.size 41 i1 _ 3 40 Try.underlying36 gi gv0 gv1 gv2 rfl (by decide) v3 _ _ rfl HO3.out (.slice pn n'.length cn) n'.length (flatM n') rfl (HSn1.out _ HB3.out) (flatM_one n') (by unfold maxLen; omega) (by omega) hs3 ?_; intro v5 w5 hown5 hgr5; have HB := Lib.hid (below_app HB3.out HO3.out hgr5 (Nat.le_refl _) hs3); have HO5 := Lib.hid (own_app2 hown5); clear hown5 hgr5; have HM5 := Lib.hid (HO5.out.mats (Nat.le_refl _) HSmn.out))
            | (go_at_call 16; clear tok3; (with_reducible refine (lTakes (m ++ n') l v5 vl w5.heap.size w5 (Nat.le_refl _) HM5.out ((HLl.out _ HB.out).mono (Below.refl _ _) (by have := HB.out.size; omega))).mono ?_); rintro e' w' ⟨rfl, hb⟩; rw [HT.out]; have HB := Lib.hid (HB.out.trans (hb.mono HB.out.size)); clear hb)
            | (go_at_call 16; clear tok4; (with_reducible refine (lTakes m l (.slice pm m.length cm) vl n _ (by have := HB.out.size; omega) (HMm.out _ HB.out) (HLl.out _ HB.out)).mono ?_); rintro e' w' ⟨rfl, hb⟩; rw [HT1.out]; have HB := Lib.hid (HB.out.trans (hb.mono HB.out.size)); clear hb)
            | (go_at_call 16; clear tok5; (with_reducible refine (lTakes n' l (.slice pn n'.length cn) vl n _ (by have := HB.out.size; omega) (HNn.out _ HB.out) (HLl.out _ HB.out)).mono ?_); rintro e' w' ⟨rfl, hb⟩; rw [HT2.out]; have HB := Lib.hid (HB.out.trans (hb.mono HB.out.size)); clear hb))
          all_goals go_meet
          all_goals exact ⟨rfl, HB.out⟩
        · have c1 : ¬ (m.length : Int) + (n'.length : Int) ≤ 8 := by omega
          go_wp2
          all_goals go_meet
          all_goals exact ⟨rfl, HB.out⟩
      case rest =>
        obtain ⟨rfl, hb6⟩ := hcut
        obtain ⟨W6, rfl⟩ : ∃ W6 : World, W6 = wc := ⟨_, rfl⟩
        clear HB
        have HB6 := Lib.hid hb6; clear hb6
        go_upto_region 8 with fail
        go_loopw [11] (fun s11 wr => ∃ k : Nat, k ≤ m.length ∧ s11 = .int .i64 k ∧ Below w.heap.size w wr) (fun s11 _ => m.length - (intOf s11).toNat)
        case atStart => exact ⟨0, Nat.zero_le _, rfl, HB6.out⟩
        case round =>
          obtain ⟨k, hk, rfl, hb⟩ := hrel
          have HB := Lib.hid hb; clear hb
          have hsr := HB.out.size
          by_cases hlk : k < m.length
          · have hkB : matB m[k] = true := List.all_eq_true.1 (checkMats_iff.1 K2.out).2 _ (List.getElem_mem hlk)
            have hot := opp_takes (l := l) K1.out hkB
            have hsk := HSm.out _ (List.getElem_mem hlk)
            obtain ⟨b, off, rfl, hbn, h1, h2, h3, hs1, hs2⟩ := (HMm.out _ HB.out).get hlk
            have HMk := Lib.hid (HMm.out _ HB.out)
            obtain ⟨hop, hkk⟩ := opp_ok hkB
            have HSk := Lib.hid hsk; clear hsk hkB hs1 hs2
            have hsub : ∀ X, Below wr.heap.size wr X → IsMats w.heap.size X (.slice (some ⟨b, off + k * 3, none⟩) 1 (cm - k)) [m[k]] := fun X hX => ((HMm.out X (HB.out.trans (hX.mono hsr))).sub hlk (by omega) (by unfold maxLen; omega)).mono (Below.refl _ _) hn
            obtain ⟨x, hx⟩ : ∃ x, m[k] = x := ⟨_, rfl⟩
            rw [hx] at h1 h2 h3 hot hop hkk HSk hsub
            clear hx
            have Hot := Lib.hid hot; have Hsub := Lib.hid hsub; clear hot hsub hop
            have hw3 : IntKind.i64.wrap (3 - x.kind) = 3 - x.kind := IntWalk.i64_in _ (by omega)
            go_upto_region 12 with fail
            have hblk := Blk.new wr [.int .i64 (3 - x.kind), .string x.name, .string x.text] 41
            have hb1 : Below wr.heap.size wr (wr.alloc (.cells #[.int .i64 (3 - x.kind), .string x.name, .string x.text] 41)) := (Below.refl _ _).alloc (Nat.le_refl _) _
            obtain ⟨W1, hW1⟩ : ∃ W1, wr.alloc (.cells #[.int .i64 (3 - x.kind), .string x.name, .string x.text] 41) = W1 := ⟨_, rfl⟩
            have hblk' : Blk W1 wr.heap.size 41 [.int .i64 (3 - x.kind), .string x.name, .string x.text] := by rw [← hW1]; exact hblk
            rw [hW1] at hb1 ⊢
            clear hblk hW1
            have HQ := Lib.hid hblk'; clear hblk'
            have HBW := Lib.hid hb1; clear hb1
            have hsw1 := HBW.out.size
            have hX := Below.refl W1.heap.size W1
            have HS := Lib.hid (fun X (h : Below W1.heap.size W1 X) => show X.cell? ⟨wr.heap.size, 0, none⟩ = some (.int .i64 (3 - x.kind)) ∧ X.cell? ⟨wr.heap.size, 1, none⟩ = some (.string x.name) ∧ X.cell? ⟨wr.heap.size, 2, none⟩ = some (.string x.text) from
              ⟨(HQ.out.mono h HQ.out.lt).cell 0 _ rfl, (HQ.out.mono h HQ.out.lt).cell 1 _ rfl, (HQ.out.mono h HQ.out.lt).cell 2 _ rfl⟩)
            obtain ⟨T, hT⟩ : ∃ T, takesAll [x] l = T := ⟨_, rfl⟩
            rw [hT] at Hot
            have HT := Lib.hid hT; clear hT
            have C1 := Lib.hid (fun X (h : Below W1.heap.size W1 X) => show Calls Try.prog 16 #[.slice (some ⟨b, off + k * 3, none⟩) 1 (cm - k), vl] X (fun e' w' => e' = .returned (.bool T) ∧ Below W1.heap.size W1 w' ∧ Below X.heap.size X w') from by
              have hwX : Below wr.heap.size wr X := HBW.out.trans (h.mono hsw1)
              have := lTakes [x] l (.slice (some ⟨b, off + k * 3, none⟩) 1 (cm - k)) vl w.heap.size X (by have := hwX.size; omega) (Hsub.out X hwX) ((HLl.out X (HB.out.trans (hwX.mono hsr))).mono (Below.refl _ _) hn)
              rw [HT.out] at this
              exact this.mono fun e' w' ⟨h1, h2⟩ => ⟨h1, h.trans (h2.mono h.size), h2⟩)
            have C2 := Lib.hid (fun X v (h : Below W1.heap.size W1 X) (hM : IsMats X.heap.size X v [opp x]) => show Calls Try.prog 16 #[v, vl] X (fun e' w' => e' = .returned (.bool (!T)) ∧ Below W1.heap.size W1 w') from by
              have hwX : Below wr.heap.size wr X := HBW.out.trans (h.mono hsw1)
              have := lTakes [opp x] l v vl X.heap.size X (Nat.le_refl _) hM ((HLl.out X (HB.out.trans (hwX.mono hsr))).mono (Below.refl _ _) (by have := hwX.size; omega))
              rw [Hot.out] at this
              exact this.mono fun e' w' ⟨h1, h2⟩ => ⟨h1, h.trans (h2.mono h.size)⟩)
            have HML := Lib.hid (fun X => show IsMats (X.heap.size + 1) (X.alloc (.cells #[.int .i64 (3 - x.kind), .string x.name, .string x.text] 41)) (.slice (some ⟨X.heap.size, 0, none⟩) 1 1) [opp x] from mats_lit X [opp x] (by intro y hy; simp at hy; subst hy; exact HSk.out) (by show 1 ≤ maxLen; decide))
            have hk1 : IntKind.i64.wrap ((k : Int) + 1) = (k : Int) + 1 := IntWalk.i64_in _ (by omega)
            have c1 : (k : Int) + 1 ≤ (cm : Int) := by omega
            have c2 : (k : Int) ≤ (k : Int) + 1 := by omega
            have c3 : ¬ cm = k := by omega
            have c4 : (0 : Int) ≤ (k : Int) := by omega
            clear hw3
            go_region_held3 (fun w' => w'.cell? ⟨wr.heap.size, 0, none⟩ = some (.int .i64 (3 - x.kind)) ∧ w'.cell? ⟨wr.heap.size, 1, none⟩ = some (.string x.name) ∧ w'.cell? ⟨wr.heap.size, 2, none⟩ = some (.string x.text))
              ((first | exact HS.out _ (by assumption) | exact HS.out _ (Below.drew (by assumption)) | exact HS.out _ (Below.alloc (Below.drew hX) (Nat.le_refl _) _) | exact HS.out _ (Below.alloc hA1 hA1.size _) | exact HS.out _ (Below.alloc hX (Nat.le_refl _) _) | fail))
              ((first
                | (go_at_call 16; (with_reducible refine (C1.out _ (by first | assumption | exact Below.drew (by assumption) | exact Below.drew (Below.alloc hX (Nat.le_refl _) _))).mono ?_); rintro e' X2 ⟨rfl, hA1, hA2⟩)
                | (go_at_call 16; (first | (with_reducible refine (C2.out _ _ (Below.alloc hA1 hA1.size _) ((HML.out X2).mono (Below.refl _ _) (by simp))).mono ?_) | (with_reducible refine (C2.out _ _ hA1 ((HML.out W1).mono ((Below.drew (Below.refl (W1.heap.size + 1) _)).trans (hA2.mono (by simp))) (Nat.le_trans (Nat.le_of_eq (by simp)) hA2.size))).mono ?_) | fail); rintro e' X3 ⟨rfl, hA3⟩) | fail))
            all_goals cases T
            all_goals go_wp2
            all_goals exact ⟨⟨k + 1, by omega, by go_num, HB.out.trans ((HBW.out.trans (hA3.mono hsw1)).mono hsr)⟩, by simp [intOf]; omega⟩
          · have hk' : k = m.length := by omega
            subst hk'
            have HB0 := HB; clear HB
            have hnm : IsMats n wr (.slice none 0 0) ([] : List Mat) := ⟨Arr.nil _ _ _, by simp⟩
            have Hnm := Lib.hid hnm; clear hnm
            have K0 := Lib.hid (takes_nil (l := l) K1.out)
            have KA := Lib.hid (part_comm K1.out a b true true)
            have KB := Lib.hid (part_comm K1.out a b true false)
            have KC := Lib.hid (part_none K1.out a)
            go_wp2_with fail
            refine (lTakes [] l _ vl n wr (by have := HB0.out.size; omega) Hnm.out (HLl.out _ HB0.out)).mono ?_
            rintro e w1 ⟨rfl, hb⟩
            rw [K0.out]
            have HB1 := Lib.hid (HB0.out.trans (hb.mono HB0.out.size)); clear hb
            go_wp2_with fail
            refine (lOnly l a vl va n w1 (by have := HB1.out.size; omega) (HLl.out _ HB1.out) (HAa.out _ HB1.out)).mono ?_
            rintro e w2 ⟨v2, rfl, ho, hb⟩
            have HB2 := Lib.hid (HB1.out.trans (hb.mono HB1.out.size))
            have Hv2 := Lib.hid (OwnL.labs (m := w2.heap.size) ho (Nat.le_refl _) (fun y hy => HSl.out y (part_sub y hy)))
            clear ho hb
            go_wp2_with fail
            refine (lOnly (partL l a true) b v2 vb w2.heap.size w2 (Nat.le_refl _) Hv2.out ((HBb.out _ HB2.out).mono (Below.refl _ _) (by have := HB2.out.size; omega))).mono ?_
            rintro e w3 ⟨v3, rfl, ho, hb⟩
            have HB3 := Lib.hid (HB2.out.trans (hb.mono HB2.out.size))
            have Hv3 := Lib.hid (OwnL.labs (m := w3.heap.size) ho (Nat.le_refl _) (fun y hy => HSl.out y (part_sub y (part_sub y hy))))
            clear ho hb
            go_wp2_with fail
            refine (lOnly l b vl vb n w3 (by have := HB3.out.size; omega) (HLl.out _ HB3.out) (HBb.out _ HB3.out)).mono ?_
            rintro e w4 ⟨v4, rfl, ho, hb⟩
            have HB4 := Lib.hid (HB3.out.trans (hb.mono HB3.out.size))
            have Hv4 := Lib.hid (OwnL.labs (m := w4.heap.size) ho (Nat.le_refl _) (fun y hy => HSl.out y (part_sub y hy)))
            have Hv3 := Lib.hid (Hv3.out.mono hb hb.size)
            clear ho hb
            go_wp2_with fail
            refine (lOnly (partL l b true) a v4 va w4.heap.size w4 (Nat.le_refl _) Hv4.out ((HAa.out _ HB4.out).mono (Below.refl _ _) (by have := HB4.out.size; omega))).mono ?_
            rintro e w5 ⟨v5, rfl, ho, hb⟩
            have HB5 := Lib.hid (HB4.out.trans (hb.mono HB4.out.size))
            have Hv5 := Lib.hid (OwnL.labs (m := w5.heap.size) ho (Nat.le_refl _) (fun y hy => HSl.out y (part_sub y (part_sub y hy))))
            have Hv3 := Lib.hid (Hv3.out.mono hb hb.size)
            clear ho hb
            go_wp2_with fail
            refine (kLabels (partL (partL l a true) b true) (partL (partL l b true) a true) v3 v5 w5.heap.size w5 (Nat.le_refl _) Hv3.out Hv5.out).mono ?_
            rintro e w6 ⟨rfl, hb⟩
            rw [decide_eq_true KA.out]
            have HB6 := Lib.hid (HB5.out.trans (hb.mono HB5.out.size)); clear hb
            go_wp2_with fail
            refine (lOnly l a vl va n w6 (by have := HB6.out.size; omega) (HLl.out _ HB6.out) (HAa.out _ HB6.out)).mono ?_
            rintro e w7 ⟨v7, rfl, ho, hb⟩
            have HB7 := Lib.hid (HB6.out.trans (hb.mono HB6.out.size))
            have Hv7 := Lib.hid (OwnL.labs (m := w7.heap.size) ho (Nat.le_refl _) (fun y hy => HSl.out y (part_sub y hy)))
            clear ho hb
            go_wp2_with fail
            refine (lWithout (partL l a true) b v7 vb w7.heap.size w7 (Nat.le_refl _) Hv7.out ((HBb.out _ HB7.out).mono (Below.refl _ _) (by have := HB7.out.size; omega))).mono ?_
            rintro e w8 ⟨v8, rfl, ho, hb⟩
            have HB8 := Lib.hid (HB7.out.trans (hb.mono HB7.out.size))
            have Hv8 := Lib.hid (OwnL.labs (m := w8.heap.size) ho (Nat.le_refl _) (fun y hy => HSl.out y (part_sub y (part_sub y hy))))
            clear ho hb
            go_wp2_with fail
            refine (lWithout l b vl vb n w8 (by have := HB8.out.size; omega) (HLl.out _ HB8.out) (HBb.out _ HB8.out)).mono ?_
            rintro e w9 ⟨v9, rfl, ho, hb⟩
            have HB9 := Lib.hid (HB8.out.trans (hb.mono HB8.out.size))
            have Hv9 := Lib.hid (OwnL.labs (m := w9.heap.size) ho (Nat.le_refl _) (fun y hy => HSl.out y (part_sub y hy)))
            have Hv8 := Lib.hid (Hv8.out.mono hb hb.size)
            clear ho hb
            go_wp2_with fail
            refine (lOnly (partL l b false) a v9 va w9.heap.size w9 (Nat.le_refl _) Hv9.out ((HAa.out _ HB9.out).mono (Below.refl _ _) (by have := HB9.out.size; omega))).mono ?_
            rintro e w10 ⟨v10, rfl, ho, hb⟩
            have HB10 := Lib.hid (HB9.out.trans (hb.mono HB9.out.size))
            have Hv10 := Lib.hid (OwnL.labs (m := w10.heap.size) ho (Nat.le_refl _) (fun y hy => HSl.out y (part_sub y (part_sub y hy))))
            have Hv8 := Lib.hid (Hv8.out.mono hb hb.size)
            clear ho hb
            go_wp2_with fail
            refine (kLabels (partL (partL l a true) b false) (partL (partL l b false) a true) v8 v10 w10.heap.size w10 (Nat.le_refl _) Hv8.out Hv10.out).mono ?_
            rintro e w11 ⟨rfl, hb⟩
            rw [decide_eq_true KB.out]
            have HB11 := Lib.hid (HB10.out.trans (hb.mono HB10.out.size)); clear hb
            go_wp2_with fail
            refine (lWithout l a vl va n w11 (by have := HB11.out.size; omega) (HLl.out _ HB11.out) (HAa.out _ HB11.out)).mono ?_
            rintro e w12 ⟨v12, rfl, ho, hb⟩
            have HB12 := Lib.hid (HB11.out.trans (hb.mono HB11.out.size))
            have Hv12 := Lib.hid (OwnL.labs (m := w12.heap.size) ho (Nat.le_refl _) (fun y hy => HSl.out y (part_sub y hy)))
            clear ho hb
            go_wp2_with fail
            refine (lOnly (partL l a false) a v12 va w12.heap.size w12 (Nat.le_refl _) Hv12.out ((HAa.out _ HB12.out).mono (Below.refl _ _) (by have := HB12.out.size; omega))).mono ?_
            rintro e w13 ⟨v13, rfl, ho, hb⟩
            have HB13 := Lib.hid (HB12.out.trans (hb.mono HB12.out.size))
            have Hv13 := Lib.hid (OwnL.labs (m := w13.heap.size) ho (Nat.le_refl _) (fun y hy => HSl.out y (part_sub y (part_sub y hy))))
            clear ho hb
            have hv := Hv13.out
            rw [KC.out] at hv
            obtain ⟨p13, c13, rfl, -⟩ := hv.open
            clear hv Hv13
            rw [List.length_nil]
            go_wp2_with fail
            go_ret
            exact ⟨rfl, HB13.out⟩
end Go.Proofs.Ytbllkddpmmeloaa
