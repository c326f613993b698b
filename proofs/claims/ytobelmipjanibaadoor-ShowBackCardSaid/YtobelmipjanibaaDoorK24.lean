/- The reference's parser: names. -/
import Derived.Test.YtobelmipjanibaaDoorK23
import Derived.Test.YtobelmipjanibaaDoorK20
import Derived.Test.YtobelmipjanibaaDoorK1
import Derived.Test.YtobelmipjanibaaDoorK0
namespace Go.Proofs.YtobelmipjanibaaDoor
open Go.RowKit
set_option linter.unusedSimpArgs false
set_option linter.unusedVariables false

/-! ### what the plain steps keep -/
theorem PS.fail_i (p : PS) (e a : Int) : (p.fail e a).i = p.i := by unfold PS.fail; split <;> rfl
theorem PS.take_i (L : List Tok) (p : PS) (s : List UInt8) : p.i ≤ (p.take L s).2.i ∧ ((p.take L s).1 = true → p.i < (p.take L s).2.i) := by
  unfold PS.take
  repeat' split
  all_goals simp [PS.fail_i]
theorem PS.need_i (L : List Tok) (p : PS) (s : List UInt8) : p.i ≤ (p.need L s).i := by
  have := (PS.take_i L p s).1
  unfold PS.need; split
  · exact this
  · rw [PS.fail_i]; exact this
theorem PS.token_i (L : List Tok) (p : PS) (k : Int) : p.i ≤ (p.token L k).2.i := by
  unfold PS.token; split
  · simp
  · simp [PS.fail_i]
/-- Where a name goes. -/
theorem putName_at : ∀ (out : List (List UInt8)) (w : List UInt8) (k : Nat), k ≤ out.length → (∀ j (h : j < out.length), j < k → Op.bytesLess out[j] w = true) → (∀ h : k < out.length, Op.bytesLess out[k] w = false) →
    putName out w = if ∃ h : k < out.length, out[k] = w then out else out.take k ++ w :: out.drop k
  | [], w, k, hk, _, _ => by
    obtain rfl : k = 0 := by simpa using hk
    simp [putName]
  | x :: r, w, 0, _, _, h => by
    have h0 := h (by simp)
    simp only [List.getElem_cons_zero] at h0
    unfold putName
    rw [if_neg (by rw [h0]; simp)]
    by_cases e : x = w
    · rw [if_pos e, if_pos ⟨by simp, by simpa using e⟩]
    · rw [if_neg e, if_neg (by rintro ⟨_, h⟩; exact e (by simpa using h))]; simp
  | x :: r, w, k + 1, hk, h1, h2 => by
    have h0 := h1 0 (by simp) (by omega)
    simp only [List.getElem_cons_zero] at h0
    unfold putName
    rw [if_pos h0, putName_at r w k (by simpa using hk) (fun j hj hjk => by have := h1 (j + 1) (by simpa using hj) (by omega); simpa using this) (fun hk' => by have := h2 (by simpa using hk'); simpa using this)]
    by_cases e : ∃ h : k < r.length, r[k] = w
    · rw [if_pos e, if_pos (by obtain ⟨h, e⟩ := e; exact ⟨by simpa using h, by simpa using e⟩)]
    · rw [if_neg e, if_neg (by rintro ⟨h, e'⟩; exact e ⟨by simpa using h, by simpa using e'⟩)]; simp

theorem ownsRow_off {g : Nat} {w w' : World} {base e sz n : Nat} {v : Value} {xs : List Value} (h : w.ownsRow base e sz v n xs) (ho : Off g w w') (hg : g < base) : w'.ownsRow base e sz v n xs := by
  refine ⟨h.1, ?_⟩
  rcases h.2 with h | ⟨k, cap, cur, hv, hk, hh, h1, h2, h3, h4⟩
  · exact .inl h
  · exact .inr ⟨k, cap, cur, hv, hk, (ho.block k (Array.getElem?_eq_some_iff.1 hh).1 (by omega)).trans hh, h1, h2, h3, h4⟩
/-- Strings of the call's own. -/
def OwnN (base : Nat) (w : World) (v : Value) (l : List (List UInt8)) : Prop := w.ownsRow base 9 1 v l.length (l.map fun s => .string ⟨s.toArray⟩)
theorem OwnN.off {g base : Nat} {w w' : World} {v : Value} {l : List (List UInt8)} (h : OwnN base w v l) (ho : Off g w w') (hg : g < base) : OwnN base w' v l := ownsRow_off h ho hg
theorem infoSN : (Tryd.prog.info? 9).map (fun i => (i.zero, i.size, i.bytes)) = some (some (.string ⟨#[]⟩), 1, 16) := by kernel_rfl
/-- append on strings of the call's own. -/
theorem app_str {o : Oper} {a : Act} {K : Act → World → Prop} {Q : Exit → Act → World → Prop} (X : World) (s x : Operand) (ho : o.op = .call { callee := .builtin .append, args := #[s, x], argTypes := #[23, 23] })
    (base : Nat) (v : Value) (n : Nat) (xs : List Value) (hs : a.eval s = v) (hown : X.ownsRow base 9 1 v n xs) (src : Value) (m : Nat) (news : List Value) (hx : a.eval x = src) (hsrc : Src X src 1 m news)
    (h1 : ∀ u ∈ news, u.oneCell' = true) (hn : n + m ≤ 1000000) (hbase : base ≤ X.heap.size)
    (h : ∀ v' w', w'.ownsRow base 9 1 v' (n + m) (xs ++ news) → X.grownBy w' v.ownBlock → (v'.ownBlock = v.ownBlock ∨ v'.ownBlock = some X.heap.size) → K (a.put o.dst v') w') : o.wp Tryd.prog a X K Q := by
  obtain ⟨i0, hi, hz⟩ := Option.map_eq_some_iff.1 infoSN
  simp only [Prod.mk.injEq] at hz
  exact wp_append_src X s x 23 ho base 9 i0 _ 1 16 Tryd.underlying23 hi hz.1 hz.2.1 hz.2.2 rfl (by decide) v n xs hs hown src m news hx hsrc h1 (by unfold maxLen; omega) (by omega) hbase h
theorem src_below {W X : World} {v : Value} {sz m : Nat} {news : List Value} (h : Src W v sz m news) (hb : Below W.heap.size W X) : Src X v sz m news := h.keep fun p x hx => by
  have hlt : p.block < W.heap.size := World.block_lt_of_cell? W p hx
  rw [hb.cell hlt]; exact hx
theorem src_blk {X : World} {b t sz m c : Nat} {cs : List Value} (h : Blk X b t cs) (hl : cs.length = m * sz) : Src X (.slice (some ⟨b, 0, none⟩) m c) sz m cs := by
  refine .inr ⟨_, c, rfl, hl, fun j u hu => ?_⟩
  have e : (⟨b, 0, none⟩ : Addr).add j = ⟨b, j, none⟩ := by
    unfold Addr.add
    split <;> simp <;> omega
  rw [e]
  exact h.cell j u hu
theorem own_emptyN (W : World) : (W.alloc (.cells #[] 9)).ownsRow W.heap.size 9 1 (.slice (some ⟨W.heap.size, 0, none⟩) 0 0) 0 [] :=
  ⟨rfl, .inr ⟨W.heap.size, 0, #[], rfl, Nat.le_refl _, World.alloc_heap_new W _, Nat.le_refl _, Nat.zero_le _, rfl, rfl⟩⟩
theorem ones_str (l : List (List UInt8)) : ∀ u ∈ l.map (fun s => Value.string ⟨s.toArray⟩), u.oneCell' = true := by
  intro u hu; obtain ⟨x, _, rfl⟩ := List.mem_map.1 hu; rfl
theorem ones_one (s : ByteArray) : ∀ u ∈ [Value.string s], u.oneCell' = true := by
  intro u hu; simp only [List.mem_cons, List.not_mem_nil, or_false] at hu; subst hu; rfl
/-- What names answer: strings of their own, the parser as it stands. -/
def NamesR (g : Nat) (pt : Option Addr) (cap : Nat) (L : List Tok) (w : World) (r : List (List UInt8)) (p' : PS) (e' : Ending) (w' : World) : Prop := ∃ v, e' = .returned v ∧ OwnN w.heap.size w' v r ∧ PA g pt cap L p' w' ∧ Off g w w'

/-- How far a parser has come, as its memory tells. -/
def muP (g : Nat) (w : World) : Nat := (intOf ((w.cell? ⟨g, 1, none⟩).getD undef)).toNat
theorem muP_eq {g : Nat} {pt : Option Addr} {cap : Nat} {L : List Tok} {p : PS} {w : World} (h : PA g pt cap L p w) : muP g w = p.i := by
  have := h.1.cell 1 (.int .i64 p.i) rfl
  unfold muP; rw [this]; simp [intOf]
def boolN (v : Value) : Nat := match v with | .bool true => 1 | _ => 0

theorem fieldTok1 (a c d : Int) (b : ByteArray) (wx : World) : (Instr.field 67 (.agg #[.int .i64 a, .string b, .int .i64 c, .int .i64 d]) 1).run Tryd.prog wx = .ok (.string b) wx := by kernel_rfl
theorem fieldTok2 (a c d : Int) (b : ByteArray) (wx : World) : (Instr.field 67 (.agg #[.int .i64 a, .string b, .int .i64 c, .int .i64 d]) 2).run Tryd.prog wx = .ok (.int .i64 c) wx := by kernel_rfl
theorem putName_len : ∀ (out : List (List UInt8)) (w : List UInt8), (putName out w).length ≤ out.length + 1 ∧ ∀ x ∈ putName out w, x ∈ out ∨ x = w
  | [], w => by simp [putName]
  | y :: r, w => by
    have ih := putName_len r w
    unfold putName
    split
    · refine ⟨by simpa using ih.1, fun x hx => ?_⟩
      rcases List.mem_cons.1 hx with rfl | hx
      · left; simp
      · rcases ih.2 x hx with h | h
        · left; simp [h]
        · exact .inr h
    · split
      · exact ⟨by simp, fun x hx => .inl hx⟩
      · refine ⟨by simp, fun x hx => ?_⟩
        rcases List.mem_cons.1 hx with rfl | hx
        · exact .inr rfl
        · exact .inl hx
/-- One round of names, plainly. -/
theorem names_step (L : List Tok) {f1 : Nat} {p1 q1 : PS} {tk : Tok} {out r : List (List UInt8)} {p' : PS} (herr : p1.err = 0) (htk : p1.token L 1 = (tk, q1)) (h : (namesF L f1 p1 out).map (fun x => (x.1, x.2.need L [41])) = some (r, p')) :
    ((q1.take L [44]).1 = true ∧ ∃ f, (namesF L f (q1.take L [44]).2 (putName out tk.text)).map (fun x => (x.1, x.2.need L [41])) = some (r, p')) ∨ ((q1.take L [44]).1 = false ∧ (putName out tk.text, (q1.take L [44]).2.need L [41]) = (r, p')) := by
  cases f1 with
  | zero => simp [namesF] at h
  | succ f =>
    unfold namesF at h
    rw [if_pos herr] at h
    simp only [htk] at h
    cases hc : (q1.take L [44]).1 with
    | true => left; refine ⟨rfl, f, ?_⟩; simpa [hc] using h
    | false => right; refine ⟨rfl, ?_⟩; simpa [hc] using h
theorem names_stop (L : List Tok) {f1 : Nat} {p1 : PS} {out r : List (List UInt8)} {p' : PS} (herr : ¬ p1.err = 0) (h : (namesF L f1 p1 out).map (fun x => (x.1, x.2.need L [41])) = some (r, p')) : (out, p1.need L [41]) = (r, p') := by
  cases f1 with
  | zero => simp [namesF] at h
  | succ f =>
    unfold namesF at h
    rw [if_neg herr] at h
    simpa using h
theorem ownN_of {base base' : Nat} {w : World} {v : Value} {n : Nat} {xs : List Value} {l : List (List UInt8)} (h : w.ownsRow base' 9 1 v n xs) (hb : base ≤ base') (hn : n = l.length) (hx : xs = l.map fun s => .string ⟨s.toArray⟩) : OwnN base w v l := by
  subst hn hx; exact ownsRow_base h hb
theorem src_at {w : World} {h o n c : Nat} {l : List (List UInt8)} (hl : l.length = n) (hc : ∀ j (hj : j < l.length), w.cell? ⟨h, o + j, none⟩ = some (.string ⟨l[j].toArray⟩)) : Src w (.slice (some ⟨h, o, none⟩) n c) 1 n (l.map fun s => .string ⟨s.toArray⟩) := by
  subst hl
  refine .inr ⟨_, c, rfl, by simp, fun j u hu => ?_⟩
  simp only [List.getElem?_map, Option.map_eq_some_iff] at hu
  obtain ⟨x, hx, rfl⟩ := hu
  obtain ⟨hj, rfl⟩ := List.getElem?_eq_some_iff.1 hx
  have e : (⟨h, o, none⟩ : Addr).add j = ⟨h, o + j, none⟩ := by
    unfold Addr.add
    split <;> simp <;> omega
  rw [e]; exact hc j hj
/-- The end of a round. -/
theorem names_round {g : Nat} {pt : Option Addr} {cap : Nat} {L : List Tok} {w wr w5 w6 : World} {out r : List (List UInt8)} {p1 q1 : PS} {tk : Tok} {wd : List UInt8} {p' : PS} {f1 : Nat} {v : Value} (hgw : g < w.heap.size)
    (hmu : muP g wr = p1.i) (herr : p1.err = 0) (htk : p1.token L 1 = (tk, q1)) (hwd : tk.text = wd) (hwl : wd.length ≤ 100000) (h : (namesF L f1 p1 out).map (fun x => (x.1, x.2.need L [41])) = some (r, p'))
    (hw1 : p1.i < L.length) (hwq : PW L q1) (hiq : p1.i ≤ q1.i) (htx : ∀ x ∈ out, x.length ≤ 100000) (hlen : out.length ≤ p1.i) (hown : OwnN w.heap.size w5 v (putName out wd)) (ho5 : Off g w w5) (hP6 : PA g pt cap L (q1.take L [44]).2 w6) (ho6 : Off g w5 w6) :
    (∃ (out : List (List UInt8)) (p1 : PS) (b : Bool), Value.bool (q1.take L [44]).1 = .bool b ∧ OwnN w.heap.size w6 v out ∧ PA g pt cap L p1 w6 ∧ PW L p1 ∧ Off g w w6 ∧ (∀ x ∈ out, x.length ≤ 100000) ∧ (b = true → out.length ≤ p1.i) ∧
        ((b = true ∧ ∃ f, (namesF L f p1 out).map (fun x => (x.1, x.2.need L [41])) = some (r, p')) ∨ (b = false ∧ (out, p1.need L [41]) = (r, p')))) ∧ 2 * (L.length - muP g w6) + boolN (.bool (q1.take L [44]).1) < 2 * (L.length - muP g wr) + boolN (.bool true) := by
  have hst := names_step L herr htk h
  rw [hwd] at hst
  have hti := PS.take_i L q1 [44]
  have hpl := putName_len out wd
  refine ⟨⟨putName out wd, _, _, rfl, hown.off ho6 hgw, hP6, hwq.take [44], ho5.trans ho6, fun x hx => ?_, fun hc => ?_, hst⟩, ?_⟩
  · rcases hpl.2 x hx with h | rfl
    · exact htx x h
    · exact hwl
  · have := hti.2 hc; omega
  · rw [muP_eq hP6, hmu]
    have hw2 := (hwq.take [44]).at'
    cases hc : (q1.take L [44]).1 with
    | true => have := hti.2 hc; simp only [boolN]; omega
    | false => simp only [boolN]; omega
set_option maxRecDepth 100000 in
set_option maxHeartbeats 8000000 in
theorem pNamesC (g : Nat) (pt : Option Addr) (cap : Nat) (L : List Tok) (f : Nat) (p : PS) (r : List (List UInt8)) (p' : PS) (hr : pNames L f p = some (r, p')) (w : World) (h : PA g pt cap L p w) (hw : PW L p) :
    Calls Tryd.prog 107 #[.pointer (some ⟨g, 0, none⟩)] w (NamesR g pt cap L w r p') := by
  have HN := Lib.hid (pNeed g pt cap L p w h hw [40])
  have hg := h.1.lt
  have Hgw := Lib.hid hg
  have hq := hw.need [40]
  have HT := Lib.hid (fun (X : World) (hX : PA g pt cap L (p.need L [40]) X) => pTake g pt cap L (p.need L [40]) X hX hq [41])
  have hq2 := hq.take [41]
  unfold pNames at hr
  obtain ⟨c, hc⟩ : ∃ c, ((p.need L [40]).take L [41]).1 = c := ⟨_, rfl⟩
  obtain ⟨q, hqq⟩ : ∃ q, ((p.need L [40]).take L [41]).2 = q := ⟨_, rfl⟩
  simp only [hc, hqq] at hr
  rw [hc, hqq] at HT
  rw [hqq] at hq2
  clear h hw hq hc hqq
  go_enter Tryd.func107, Tryd.ntmps107; (try simp only [List.append_eq, List.cons_append, List.nil_append])
  cases c with
  | true =>
    rw [if_pos rfl] at hr
    simp only [Option.some.injEq, Prod.mk.injEq] at hr
    obtain ⟨rfl, rfl⟩ := hr
    go_wp2_with (first
      | (go_at_call 35; refine HN.out.mono ?_; rintro e' w1 ⟨rfl, hP1, ho1⟩)
      | (go_at_call 62; refine (HT.out _ hP1).mono ?_; rintro e' w2 ⟨rfl, hP2, ho2⟩))
    go_ret
    exact ⟨_, rfl, World.ownsRow_nil _ _ _ _, hP2, ho1.trans ho2⟩
  | false =>
    rw [if_neg (by simp)] at hr
    have HR := Lib.hid hr; clear hr
    go_wp2_with (first
      | (go_at_call 35; refine HN.out.mono ?_; rintro e' w1 ⟨rfl, hP1, ho1⟩; have hP1 := hP1; have hz1 := ho1.size)
      | (go_at_call 62; refine (HT.out _ hP1).mono ?_; rintro e' w2 ⟨rfl, hP2, ho2⟩))
    have hsz := (ho1.trans ho2).size
    have Ho2 := Lib.hid (ho1.trans ho2); clear ho1 ho2 hP1 HN HT hz1
    go_loopw [3, 4] (fun v m wr => ∃ (out : List (List UInt8)) (p1 : PS) (b : Bool), m = .bool b ∧ OwnN w.heap.size wr v out ∧ PA g pt cap L p1 wr ∧ PW L p1 ∧ Off g w wr ∧ (∀ x ∈ out, x.length ≤ 100000) ∧ (b = true → out.length ≤ p1.i) ∧
        ((b = true ∧ ∃ f, (namesF L f p1 out).map (fun x => (x.1, x.2.need L [41])) = some (r, p')) ∨ (b = false ∧ (out, p1.need L [41]) = (r, p')))) (fun _ m wr => 2 * (L.length - muP g wr) + boolN m)
    case atStart => exact ⟨[], q, true, rfl, World.ownsRow_nil _ _ _ _, hP2, hq2, Ho2.out, by simp, by simp, .inl ⟨rfl, f, HR.out⟩⟩
    case round =>
      obtain ⟨out, p1, b, rfl, hown, hP, hW, ho, htx, hlen, hcase⟩ := hrel
      have Hown := Lib.hid hown; clear hown
      have Htx := Lib.hid htx; clear htx
      have HW := Lib.hid hW; clear hW
      by_cases hgo : b = true ∧ p1.err = 0
      · obtain ⟨rfl, herr⟩ := hgo
        have Hlen := Lib.hid (hlen rfl); clear hlen
        have hi := HW.out.at'
        have hlenL := HW.out.len
        obtain ⟨f1, hf1⟩ : ∃ f1, (namesF L f1 p1 out).map (fun x => (x.1, x.2.need L [41])) = some (r, p') := by
          rcases hcase with ⟨_, h⟩ | ⟨h, _⟩
          · exact h
          · cases h
        clear hcase
        have HF1 := Lib.hid hf1; clear hf1
        have Hmu := Lib.hid (muP_eq hP)
        have HP := Lib.hid hP; have Ho := Lib.hid ho; clear ho; obtain ⟨hb, hl⟩ := hP; clear hl; have hg := hb.lt; unfold PC at hb; have c0 := hb.cell 0 _ rfl; have c1 := hb.cell 1 _ rfl; have c2 := hb.cell 2 _ rfl; have c3 := hb.cell 3 _ rfl; have c4 := hb.cell 4 _ rfl; have f1 := hb.free 1; have f2 := hb.free 2; have f3 := hb.free 3; have f4 := hb.free 4; clear hb
        have herrb : (p1.err == 0) = true := by simp [herr]
        have HK := Lib.hid (pToken g _ cap L p1 _ HP.out HW.out 1)
        obtain ⟨wd, hwd⟩ : ∃ wd, (p1.token L 1).1.text = wd := ⟨_, rfl⟩
        obtain ⟨q1, hq1⟩ : ∃ q1, (p1.token L 1).2 = q1 := ⟨_, rfl⟩
        obtain ⟨tk, htk⟩ : ∃ tk, (p1.token L 1).1 = tk := ⟨_, rfl⟩
        have hwd2 : tk.text = wd := by rw [← htk]; exact hwd
        have HWq := Lib.hid (HW.out.token 1 (by decide))
        have hiq := PS.token_i L p1 1
        have HwL : Hid (wd.length ≤ 100000) := by
          show _ ≤ _
          rw [← hwd]
          unfold PS.token
          split
          · show ((p1.tok L)).text.length ≤ _
            rw [PS.tok_eq hi]; exact HW.out.txt _ (List.getElem_mem hi)
          · simp
        rw [hq1] at HWq hiq HK
        rw [htk] at HK
        unfold Tok.val at HK
        rw [hwd2] at HK
        have Hwd2 := Lib.hid hwd2; clear hwd2
        have Htk := Lib.hid (show (p1.token L 1) = (tk, q1) from Prod.ext htk hq1); clear htk hq1
        have Hwd := Lib.hid hwd; clear hwd
        have hft := fun wx => fieldTok1 tk.kind tk.num tk.pos ⟨wd.toArray⟩ wx
        rcases Hown.out.2 with ⟨rfl, h0⟩ | ⟨h, c, cur, rfl, hbh, hcur, hc1, hc2, hc3, hc4⟩
        · obtain rfl : out = [] := List.eq_nil_of_length_eq_zero h0
          clear h0
          go_wp2_with (first
            | (go_at_call 36; refine HK.out.mono ?_; rintro e' w3 ⟨rfl, hP3, ho3⟩; have HP3 := Lib.hid hP3; have Ho3 := Lib.hid (Ho.out.trans ho3); have Hsz3 := Lib.hid (Ho.out.trans ho3).size; clear hP3 ho3))
          go_loop [6] (fun i => i = .int .i64 0) (fun _ => 0)
          case atStart => rfl
          case round =>
            obtain rfl := hrel
            go_wp2
            have S1 : Hid (Src w3 (.slice none 0 0) 1 0 (([] : List (List UInt8)).map fun s => Value.string ⟨s.toArray⟩)) := Lib.hid (.inl ⟨rfl, rfl, rfl⟩)
            have S2 := S1
            refine wp_region_held_drew (S := fun _ => True) (by kernel_rfl) trivial (fun hHeld => ?_); (refine htk 1 53 ?_ rfl ?_ ?_; rotate_left; (intro w hSw; clear hSw; go_simp); (try with_reducible rfl); simp only [lsz, lss]); (refine htk 2 54 ?_ rfl ?_ ?_; rotate_left; (intro w hSw; clear hSw; go_simp); (try with_reducible rfl); simp only [lsz, lss]); (refine htk 3 55 (.slice none 0 0) rfl (by intro w hSw; clear hSw; go_simp) ?_); simp only [lsz, lss]; (refine htk 5 57 ?_ rfl ?_ ?_; rotate_left; (intro w hSw; clear hSw; go_simp); (try with_reducible rfl); simp only [lsz, lss]); (refine htk 8 60 ?_ rfl ?_ ?_; rotate_left; (intro w hSw; clear hSw; go_simp); (try with_reducible rfl); simp only [lsz, lss]); (refine htk 9 61 ?_ rfl ?_ ?_; rotate_left; (intro w hSw; clear hSw; go_simp); (try with_reducible rfl); simp only [lsz, lss]); (refine htk 10 62 (.slice none 0 0) rfl (by intro w hSw; clear hSw; go_simp) ?_); simp only [lsz, lss]
            refine wpAnyH_ready (rs := [0, 6]) (by kernel_rfl) (by simp) (.cons rfl (fun K hK => ?_) (.cons rfl (fun K hK => ?_) .nil))
            · rw [if_pos (by kernel_rfl)]
              go_simp
              refine hK.out _ _ trivial (fun hHeld => ?_)
              clear hK K
              (try simp only [Act.put, lsa, lsz, lss])
              have own52 : (w3.alloc (.cells #[] 9)).drew.ownsRow w3.heap.size 9 1 (.slice (some ⟨w3.heap.size, 0, none⟩) 0 0) 0 [] := own_emptyN w3
              have bel1 : Below w3.heap.size w3 (w3.alloc (.cells #[] 9)).drew := ((Below.refl _ _).alloc (Nat.le_refl _) _).drew
              have Own52 := Lib.hid own52; have Bel1 := Lib.hid bel1; clear own52 bel1
              have hz1 : (w3.alloc (.cells #[] 9)).drew.heap.size = w3.heap.size + 1 := World.size_alloc _ _
              obtain ⟨X1, hX1⟩ : ∃ X, (w3.alloc (.cells #[] 9)).drew = X := ⟨_, rfl⟩
              rw [hX1] at Own52 Bel1 hz1 ⊢
              clear hX1
              have HZ1 := Lib.hid hz1; clear hz1
              refine wpAnyH_ready (rs := [4, 6]) (by kernel_rfl) (by simp) (.cons rfl (fun K hK => ?_) (.cons rfl (fun K hK => ?_) .nil))
              · rw [if_pos (by kernel_rfl)]
                refine app_str X1 _ _ rfl w3.heap.size (.slice (some ⟨w3.heap.size, 0, none⟩) 0 0) 0 [] rfl Own52.out _ _ _ rfl (src_below S1.out Bel1.out) (ones_str _) (by omega) Bel1.out.size ?_
                intro v56 X2 own56 hgr _
                have Bel2 := Lib.hid (below_app Bel1.out Own52.out hgr (Nat.le_refl _) Bel1.out.size)
                refine hK.out _ _ trivial (fun hHeld => ?_)
                clear hK K hgr
                (try simp only [Act.put, lsa, lsz, lss])
                refine hrd 6 rfl (fun K hK => ?_)
                rw [if_pos (by kernel_rfl)]
                go_simp
                refine hK.out _ _ trivial (fun hHeld => ?_)
                clear hK K
                (try simp only [Act.put, lsa, lsz, lss])
                have Own56 := Lib.hid (ownsRow_keep own56 ((Below.refl _ _).alloc (Nat.le_refl _) (.cells #[.string ⟨wd.toArray⟩] 9)))
                have N3 := Lib.hid (Blk.new X2 [.string ⟨wd.toArray⟩] 9)
                have Bel3 := Lib.hid (Bel2.out.alloc Bel2.out.size (.cells #[.string ⟨wd.toArray⟩] 9))
                obtain ⟨X3, hX3⟩ : ∃ X, X2.alloc (.cells #[.string ⟨wd.toArray⟩] 9) = X := ⟨_, rfl⟩
                rw [show X2.alloc (.cells ([.string ⟨wd.toArray⟩] : List Value).toArray 9) = X3 from hX3] at N3
                rw [hX3] at Own56 Bel3 ⊢
                clear hX3 own56 Bel2
                (refine hrd 7 rfl (fun K hK => ?_); rw [if_pos (by kernel_rfl)]; refine app_str X3 _ _ rfl w3.heap.size v56 _ _ rfl Own56.out _ _ _ rfl (src_blk N3.out rfl) (ones_one _) (by omega) Bel3.out.size ?_; intro v59 X4 own59 hgr4 _; have Bel4 := Lib.hid (below_app Bel3.out Own56.out hgr4 (Nat.le_refl _) Bel3.out.size); have Own59 := Lib.hid own59; refine hK.out _ _ trivial (fun hHeld => ?_); clear hK K hgr4 own59 N3 Own56 Bel3; (try simp only [Act.put, lsa, lsz, lss]); refine hrd 11 rfl (fun K hK => ?_); rw [if_pos (by kernel_rfl)]; refine app_str X4 _ _ rfl w3.heap.size v59 _ _ rfl Own59.out _ _ _ rfl (src_below S2.out Bel4.out) (ones_str _) (by omega) Bel4.out.size ?_; intro v63 X5 own63 hgr5 _; have Bel5 := Lib.hid (below_app Bel4.out Own59.out hgr5 (Nat.le_refl _) Bel4.out.size); have Own63 := Lib.hid own63; refine hK.out _ _ trivial (fun hHeld => ?_); clear hK K hgr5 own63 Own59 Bel4; (try simp only [Act.put, lsa, lsz, lss]); (refine htk 12 3 v63 rfl (by intro w hSw; clear hSw; go_simp) ?_); (try simp only [lsz, lss]); refine wpAnyH_done (by kernel_rfl) ?_ _); have hown5 : OwnN w.heap.size X5 v63 (putName [] wd) := ownN_of Own63.out Hsz3.out (by simp [putName]) (by simp [putName]); have Hown5 := Lib.hid hown5; clear hown5; go_wp2_with (go_at_call 62; refine (pTake g _ cap L q1 X5 (HP3.out.keep Bel5.out) HWq.out [44]).mono ?_; rintro e' w6 ⟨rfl, hP6, ho6⟩); exact names_round Hgw.out Hmu.out herr Htk.out Hwd2.out HwL.out HF1.out hi HWq.out hiq Htx.out Hlen.out Hown5.out (Ho3.out.trans (Off.of Bel5.out)) hP6 ho6
              · rw [if_pos (by kernel_rfl)]
                go_simp
                refine hK.out _ _ trivial (fun hHeld => ?_)
                clear hK K
                (try simp only [Act.put, lsa, lsz, lss])
                have own52b := ownsRow_keep Own52.out ((Below.refl _ _).alloc (Nat.le_refl _) (.cells #[.string ⟨wd.toArray⟩] 9))
                have n2 := Blk.new X1 [.string ⟨wd.toArray⟩] 9
                have bel2 := Bel1.out.alloc Bel1.out.size (.cells #[.string ⟨wd.toArray⟩] 9)
                obtain ⟨X2, hX2⟩ : ∃ X, X1.alloc (.cells #[.string ⟨wd.toArray⟩] 9) = X := ⟨_, rfl⟩
                rw [show X1.alloc (.cells ([.string ⟨wd.toArray⟩] : List Value).toArray 9) = X2 from hX2] at n2
                rw [hX2] at own52b bel2 ⊢
                clear hX2
                have Own52b := Lib.hid own52b; have N2 := Lib.hid n2; have Bel2 := Lib.hid bel2; clear own52b n2 bel2
                refine hrd 4 rfl (fun K hK => ?_)
                rw [if_pos (by kernel_rfl)]
                refine app_str X2 _ _ rfl w3.heap.size (.slice (some ⟨w3.heap.size, 0, none⟩) 0 0) 0 [] rfl Own52b.out _ _ _ rfl (src_below S1.out Bel2.out) (ones_str _) (by omega) Bel2.out.size ?_
                intro v56 X3 own56 hgr _
                have Bel3 := Lib.hid (below_app Bel2.out Own52b.out hgr (Nat.le_refl _) Bel2.out.size)
                have N3 : Hid (Blk X3 X1.heap.size 9 [.string ⟨wd.toArray⟩]) := Lib.hid ((hgr.block _ N2.out.lt (by intro e; have := HZ1.out; have e2 : X1.heap.size = w3.heap.size := Option.some.inj e; omega)).trans N2.out)
                have Own56 := Lib.hid own56
                refine hK.out _ _ trivial (fun hHeld => ?_)
                clear hK K hgr own56 N2 Own52b Bel2
                (try simp only [Act.put, lsa, lsz, lss])
                (refine hrd 7 rfl (fun K hK => ?_); rw [if_pos (by kernel_rfl)]; refine app_str X3 _ _ rfl w3.heap.size v56 _ _ rfl Own56.out _ _ _ rfl (src_blk N3.out rfl) (ones_one _) (by omega) Bel3.out.size ?_; intro v59 X4 own59 hgr4 _; have Bel4 := Lib.hid (below_app Bel3.out Own56.out hgr4 (Nat.le_refl _) Bel3.out.size); have Own59 := Lib.hid own59; refine hK.out _ _ trivial (fun hHeld => ?_); clear hK K hgr4 own59 N3 Own56 Bel3; (try simp only [Act.put, lsa, lsz, lss]); refine hrd 11 rfl (fun K hK => ?_); rw [if_pos (by kernel_rfl)]; refine app_str X4 _ _ rfl w3.heap.size v59 _ _ rfl Own59.out _ _ _ rfl (src_below S2.out Bel4.out) (ones_str _) (by omega) Bel4.out.size ?_; intro v63 X5 own63 hgr5 _; have Bel5 := Lib.hid (below_app Bel4.out Own59.out hgr5 (Nat.le_refl _) Bel4.out.size); have Own63 := Lib.hid own63; refine hK.out _ _ trivial (fun hHeld => ?_); clear hK K hgr5 own63 Own59 Bel4; (try simp only [Act.put, lsa, lsz, lss]); (refine htk 12 3 v63 rfl (by intro w hSw; clear hSw; go_simp) ?_); (try simp only [lsz, lss]); refine wpAnyH_done (by kernel_rfl) ?_ _); have hown5 : OwnN w.heap.size X5 v63 (putName [] wd) := ownN_of Own63.out Hsz3.out (by simp [putName]) (by simp [putName]); have Hown5 := Lib.hid hown5; clear hown5; go_wp2_with (go_at_call 62; refine (pTake g _ cap L q1 X5 (HP3.out.keep Bel5.out) HWq.out [44]).mono ?_; rintro e' w6 ⟨rfl, hP6, ho6⟩); exact names_round Hgw.out Hmu.out herr Htk.out Hwd2.out HwL.out HF1.out hi HWq.out hiq Htx.out Hlen.out Hown5.out (Ho3.out.trans (Off.of Bel5.out)) hP6 ho6
            · rw [if_pos (by kernel_rfl)]
              go_simp
              refine hK.out _ _ trivial (fun hHeld => ?_)
              clear hK K
              (try simp only [Act.put, lsa, lsz, lss])
              have n1 := (Blk.new w3 [.string ⟨wd.toArray⟩] 9).drew
              have bel1 : Below w3.heap.size w3 (w3.alloc (.cells #[.string ⟨wd.toArray⟩] 9)).drew := ((Below.refl _ _).alloc (Nat.le_refl _) _).drew
              have hz1 : (w3.alloc (.cells #[.string ⟨wd.toArray⟩] 9)).drew.heap.size = w3.heap.size + 1 := World.size_alloc _ _
              obtain ⟨X1, hX1⟩ : ∃ X, (w3.alloc (.cells #[.string ⟨wd.toArray⟩] 9)).drew = X := ⟨_, rfl⟩
              rw [show (w3.alloc (.cells ([.string ⟨wd.toArray⟩] : List Value).toArray 9)).drew = X1 from hX1] at n1
              rw [hX1] at bel1 hz1 ⊢
              clear hX1
              have HZ1 := Lib.hid hz1; clear hz1
              have N1 := Lib.hid n1; have Bel1 := Lib.hid bel1; clear n1 bel1
              refine hrd 0 rfl (fun K hK => ?_)
              rw [if_pos (by kernel_rfl)]
              go_simp
              refine hK.out _ _ trivial (fun hHeld => ?_)
              clear hK K
              (try simp only [Act.put, lsa, lsz, lss])
              have own52 := ownsRow_base (own_emptyN X1) (show w3.heap.size ≤ X1.heap.size by have := HZ1.out; omega)
              have n2 := N1.out.alloc (.cells #[] 9)
              have bel2 := Bel1.out.alloc Bel1.out.size (.cells #[] 9)
              obtain ⟨X2, hX2⟩ : ∃ X, X1.alloc (.cells #[] 9) = X := ⟨_, rfl⟩
              rw [hX2] at own52 n2 bel2 ⊢
              clear hX2
              have Own52 := Lib.hid own52; have N2 := Lib.hid n2; have Bel2 := Lib.hid bel2; clear own52 n2 bel2
              refine hrd 4 rfl (fun K hK => ?_)
              rw [if_pos (by kernel_rfl)]
              refine app_str X2 _ _ rfl w3.heap.size (.slice (some ⟨X1.heap.size, 0, none⟩) 0 0) 0 [] rfl Own52.out _ _ _ rfl (src_below S1.out Bel2.out) (ones_str _) (by omega) Bel2.out.size ?_
              intro v56 X3 own56 hgr _
              have Bel3 := Lib.hid (below_app Bel2.out Own52.out hgr (Nat.le_refl _) Bel2.out.size)
              have N3 : Hid (Blk X3 w3.heap.size 9 [.string ⟨wd.toArray⟩]) := Lib.hid ((hgr.block _ N2.out.lt (by intro e; have := HZ1.out; have e2 : w3.heap.size = X1.heap.size := Option.some.inj e; omega)).trans N2.out)
              have Own56 := Lib.hid own56
              refine hK.out _ _ trivial (fun hHeld => ?_)
              clear hK K hgr own56 N2 N1 Own52 Bel2
              (try simp only [Act.put, lsa, lsz, lss])
              (refine hrd 7 rfl (fun K hK => ?_); rw [if_pos (by kernel_rfl)]; refine app_str X3 _ _ rfl w3.heap.size v56 _ _ rfl Own56.out _ _ _ rfl (src_blk N3.out rfl) (ones_one _) (by omega) Bel3.out.size ?_; intro v59 X4 own59 hgr4 _; have Bel4 := Lib.hid (below_app Bel3.out Own56.out hgr4 (Nat.le_refl _) Bel3.out.size); have Own59 := Lib.hid own59; refine hK.out _ _ trivial (fun hHeld => ?_); clear hK K hgr4 own59 N3 Own56 Bel3; (try simp only [Act.put, lsa, lsz, lss]); refine hrd 11 rfl (fun K hK => ?_); rw [if_pos (by kernel_rfl)]; refine app_str X4 _ _ rfl w3.heap.size v59 _ _ rfl Own59.out _ _ _ rfl (src_below S2.out Bel4.out) (ones_str _) (by omega) Bel4.out.size ?_; intro v63 X5 own63 hgr5 _; have Bel5 := Lib.hid (below_app Bel4.out Own59.out hgr5 (Nat.le_refl _) Bel4.out.size); have Own63 := Lib.hid own63; refine hK.out _ _ trivial (fun hHeld => ?_); clear hK K hgr5 own63 Own59 Bel4; (try simp only [Act.put, lsa, lsz, lss]); (refine htk 12 3 v63 rfl (by intro w hSw; clear hSw; go_simp) ?_); (try simp only [lsz, lss]); refine wpAnyH_done (by kernel_rfl) ?_ _); have hown5 : OwnN w.heap.size X5 v63 (putName [] wd) := ownN_of Own63.out Hsz3.out (by simp [putName]) (by simp [putName]); have Hown5 := Lib.hid hown5; clear hown5; go_wp2_with (go_at_call 62; refine (pTake g _ cap L q1 X5 (HP3.out.keep Bel5.out) HWq.out [44]).mono ?_; rintro e' w6 ⟨rfl, hP6, ho6⟩); exact names_round Hgw.out Hmu.out herr Htk.out Hwd2.out HwL.out HF1.out hi HWq.out hiq Htx.out Hlen.out Hown5.out (Ho3.out.trans (Off.of Bel5.out)) hP6 ho6

        · have hn0 : out.length ≤ 100000 := by have := Hlen.out; omega
          have hcl0 : out.length ≤ c := hc1
          have hcm : c ≤ 9223372036854775807 := hc2
          go_wp2_with (first
            | (go_at_call 36; refine HK.out.mono ?_; rintro e' w3 ⟨rfl, hP3, ho3⟩; have HP3 := Lib.hid hP3; have Ho3 := Lib.hid (Ho.out.trans ho3); have Hsz3 := Lib.hid (Ho.out.trans ho3).size; have Hown3 := Lib.hid (Hown.out.off ho3 Hgw.out); clear hP3 ho3))
          have hcell : ∀ j (hj : j < out.length), w3.cell? ⟨h, j, none⟩ = some (.string ⟨out[j].toArray⟩) := fun j hj => by
            have hc := World.ownsRow.cells Hown3.out (g := h) rfl j (.string ⟨out[j].toArray⟩) (by rw [List.getElem?_map, List.getElem?_eq_getElem hj]; rfl)
            have e : (⟨h, 0, none⟩ : Addr).add j = ⟨h, j, none⟩ := by unfold Addr.add; split <;> simp <;> omega
            rwa [e] at hc
          have Hcell := Lib.hid hcell; clear hcell
          clear hcur hc3 hc4
          go_loop [6] (fun i => ∃ k : Nat, k ≤ out.length ∧ i = .int .i64 k ∧ ∀ j (hj : j < out.length), j < k → Op.bytesLess out[j] wd = true) (fun i => out.length - (intOf i).toNat)
          case atStart => exact ⟨0, Nat.zero_le _, rfl, fun j _ h => absurd h (Nat.not_lt_zero _)⟩
          case round =>
            obtain ⟨k, hk, rfl, hls⟩ := hrel
            have Hls := Lib.hid hls; clear hls
            have hkc : k ≤ c := by omega
            have hputa := putName_at out wd k hk Hls.out
            by_cases hlt : k < out.length
            · have hck := Hcell.out k hlt
              cases hl1 : Op.bytesLess out[k] wd with
              | true =>
                clear hputa
                go_wp2
                exact ⟨⟨k + 1, by omega, by go_num, fun j hj hjk => by
                  by_cases e : j = k
                  · subst e; exact hl1
                  · exact Hls.out j hj (by omega)⟩, by simp [intOf]; omega⟩
              | false =>
                have hput := hputa (fun _ => hl1); clear hputa
                by_cases heq : out[k] = wd
                · rw [if_pos ⟨hlt, heq⟩] at hput
                  have Hput := Lib.hid hput; clear hput
                  have hll := hl1
                  rw [heq] at hll
                  have heqb : (out[k] == wd) = true := by simpa using heq
                  have heqc : (out[k] != wd) = false := by simpa using heq
                  go_wp2_with (go_at_call 62; refine (pTake g _ cap L q1 w3 HP3.out HWq.out [44]).mono ?_; rintro e' w6 ⟨rfl, hP6, ho6⟩)
                  exact names_round Hgw.out Hmu.out herr Htk.out Hwd2.out HwL.out HF1.out hi HWq.out hiq Htx.out Hlen.out (by rw [Hput.out]; exact Hown3.out) Ho3.out hP6 ho6
                · rw [if_neg (by rintro ⟨_, h⟩; exact heq h)] at hput
                  have Hput := Lib.hid hput; clear hput
                  have heqb : (out[k] == wd) = false := by simpa using heq
                  have heqc : (out[k] != wd) = true := by simpa using heq
                  have S1 := Lib.hid (src_at (n := k) (c := c) (o := 0) (l := out.take k) (w := w3) (h := h) (by simp; omega) (fun j hj => by rw [Nat.zero_add]; have := Hcell.out j (by simp at hj; omega); rw [this]; simp))
                  have S2 := Lib.hid (src_at (n := out.length - k) (c := c - k) (o := k) (l := out.drop k) (w := w3) (h := h) (by simp) (fun j hj => by have := Hcell.out (k + j) (by simp at hj; omega); rw [this]; simp))
                  have hcne : ¬ c = k := by omega
                  have hkne : ¬ ((k : Int) = (out.length : Int)) := by omega
                  have hkneb : ((k : Int) == (out.length : Int)) = false := by simpa using hkne
                  go_wp2_with fail
                  refine wp_region_held_drew (S := fun _ => True) (by kernel_rfl) trivial (fun hHeld => ?_); (refine htk 1 53 ?_ rfl ?_ ?_; rotate_left; (intro w hSw; clear hSw; go_simp); (try with_reducible rfl); simp only [lsz, lss]); (refine htk 2 54 ?_ rfl ?_ ?_; rotate_left; (intro w hSw; clear hSw; go_simp); (try with_reducible rfl); simp only [lsz, lss]); (refine htk 3 55 (.slice (some ⟨h, 0, none⟩) k c) rfl (by intro w hSw; clear hSw; go_simp) ?_); simp only [lsz, lss]; (refine htk 5 57 ?_ rfl ?_ ?_; rotate_left; (intro w hSw; clear hSw; go_simp); (try with_reducible rfl); simp only [lsz, lss]); (refine htk 8 60 ?_ rfl ?_ ?_; rotate_left; (intro w hSw; clear hSw; go_simp); (try with_reducible rfl); simp only [lsz, lss]); (refine htk 9 61 ?_ rfl ?_ ?_; rotate_left; (intro w hSw; clear hSw; go_simp); (try with_reducible rfl); simp only [lsz, lss]); (refine htk 10 62 (.slice (some ⟨h, k, none⟩) (out.length - k) (c - k)) rfl (by intro w hSw; clear hSw; go_simp) ?_); simp only [lsz, lss]
                  refine wpAnyH_ready (rs := [0, 6]) (by kernel_rfl) (by simp) (.cons rfl (fun K hK => ?_) (.cons rfl (fun K hK => ?_) .nil))
                  · rw [if_pos (by kernel_rfl)]
                    go_simp
                    refine hK.out _ _ trivial (fun hHeld => ?_)
                    clear hK K
                    (try simp only [Act.put, lsa, lsz, lss])
                    have own52 : (w3.alloc (.cells #[] 9)).drew.ownsRow w3.heap.size 9 1 (.slice (some ⟨w3.heap.size, 0, none⟩) 0 0) 0 [] := own_emptyN w3
                    have bel1 : Below w3.heap.size w3 (w3.alloc (.cells #[] 9)).drew := ((Below.refl _ _).alloc (Nat.le_refl _) _).drew
                    have Own52 := Lib.hid own52; have Bel1 := Lib.hid bel1; clear own52 bel1
                    have hz1 : (w3.alloc (.cells #[] 9)).drew.heap.size = w3.heap.size + 1 := World.size_alloc _ _
                    obtain ⟨X1, hX1⟩ : ∃ X, (w3.alloc (.cells #[] 9)).drew = X := ⟨_, rfl⟩
                    rw [hX1] at Own52 Bel1 hz1 ⊢
                    clear hX1
                    have HZ1 := Lib.hid hz1; clear hz1
                    refine wpAnyH_ready (rs := [4, 6]) (by kernel_rfl) (by simp) (.cons rfl (fun K hK => ?_) (.cons rfl (fun K hK => ?_) .nil))
                    · rw [if_pos (by kernel_rfl)]
                      refine app_str X1 _ _ rfl w3.heap.size (.slice (some ⟨w3.heap.size, 0, none⟩) 0 0) 0 [] rfl Own52.out _ _ _ rfl (src_below S1.out Bel1.out) (ones_str _) (by omega) Bel1.out.size ?_
                      intro v56 X2 own56 hgr _
                      have Bel2 := Lib.hid (below_app Bel1.out Own52.out hgr (Nat.le_refl _) Bel1.out.size)
                      refine hK.out _ _ trivial (fun hHeld => ?_)
                      clear hK K hgr
                      (try simp only [Act.put, lsa, lsz, lss])
                      refine hrd 6 rfl (fun K hK => ?_)
                      rw [if_pos (by kernel_rfl)]
                      go_simp
                      refine hK.out _ _ trivial (fun hHeld => ?_)
                      clear hK K
                      (try simp only [Act.put, lsa, lsz, lss])
                      have Own56 := Lib.hid (ownsRow_keep own56 ((Below.refl _ _).alloc (Nat.le_refl _) (.cells #[.string ⟨wd.toArray⟩] 9)))
                      have N3 := Lib.hid (Blk.new X2 [.string ⟨wd.toArray⟩] 9)
                      have Bel3 := Lib.hid (Bel2.out.alloc Bel2.out.size (.cells #[.string ⟨wd.toArray⟩] 9))
                      obtain ⟨X3, hX3⟩ : ∃ X, X2.alloc (.cells #[.string ⟨wd.toArray⟩] 9) = X := ⟨_, rfl⟩
                      rw [show X2.alloc (.cells ([.string ⟨wd.toArray⟩] : List Value).toArray 9) = X3 from hX3] at N3
                      rw [hX3] at Own56 Bel3 ⊢
                      clear hX3 own56 Bel2
                      (refine hrd 7 rfl (fun K hK => ?_); rw [if_pos (by kernel_rfl)]; refine app_str X3 _ _ rfl w3.heap.size v56 _ _ rfl Own56.out _ _ _ rfl (src_blk N3.out rfl) (ones_one _) (by omega) Bel3.out.size ?_; intro v59 X4 own59 hgr4 _; have Bel4 := Lib.hid (below_app Bel3.out Own56.out hgr4 (Nat.le_refl _) Bel3.out.size); have Own59 := Lib.hid own59; refine hK.out _ _ trivial (fun hHeld => ?_); clear hK K hgr4 own59 N3 Own56 Bel3; (try simp only [Act.put, lsa, lsz, lss]); refine hrd 11 rfl (fun K hK => ?_); rw [if_pos (by kernel_rfl)]; refine app_str X4 _ _ rfl w3.heap.size v59 _ _ rfl Own59.out _ _ _ rfl (src_below S2.out Bel4.out) (ones_str _) (by omega) Bel4.out.size ?_; intro v63 X5 own63 hgr5 _; have Bel5 := Lib.hid (below_app Bel4.out Own59.out hgr5 (Nat.le_refl _) Bel4.out.size); have Own63 := Lib.hid own63; refine hK.out _ _ trivial (fun hHeld => ?_); clear hK K hgr5 own63 Own59 Bel4; (try simp only [Act.put, lsa, lsz, lss]); (refine htk 12 3 v63 rfl (by intro w hSw; clear hSw; go_simp) ?_); (try simp only [lsz, lss]); refine wpAnyH_done (by kernel_rfl) ?_ _); have hown5 : OwnN w.heap.size X5 v63 (putName out wd) := ownN_of Own63.out Hsz3.out (by rw [Hput.out]; simp <;> omega) (by rw [Hput.out]; simp); have Hown5 := Lib.hid hown5; clear hown5; go_wp2_with (go_at_call 62; refine (pTake g _ cap L q1 X5 (HP3.out.keep Bel5.out) HWq.out [44]).mono ?_; rintro e' w6 ⟨rfl, hP6, ho6⟩); exact names_round Hgw.out Hmu.out herr Htk.out Hwd2.out HwL.out HF1.out hi HWq.out hiq Htx.out Hlen.out Hown5.out (Ho3.out.trans (Off.of Bel5.out)) hP6 ho6
                    · rw [if_pos (by kernel_rfl)]
                      go_simp
                      refine hK.out _ _ trivial (fun hHeld => ?_)
                      clear hK K
                      (try simp only [Act.put, lsa, lsz, lss])
                      have own52b := ownsRow_keep Own52.out ((Below.refl _ _).alloc (Nat.le_refl _) (.cells #[.string ⟨wd.toArray⟩] 9))
                      have n2 := Blk.new X1 [.string ⟨wd.toArray⟩] 9
                      have bel2 := Bel1.out.alloc Bel1.out.size (.cells #[.string ⟨wd.toArray⟩] 9)
                      obtain ⟨X2, hX2⟩ : ∃ X, X1.alloc (.cells #[.string ⟨wd.toArray⟩] 9) = X := ⟨_, rfl⟩
                      rw [show X1.alloc (.cells ([.string ⟨wd.toArray⟩] : List Value).toArray 9) = X2 from hX2] at n2
                      rw [hX2] at own52b bel2 ⊢
                      clear hX2
                      have Own52b := Lib.hid own52b; have N2 := Lib.hid n2; have Bel2 := Lib.hid bel2; clear own52b n2 bel2
                      refine hrd 4 rfl (fun K hK => ?_)
                      rw [if_pos (by kernel_rfl)]
                      refine app_str X2 _ _ rfl w3.heap.size (.slice (some ⟨w3.heap.size, 0, none⟩) 0 0) 0 [] rfl Own52b.out _ _ _ rfl (src_below S1.out Bel2.out) (ones_str _) (by omega) Bel2.out.size ?_
                      intro v56 X3 own56 hgr _
                      have Bel3 := Lib.hid (below_app Bel2.out Own52b.out hgr (Nat.le_refl _) Bel2.out.size)
                      have N3 : Hid (Blk X3 X1.heap.size 9 [.string ⟨wd.toArray⟩]) := Lib.hid ((hgr.block _ N2.out.lt (by intro e; have := HZ1.out; have e2 : X1.heap.size = w3.heap.size := Option.some.inj e; omega)).trans N2.out)
                      have Own56 := Lib.hid own56
                      refine hK.out _ _ trivial (fun hHeld => ?_)
                      clear hK K hgr own56 N2 Own52b Bel2
                      (try simp only [Act.put, lsa, lsz, lss])
                      (refine hrd 7 rfl (fun K hK => ?_); rw [if_pos (by kernel_rfl)]; refine app_str X3 _ _ rfl w3.heap.size v56 _ _ rfl Own56.out _ _ _ rfl (src_blk N3.out rfl) (ones_one _) (by omega) Bel3.out.size ?_; intro v59 X4 own59 hgr4 _; have Bel4 := Lib.hid (below_app Bel3.out Own56.out hgr4 (Nat.le_refl _) Bel3.out.size); have Own59 := Lib.hid own59; refine hK.out _ _ trivial (fun hHeld => ?_); clear hK K hgr4 own59 N3 Own56 Bel3; (try simp only [Act.put, lsa, lsz, lss]); refine hrd 11 rfl (fun K hK => ?_); rw [if_pos (by kernel_rfl)]; refine app_str X4 _ _ rfl w3.heap.size v59 _ _ rfl Own59.out _ _ _ rfl (src_below S2.out Bel4.out) (ones_str _) (by omega) Bel4.out.size ?_; intro v63 X5 own63 hgr5 _; have Bel5 := Lib.hid (below_app Bel4.out Own59.out hgr5 (Nat.le_refl _) Bel4.out.size); have Own63 := Lib.hid own63; refine hK.out _ _ trivial (fun hHeld => ?_); clear hK K hgr5 own63 Own59 Bel4; (try simp only [Act.put, lsa, lsz, lss]); (refine htk 12 3 v63 rfl (by intro w hSw; clear hSw; go_simp) ?_); (try simp only [lsz, lss]); refine wpAnyH_done (by kernel_rfl) ?_ _); have hown5 : OwnN w.heap.size X5 v63 (putName out wd) := ownN_of Own63.out Hsz3.out (by rw [Hput.out]; simp <;> omega) (by rw [Hput.out]; simp); have Hown5 := Lib.hid hown5; clear hown5; go_wp2_with (go_at_call 62; refine (pTake g _ cap L q1 X5 (HP3.out.keep Bel5.out) HWq.out [44]).mono ?_; rintro e' w6 ⟨rfl, hP6, ho6⟩); exact names_round Hgw.out Hmu.out herr Htk.out Hwd2.out HwL.out HF1.out hi HWq.out hiq Htx.out Hlen.out Hown5.out (Ho3.out.trans (Off.of Bel5.out)) hP6 ho6
                  · rw [if_pos (by kernel_rfl)]
                    go_simp
                    refine hK.out _ _ trivial (fun hHeld => ?_)
                    clear hK K
                    (try simp only [Act.put, lsa, lsz, lss])
                    have n1 := (Blk.new w3 [.string ⟨wd.toArray⟩] 9).drew
                    have bel1 : Below w3.heap.size w3 (w3.alloc (.cells #[.string ⟨wd.toArray⟩] 9)).drew := ((Below.refl _ _).alloc (Nat.le_refl _) _).drew
                    have hz1 : (w3.alloc (.cells #[.string ⟨wd.toArray⟩] 9)).drew.heap.size = w3.heap.size + 1 := World.size_alloc _ _
                    obtain ⟨X1, hX1⟩ : ∃ X, (w3.alloc (.cells #[.string ⟨wd.toArray⟩] 9)).drew = X := ⟨_, rfl⟩
                    rw [show (w3.alloc (.cells ([.string ⟨wd.toArray⟩] : List Value).toArray 9)).drew = X1 from hX1] at n1
                    rw [hX1] at bel1 hz1 ⊢
                    clear hX1
                    have HZ1 := Lib.hid hz1; clear hz1
                    have N1 := Lib.hid n1; have Bel1 := Lib.hid bel1; clear n1 bel1
                    refine hrd 0 rfl (fun K hK => ?_)
                    rw [if_pos (by kernel_rfl)]
                    go_simp
                    refine hK.out _ _ trivial (fun hHeld => ?_)
                    clear hK K
                    (try simp only [Act.put, lsa, lsz, lss])
                    have own52 := ownsRow_base (own_emptyN X1) (show w3.heap.size ≤ X1.heap.size by have := HZ1.out; omega)
                    have n2 := N1.out.alloc (.cells #[] 9)
                    have bel2 := Bel1.out.alloc Bel1.out.size (.cells #[] 9)
                    obtain ⟨X2, hX2⟩ : ∃ X, X1.alloc (.cells #[] 9) = X := ⟨_, rfl⟩
                    rw [hX2] at own52 n2 bel2 ⊢
                    clear hX2
                    have Own52 := Lib.hid own52; have N2 := Lib.hid n2; have Bel2 := Lib.hid bel2; clear own52 n2 bel2
                    refine hrd 4 rfl (fun K hK => ?_)
                    rw [if_pos (by kernel_rfl)]
                    refine app_str X2 _ _ rfl w3.heap.size (.slice (some ⟨X1.heap.size, 0, none⟩) 0 0) 0 [] rfl Own52.out _ _ _ rfl (src_below S1.out Bel2.out) (ones_str _) (by omega) Bel2.out.size ?_
                    intro v56 X3 own56 hgr _
                    have Bel3 := Lib.hid (below_app Bel2.out Own52.out hgr (Nat.le_refl _) Bel2.out.size)
                    have N3 : Hid (Blk X3 w3.heap.size 9 [.string ⟨wd.toArray⟩]) := Lib.hid ((hgr.block _ N2.out.lt (by intro e; have := HZ1.out; have e2 : w3.heap.size = X1.heap.size := Option.some.inj e; omega)).trans N2.out)
                    have Own56 := Lib.hid own56
                    refine hK.out _ _ trivial (fun hHeld => ?_)
                    clear hK K hgr own56 N2 N1 Own52 Bel2
                    (try simp only [Act.put, lsa, lsz, lss])
                    (refine hrd 7 rfl (fun K hK => ?_); rw [if_pos (by kernel_rfl)]; refine app_str X3 _ _ rfl w3.heap.size v56 _ _ rfl Own56.out _ _ _ rfl (src_blk N3.out rfl) (ones_one _) (by omega) Bel3.out.size ?_; intro v59 X4 own59 hgr4 _; have Bel4 := Lib.hid (below_app Bel3.out Own56.out hgr4 (Nat.le_refl _) Bel3.out.size); have Own59 := Lib.hid own59; refine hK.out _ _ trivial (fun hHeld => ?_); clear hK K hgr4 own59 N3 Own56 Bel3; (try simp only [Act.put, lsa, lsz, lss]); refine hrd 11 rfl (fun K hK => ?_); rw [if_pos (by kernel_rfl)]; refine app_str X4 _ _ rfl w3.heap.size v59 _ _ rfl Own59.out _ _ _ rfl (src_below S2.out Bel4.out) (ones_str _) (by omega) Bel4.out.size ?_; intro v63 X5 own63 hgr5 _; have Bel5 := Lib.hid (below_app Bel4.out Own59.out hgr5 (Nat.le_refl _) Bel4.out.size); have Own63 := Lib.hid own63; refine hK.out _ _ trivial (fun hHeld => ?_); clear hK K hgr5 own63 Own59 Bel4; (try simp only [Act.put, lsa, lsz, lss]); (refine htk 12 3 v63 rfl (by intro w hSw; clear hSw; go_simp) ?_); (try simp only [lsz, lss]); refine wpAnyH_done (by kernel_rfl) ?_ _); have hown5 : OwnN w.heap.size X5 v63 (putName out wd) := ownN_of Own63.out Hsz3.out (by rw [Hput.out]; simp <;> omega) (by rw [Hput.out]; simp); have Hown5 := Lib.hid hown5; clear hown5; go_wp2_with (go_at_call 62; refine (pTake g _ cap L q1 X5 (HP3.out.keep Bel5.out) HWq.out [44]).mono ?_; rintro e' w6 ⟨rfl, hP6, ho6⟩); exact names_round Hgw.out Hmu.out herr Htk.out Hwd2.out HwL.out HF1.out hi HWq.out hiq Htx.out Hlen.out Hown5.out (Ho3.out.trans (Off.of Bel5.out)) hP6 ho6

            · obtain rfl : k = out.length := by omega
              have hput := hputa (fun h => absurd h (by omega)); clear hputa
              rw [if_neg (by rintro ⟨h, _⟩; omega)] at hput
              have Hput := Lib.hid hput; clear hput
              by_cases hcn : c = out.length
              · subst hcn
                have S1 := Lib.hid (src_at (n := out.length) (c := out.length) (o := 0) (l := out) (w := w3) (h := h) rfl (fun j hj => by rw [Nat.zero_add]; exact Hcell.out j hj))
                have S2 := Lib.hid (src_at (n := 0) (c := 0) (o := 0) (l := []) (w := w3) (h := h) rfl (fun j hj => absurd hj (Nat.not_lt_zero _)))
                go_wp2_with fail
                refine wp_region_held_drew (S := fun _ => True) (by kernel_rfl) trivial (fun hHeld => ?_); (refine htk 1 53 ?_ rfl ?_ ?_; rotate_left; (intro w hSw; clear hSw; go_simp); (try with_reducible rfl); simp only [lsz, lss]); (refine htk 2 54 ?_ rfl ?_ ?_; rotate_left; (intro w hSw; clear hSw; go_simp); (try with_reducible rfl); simp only [lsz, lss]); (refine htk 3 55 (.slice (some ⟨h, 0, none⟩) out.length out.length) rfl (by intro w hSw; clear hSw; go_simp) ?_); simp only [lsz, lss]; (refine htk 5 57 ?_ rfl ?_ ?_; rotate_left; (intro w hSw; clear hSw; go_simp); (try with_reducible rfl); simp only [lsz, lss]); (refine htk 8 60 ?_ rfl ?_ ?_; rotate_left; (intro w hSw; clear hSw; go_simp); (try with_reducible rfl); simp only [lsz, lss]); (refine htk 9 61 ?_ rfl ?_ ?_; rotate_left; (intro w hSw; clear hSw; go_simp); (try with_reducible rfl); simp only [lsz, lss]); (refine htk 10 62 (.slice (some ⟨h, 0, none⟩) 0 0) rfl (by intro w hSw; clear hSw; go_simp) ?_); simp only [lsz, lss]
                refine wpAnyH_ready (rs := [0, 6]) (by kernel_rfl) (by simp) (.cons rfl (fun K hK => ?_) (.cons rfl (fun K hK => ?_) .nil))
                · rw [if_pos (by kernel_rfl)]
                  go_simp
                  refine hK.out _ _ trivial (fun hHeld => ?_)
                  clear hK K
                  (try simp only [Act.put, lsa, lsz, lss])
                  have own52 : (w3.alloc (.cells #[] 9)).drew.ownsRow w3.heap.size 9 1 (.slice (some ⟨w3.heap.size, 0, none⟩) 0 0) 0 [] := own_emptyN w3
                  have bel1 : Below w3.heap.size w3 (w3.alloc (.cells #[] 9)).drew := ((Below.refl _ _).alloc (Nat.le_refl _) _).drew
                  have Own52 := Lib.hid own52; have Bel1 := Lib.hid bel1; clear own52 bel1
                  have hz1 : (w3.alloc (.cells #[] 9)).drew.heap.size = w3.heap.size + 1 := World.size_alloc _ _
                  obtain ⟨X1, hX1⟩ : ∃ X, (w3.alloc (.cells #[] 9)).drew = X := ⟨_, rfl⟩
                  rw [hX1] at Own52 Bel1 hz1 ⊢
                  clear hX1
                  have HZ1 := Lib.hid hz1; clear hz1
                  refine wpAnyH_ready (rs := [4, 6]) (by kernel_rfl) (by simp) (.cons rfl (fun K hK => ?_) (.cons rfl (fun K hK => ?_) .nil))
                  · rw [if_pos (by kernel_rfl)]
                    refine app_str X1 _ _ rfl w3.heap.size (.slice (some ⟨w3.heap.size, 0, none⟩) 0 0) 0 [] rfl Own52.out _ _ _ rfl (src_below S1.out Bel1.out) (ones_str _) (by omega) Bel1.out.size ?_
                    intro v56 X2 own56 hgr _
                    have Bel2 := Lib.hid (below_app Bel1.out Own52.out hgr (Nat.le_refl _) Bel1.out.size)
                    refine hK.out _ _ trivial (fun hHeld => ?_)
                    clear hK K hgr
                    (try simp only [Act.put, lsa, lsz, lss])
                    refine hrd 6 rfl (fun K hK => ?_)
                    rw [if_pos (by kernel_rfl)]
                    go_simp
                    refine hK.out _ _ trivial (fun hHeld => ?_)
                    clear hK K
                    (try simp only [Act.put, lsa, lsz, lss])
                    have Own56 := Lib.hid (ownsRow_keep own56 ((Below.refl _ _).alloc (Nat.le_refl _) (.cells #[.string ⟨wd.toArray⟩] 9)))
                    have N3 := Lib.hid (Blk.new X2 [.string ⟨wd.toArray⟩] 9)
                    have Bel3 := Lib.hid (Bel2.out.alloc Bel2.out.size (.cells #[.string ⟨wd.toArray⟩] 9))
                    obtain ⟨X3, hX3⟩ : ∃ X, X2.alloc (.cells #[.string ⟨wd.toArray⟩] 9) = X := ⟨_, rfl⟩
                    rw [show X2.alloc (.cells ([.string ⟨wd.toArray⟩] : List Value).toArray 9) = X3 from hX3] at N3
                    rw [hX3] at Own56 Bel3 ⊢
                    clear hX3 own56 Bel2
                    (refine hrd 7 rfl (fun K hK => ?_); rw [if_pos (by kernel_rfl)]; refine app_str X3 _ _ rfl w3.heap.size v56 _ _ rfl Own56.out _ _ _ rfl (src_blk N3.out rfl) (ones_one _) (by omega) Bel3.out.size ?_; intro v59 X4 own59 hgr4 _; have Bel4 := Lib.hid (below_app Bel3.out Own56.out hgr4 (Nat.le_refl _) Bel3.out.size); have Own59 := Lib.hid own59; refine hK.out _ _ trivial (fun hHeld => ?_); clear hK K hgr4 own59 N3 Own56 Bel3; (try simp only [Act.put, lsa, lsz, lss]); refine hrd 11 rfl (fun K hK => ?_); rw [if_pos (by kernel_rfl)]; refine app_str X4 _ _ rfl w3.heap.size v59 _ _ rfl Own59.out _ _ _ rfl (src_below S2.out Bel4.out) (ones_str _) (by omega) Bel4.out.size ?_; intro v63 X5 own63 hgr5 _; have Bel5 := Lib.hid (below_app Bel4.out Own59.out hgr5 (Nat.le_refl _) Bel4.out.size); have Own63 := Lib.hid own63; refine hK.out _ _ trivial (fun hHeld => ?_); clear hK K hgr5 own63 Own59 Bel4; (try simp only [Act.put, lsa, lsz, lss]); (refine htk 12 3 v63 rfl (by intro w hSw; clear hSw; go_simp) ?_); (try simp only [lsz, lss]); refine wpAnyH_done (by kernel_rfl) ?_ _); have hown5 : OwnN w.heap.size X5 v63 (putName out wd) := ownN_of Own63.out Hsz3.out (by rw [Hput.out]; simp <;> omega) (by rw [Hput.out]; simp); have Hown5 := Lib.hid hown5; clear hown5; go_wp2_with (go_at_call 62; refine (pTake g _ cap L q1 X5 (HP3.out.keep Bel5.out) HWq.out [44]).mono ?_; rintro e' w6 ⟨rfl, hP6, ho6⟩); exact names_round Hgw.out Hmu.out herr Htk.out Hwd2.out HwL.out HF1.out hi HWq.out hiq Htx.out Hlen.out Hown5.out (Ho3.out.trans (Off.of Bel5.out)) hP6 ho6
                  · rw [if_pos (by kernel_rfl)]
                    go_simp
                    refine hK.out _ _ trivial (fun hHeld => ?_)
                    clear hK K
                    (try simp only [Act.put, lsa, lsz, lss])
                    have own52b := ownsRow_keep Own52.out ((Below.refl _ _).alloc (Nat.le_refl _) (.cells #[.string ⟨wd.toArray⟩] 9))
                    have n2 := Blk.new X1 [.string ⟨wd.toArray⟩] 9
                    have bel2 := Bel1.out.alloc Bel1.out.size (.cells #[.string ⟨wd.toArray⟩] 9)
                    obtain ⟨X2, hX2⟩ : ∃ X, X1.alloc (.cells #[.string ⟨wd.toArray⟩] 9) = X := ⟨_, rfl⟩
                    rw [show X1.alloc (.cells ([.string ⟨wd.toArray⟩] : List Value).toArray 9) = X2 from hX2] at n2
                    rw [hX2] at own52b bel2 ⊢
                    clear hX2
                    have Own52b := Lib.hid own52b; have N2 := Lib.hid n2; have Bel2 := Lib.hid bel2; clear own52b n2 bel2
                    refine hrd 4 rfl (fun K hK => ?_)
                    rw [if_pos (by kernel_rfl)]
                    refine app_str X2 _ _ rfl w3.heap.size (.slice (some ⟨w3.heap.size, 0, none⟩) 0 0) 0 [] rfl Own52b.out _ _ _ rfl (src_below S1.out Bel2.out) (ones_str _) (by omega) Bel2.out.size ?_
                    intro v56 X3 own56 hgr _
                    have Bel3 := Lib.hid (below_app Bel2.out Own52b.out hgr (Nat.le_refl _) Bel2.out.size)
                    have N3 : Hid (Blk X3 X1.heap.size 9 [.string ⟨wd.toArray⟩]) := Lib.hid ((hgr.block _ N2.out.lt (by intro e; have := HZ1.out; have e2 : X1.heap.size = w3.heap.size := Option.some.inj e; omega)).trans N2.out)
                    have Own56 := Lib.hid own56
                    refine hK.out _ _ trivial (fun hHeld => ?_)
                    clear hK K hgr own56 N2 Own52b Bel2
                    (try simp only [Act.put, lsa, lsz, lss])
                    (refine hrd 7 rfl (fun K hK => ?_); rw [if_pos (by kernel_rfl)]; refine app_str X3 _ _ rfl w3.heap.size v56 _ _ rfl Own56.out _ _ _ rfl (src_blk N3.out rfl) (ones_one _) (by omega) Bel3.out.size ?_; intro v59 X4 own59 hgr4 _; have Bel4 := Lib.hid (below_app Bel3.out Own56.out hgr4 (Nat.le_refl _) Bel3.out.size); have Own59 := Lib.hid own59; refine hK.out _ _ trivial (fun hHeld => ?_); clear hK K hgr4 own59 N3 Own56 Bel3; (try simp only [Act.put, lsa, lsz, lss]); refine hrd 11 rfl (fun K hK => ?_); rw [if_pos (by kernel_rfl)]; refine app_str X4 _ _ rfl w3.heap.size v59 _ _ rfl Own59.out _ _ _ rfl (src_below S2.out Bel4.out) (ones_str _) (by omega) Bel4.out.size ?_; intro v63 X5 own63 hgr5 _; have Bel5 := Lib.hid (below_app Bel4.out Own59.out hgr5 (Nat.le_refl _) Bel4.out.size); have Own63 := Lib.hid own63; refine hK.out _ _ trivial (fun hHeld => ?_); clear hK K hgr5 own63 Own59 Bel4; (try simp only [Act.put, lsa, lsz, lss]); (refine htk 12 3 v63 rfl (by intro w hSw; clear hSw; go_simp) ?_); (try simp only [lsz, lss]); refine wpAnyH_done (by kernel_rfl) ?_ _); have hown5 : OwnN w.heap.size X5 v63 (putName out wd) := ownN_of Own63.out Hsz3.out (by rw [Hput.out]; simp <;> omega) (by rw [Hput.out]; simp); have Hown5 := Lib.hid hown5; clear hown5; go_wp2_with (go_at_call 62; refine (pTake g _ cap L q1 X5 (HP3.out.keep Bel5.out) HWq.out [44]).mono ?_; rintro e' w6 ⟨rfl, hP6, ho6⟩); exact names_round Hgw.out Hmu.out herr Htk.out Hwd2.out HwL.out HF1.out hi HWq.out hiq Htx.out Hlen.out Hown5.out (Ho3.out.trans (Off.of Bel5.out)) hP6 ho6
                · rw [if_pos (by kernel_rfl)]
                  go_simp
                  refine hK.out _ _ trivial (fun hHeld => ?_)
                  clear hK K
                  (try simp only [Act.put, lsa, lsz, lss])
                  have n1 := (Blk.new w3 [.string ⟨wd.toArray⟩] 9).drew
                  have bel1 : Below w3.heap.size w3 (w3.alloc (.cells #[.string ⟨wd.toArray⟩] 9)).drew := ((Below.refl _ _).alloc (Nat.le_refl _) _).drew
                  have hz1 : (w3.alloc (.cells #[.string ⟨wd.toArray⟩] 9)).drew.heap.size = w3.heap.size + 1 := World.size_alloc _ _
                  obtain ⟨X1, hX1⟩ : ∃ X, (w3.alloc (.cells #[.string ⟨wd.toArray⟩] 9)).drew = X := ⟨_, rfl⟩
                  rw [show (w3.alloc (.cells ([.string ⟨wd.toArray⟩] : List Value).toArray 9)).drew = X1 from hX1] at n1
                  rw [hX1] at bel1 hz1 ⊢
                  clear hX1
                  have HZ1 := Lib.hid hz1; clear hz1
                  have N1 := Lib.hid n1; have Bel1 := Lib.hid bel1; clear n1 bel1
                  refine hrd 0 rfl (fun K hK => ?_)
                  rw [if_pos (by kernel_rfl)]
                  go_simp
                  refine hK.out _ _ trivial (fun hHeld => ?_)
                  clear hK K
                  (try simp only [Act.put, lsa, lsz, lss])
                  have own52 := ownsRow_base (own_emptyN X1) (show w3.heap.size ≤ X1.heap.size by have := HZ1.out; omega)
                  have n2 := N1.out.alloc (.cells #[] 9)
                  have bel2 := Bel1.out.alloc Bel1.out.size (.cells #[] 9)
                  obtain ⟨X2, hX2⟩ : ∃ X, X1.alloc (.cells #[] 9) = X := ⟨_, rfl⟩
                  rw [hX2] at own52 n2 bel2 ⊢
                  clear hX2
                  have Own52 := Lib.hid own52; have N2 := Lib.hid n2; have Bel2 := Lib.hid bel2; clear own52 n2 bel2
                  refine hrd 4 rfl (fun K hK => ?_)
                  rw [if_pos (by kernel_rfl)]
                  refine app_str X2 _ _ rfl w3.heap.size (.slice (some ⟨X1.heap.size, 0, none⟩) 0 0) 0 [] rfl Own52.out _ _ _ rfl (src_below S1.out Bel2.out) (ones_str _) (by omega) Bel2.out.size ?_
                  intro v56 X3 own56 hgr _
                  have Bel3 := Lib.hid (below_app Bel2.out Own52.out hgr (Nat.le_refl _) Bel2.out.size)
                  have N3 : Hid (Blk X3 w3.heap.size 9 [.string ⟨wd.toArray⟩]) := Lib.hid ((hgr.block _ N2.out.lt (by intro e; have := HZ1.out; have e2 : w3.heap.size = X1.heap.size := Option.some.inj e; omega)).trans N2.out)
                  have Own56 := Lib.hid own56
                  refine hK.out _ _ trivial (fun hHeld => ?_)
                  clear hK K hgr own56 N2 N1 Own52 Bel2
                  (try simp only [Act.put, lsa, lsz, lss])
                  (refine hrd 7 rfl (fun K hK => ?_); rw [if_pos (by kernel_rfl)]; refine app_str X3 _ _ rfl w3.heap.size v56 _ _ rfl Own56.out _ _ _ rfl (src_blk N3.out rfl) (ones_one _) (by omega) Bel3.out.size ?_; intro v59 X4 own59 hgr4 _; have Bel4 := Lib.hid (below_app Bel3.out Own56.out hgr4 (Nat.le_refl _) Bel3.out.size); have Own59 := Lib.hid own59; refine hK.out _ _ trivial (fun hHeld => ?_); clear hK K hgr4 own59 N3 Own56 Bel3; (try simp only [Act.put, lsa, lsz, lss]); refine hrd 11 rfl (fun K hK => ?_); rw [if_pos (by kernel_rfl)]; refine app_str X4 _ _ rfl w3.heap.size v59 _ _ rfl Own59.out _ _ _ rfl (src_below S2.out Bel4.out) (ones_str _) (by omega) Bel4.out.size ?_; intro v63 X5 own63 hgr5 _; have Bel5 := Lib.hid (below_app Bel4.out Own59.out hgr5 (Nat.le_refl _) Bel4.out.size); have Own63 := Lib.hid own63; refine hK.out _ _ trivial (fun hHeld => ?_); clear hK K hgr5 own63 Own59 Bel4; (try simp only [Act.put, lsa, lsz, lss]); (refine htk 12 3 v63 rfl (by intro w hSw; clear hSw; go_simp) ?_); (try simp only [lsz, lss]); refine wpAnyH_done (by kernel_rfl) ?_ _); have hown5 : OwnN w.heap.size X5 v63 (putName out wd) := ownN_of Own63.out Hsz3.out (by rw [Hput.out]; simp <;> omega) (by rw [Hput.out]; simp); have Hown5 := Lib.hid hown5; clear hown5; go_wp2_with (go_at_call 62; refine (pTake g _ cap L q1 X5 (HP3.out.keep Bel5.out) HWq.out [44]).mono ?_; rintro e' w6 ⟨rfl, hP6, ho6⟩); exact names_round Hgw.out Hmu.out herr Htk.out Hwd2.out HwL.out HF1.out hi HWq.out hiq Htx.out Hlen.out Hown5.out (Ho3.out.trans (Off.of Bel5.out)) hP6 ho6

              · skip
                have S1 := Lib.hid (src_at (n := out.length) (c := c) (o := 0) (l := out) (w := w3) (h := h) rfl (fun j hj => by rw [Nat.zero_add]; exact Hcell.out j hj))
                have S2 := Lib.hid (src_at (n := 0) (c := c - out.length) (o := out.length) (l := []) (w := w3) (h := h) rfl (fun j hj => absurd hj (Nat.not_lt_zero _)))
                go_wp2_with fail
                refine wp_region_held_drew (S := fun _ => True) (by kernel_rfl) trivial (fun hHeld => ?_); (refine htk 1 53 ?_ rfl ?_ ?_; rotate_left; (intro w hSw; clear hSw; go_simp); (try with_reducible rfl); simp only [lsz, lss]); (refine htk 2 54 ?_ rfl ?_ ?_; rotate_left; (intro w hSw; clear hSw; go_simp); (try with_reducible rfl); simp only [lsz, lss]); (refine htk 3 55 (.slice (some ⟨h, 0, none⟩) out.length c) rfl (by intro w hSw; clear hSw; go_simp) ?_); simp only [lsz, lss]; (refine htk 5 57 ?_ rfl ?_ ?_; rotate_left; (intro w hSw; clear hSw; go_simp); (try with_reducible rfl); simp only [lsz, lss]); (refine htk 8 60 ?_ rfl ?_ ?_; rotate_left; (intro w hSw; clear hSw; go_simp); (try with_reducible rfl); simp only [lsz, lss]); (refine htk 9 61 ?_ rfl ?_ ?_; rotate_left; (intro w hSw; clear hSw; go_simp); (try with_reducible rfl); simp only [lsz, lss]); (refine htk 10 62 (.slice (some ⟨h, out.length, none⟩) 0 (c - out.length)) rfl (by intro w hSw; clear hSw; go_simp) ?_); simp only [lsz, lss]
                refine wpAnyH_ready (rs := [0, 6]) (by kernel_rfl) (by simp) (.cons rfl (fun K hK => ?_) (.cons rfl (fun K hK => ?_) .nil))
                · rw [if_pos (by kernel_rfl)]
                  go_simp
                  refine hK.out _ _ trivial (fun hHeld => ?_)
                  clear hK K
                  (try simp only [Act.put, lsa, lsz, lss])
                  have own52 : (w3.alloc (.cells #[] 9)).drew.ownsRow w3.heap.size 9 1 (.slice (some ⟨w3.heap.size, 0, none⟩) 0 0) 0 [] := own_emptyN w3
                  have bel1 : Below w3.heap.size w3 (w3.alloc (.cells #[] 9)).drew := ((Below.refl _ _).alloc (Nat.le_refl _) _).drew
                  have Own52 := Lib.hid own52; have Bel1 := Lib.hid bel1; clear own52 bel1
                  have hz1 : (w3.alloc (.cells #[] 9)).drew.heap.size = w3.heap.size + 1 := World.size_alloc _ _
                  obtain ⟨X1, hX1⟩ : ∃ X, (w3.alloc (.cells #[] 9)).drew = X := ⟨_, rfl⟩
                  rw [hX1] at Own52 Bel1 hz1 ⊢
                  clear hX1
                  have HZ1 := Lib.hid hz1; clear hz1
                  refine wpAnyH_ready (rs := [4, 6]) (by kernel_rfl) (by simp) (.cons rfl (fun K hK => ?_) (.cons rfl (fun K hK => ?_) .nil))
                  · rw [if_pos (by kernel_rfl)]
                    refine app_str X1 _ _ rfl w3.heap.size (.slice (some ⟨w3.heap.size, 0, none⟩) 0 0) 0 [] rfl Own52.out _ _ _ rfl (src_below S1.out Bel1.out) (ones_str _) (by omega) Bel1.out.size ?_
                    intro v56 X2 own56 hgr _
                    have Bel2 := Lib.hid (below_app Bel1.out Own52.out hgr (Nat.le_refl _) Bel1.out.size)
                    refine hK.out _ _ trivial (fun hHeld => ?_)
                    clear hK K hgr
                    (try simp only [Act.put, lsa, lsz, lss])
                    refine hrd 6 rfl (fun K hK => ?_)
                    rw [if_pos (by kernel_rfl)]
                    go_simp
                    refine hK.out _ _ trivial (fun hHeld => ?_)
                    clear hK K
                    (try simp only [Act.put, lsa, lsz, lss])
                    have Own56 := Lib.hid (ownsRow_keep own56 ((Below.refl _ _).alloc (Nat.le_refl _) (.cells #[.string ⟨wd.toArray⟩] 9)))
                    have N3 := Lib.hid (Blk.new X2 [.string ⟨wd.toArray⟩] 9)
                    have Bel3 := Lib.hid (Bel2.out.alloc Bel2.out.size (.cells #[.string ⟨wd.toArray⟩] 9))
                    obtain ⟨X3, hX3⟩ : ∃ X, X2.alloc (.cells #[.string ⟨wd.toArray⟩] 9) = X := ⟨_, rfl⟩
                    rw [show X2.alloc (.cells ([.string ⟨wd.toArray⟩] : List Value).toArray 9) = X3 from hX3] at N3
                    rw [hX3] at Own56 Bel3 ⊢
                    clear hX3 own56 Bel2
                    (refine hrd 7 rfl (fun K hK => ?_); rw [if_pos (by kernel_rfl)]; refine app_str X3 _ _ rfl w3.heap.size v56 _ _ rfl Own56.out _ _ _ rfl (src_blk N3.out rfl) (ones_one _) (by omega) Bel3.out.size ?_; intro v59 X4 own59 hgr4 _; have Bel4 := Lib.hid (below_app Bel3.out Own56.out hgr4 (Nat.le_refl _) Bel3.out.size); have Own59 := Lib.hid own59; refine hK.out _ _ trivial (fun hHeld => ?_); clear hK K hgr4 own59 N3 Own56 Bel3; (try simp only [Act.put, lsa, lsz, lss]); refine hrd 11 rfl (fun K hK => ?_); rw [if_pos (by kernel_rfl)]; refine app_str X4 _ _ rfl w3.heap.size v59 _ _ rfl Own59.out _ _ _ rfl (src_below S2.out Bel4.out) (ones_str _) (by omega) Bel4.out.size ?_; intro v63 X5 own63 hgr5 _; have Bel5 := Lib.hid (below_app Bel4.out Own59.out hgr5 (Nat.le_refl _) Bel4.out.size); have Own63 := Lib.hid own63; refine hK.out _ _ trivial (fun hHeld => ?_); clear hK K hgr5 own63 Own59 Bel4; (try simp only [Act.put, lsa, lsz, lss]); (refine htk 12 3 v63 rfl (by intro w hSw; clear hSw; go_simp) ?_); (try simp only [lsz, lss]); refine wpAnyH_done (by kernel_rfl) ?_ _); have hown5 : OwnN w.heap.size X5 v63 (putName out wd) := ownN_of Own63.out Hsz3.out (by rw [Hput.out]; simp <;> omega) (by rw [Hput.out]; simp); have Hown5 := Lib.hid hown5; clear hown5; go_wp2_with (go_at_call 62; refine (pTake g _ cap L q1 X5 (HP3.out.keep Bel5.out) HWq.out [44]).mono ?_; rintro e' w6 ⟨rfl, hP6, ho6⟩); exact names_round Hgw.out Hmu.out herr Htk.out Hwd2.out HwL.out HF1.out hi HWq.out hiq Htx.out Hlen.out Hown5.out (Ho3.out.trans (Off.of Bel5.out)) hP6 ho6
                  · rw [if_pos (by kernel_rfl)]
                    go_simp
                    refine hK.out _ _ trivial (fun hHeld => ?_)
                    clear hK K
                    (try simp only [Act.put, lsa, lsz, lss])
                    have own52b := ownsRow_keep Own52.out ((Below.refl _ _).alloc (Nat.le_refl _) (.cells #[.string ⟨wd.toArray⟩] 9))
                    have n2 := Blk.new X1 [.string ⟨wd.toArray⟩] 9
                    have bel2 := Bel1.out.alloc Bel1.out.size (.cells #[.string ⟨wd.toArray⟩] 9)
                    obtain ⟨X2, hX2⟩ : ∃ X, X1.alloc (.cells #[.string ⟨wd.toArray⟩] 9) = X := ⟨_, rfl⟩
                    rw [show X1.alloc (.cells ([.string ⟨wd.toArray⟩] : List Value).toArray 9) = X2 from hX2] at n2
                    rw [hX2] at own52b bel2 ⊢
                    clear hX2
                    have Own52b := Lib.hid own52b; have N2 := Lib.hid n2; have Bel2 := Lib.hid bel2; clear own52b n2 bel2
                    refine hrd 4 rfl (fun K hK => ?_)
                    rw [if_pos (by kernel_rfl)]
                    refine app_str X2 _ _ rfl w3.heap.size (.slice (some ⟨w3.heap.size, 0, none⟩) 0 0) 0 [] rfl Own52b.out _ _ _ rfl (src_below S1.out Bel2.out) (ones_str _) (by omega) Bel2.out.size ?_
                    intro v56 X3 own56 hgr _
                    have Bel3 := Lib.hid (below_app Bel2.out Own52b.out hgr (Nat.le_refl _) Bel2.out.size)
                    have N3 : Hid (Blk X3 X1.heap.size 9 [.string ⟨wd.toArray⟩]) := Lib.hid ((hgr.block _ N2.out.lt (by intro e; have := HZ1.out; have e2 : X1.heap.size = w3.heap.size := Option.some.inj e; omega)).trans N2.out)
                    have Own56 := Lib.hid own56
                    refine hK.out _ _ trivial (fun hHeld => ?_)
                    clear hK K hgr own56 N2 Own52b Bel2
                    (try simp only [Act.put, lsa, lsz, lss])
                    (refine hrd 7 rfl (fun K hK => ?_); rw [if_pos (by kernel_rfl)]; refine app_str X3 _ _ rfl w3.heap.size v56 _ _ rfl Own56.out _ _ _ rfl (src_blk N3.out rfl) (ones_one _) (by omega) Bel3.out.size ?_; intro v59 X4 own59 hgr4 _; have Bel4 := Lib.hid (below_app Bel3.out Own56.out hgr4 (Nat.le_refl _) Bel3.out.size); have Own59 := Lib.hid own59; refine hK.out _ _ trivial (fun hHeld => ?_); clear hK K hgr4 own59 N3 Own56 Bel3; (try simp only [Act.put, lsa, lsz, lss]); refine hrd 11 rfl (fun K hK => ?_); rw [if_pos (by kernel_rfl)]; refine app_str X4 _ _ rfl w3.heap.size v59 _ _ rfl Own59.out _ _ _ rfl (src_below S2.out Bel4.out) (ones_str _) (by omega) Bel4.out.size ?_; intro v63 X5 own63 hgr5 _; have Bel5 := Lib.hid (below_app Bel4.out Own59.out hgr5 (Nat.le_refl _) Bel4.out.size); have Own63 := Lib.hid own63; refine hK.out _ _ trivial (fun hHeld => ?_); clear hK K hgr5 own63 Own59 Bel4; (try simp only [Act.put, lsa, lsz, lss]); (refine htk 12 3 v63 rfl (by intro w hSw; clear hSw; go_simp) ?_); (try simp only [lsz, lss]); refine wpAnyH_done (by kernel_rfl) ?_ _); have hown5 : OwnN w.heap.size X5 v63 (putName out wd) := ownN_of Own63.out Hsz3.out (by rw [Hput.out]; simp <;> omega) (by rw [Hput.out]; simp); have Hown5 := Lib.hid hown5; clear hown5; go_wp2_with (go_at_call 62; refine (pTake g _ cap L q1 X5 (HP3.out.keep Bel5.out) HWq.out [44]).mono ?_; rintro e' w6 ⟨rfl, hP6, ho6⟩); exact names_round Hgw.out Hmu.out herr Htk.out Hwd2.out HwL.out HF1.out hi HWq.out hiq Htx.out Hlen.out Hown5.out (Ho3.out.trans (Off.of Bel5.out)) hP6 ho6
                · rw [if_pos (by kernel_rfl)]
                  go_simp
                  refine hK.out _ _ trivial (fun hHeld => ?_)
                  clear hK K
                  (try simp only [Act.put, lsa, lsz, lss])
                  have n1 := (Blk.new w3 [.string ⟨wd.toArray⟩] 9).drew
                  have bel1 : Below w3.heap.size w3 (w3.alloc (.cells #[.string ⟨wd.toArray⟩] 9)).drew := ((Below.refl _ _).alloc (Nat.le_refl _) _).drew
                  have hz1 : (w3.alloc (.cells #[.string ⟨wd.toArray⟩] 9)).drew.heap.size = w3.heap.size + 1 := World.size_alloc _ _
                  obtain ⟨X1, hX1⟩ : ∃ X, (w3.alloc (.cells #[.string ⟨wd.toArray⟩] 9)).drew = X := ⟨_, rfl⟩
                  rw [show (w3.alloc (.cells ([.string ⟨wd.toArray⟩] : List Value).toArray 9)).drew = X1 from hX1] at n1
                  rw [hX1] at bel1 hz1 ⊢
                  clear hX1
                  have HZ1 := Lib.hid hz1; clear hz1
                  have N1 := Lib.hid n1; have Bel1 := Lib.hid bel1; clear n1 bel1
                  refine hrd 0 rfl (fun K hK => ?_)
                  rw [if_pos (by kernel_rfl)]
                  go_simp
                  refine hK.out _ _ trivial (fun hHeld => ?_)
                  clear hK K
                  (try simp only [Act.put, lsa, lsz, lss])
                  have own52 := ownsRow_base (own_emptyN X1) (show w3.heap.size ≤ X1.heap.size by have := HZ1.out; omega)
                  have n2 := N1.out.alloc (.cells #[] 9)
                  have bel2 := Bel1.out.alloc Bel1.out.size (.cells #[] 9)
                  obtain ⟨X2, hX2⟩ : ∃ X, X1.alloc (.cells #[] 9) = X := ⟨_, rfl⟩
                  rw [hX2] at own52 n2 bel2 ⊢
                  clear hX2
                  have Own52 := Lib.hid own52; have N2 := Lib.hid n2; have Bel2 := Lib.hid bel2; clear own52 n2 bel2
                  refine hrd 4 rfl (fun K hK => ?_)
                  rw [if_pos (by kernel_rfl)]
                  refine app_str X2 _ _ rfl w3.heap.size (.slice (some ⟨X1.heap.size, 0, none⟩) 0 0) 0 [] rfl Own52.out _ _ _ rfl (src_below S1.out Bel2.out) (ones_str _) (by omega) Bel2.out.size ?_
                  intro v56 X3 own56 hgr _
                  have Bel3 := Lib.hid (below_app Bel2.out Own52.out hgr (Nat.le_refl _) Bel2.out.size)
                  have N3 : Hid (Blk X3 w3.heap.size 9 [.string ⟨wd.toArray⟩]) := Lib.hid ((hgr.block _ N2.out.lt (by intro e; have := HZ1.out; have e2 : w3.heap.size = X1.heap.size := Option.some.inj e; omega)).trans N2.out)
                  have Own56 := Lib.hid own56
                  refine hK.out _ _ trivial (fun hHeld => ?_)
                  clear hK K hgr own56 N2 N1 Own52 Bel2
                  (try simp only [Act.put, lsa, lsz, lss])
                  (refine hrd 7 rfl (fun K hK => ?_); rw [if_pos (by kernel_rfl)]; refine app_str X3 _ _ rfl w3.heap.size v56 _ _ rfl Own56.out _ _ _ rfl (src_blk N3.out rfl) (ones_one _) (by omega) Bel3.out.size ?_; intro v59 X4 own59 hgr4 _; have Bel4 := Lib.hid (below_app Bel3.out Own56.out hgr4 (Nat.le_refl _) Bel3.out.size); have Own59 := Lib.hid own59; refine hK.out _ _ trivial (fun hHeld => ?_); clear hK K hgr4 own59 N3 Own56 Bel3; (try simp only [Act.put, lsa, lsz, lss]); refine hrd 11 rfl (fun K hK => ?_); rw [if_pos (by kernel_rfl)]; refine app_str X4 _ _ rfl w3.heap.size v59 _ _ rfl Own59.out _ _ _ rfl (src_below S2.out Bel4.out) (ones_str _) (by omega) Bel4.out.size ?_; intro v63 X5 own63 hgr5 _; have Bel5 := Lib.hid (below_app Bel4.out Own59.out hgr5 (Nat.le_refl _) Bel4.out.size); have Own63 := Lib.hid own63; refine hK.out _ _ trivial (fun hHeld => ?_); clear hK K hgr5 own63 Own59 Bel4; (try simp only [Act.put, lsa, lsz, lss]); (refine htk 12 3 v63 rfl (by intro w hSw; clear hSw; go_simp) ?_); (try simp only [lsz, lss]); refine wpAnyH_done (by kernel_rfl) ?_ _); have hown5 : OwnN w.heap.size X5 v63 (putName out wd) := ownN_of Own63.out Hsz3.out (by rw [Hput.out]; simp <;> omega) (by rw [Hput.out]; simp); have Hown5 := Lib.hid hown5; clear hown5; go_wp2_with (go_at_call 62; refine (pTake g _ cap L q1 X5 (HP3.out.keep Bel5.out) HWq.out [44]).mono ?_; rintro e' w6 ⟨rfl, hP6, ho6⟩); exact names_round Hgw.out Hmu.out herr Htk.out Hwd2.out HwL.out HF1.out hi HWq.out hiq Htx.out Hlen.out Hown5.out (Ho3.out.trans (Off.of Bel5.out)) hP6 ho6

      · have hfin : (out, p1.need L [41]) = (r, p') := by
          rcases hcase with ⟨hb, f1, h⟩ | ⟨_, h⟩
          · exact names_stop L (fun e => hgo ⟨hb, e⟩) h
          · exact h
        simp only [Prod.mk.injEq] at hfin
        obtain ⟨rfl, rfl⟩ := hfin
        clear hcase HR
        have HP := Lib.hid hP; have Ho := Lib.hid ho; clear ho; obtain ⟨hb, hl⟩ := hP; clear hl; have hg := hb.lt; unfold PC at hb; have c0 := hb.cell 0 _ rfl; have c1 := hb.cell 1 _ rfl; have c2 := hb.cell 2 _ rfl; have c3 := hb.cell 3 _ rfl; have c4 := hb.cell 4 _ rfl; have f1 := hb.free 1; have f2 := hb.free 2; have f3 := hb.free 3; have f4 := hb.free 4; clear hb
        cases b with
        | false =>
          clear hgo
          go_wp2_with (go_at_call 35; refine (pNeed g _ cap L p1 wr HP.out HW.out [41]).mono ?_; rintro e' w6 ⟨rfl, hP6, ho6⟩)
          go_ret
          exact ⟨_, rfl, Hown.out.off ho6 Hgw.out, hP6, Ho.out.trans ho6⟩
        | true =>
          have herr : ¬ p1.err = 0 := fun e => hgo ⟨rfl, e⟩
          have herrb : (p1.err == 0) = false := by simpa using herr
          clear hgo
          go_wp2_with (go_at_call 35; refine (pNeed g _ cap L p1 wr HP.out HW.out [41]).mono ?_; rintro e' w6 ⟨rfl, hP6, ho6⟩)
          go_ret
          exact ⟨_, rfl, Hown.out.off ho6 Hgw.out, hP6, Ho.out.trans ho6⟩
end Go.Proofs.YtobelmipjanibaaDoor
