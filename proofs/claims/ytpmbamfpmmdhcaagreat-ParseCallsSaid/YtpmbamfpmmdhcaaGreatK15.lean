/- The reference's parser: names. -/
import Derived.Test.YtpmbamfpmmdhcaaGreatK13
import Derived.Test.YtpmbamfpmmdhcaaGreatK11
import Derived.Test.YtpmbamfpmmdhcaaGreatK1
import Derived.Test.YtpmbamfpmmdhcaaGreatK0
set_option maxRecDepth 100000
set_option maxHeartbeats 16000000
namespace Go.Proofs.YtpmbamfpmmdhcaaGreat
open Go.RowKit
set_option linter.unusedSimpArgs false
set_option linter.unusedVariables false
/-! ### what the plain steps keep -/
theorem PS.fail_i (p : PS) (e a : Int) : (p.fail e a).i = p.i := by unfold PS.fail; split <;> rfl
theorem PS.take_i (L : List Tok) (p : PS) (s : List UInt8) : p.i ≤ (p.take L s).2.i ∧ ((p.take L s).1 = true → p.i < (p.take L s).2.i) := by
  unfold PS.take
  repeat' split
  all_goals simp [PS.fail_i]
theorem PS.need_i (L : List Tok) (p : PS) (s : List UInt8) : p.i ≤ (p.need L s).i := by
  have := (PS.take_i L p s).1
  unfold PS.need; split
  · exact this
  · rw [PS.fail_i]; exact this
theorem PS.token_i (L : List Tok) (p : PS) (k : Int) : p.i ≤ (p.token L k).2.i := by
  unfold PS.token; split
  · simp
  · simp [PS.fail_i]
theorem putName_at : ∀ (out : List (List UInt8)) (w : List UInt8) (k : Nat), k ≤ out.length → (∀ j (h : j < out.length), j < k → Op.bytesLess out[j] w = true) → (∀ h : k < out.length, Op.bytesLess out[k] w = false) →
    putName out w = if ∃ h : k < out.length, out[k] = w then out else out.take k ++ w :: out.drop k
  | [], w, k, hk, _, _ => by
    obtain rfl : k = 0 := by simpa using hk
    simp [putName]
  | x :: r, w, 0, _, _, h => by
    have h0 := h (by simp); simp only [List.getElem_cons_zero] at h0; unfold putName; rw [if_neg (by rw [h0]; simp)]
    by_cases e : x = w
    · rw [if_pos e, if_pos ⟨by simp, by simpa using e⟩]
    · rw [if_neg e, if_neg (by rintro ⟨_, h⟩; exact e (by simpa using h))]; simp
  | x :: r, w, k + 1, hk, h1, h2 => by
    have h0 := h1 0 (by simp) (by omega); simp only [List.getElem_cons_zero] at h0; unfold putName; rw [if_pos h0, putName_at r w k (by simpa using hk) (fun j hj hjk => by have := h1 (j + 1) (by simpa using hj) (by omega); simpa using this) (fun hk' => by have := h2 (by simpa using hk'); simpa using this)]
    by_cases e : ∃ h : k < r.length, r[k] = w
    · rw [if_pos e, if_pos (by obtain ⟨h, e⟩ := e; exact ⟨by simpa using h, by simpa using e⟩)]
    · rw [if_neg e, if_neg (by rintro ⟨h, e'⟩; exact e ⟨by simpa using h, by simpa using e'⟩)]; simp
def StrsO (g : Nat) (w : World) (v : Value) (l : List ByteArray) : Prop := IsStrs w.heap.size (blank g w) v l
theorem ownsRow_off {g : Nat} {w w' : World} {base e sz n : Nat} {v : Value} {xs : List Value} (h : w.ownsRow base e sz v n xs) (ho : Off g w w') (hg : g < base) : w'.ownsRow base e sz v n xs := by
  refine ⟨h.1, ?_⟩
  rcases h.2 with h | ⟨k, cap, cur, hv, hk, hh, h1, h2, h3, h4⟩
  · exact .inl h
  · exact .inr ⟨k, cap, cur, hv, hk, (ho.block k (Array.getElem?_eq_some_iff.1 hh).1 (by omega)).trans hh, h1, h2, h3, h4⟩
def OwnN (base : Nat) (w : World) (v : Value) (l : List (List UInt8)) : Prop := w.ownsRow base 9 1 v l.length (l.map fun s => .string ⟨s.toArray⟩)
theorem OwnN.off {g base : Nat} {w w' : World} {v : Value} {l : List (List UInt8)} (h : OwnN base w v l) (ho : Off g w w') (hg : g < base) : OwnN base w' v l := ownsRow_off h ho hg
theorem OwnN.strs {g base : Nat} {w : World} {v : Value} {l : List (List UInt8)} (h : OwnN base w v l) (hg : g < base) (hs : ∀ x ∈ l, x.length ≤ 100000) : StrsO g w v (l.map baOf) := by
  refine ⟨?_, fun s hs' => by obtain ⟨x, hx, rfl⟩ := List.mem_map.1 hs'; have := hs x hx; unfold maxLen baOf; simp [ByteArray.size]; omega⟩
  rcases h.2 with ⟨rfl, h0⟩ | ⟨k, cap, cur, rfl, hk, hh, h1, h2, h3, h4⟩
  · have : l = [] := List.eq_nil_of_length_eq_zero h0
    subst this; exact Arr.nil _ _ _
  · have hlt := (Array.getElem?_eq_some_iff.1 hh).1
    refine ⟨_, cap, by simp, by simpa using h1, h2, fun _ => ⟨k, 0, rfl, hlt, fun i r hr j x hx => ?_⟩⟩; simp only [List.map_map, List.getElem?_map, Option.map_eq_some_iff, Function.comp] at hr; obtain ⟨a, ha, rfl⟩ := hr; have hj : j = 0 := by have := (List.getElem?_eq_some_iff.1 hx).1; simpa using this
    subst hj; simp only [List.getElem?_cons_zero, Option.some.injEq] at hx; subst hx; have hc := World.ownsRow.cells h (g := k) rfl i (.string ⟨a.toArray⟩) (by rw [List.getElem?_map, ha]; rfl); have e : (⟨k, 0, none⟩ : Addr).add i = ⟨k, 0 + i * 1 + 0, none⟩ := by unfold Addr.add; split <;> simp <;> omega
    rw [e] at hc; rw [blank_cell (a := ⟨k, 0 + i * 1 + 0, none⟩) (show k ≠ g by omega)]; exact hc
theorem infoSN : (Tryz.prog.info? 9).map (fun i => (i.zero, i.size, i.bytes)) = some (some (.string ⟨#[]⟩), 1, 16) := by kernel_rfl
theorem app_str {o : Oper} {a : Act} {K : Act → World → Prop} {Q : Exit → Act → World → Prop} (X : World) (s x : Operand) (ho : o.op = .call { callee := .builtin .append, args := #[s, x], argTypes := #[25, 25] })
    (base : Nat) (v : Value) (n : Nat) (xs : List Value) (hs : a.eval s = v) (hown : X.ownsRow base 9 1 v n xs) (src : Value) (m : Nat) (news : List Value) (hx : a.eval x = src) (hsrc : Src X src 1 m news)
    (h1 : ∀ u ∈ news, u.oneCell' = true) (hn : n + m ≤ 1000000) (hbase : base ≤ X.heap.size)
    (h : ∀ v' w', w'.ownsRow base 9 1 v' (n + m) (xs ++ news) → X.grownBy w' v.ownBlock → (v'.ownBlock = v.ownBlock ∨ v'.ownBlock = some X.heap.size) → K (a.put o.dst v') w') : o.wp Tryz.prog a X K Q := by
  obtain ⟨i0, hi, hz⟩ := Option.map_eq_some_iff.1 infoSN
  simp only [Prod.mk.injEq] at hz
  exact wp_append_src X s x 25 ho base 9 i0 _ 1 16 Tryz.underlying25 hi hz.1 hz.2.1 hz.2.2 rfl (by decide) v n xs hs hown src m news hx hsrc h1 (by unfold maxLen; omega) (by omega) hbase h
theorem src_below {W X : World} {v : Value} {sz m : Nat} {news : List Value} (h : Src W v sz m news) (hb : Below W.heap.size W X) : Src X v sz m news := h.keep fun p x hx => by
  have hlt : p.block < W.heap.size := World.block_lt_of_cell? W p hx
  rw [hb.cell hlt]; exact hx
theorem src_blk {X : World} {b t sz m c : Nat} {cs : List Value} (h : Blk X b t cs) (hl : cs.length = m * sz) : Src X (.slice (some ⟨b, 0, none⟩) m c) sz m cs := by
  refine .inr ⟨_, c, rfl, hl, fun j u hu => ?_⟩
  have e : (⟨b, 0, none⟩ : Addr).add j = ⟨b, j, none⟩ := by
    unfold Addr.add
    split <;> simp <;> omega
  rw [e]
  exact h.cell j u hu
theorem own_emptyN (W : World) : (W.alloc (.cells #[] 9)).ownsRow W.heap.size 9 1 (.slice (some ⟨W.heap.size, 0, none⟩) 0 0) 0 [] :=
  ⟨rfl, .inr ⟨W.heap.size, 0, #[], rfl, Nat.le_refl _, World.alloc_heap_new W _, Nat.le_refl _, Nat.zero_le _, rfl, rfl⟩⟩
theorem ones_str (l : List (List UInt8)) : ∀ u ∈ l.map (fun s => Value.string ⟨s.toArray⟩), u.oneCell' = true := by
  intro u hu; obtain ⟨x, _, rfl⟩ := List.mem_map.1 hu; rfl
theorem ones_one (s : ByteArray) : ∀ u ∈ [Value.string s], u.oneCell' = true := by
  intro u hu; simp only [List.mem_cons, List.not_mem_nil, or_false] at hu; subst hu; rfl
def NamesR (g : Nat) (pt : Option Addr) (cap : Nat) (L : List Tok) (w : World) (r : List (List UInt8)) (p' : PS) (e' : Ending) (w' : World) : Prop := ∃ v, e' = .returned v ∧ OwnN w.heap.size w' v r ∧ PA g pt cap L p' w' ∧ Off g w w'
def muP (g : Nat) (w : World) : Nat := (intOf ((w.cell? ⟨g, 1, none⟩).getD undef)).toNat
theorem muP_eq {g : Nat} {pt : Option Addr} {cap : Nat} {L : List Tok} {p : PS} {w : World} (h : PA g pt cap L p w) : muP g w = p.i := by
  have := h.1.cell 1 (.int .i64 p.i) rfl
  unfold muP; rw [this]; simp [intOf]
def boolN (v : Value) : Nat := match v with | .bool true => 1 | _ => 0
theorem fieldTok1 (a c d : Int) (b : ByteArray) (wx : World) : (Instr.field 65 (.agg #[.int .i64 a, .string b, .int .i64 c, .int .i64 d]) 1).run Tryz.prog wx = .ok (.string b) wx := by kernel_rfl
theorem fieldTok2 (a c d : Int) (b : ByteArray) (wx : World) : (Instr.field 65 (.agg #[.int .i64 a, .string b, .int .i64 c, .int .i64 d]) 2).run Tryz.prog wx = .ok (.int .i64 c) wx := by kernel_rfl
theorem putName_len : ∀ (out : List (List UInt8)) (w : List UInt8), (putName out w).length ≤ out.length + 1 ∧ ∀ x ∈ putName out w, x ∈ out ∨ x = w
  | [], w => by simp [putName]
  | y :: r, w => by
    have ih := putName_len r w; unfold putName
    split
    · refine ⟨by simpa using ih.1, fun x hx => ?_⟩
      rcases List.mem_cons.1 hx with rfl | hx
      · left; simp
      · rcases ih.2 x hx with h | h
        · left; simp [h]
        · exact .inr h
    · split
      · exact ⟨by simp, fun x hx => .inl hx⟩
      · refine ⟨by simp, fun x hx => ?_⟩
        rcases List.mem_cons.1 hx with rfl | hx
        · exact .inr rfl
        · exact .inl hx
theorem names_step (L : List Tok) {f1 : Nat} {p1 q1 : PS} {tk : Tok} {out r : List (List UInt8)} {p' : PS} (herr : p1.err = 0) (htk : p1.token L 1 = (tk, q1)) (h : (namesF L f1 p1 out).map (fun x => (x.1, x.2.need L [41])) = some (r, p')) :
    ((q1.take L [44]).1 = true ∧ ∃ f, (namesF L f (q1.take L [44]).2 (putName out tk.text)).map (fun x => (x.1, x.2.need L [41])) = some (r, p')) ∨ ((q1.take L [44]).1 = false ∧ (putName out tk.text, (q1.take L [44]).2.need L [41]) = (r, p')) := by
  cases f1 with
  | zero => simp [namesF] at h
  | succ f =>
    unfold namesF at h; rw [if_pos herr] at h; simp only [htk] at h; cases hc : (q1.take L [44]).1 with
    | true => left; refine ⟨rfl, f, ?_⟩; simpa [hc] using h
    | false => right; refine ⟨rfl, ?_⟩; simpa [hc] using h
theorem names_stop (L : List Tok) {f1 : Nat} {p1 : PS} {out r : List (List UInt8)} {p' : PS} (herr : ¬ p1.err = 0) (h : (namesF L f1 p1 out).map (fun x => (x.1, x.2.need L [41])) = some (r, p')) : (out, p1.need L [41]) = (r, p') := by
  cases f1 with
  | zero => simp [namesF] at h
  | succ f =>
    unfold namesF at h; rw [if_neg herr] at h
    simpa using h
theorem ownN_of {base base' : Nat} {w : World} {v : Value} {n : Nat} {xs : List Value} {l : List (List UInt8)} (h : w.ownsRow base' 9 1 v n xs) (hb : base ≤ base') (hn : n = l.length) (hx : xs = l.map fun s => .string ⟨s.toArray⟩) : OwnN base w v l := by
  subst hn hx; exact ownsRow_base h hb
theorem src_at {w : World} {h o n c : Nat} {l : List (List UInt8)} (hl : l.length = n) (hc : ∀ j (hj : j < l.length), w.cell? ⟨h, o + j, none⟩ = some (.string ⟨l[j].toArray⟩)) : Src w (.slice (some ⟨h, o, none⟩) n c) 1 n (l.map fun s => .string ⟨s.toArray⟩) := by
  subst hl
  refine .inr ⟨_, c, rfl, by simp, fun j u hu => ?_⟩
  simp only [List.getElem?_map, Option.map_eq_some_iff] at hu
  obtain ⟨x, hx, rfl⟩ := hu
  obtain ⟨hj, rfl⟩ := List.getElem?_eq_some_iff.1 hx
  have e : (⟨h, o, none⟩ : Addr).add j = ⟨h, o + j, none⟩ := by
    unfold Addr.add
    split <;> simp <;> omega
  rw [e]; exact hc j hj
theorem names_round {g : Nat} {pt : Option Addr} {cap : Nat} {L : List Tok} {w wr w5 w6 : World} {out r : List (List UInt8)} {p1 q1 : PS} {tk : Tok} {wd : List UInt8} {p' : PS} {f1 : Nat} {v : Value} (hgw : g < w.heap.size)
    (hmu : muP g wr = p1.i) (herr : p1.err = 0) (htk : p1.token L 1 = (tk, q1)) (hwd : tk.text = wd) (hwl : wd.length ≤ 100000) (h : (namesF L f1 p1 out).map (fun x => (x.1, x.2.need L [41])) = some (r, p'))
    (hw1 : p1.i < L.length) (hwq : PW L q1) (hiq : p1.i ≤ q1.i) (htx : ∀ x ∈ out, x.length ≤ 100000) (hlen : out.length ≤ p1.i) (hown : OwnN w.heap.size w5 v (putName out wd)) (ho5 : Off g w w5) (hP6 : PA g pt cap L (q1.take L [44]).2 w6) (ho6 : Off g w5 w6) :
    (∃ (out : List (List UInt8)) (p1 : PS) (b : Bool), Value.bool (q1.take L [44]).1 = .bool b ∧ OwnN w.heap.size w6 v out ∧ PA g pt cap L p1 w6 ∧ PW L p1 ∧ Off g w w6 ∧ (∀ x ∈ out, x.length ≤ 100000) ∧ (b = true → out.length ≤ p1.i) ∧
        ((b = true ∧ ∃ f, (namesF L f p1 out).map (fun x => (x.1, x.2.need L [41])) = some (r, p')) ∨ (b = false ∧ (out, p1.need L [41]) = (r, p')))) ∧ 2 * (L.length - muP g w6) + boolN (.bool (q1.take L [44]).1) < 2 * (L.length - muP g wr) + boolN (.bool true) := by
  have hst := names_step L herr htk h
  rw [hwd] at hst
  have hti := PS.take_i L q1 [44]
  have hpl := putName_len out wd
  refine ⟨⟨putName out wd, _, _, rfl, hown.off ho6 hgw, hP6, hwq.take [44], ho5.trans ho6, fun x hx => ?_, fun hc => ?_, hst⟩, ?_⟩
  · rcases hpl.2 x hx with h | rfl
    · exact htx x h
    · exact hwl
  · have := hti.2 hc; omega
  · rw [muP_eq hP6, hmu]
    have hw2 := (hwq.take [44]).at'; cases hc : (q1.take L [44]).1 with
    | true => have := hti.2 hc; simp only [boolN]; omega
    | false => simp only [boolN]; omega
theorem pNamesC (g : Nat) (pt : Option Addr) (cap : Nat) (L : List Tok) (f : Nat) (p : PS) (r : List (List UInt8)) (p' : PS) (hr : pNames L f p = some (r, p')) (w : World) (h : PA g pt cap L p w) (hw : PW L p) :
    Calls Tryz.prog 111 #[.pointer (some ⟨g, 0, none⟩)] w (NamesR g pt cap L w r p') := by
  have HN := Lib.hid (pNeed g pt cap L p w h hw [40])
  have hg := h.1.lt
  have Hgw := Lib.hid hg
  have hq := hw.need [40]
  have HT := Lib.hid (fun (X : World) (hX : PA g pt cap L (p.need L [40]) X) => pTake g pt cap L (p.need L [40]) X hX hq [41])
  have hq2 := hq.take [41]
  unfold pNames at hr
  obtain ⟨c, hc⟩ : ∃ c, ((p.need L [40]).take L [41]).1 = c := ⟨_, rfl⟩
  obtain ⟨q, hqq⟩ : ∃ q, ((p.need L [40]).take L [41]).2 = q := ⟨_, rfl⟩
  simp only [hc, hqq] at hr
  rw [hc, hqq] at HT
  rw [hqq] at hq2
  clear h hw hq hc hqq
  go_enter Tryz.func111, Tryz.ntmps111; (try simp only [List.append_eq, List.cons_append, List.nil_append])
  cases c with
  | true =>
    rw [if_pos rfl] at hr; simp only [Option.some.injEq, Prod.mk.injEq] at hr; obtain ⟨rfl, rfl⟩ := hr
    go_wp2_with (first
      | (go_at_call 40; refine HN.out.mono ?_; rintro e' w1 ⟨rfl, hP1, ho1⟩)
      | (go_at_call 79; refine (HT.out _ hP1).mono ?_; rintro e' w2 ⟨rfl, hP2, ho2⟩))
    go_ret; exact ⟨_, rfl, World.ownsRow_nil _ _ _ _, hP2, ho1.trans ho2⟩
  | false =>
    rw [if_neg (by simp)] at hr; have HR := Lib.hid hr; clear hr
    go_wp2_with (first
      | (go_at_call 40; refine HN.out.mono ?_; rintro e' w1 ⟨rfl, hP1, ho1⟩; have hP1 := hP1; have hz1 := ho1.size)
      | (go_at_call 79; refine (HT.out _ hP1).mono ?_; rintro e' w2 ⟨rfl, hP2, ho2⟩))
    have hsz := (ho1.trans ho2).size; have Ho2 := Lib.hid (ho1.trans ho2); clear ho1 ho2 hP1 HN HT hz1
    go_loopw [3, 4] (fun v m wr => ∃ (out : List (List UInt8)) (p1 : PS) (b : Bool), m = .bool b ∧ OwnN w.heap.size wr v out ∧ PA g pt cap L p1 wr ∧ PW L p1 ∧ Off g w wr ∧ (∀ x ∈ out, x.length ≤ 100000) ∧ (b = true → out.length ≤ p1.i) ∧
        ((b = true ∧ ∃ f, (namesF L f p1 out).map (fun x => (x.1, x.2.need L [41])) = some (r, p')) ∨ (b = false ∧ (out, p1.need L [41]) = (r, p')))) (fun _ m wr => 2 * (L.length - muP g wr) + boolN m)
    case atStart => exact ⟨[], q, true, rfl, World.ownsRow_nil _ _ _ _, hP2, hq2, Ho2.out, by simp, by simp, .inl ⟨rfl, f, HR.out⟩⟩
    case round =>
      obtain ⟨out, p1, b, rfl, hown, hP, hW, ho, htx, hlen, hcase⟩ := hrel; have Hown := Lib.hid hown; clear hown; have Htx := Lib.hid htx; clear htx; have HW := Lib.hid hW; clear hW
      by_cases hgo : b = true ∧ p1.err = 0
      · obtain ⟨rfl, herr⟩ := hgo
        have Hlen := Lib.hid (hlen rfl); clear hlen; have hi := HW.out.at'; have hlenL := HW.out.len; obtain ⟨f1, hf1⟩ : ∃ f1, (namesF L f1 p1 out).map (fun x => (x.1, x.2.need L [41])) = some (r, p') := by
          rcases hcase with ⟨_, h⟩ | ⟨h, _⟩
          · exact h
          · cases h
        clear hcase; have HF1 := Lib.hid hf1; clear hf1; have Hmu := Lib.hid (muP_eq hP); have HP := Lib.hid hP; have Ho := Lib.hid ho; clear ho; obtain ⟨hb, hl⟩ := hP; clear hl; have hg := hb.lt; unfold PC at hb; have c0 := hb.cell 0 _ rfl; have c1 := hb.cell 1 _ rfl; have c2 := hb.cell 2 _ rfl; have c3 := hb.cell 3 _ rfl; have c4 := hb.cell 4 _ rfl; have f1 := hb.free 1; have f2 := hb.free 2; have f3 := hb.free 3; have f4 := hb.free 4; clear hb; have herrb : (p1.err == 0) = true := by simp [herr]
        have HK := Lib.hid (pToken g _ cap L p1 _ HP.out HW.out 1); obtain ⟨wd, hwd⟩ : ∃ wd, (p1.token L 1).1.text = wd := ⟨_, rfl⟩; obtain ⟨q1, hq1⟩ : ∃ q1, (p1.token L 1).2 = q1 := ⟨_, rfl⟩; obtain ⟨tk, htk⟩ : ∃ tk, (p1.token L 1).1 = tk := ⟨_, rfl⟩; have hwd2 : tk.text = wd := by rw [← htk]; exact hwd
        have HWq := Lib.hid (HW.out.token 1 (by decide)); have hiq := PS.token_i L p1 1; have HwL : Hid (wd.length ≤ 100000) := by
          show _ ≤ _
          rw [← hwd]; unfold PS.token
          split
          · show ((p1.tok L)).text.length ≤ _
            rw [PS.tok_eq hi]; exact HW.out.txt _ (List.getElem_mem hi)
          · simp
        rw [hq1] at HWq hiq HK; rw [htk] at HK; unfold Tok.val at HK; rw [hwd2] at HK; have Hwd2 := Lib.hid hwd2; clear hwd2; have Htk := Lib.hid (show (p1.token L 1) = (tk, q1) from Prod.ext htk hq1); clear htk hq1; have Hwd := Lib.hid hwd; clear hwd; have hft := fun wx => fieldTok1 tk.kind tk.num tk.pos ⟨wd.toArray⟩ wx
        rcases Hown.out.2 with ⟨rfl, h0⟩ | ⟨h, c, cur, rfl, hbh, hcur, hc1, hc2, hc3, hc4⟩
        · obtain rfl : out = [] := List.eq_nil_of_length_eq_zero h0
          clear h0
          go_wp2_with (first
            | (go_at_call 41; refine HK.out.mono ?_; rintro e' w3 ⟨rfl, hP3, ho3⟩; have HP3 := Lib.hid hP3; have Ho3 := Lib.hid (Ho.out.trans ho3); have Hsz3 := Lib.hid (Ho.out.trans ho3).size; clear hP3 ho3))
          go_loop [6] (fun i => i = .int .i64 0) (fun _ => 0)
          case atStart => rfl
          case round =>
            obtain rfl := hrel; go_wp2; have S1 : Hid (Src w3 (.slice none 0 0) 1 0 (([] : List (List UInt8)).map fun s => Value.string ⟨s.toArray⟩)) := Lib.hid (.inl ⟨rfl, rfl, rfl⟩); have S2 := S1; refine wp_region_held_drew (S := fun _ => True) (by kernel_rfl) trivial (fun hHeld => ?_); (refine htk 1 53 ?_ rfl ?_ ?_; rotate_left; (intro w hSw; clear hSw; go_simp); (try with_reducible rfl); simp only [lsz, lss]); (refine htk 2 54 ?_ rfl ?_ ?_; rotate_left; (intro w hSw; clear hSw; go_simp); (try with_reducible rfl); simp only [lsz, lss]); (refine htk 3 55 (.slice none 0 0) rfl (by intro w hSw; clear hSw; go_simp) ?_); simp only [lsz, lss]; (refine htk 5 57 ?_ rfl ?_ ?_; rotate_left; (intro w hSw; clear hSw; go_simp); (try with_reducible rfl); simp only [lsz, lss]); (refine htk 8 60 ?_ rfl ?_ ?_; rotate_left; (intro w hSw; clear hSw; go_simp); (try with_reducible rfl); simp only [lsz, lss]); (refine htk 9 61 ?_ rfl ?_ ?_; rotate_left; (intro w hSw; clear hSw; go_simp); (try with_reducible rfl); simp only [lsz, lss]); (refine htk 10 62 (.slice none 0 0) rfl (by intro w hSw; clear hSw; go_simp) ?_); simp only [lsz, lss]; refine wpAnyH_ready (rs := [0, 6]) (by kernel_rfl) (by simp) (.cons rfl (fun K hK => ?_) (.cons rfl (fun K hK => ?_) .nil))
            · rw [if_pos (by kernel_rfl)]
              go_simp
              refine hK.out _ _ trivial (fun hHeld => ?_); clear hK K
              (try simp only [Act.put, lsa, lsz, lss])
              have own52 : (w3.alloc (.cells #[] 9)).drew.ownsRow w3.heap.size 9 1 (.slice (some ⟨w3.heap.size, 0, none⟩) 0 0) 0 [] := own_emptyN w3; have bel1 : Below w3.heap.size w3 (w3.alloc (.cells #[] 9)).drew := ((Below.refl _ _).alloc (Nat.le_refl _) _).drew; have Own52 := Lib.hid own52; have Bel1 := Lib.hid bel1; clear own52 bel1; have hz1 : (w3.alloc (.cells #[] 9)).drew.heap.size = w3.heap.size + 1 := World.size_alloc _ _; obtain ⟨X1, hX1⟩ : ∃ X, (w3.alloc (.cells #[] 9)).drew = X := ⟨_, rfl⟩; rw [hX1] at Own52 Bel1 hz1 ⊢; clear hX1; have HZ1 := Lib.hid hz1; clear hz1; refine wpAnyH_ready (rs := [4, 6]) (by kernel_rfl) (by simp) (.cons rfl (fun K hK => ?_) (.cons rfl (fun K hK => ?_) .nil))
              · rw [if_pos (by kernel_rfl)]
                refine app_str X1 _ _ rfl w3.heap.size (.slice (some ⟨w3.heap.size, 0, none⟩) 0 0) 0 [] rfl Own52.out _ _ _ rfl (src_below S1.out Bel1.out) (ones_str _) (by omega) Bel1.out.size ?_; intro v56 X2 own56 hgr _; have Bel2 := Lib.hid (below_app Bel1.out Own52.out hgr (Nat.le_refl _) Bel1.out.size); refine hK.out _ _ trivial (fun hHeld => ?_); clear hK K hgr
                (try simp only [Act.put, lsa, lsz, lss])
                refine hrd 6 rfl (fun K hK => ?_); rw [if_pos (by kernel_rfl)]
                go_simp
                refine hK.out _ _ trivial (fun hHeld => ?_); clear hK K
                (try simp only [Act.put, lsa, lsz, lss])
                have Own56 := Lib.hid (ownsRow_keep own56 ((Below.refl _ _).alloc (Nat.le_refl _) (.cells #[.string ⟨wd.toArray⟩] 9))); have N3 := Lib.hid (Blk.new X2 [.string ⟨wd.toArray⟩] 9); have Bel3 := Lib.hid (Bel2.out.alloc Bel2.out.size (.cells #[.string ⟨wd.toArray⟩] 9)); obtain ⟨X3, hX3⟩ : ∃ X, X2.alloc (.cells #[.string ⟨wd.toArray⟩] 9) = X := ⟨_, rfl⟩; rw [show X2.alloc (.cells ([.string ⟨wd.toArray⟩] : List Value).toArray 9) = X3 from hX3] at N3; rw [hX3] at Own56 Bel3 ⊢; clear hX3 own56 Bel2
                (refine hrd 7 rfl (fun K hK => ?_); rw [if_pos (by kernel_rfl)]; refine app_str X3 _ _ rfl w3.heap.size v56 _ _ rfl Own56.out _ _ _ rfl (src_blk N3.out rfl) (ones_one _) (by omega) Bel3.out.size ?_; intro v59 X4 own59 hgr4 _; have Bel4 := Lib.hid (below_app Bel3.out Own56.out hgr4 (Nat.le_refl _) Bel3.out.size); have Own59 := Lib.hid own59; refine hK.out _ _ trivial (fun hHeld => ?_); clear hK K hgr4 own59 N3 Own56 Bel3; (try simp only [Act.put, lsa, lsz, lss]); refine hrd 11 rfl (fun K hK => ?_); rw [if_pos (by kernel_rfl)]; refine app_str X4 _ _ rfl w3.heap.size v59 _ _ rfl Own59.out _ _ _ rfl (src_below S2.out Bel4.out) (ones_str _) (by omega) Bel4.out.size ?_; intro v63 X5 own63 hgr5 _; have Bel5 := Lib.hid (below_app Bel4.out Own59.out hgr5 (Nat.le_refl _) Bel4.out.size); have Own63 := Lib.hid own63; refine hK.out _ _ trivial (fun hHeld => ?_); clear hK K hgr5 own63 Own59 Bel4; (try simp only [Act.put, lsa, lsz, lss]); (refine htk 12 3 v63 rfl (by intro w hSw; clear hSw; go_simp) ?_); (try simp only [lsz, lss]); refine wpAnyH_done (by kernel_rfl) ?_ _); have hown5 : OwnN w.heap.size X5 v63 (putName [] wd) := ownN_of Own63.out Hsz3.out (by simp [putName]) (by simp [putName]); have Hown5 := Lib.hid hown5; clear hown5; go_wp2_with (go_at_call 79; refine (pTake g _ cap L q1 X5 (HP3.out.keep Bel5.out) HWq.out [44]).mono ?_; rintro e' w6 ⟨rfl, hP6, ho6⟩); exact names_round Hgw.out Hmu.out herr Htk.out Hwd2.out HwL.out HF1.out hi HWq.out hiq Htx.out Hlen.out Hown5.out (Ho3.out.trans (Off.of Bel5.out)) hP6 ho6
              · rw [if_pos (by kernel_rfl)]
                go_simp
                refine hK.out _ _ trivial (fun hHeld => ?_); clear hK K
                (try simp only [Act.put, lsa, lsz, lss])
                have own52b := ownsRow_keep Own52.out ((Below.refl _ _).alloc (Nat.le_refl _) (.cells #[.string ⟨wd.toArray⟩] 9)); have n2 := Blk.new X1 [.string ⟨wd.toArray⟩] 9; have bel2 := Bel1.out.alloc Bel1.out.size (.cells #[.string ⟨wd.toArray⟩] 9); obtain ⟨X2, hX2⟩ : ∃ X, X1.alloc (.cells #[.string ⟨wd.toArray⟩] 9) = X := ⟨_, rfl⟩; rw [show X1.alloc (.cells ([.string ⟨wd.toArray⟩] : List Value).toArray 9) = X2 from hX2] at n2; rw [hX2] at own52b bel2 ⊢; clear hX2; have Own52b := Lib.hid own52b; have N2 := Lib.hid n2; have Bel2 := Lib.hid bel2; clear own52b n2 bel2; refine hrd 4 rfl (fun K hK => ?_); rw [if_pos (by kernel_rfl)]; refine app_str X2 _ _ rfl w3.heap.size (.slice (some ⟨w3.heap.size, 0, none⟩) 0 0) 0 [] rfl Own52b.out _ _ _ rfl (src_below S1.out Bel2.out) (ones_str _) (by omega) Bel2.out.size ?_; intro v56 X3 own56 hgr _; have Bel3 := Lib.hid (below_app Bel2.out Own52b.out hgr (Nat.le_refl _) Bel2.out.size); have N3 : Hid (Blk X3 X1.heap.size 9 [.string ⟨wd.toArray⟩]) := Lib.hid ((hgr.block _ N2.out.lt (by intro e; have := HZ1.out; have e2 : X1.heap.size = w3.heap.size := Option.some.inj e; omega)).trans N2.out); have Own56 := Lib.hid own56; refine hK.out _ _ trivial (fun hHeld => ?_); clear hK K hgr own56 N2 Own52b Bel2
                (try simp only [Act.put, lsa, lsz, lss])
                (refine hrd 7 rfl (fun K hK => ?_); rw [if_pos (by kernel_rfl)]; refine app_str X3 _ _ rfl w3.heap.size v56 _ _ rfl Own56.out _ _ _ rfl (src_blk N3.out rfl) (ones_one _) (by omega) Bel3.out.size ?_; intro v59 X4 own59 hgr4 _; have Bel4 := Lib.hid (below_app Bel3.out Own56.out hgr4 (Nat.le_refl _) Bel3.out.size); have Own59 := Lib.hid own59; refine hK.out _ _ trivial (fun hHeld => ?_); clear hK K hgr4 own59 N3 Own56 Bel3; (try simp only [Act.put, lsa, lsz, lss]); refine hrd 11 rfl (fun K hK => ?_); rw [if_pos (by kernel_rfl)]; refine app_str X4 _ _ rfl w3.heap.size v59 _ _ rfl Own59.out _ _ _ rfl (src_below S2.out Bel4.out) (ones_str _) (by omega) Bel4.out.size ?_; intro v63 X5 own63 hgr5 _; have Bel5 := Lib.hid (below_app Bel4.out Own59.out hgr5 (Nat.le_refl _) Bel4.out.size); have Own63 := Lib.hid own63; refine hK.out _ _ trivial (fun hHeld => ?_); clear hK K hgr5 own63 Own59 Bel4; (try simp only [Act.put, lsa, lsz, lss]); (refine htk 12 3 v63 rfl (by intro w hSw; clear hSw; go_simp) ?_); (try simp only [lsz, lss]); refine wpAnyH_done (by kernel_rfl) ?_ _); have hown5 : OwnN w.heap.size X5 v63 (putName [] wd) := ownN_of Own63.out Hsz3.out (by simp [putName]) (by simp [putName]); have Hown5 := Lib.hid hown5; clear hown5; go_wp2_with (go_at_call 79; refine (pTake g _ cap L q1 X5 (HP3.out.keep Bel5.out) HWq.out [44]).mono ?_; rintro e' w6 ⟨rfl, hP6, ho6⟩); exact names_round Hgw.out Hmu.out herr Htk.out Hwd2.out HwL.out HF1.out hi HWq.out hiq Htx.out Hlen.out Hown5.out (Ho3.out.trans (Off.of Bel5.out)) hP6 ho6
            · rw [if_pos (by kernel_rfl)]
              go_simp
              refine hK.out _ _ trivial (fun hHeld => ?_); clear hK K
              (try simp only [Act.put, lsa, lsz, lss])
              have n1 := (Blk.new w3 [.string ⟨wd.toArray⟩] 9).drew; have bel1 : Below w3.heap.size w3 (w3.alloc (.cells #[.string ⟨wd.toArray⟩] 9)).drew := ((Below.refl _ _).alloc (Nat.le_refl _) _).drew; have hz1 : (w3.alloc (.cells #[.string ⟨wd.toArray⟩] 9)).drew.heap.size = w3.heap.size + 1 := World.size_alloc _ _; obtain ⟨X1, hX1⟩ : ∃ X, (w3.alloc (.cells #[.string ⟨wd.toArray⟩] 9)).drew = X := ⟨_, rfl⟩; rw [show (w3.alloc (.cells ([.string ⟨wd.toArray⟩] : List Value).toArray 9)).drew = X1 from hX1] at n1; rw [hX1] at bel1 hz1 ⊢; clear hX1; have HZ1 := Lib.hid hz1; clear hz1; have N1 := Lib.hid n1; have Bel1 := Lib.hid bel1; clear n1 bel1; refine hrd 0 rfl (fun K hK => ?_); rw [if_pos (by kernel_rfl)]
              go_simp
              refine hK.out _ _ trivial (fun hHeld => ?_); clear hK K
              (try simp only [Act.put, lsa, lsz, lss])
              have own52 := ownsRow_base (own_emptyN X1) (show w3.heap.size ≤ X1.heap.size by have := HZ1.out; omega); have n2 := N1.out.alloc (.cells #[] 9); have bel2 := Bel1.out.alloc Bel1.out.size (.cells #[] 9); obtain ⟨X2, hX2⟩ : ∃ X, X1.alloc (.cells #[] 9) = X := ⟨_, rfl⟩; rw [hX2] at own52 n2 bel2 ⊢; clear hX2; have Own52 := Lib.hid own52; have N2 := Lib.hid n2; have Bel2 := Lib.hid bel2; clear own52 n2 bel2; refine hrd 4 rfl (fun K hK => ?_); rw [if_pos (by kernel_rfl)]; refine app_str X2 _ _ rfl w3.heap.size (.slice (some ⟨X1.heap.size, 0, none⟩) 0 0) 0 [] rfl Own52.out _ _ _ rfl (src_below S1.out Bel2.out) (ones_str _) (by omega) Bel2.out.size ?_; intro v56 X3 own56 hgr _; have Bel3 := Lib.hid (below_app Bel2.out Own52.out hgr (Nat.le_refl _) Bel2.out.size); have N3 : Hid (Blk X3 w3.heap.size 9 [.string ⟨wd.toArray⟩]) := Lib.hid ((hgr.block _ N2.out.lt (by intro e; have := HZ1.out; have e2 : w3.heap.size = X1.heap.size := Option.some.inj e; omega)).trans N2.out); have Own56 := Lib.hid own56; refine hK.out _ _ trivial (fun hHeld => ?_); clear hK K hgr own56 N2 N1 Own52 Bel2
              (try simp only [Act.put, lsa, lsz, lss])
              (refine hrd 7 rfl (fun K hK => ?_); rw [if_pos (by kernel_rfl)]; refine app_str X3 _ _ rfl w3.heap.size v56 _ _ rfl Own56.out _ _ _ rfl (src_blk N3.out rfl) (ones_one _) (by omega) Bel3.out.size ?_; intro v59 X4 own59 hgr4 _; have Bel4 := Lib.hid (below_app Bel3.out Own56.out hgr4 (Nat.le_refl _) Bel3.out.size); have Own59 := Lib.hid own59; refine hK.out _ _ trivial (fun hHeld => ?_); clear hK K hgr4 own59 N3 Own56 Bel3; (try simp only [Act.put, lsa, lsz, lss]); refine hrd 11 rfl (fun K hK => ?_); rw [if_pos (by kernel_rfl)]; refine app_str X4 _ _ rfl w3.heap.size v59 _ _ rfl Own59.out _ _ _ rfl (src_below S2.out Bel4.out) (ones_str _) (by omega) Bel4.out.size ?_; intro v63 X5 own63 hgr5 _; have Bel5 := Lib.hid (below_app Bel4.out Own59.out hgr5 (Nat.le_refl _) Bel4.out.size); have Own63 := Lib.hid own63; refine hK.out _ _ trivial (fun hHeld => ?_); clear hK K hgr5 own63 Own59 Bel4; (try simp only [Act.put, lsa, lsz, lss]); (refine htk 12 3 v63 rfl (by intro w hSw; clear hSw; go_simp) ?_); (try simp only [lsz, lss]); refine wpAnyH_done (by kernel_rfl) ?_ _); have hown5 : OwnN w.heap.size X5 v63 (putName [] wd) := ownN_of Own63.out Hsz3.out (by simp [putName]) (by simp [putName]); have Hown5 := Lib.hid hown5; clear hown5; go_wp2_with (go_at_call 79; refine (pTake g _ cap L q1 X5 (HP3.out.keep Bel5.out) HWq.out [44]).mono ?_; rintro e' w6 ⟨rfl, hP6, ho6⟩); exact names_round Hgw.out Hmu.out herr Htk.out Hwd2.out HwL.out HF1.out hi HWq.out hiq Htx.out Hlen.out Hown5.out (Ho3.out.trans (Off.of Bel5.out)) hP6 ho6
        · have hn0 : out.length ≤ 100000 := by have := Hlen.out; omega
          have hcl0 : out.length ≤ c := hc1; have hcm : c ≤ 9223372036854775807 := hc2
          go_wp2_with (first
            | (go_at_call 41; refine HK.out.mono ?_; rintro e' w3 ⟨rfl, hP3, ho3⟩; have HP3 := Lib.hid hP3; have Ho3 := Lib.hid (Ho.out.trans ho3); have Hsz3 := Lib.hid (Ho.out.trans ho3).size; have Hown3 := Lib.hid (Hown.out.off ho3 Hgw.out); clear hP3 ho3))
          have hcell : ∀ j (hj : j < out.length), w3.cell? ⟨h, j, none⟩ = some (.string ⟨out[j].toArray⟩) := fun j hj => by
            have hc := World.ownsRow.cells Hown3.out (g := h) rfl j (.string ⟨out[j].toArray⟩) (by rw [List.getElem?_map, List.getElem?_eq_getElem hj]; rfl); have e : (⟨h, 0, none⟩ : Addr).add j = ⟨h, j, none⟩ := by unfold Addr.add; split <;> simp <;> omega
            rwa [e] at hc
          have Hcell := Lib.hid hcell; clear hcell; clear hcur hc3 hc4
          go_loop [6] (fun i => ∃ k : Nat, k ≤ out.length ∧ i = .int .i64 k ∧ ∀ j (hj : j < out.length), j < k → Op.bytesLess out[j] wd = true) (fun i => out.length - (intOf i).toNat)
          case atStart => exact ⟨0, Nat.zero_le _, rfl, fun j _ h => absurd h (Nat.not_lt_zero _)⟩
          case round =>
            obtain ⟨k, hk, rfl, hls⟩ := hrel; have Hls := Lib.hid hls; clear hls; have hkc : k ≤ c := by omega
            have hputa := putName_at out wd k hk Hls.out
            by_cases hlt : k < out.length
            · have hck := Hcell.out k hlt
              cases hl1 : Op.bytesLess out[k] wd with
              | true =>
                clear hputa; go_wp2; exact ⟨⟨k + 1, by omega, by go_num, fun j hj hjk => by
                  by_cases e : j = k
                  · subst e; exact hl1
                  · exact Hls.out j hj (by omega)⟩, by simp [intOf]; omega⟩
              | false =>
                have hput := hputa (fun _ => hl1); clear hputa
                by_cases heq : out[k] = wd
                · rw [if_pos ⟨hlt, heq⟩] at hput
                  have Hput := Lib.hid hput; clear hput; have hll := hl1; rw [heq] at hll; have heqb : (out[k] == wd) = true := by simpa using heq
                  have heqc : (out[k] != wd) = false := by simpa using heq
                  go_wp2_with (go_at_call 79; refine (pTake g _ cap L q1 w3 HP3.out HWq.out [44]).mono ?_; rintro e' w6 ⟨rfl, hP6, ho6⟩)
                  exact names_round Hgw.out Hmu.out herr Htk.out Hwd2.out HwL.out HF1.out hi HWq.out hiq Htx.out Hlen.out (by rw [Hput.out]; exact Hown3.out) Ho3.out hP6 ho6
                · rw [if_neg (by rintro ⟨_, h⟩; exact heq h)] at hput
                  have Hput := Lib.hid hput; clear hput; have heqb : (out[k] == wd) = false := by simpa using heq
                  have heqc : (out[k] != wd) = true := by simpa using heq
                  have S1 := Lib.hid (src_at (n := k) (c := c) (o := 0) (l := out.take k) (w := w3) (h := h) (by simp; omega) (fun j hj => by rw [Nat.zero_add]; have := Hcell.out j (by simp at hj; omega); rw [this]; simp)); have S2 := Lib.hid (src_at (n := out.length - k) (c := c - k) (o := k) (l := out.drop k) (w := w3) (h := h) (by simp) (fun j hj => by have := Hcell.out (k + j) (by simp at hj; omega); rw [this]; simp)); have hcne : ¬ c = k := by omega
                  have hkne : ¬ ((k : Int) = (out.length : Int)) := by omega
                  have hkneb : ((k : Int) == (out.length : Int)) = false := by simpa using hkne
                  go_wp2_with fail
                  refine wp_region_held_drew (S := fun _ => True) (by kernel_rfl) trivial (fun hHeld => ?_); (refine htk 1 53 ?_ rfl ?_ ?_; rotate_left; (intro w hSw; clear hSw; go_simp); (try with_reducible rfl); simp only [lsz, lss]); (refine htk 2 54 ?_ rfl ?_ ?_; rotate_left; (intro w hSw; clear hSw; go_simp); (try with_reducible rfl); simp only [lsz, lss]); (refine htk 3 55 (.slice (some ⟨h, 0, none⟩) k c) rfl (by intro w hSw; clear hSw; go_simp) ?_); simp only [lsz, lss]; (refine htk 5 57 ?_ rfl ?_ ?_; rotate_left; (intro w hSw; clear hSw; go_simp); (try with_reducible rfl); simp only [lsz, lss]); (refine htk 8 60 ?_ rfl ?_ ?_; rotate_left; (intro w hSw; clear hSw; go_simp); (try with_reducible rfl); simp only [lsz, lss]); (refine htk 9 61 ?_ rfl ?_ ?_; rotate_left; (intro w hSw; clear hSw; go_simp); (try with_reducible rfl); simp only [lsz, lss]); (refine htk 10 62 (.slice (some ⟨h, k, none⟩) (out.length - k) (c - k)) rfl (by intro w hSw; clear hSw; go_simp) ?_); simp only [lsz, lss]; refine wpAnyH_ready (rs := [0, 6]) (by kernel_rfl) (by simp) (.cons rfl (fun K hK => ?_) (.cons rfl (fun K hK => ?_) .nil))
                  · rw [if_pos (by kernel_rfl)]
                    go_simp
                    refine hK.out _ _ trivial (fun hHeld => ?_); clear hK K
                    (try simp only [Act.put, lsa, lsz, lss])
                    have own52 : (w3.alloc (.cells #[] 9)).drew.ownsRow w3.heap.size 9 1 (.slice (some ⟨w3.heap.size, 0, none⟩) 0 0) 0 [] := own_emptyN w3; have bel1 : Below w3.heap.size w3 (w3.alloc (.cells #[] 9)).drew := ((Below.refl _ _).alloc (Nat.le_refl _) _).drew; have Own52 := Lib.hid own52; have Bel1 := Lib.hid bel1; clear own52 bel1; have hz1 : (w3.alloc (.cells #[] 9)).drew.heap.size = w3.heap.size + 1 := World.size_alloc _ _; obtain ⟨X1, hX1⟩ : ∃ X, (w3.alloc (.cells #[] 9)).drew = X := ⟨_, rfl⟩; rw [hX1] at Own52 Bel1 hz1 ⊢; clear hX1; have HZ1 := Lib.hid hz1; clear hz1; refine wpAnyH_ready (rs := [4, 6]) (by kernel_rfl) (by simp) (.cons rfl (fun K hK => ?_) (.cons rfl (fun K hK => ?_) .nil))
                    · rw [if_pos (by kernel_rfl)]
                      refine app_str X1 _ _ rfl w3.heap.size (.slice (some ⟨w3.heap.size, 0, none⟩) 0 0) 0 [] rfl Own52.out _ _ _ rfl (src_below S1.out Bel1.out) (ones_str _) (by omega) Bel1.out.size ?_; intro v56 X2 own56 hgr _; have Bel2 := Lib.hid (below_app Bel1.out Own52.out hgr (Nat.le_refl _) Bel1.out.size); refine hK.out _ _ trivial (fun hHeld => ?_); clear hK K hgr
                      (try simp only [Act.put, lsa, lsz, lss])
                      refine hrd 6 rfl (fun K hK => ?_); rw [if_pos (by kernel_rfl)]
                      go_simp
                      refine hK.out _ _ trivial (fun hHeld => ?_); clear hK K
                      (try simp only [Act.put, lsa, lsz, lss])
                      have Own56 := Lib.hid (ownsRow_keep own56 ((Below.refl _ _).alloc (Nat.le_refl _) (.cells #[.string ⟨wd.toArray⟩] 9))); have N3 := Lib.hid (Blk.new X2 [.string ⟨wd.toArray⟩] 9); have Bel3 := Lib.hid (Bel2.out.alloc Bel2.out.size (.cells #[.string ⟨wd.toArray⟩] 9)); obtain ⟨X3, hX3⟩ : ∃ X, X2.alloc (.cells #[.string ⟨wd.toArray⟩] 9) = X := ⟨_, rfl⟩; rw [show X2.alloc (.cells ([.string ⟨wd.toArray⟩] : List Value).toArray 9) = X3 from hX3] at N3; rw [hX3] at Own56 Bel3 ⊢; clear hX3 own56 Bel2
                      (refine hrd 7 rfl (fun K hK => ?_); rw [if_pos (by kernel_rfl)]; refine app_str X3 _ _ rfl w3.heap.size v56 _ _ rfl Own56.out _ _ _ rfl (src_blk N3.out rfl) (ones_one _) (by omega) Bel3.out.size ?_; intro v59 X4 own59 hgr4 _; have Bel4 := Lib.hid (below_app Bel3.out Own56.out hgr4 (Nat.le_refl _) Bel3.out.size); have Own59 := Lib.hid own59; refine hK.out _ _ trivial (fun hHeld => ?_); clear hK K hgr4 own59 N3 Own56 Bel3; (try simp only [Act.put, lsa, lsz, lss]); refine hrd 11 rfl (fun K hK => ?_); rw [if_pos (by kernel_rfl)]; refine app_str X4 _ _ rfl w3.heap.size v59 _ _ rfl Own59.out _ _ _ rfl (src_below S2.out Bel4.out) (ones_str _) (by omega) Bel4.out.size ?_; intro v63 X5 own63 hgr5 _; have Bel5 := Lib.hid (below_app Bel4.out Own59.out hgr5 (Nat.le_refl _) Bel4.out.size); have Own63 := Lib.hid own63; refine hK.out _ _ trivial (fun hHeld => ?_); clear hK K hgr5 own63 Own59 Bel4; (try simp only [Act.put, lsa, lsz, lss]); (refine htk 12 3 v63 rfl (by intro w hSw; clear hSw; go_simp) ?_); (try simp only [lsz, lss]); refine wpAnyH_done (by kernel_rfl) ?_ _); have hown5 : OwnN w.heap.size X5 v63 (putName out wd) := ownN_of Own63.out Hsz3.out (by rw [Hput.out]; simp <;> omega) (by rw [Hput.out]; simp); have Hown5 := Lib.hid hown5; clear hown5; go_wp2_with (go_at_call 79; refine (pTake g _ cap L q1 X5 (HP3.out.keep Bel5.out) HWq.out [44]).mono ?_; rintro e' w6 ⟨rfl, hP6, ho6⟩); exact names_round Hgw.out Hmu.out herr Htk.out Hwd2.out HwL.out HF1.out hi HWq.out hiq Htx.out Hlen.out Hown5.out (Ho3.out.trans (Off.of Bel5.out)) hP6 ho6
                    · rw [if_pos (by kernel_rfl)]
                      go_simp
                      refine hK.out _ _ trivial (fun hHeld => ?_); clear hK K
                      (try simp only [Act.put, lsa, lsz, lss])
                      have own52b := ownsRow_keep Own52.out ((Below.refl _ _).alloc (Nat.le_refl _) (.cells #[.string ⟨wd.toArray⟩] 9)); have n2 := Blk.new X1 [.string ⟨wd.toArray⟩] 9; have bel2 := Bel1.out.alloc Bel1.out.size (.cells #[.string ⟨wd.toArray⟩] 9); obtain ⟨X2, hX2⟩ : ∃ X, X1.alloc (.cells #[.string ⟨wd.toArray⟩] 9) = X := ⟨_, rfl⟩; rw [show X1.alloc (.cells ([.string ⟨wd.toArray⟩] : List Value).toArray 9) = X2 from hX2] at n2; rw [hX2] at own52b bel2 ⊢; clear hX2; have Own52b := Lib.hid own52b; have N2 := Lib.hid n2; have Bel2 := Lib.hid bel2; clear own52b n2 bel2; refine hrd 4 rfl (fun K hK => ?_); rw [if_pos (by kernel_rfl)]; refine app_str X2 _ _ rfl w3.heap.size (.slice (some ⟨w3.heap.size, 0, none⟩) 0 0) 0 [] rfl Own52b.out _ _ _ rfl (src_below S1.out Bel2.out) (ones_str _) (by omega) Bel2.out.size ?_; intro v56 X3 own56 hgr _; have Bel3 := Lib.hid (below_app Bel2.out Own52b.out hgr (Nat.le_refl _) Bel2.out.size); have N3 : Hid (Blk X3 X1.heap.size 9 [.string ⟨wd.toArray⟩]) := Lib.hid ((hgr.block _ N2.out.lt (by intro e; have := HZ1.out; have e2 : X1.heap.size = w3.heap.size := Option.some.inj e; omega)).trans N2.out); have Own56 := Lib.hid own56; refine hK.out _ _ trivial (fun hHeld => ?_); clear hK K hgr own56 N2 Own52b Bel2
                      (try simp only [Act.put, lsa, lsz, lss])
                      (refine hrd 7 rfl (fun K hK => ?_); rw [if_pos (by kernel_rfl)]; refine app_str X3 _ _ rfl w3.heap.size v56 _ _ rfl Own56.out _ _ _ rfl (src_blk N3.out rfl) (ones_one _) (by omega) Bel3.out.size ?_; intro v59 X4 own59 hgr4 _; have Bel4 := Lib.hid (below_app Bel3.out Own56.out hgr4 (Nat.le_refl _) Bel3.out.size); have Own59 := Lib.hid own59; refine hK.out _ _ trivial (fun hHeld => ?_); clear hK K hgr4 own59 N3 Own56 Bel3; (try simp only [Act.put, lsa, lsz, lss]); refine hrd 11 rfl (fun K hK => ?_); rw [if_pos (by kernel_rfl)]; refine app_str X4 _ _ rfl w3.heap.size v59 _ _ rfl Own59.out _ _ _ rfl (src_below S2.out Bel4.out) (ones_str _) (by omega) Bel4.out.size ?_; intro v63 X5 own63 hgr5 _; have Bel5 := Lib.hid (below_app Bel4.out Own59.out hgr5 (Nat.le_refl _) Bel4.out.size); have Own63 := Lib.hid own63; refine hK.out _ _ trivial (fun hHeld => ?_); clear hK K hgr5 own63 Own59 Bel4; (try simp only [Act.put, lsa, lsz, lss]); (refine htk 12 3 v63 rfl (by intro w hSw; clear hSw; go_simp) ?_); (try simp only [lsz, lss]); refine wpAnyH_done (by kernel_rfl) ?_ _); have hown5 : OwnN w.heap.size X5 v63 (putName out wd) := ownN_of Own63.out Hsz3.out (by rw [Hput.out]; simp <;> omega) (by rw [Hput.out]; simp); have Hown5 := Lib.hid hown5; clear hown5; go_wp2_with (go_at_call 79; refine (pTake g _ cap L q1 X5 (HP3.out.keep Bel5.out) HWq.out [44]).mono ?_; rintro e' w6 ⟨rfl, hP6, ho6⟩); exact names_round Hgw.out Hmu.out herr Htk.out Hwd2.out HwL.out HF1.out hi HWq.out hiq Htx.out Hlen.out Hown5.out (Ho3.out.trans (Off.of Bel5.out)) hP6 ho6
                  · rw [if_pos (by kernel_rfl)]
                    go_simp
                    refine hK.out _ _ trivial (fun hHeld => ?_); clear hK K
                    (try simp only [Act.put, lsa, lsz, lss])
                    have n1 := (Blk.new w3 [.string ⟨wd.toArray⟩] 9).drew; have bel1 : Below w3.heap.size w3 (w3.alloc (.cells #[.string ⟨wd.toArray⟩] 9)).drew := ((Below.refl _ _).alloc (Nat.le_refl _) _).drew; have hz1 : (w3.alloc (.cells #[.string ⟨wd.toArray⟩] 9)).drew.heap.size = w3.heap.size + 1 := World.size_alloc _ _; obtain ⟨X1, hX1⟩ : ∃ X, (w3.alloc (.cells #[.string ⟨wd.toArray⟩] 9)).drew = X := ⟨_, rfl⟩; rw [show (w3.alloc (.cells ([.string ⟨wd.toArray⟩] : List Value).toArray 9)).drew = X1 from hX1] at n1; rw [hX1] at bel1 hz1 ⊢; clear hX1; have HZ1 := Lib.hid hz1; clear hz1; have N1 := Lib.hid n1; have Bel1 := Lib.hid bel1; clear n1 bel1; refine hrd 0 rfl (fun K hK => ?_); rw [if_pos (by kernel_rfl)]
                    go_simp
                    refine hK.out _ _ trivial (fun hHeld => ?_); clear hK K
                    (try simp only [Act.put, lsa, lsz, lss])
                    have own52 := ownsRow_base (own_emptyN X1) (show w3.heap.size ≤ X1.heap.size by have := HZ1.out; omega); have n2 := N1.out.alloc (.cells #[] 9); have bel2 := Bel1.out.alloc Bel1.out.size (.cells #[] 9); obtain ⟨X2, hX2⟩ : ∃ X, X1.alloc (.cells #[] 9) = X := ⟨_, rfl⟩; rw [hX2] at own52 n2 bel2 ⊢; clear hX2; have Own52 := Lib.hid own52; have N2 := Lib.hid n2; have Bel2 := Lib.hid bel2; clear own52 n2 bel2; refine hrd 4 rfl (fun K hK => ?_); rw [if_pos (by kernel_rfl)]; refine app_str X2 _ _ rfl w3.heap.size (.slice (some ⟨X1.heap.size, 0, none⟩) 0 0) 0 [] rfl Own52.out _ _ _ rfl (src_below S1.out Bel2.out) (ones_str _) (by omega) Bel2.out.size ?_; intro v56 X3 own56 hgr _; have Bel3 := Lib.hid (below_app Bel2.out Own52.out hgr (Nat.le_refl _) Bel2.out.size); have N3 : Hid (Blk X3 w3.heap.size 9 [.string ⟨wd.toArray⟩]) := Lib.hid ((hgr.block _ N2.out.lt (by intro e; have := HZ1.out; have e2 : w3.heap.size = X1.heap.size := Option.some.inj e; omega)).trans N2.out); have Own56 := Lib.hid own56; refine hK.out _ _ trivial (fun hHeld => ?_); clear hK K hgr own56 N2 N1 Own52 Bel2
                    (try simp only [Act.put, lsa, lsz, lss])
                    (refine hrd 7 rfl (fun K hK => ?_); rw [if_pos (by kernel_rfl)]; refine app_str X3 _ _ rfl w3.heap.size v56 _ _ rfl Own56.out _ _ _ rfl (src_blk N3.out rfl) (ones_one _) (by omega) Bel3.out.size ?_; intro v59 X4 own59 hgr4 _; have Bel4 := Lib.hid (below_app Bel3.out Own56.out hgr4 (Nat.le_refl _) Bel3.out.size); have Own59 := Lib.hid own59; refine hK.out _ _ trivial (fun hHeld => ?_); clear hK K hgr4 own59 N3 Own56 Bel3; (try simp only [Act.put, lsa, lsz, lss]); refine hrd 11 rfl (fun K hK => ?_); rw [if_pos (by kernel_rfl)]; refine app_str X4 _ _ rfl w3.heap.size v59 _ _ rfl Own59.out _ _ _ rfl (src_below S2.out Bel4.out) (ones_str _) (by omega) Bel4.out.size ?_; intro v63 X5 own63 hgr5 _; have Bel5 := Lib.hid (below_app Bel4.out Own59.out hgr5 (Nat.le_refl _) Bel4.out.size); have Own63 := Lib.hid own63; refine hK.out _ _ trivial (fun hHeld => ?_); clear hK K hgr5 own63 Own59 Bel4; (try simp only [Act.put, lsa, lsz, lss]); (refine htk 12 3 v63 rfl (by intro w hSw; clear hSw; go_simp) ?_); (try simp only [lsz, lss]); refine wpAnyH_done (by kernel_rfl) ?_ _); have hown5 : OwnN w.heap.size X5 v63 (putName out wd) := ownN_of Own63.out Hsz3.out (by rw [Hput.out]; simp <;> omega) (by rw [Hput.out]; simp); have Hown5 := Lib.hid hown5; clear hown5; go_wp2_with (go_at_call 79; refine (pTake g _ cap L q1 X5 (HP3.out.keep Bel5.out) HWq.out [44]).mono ?_; rintro e' w6 ⟨rfl, hP6, ho6⟩); exact names_round Hgw.out Hmu.out herr Htk.out Hwd2.out HwL.out HF1.out hi HWq.out hiq Htx.out Hlen.out Hown5.out (Ho3.out.trans (Off.of Bel5.out)) hP6 ho6
            · obtain rfl : k = out.length := by omega
              have hput := hputa (fun h => absurd h (by omega)); clear hputa; rw [if_neg (by rintro ⟨h, _⟩; omega)] at hput; have Hput := Lib.hid hput; clear hput
              by_cases hcn : c = out.length
              · subst hcn
                have S1 := Lib.hid (src_at (n := out.length) (c := out.length) (o := 0) (l := out) (w := w3) (h := h) rfl (fun j hj => by rw [Nat.zero_add]; exact Hcell.out j hj)); have S2 := Lib.hid (src_at (n := 0) (c := 0) (o := 0) (l := []) (w := w3) (h := h) rfl (fun j hj => absurd hj (Nat.not_lt_zero _)))
                go_wp2_with fail
                refine wp_region_held_drew (S := fun _ => True) (by kernel_rfl) trivial (fun hHeld => ?_); (refine htk 1 53 ?_ rfl ?_ ?_; rotate_left; (intro w hSw; clear hSw; go_simp); (try with_reducible rfl); simp only [lsz, lss]); (refine htk 2 54 ?_ rfl ?_ ?_; rotate_left; (intro w hSw; clear hSw; go_simp); (try with_reducible rfl); simp only [lsz, lss]); (refine htk 3 55 (.slice (some ⟨h, 0, none⟩) out.length out.length) rfl (by intro w hSw; clear hSw; go_simp) ?_); simp only [lsz, lss]; (refine htk 5 57 ?_ rfl ?_ ?_; rotate_left; (intro w hSw; clear hSw; go_simp); (try with_reducible rfl); simp only [lsz, lss]); (refine htk 8 60 ?_ rfl ?_ ?_; rotate_left; (intro w hSw; clear hSw; go_simp); (try with_reducible rfl); simp only [lsz, lss]); (refine htk 9 61 ?_ rfl ?_ ?_; rotate_left; (intro w hSw; clear hSw; go_simp); (try with_reducible rfl); simp only [lsz, lss]); (refine htk 10 62 (.slice (some ⟨h, 0, none⟩) 0 0) rfl (by intro w hSw; clear hSw; go_simp) ?_); simp only [lsz, lss]; refine wpAnyH_ready (rs := [0, 6]) (by kernel_rfl) (by simp) (.cons rfl (fun K hK => ?_) (.cons rfl (fun K hK => ?_) .nil))
                · rw [if_pos (by kernel_rfl)]
                  go_simp
                  refine hK.out _ _ trivial (fun hHeld => ?_); clear hK K
                  (try simp only [Act.put, lsa, lsz, lss])
                  have own52 : (w3.alloc (.cells #[] 9)).drew.ownsRow w3.heap.size 9 1 (.slice (some ⟨w3.heap.size, 0, none⟩) 0 0) 0 [] := own_emptyN w3; have bel1 : Below w3.heap.size w3 (w3.alloc (.cells #[] 9)).drew := ((Below.refl _ _).alloc (Nat.le_refl _) _).drew; have Own52 := Lib.hid own52; have Bel1 := Lib.hid bel1; clear own52 bel1; have hz1 : (w3.alloc (.cells #[] 9)).drew.heap.size = w3.heap.size + 1 := World.size_alloc _ _; obtain ⟨X1, hX1⟩ : ∃ X, (w3.alloc (.cells #[] 9)).drew = X := ⟨_, rfl⟩; rw [hX1] at Own52 Bel1 hz1 ⊢; clear hX1; have HZ1 := Lib.hid hz1; clear hz1; refine wpAnyH_ready (rs := [4, 6]) (by kernel_rfl) (by simp) (.cons rfl (fun K hK => ?_) (.cons rfl (fun K hK => ?_) .nil))
                  · rw [if_pos (by kernel_rfl)]
                    refine app_str X1 _ _ rfl w3.heap.size (.slice (some ⟨w3.heap.size, 0, none⟩) 0 0) 0 [] rfl Own52.out _ _ _ rfl (src_below S1.out Bel1.out) (ones_str _) (by omega) Bel1.out.size ?_; intro v56 X2 own56 hgr _; have Bel2 := Lib.hid (below_app Bel1.out Own52.out hgr (Nat.le_refl _) Bel1.out.size); refine hK.out _ _ trivial (fun hHeld => ?_); clear hK K hgr
                    (try simp only [Act.put, lsa, lsz, lss])
                    refine hrd 6 rfl (fun K hK => ?_); rw [if_pos (by kernel_rfl)]
                    go_simp
                    refine hK.out _ _ trivial (fun hHeld => ?_); clear hK K
                    (try simp only [Act.put, lsa, lsz, lss])
                    have Own56 := Lib.hid (ownsRow_keep own56 ((Below.refl _ _).alloc (Nat.le_refl _) (.cells #[.string ⟨wd.toArray⟩] 9))); have N3 := Lib.hid (Blk.new X2 [.string ⟨wd.toArray⟩] 9); have Bel3 := Lib.hid (Bel2.out.alloc Bel2.out.size (.cells #[.string ⟨wd.toArray⟩] 9)); obtain ⟨X3, hX3⟩ : ∃ X, X2.alloc (.cells #[.string ⟨wd.toArray⟩] 9) = X := ⟨_, rfl⟩; rw [show X2.alloc (.cells ([.string ⟨wd.toArray⟩] : List Value).toArray 9) = X3 from hX3] at N3; rw [hX3] at Own56 Bel3 ⊢; clear hX3 own56 Bel2
                    (refine hrd 7 rfl (fun K hK => ?_); rw [if_pos (by kernel_rfl)]; refine app_str X3 _ _ rfl w3.heap.size v56 _ _ rfl Own56.out _ _ _ rfl (src_blk N3.out rfl) (ones_one _) (by omega) Bel3.out.size ?_; intro v59 X4 own59 hgr4 _; have Bel4 := Lib.hid (below_app Bel3.out Own56.out hgr4 (Nat.le_refl _) Bel3.out.size); have Own59 := Lib.hid own59; refine hK.out _ _ trivial (fun hHeld => ?_); clear hK K hgr4 own59 N3 Own56 Bel3; (try simp only [Act.put, lsa, lsz, lss]); refine hrd 11 rfl (fun K hK => ?_); rw [if_pos (by kernel_rfl)]; refine app_str X4 _ _ rfl w3.heap.size v59 _ _ rfl Own59.out _ _ _ rfl (src_below S2.out Bel4.out) (ones_str _) (by omega) Bel4.out.size ?_; intro v63 X5 own63 hgr5 _; have Bel5 := Lib.hid (below_app Bel4.out Own59.out hgr5 (Nat.le_refl _) Bel4.out.size); have Own63 := Lib.hid own63; refine hK.out _ _ trivial (fun hHeld => ?_); clear hK K hgr5 own63 Own59 Bel4; (try simp only [Act.put, lsa, lsz, lss]); (refine htk 12 3 v63 rfl (by intro w hSw; clear hSw; go_simp) ?_); (try simp only [lsz, lss]); refine wpAnyH_done (by kernel_rfl) ?_ _); have hown5 : OwnN w.heap.size X5 v63 (putName out wd) := ownN_of Own63.out Hsz3.out (by rw [Hput.out]; simp <;> omega) (by rw [Hput.out]; simp); have Hown5 := Lib.hid hown5; clear hown5; go_wp2_with (go_at_call 79; refine (pTake g _ cap L q1 X5 (HP3.out.keep Bel5.out) HWq.out [44]).mono ?_; rintro e' w6 ⟨rfl, hP6, ho6⟩); exact names_round Hgw.out Hmu.out herr Htk.out Hwd2.out HwL.out HF1.out hi HWq.out hiq Htx.out Hlen.out Hown5.out (Ho3.out.trans (Off.of Bel5.out)) hP6 ho6
                  · rw [if_pos (by kernel_rfl)]
                    go_simp
                    refine hK.out _ _ trivial (fun hHeld => ?_); clear hK K
                    (try simp only [Act.put, lsa, lsz, lss])
                    have own52b := ownsRow_keep Own52.out ((Below.refl _ _).alloc (Nat.le_refl _) (.cells #[.string ⟨wd.toArray⟩] 9)); have n2 := Blk.new X1 [.string ⟨wd.toArray⟩] 9; have bel2 := Bel1.out.alloc Bel1.out.size (.cells #[.string ⟨wd.toArray⟩] 9); obtain ⟨X2, hX2⟩ : ∃ X, X1.alloc (.cells #[.string ⟨wd.toArray⟩] 9) = X := ⟨_, rfl⟩; rw [show X1.alloc (.cells ([.string ⟨wd.toArray⟩] : List Value).toArray 9) = X2 from hX2] at n2; rw [hX2] at own52b bel2 ⊢; clear hX2; have Own52b := Lib.hid own52b; have N2 := Lib.hid n2; have Bel2 := Lib.hid bel2; clear own52b n2 bel2; refine hrd 4 rfl (fun K hK => ?_); rw [if_pos (by kernel_rfl)]; refine app_str X2 _ _ rfl w3.heap.size (.slice (some ⟨w3.heap.size, 0, none⟩) 0 0) 0 [] rfl Own52b.out _ _ _ rfl (src_below S1.out Bel2.out) (ones_str _) (by omega) Bel2.out.size ?_; intro v56 X3 own56 hgr _; have Bel3 := Lib.hid (below_app Bel2.out Own52b.out hgr (Nat.le_refl _) Bel2.out.size); have N3 : Hid (Blk X3 X1.heap.size 9 [.string ⟨wd.toArray⟩]) := Lib.hid ((hgr.block _ N2.out.lt (by intro e; have := HZ1.out; have e2 : X1.heap.size = w3.heap.size := Option.some.inj e; omega)).trans N2.out); have Own56 := Lib.hid own56; refine hK.out _ _ trivial (fun hHeld => ?_); clear hK K hgr own56 N2 Own52b Bel2
                    (try simp only [Act.put, lsa, lsz, lss])
                    (refine hrd 7 rfl (fun K hK => ?_); rw [if_pos (by kernel_rfl)]; refine app_str X3 _ _ rfl w3.heap.size v56 _ _ rfl Own56.out _ _ _ rfl (src_blk N3.out rfl) (ones_one _) (by omega) Bel3.out.size ?_; intro v59 X4 own59 hgr4 _; have Bel4 := Lib.hid (below_app Bel3.out Own56.out hgr4 (Nat.le_refl _) Bel3.out.size); have Own59 := Lib.hid own59; refine hK.out _ _ trivial (fun hHeld => ?_); clear hK K hgr4 own59 N3 Own56 Bel3; (try simp only [Act.put, lsa, lsz, lss]); refine hrd 11 rfl (fun K hK => ?_); rw [if_pos (by kernel_rfl)]; refine app_str X4 _ _ rfl w3.heap.size v59 _ _ rfl Own59.out _ _ _ rfl (src_below S2.out Bel4.out) (ones_str _) (by omega) Bel4.out.size ?_; intro v63 X5 own63 hgr5 _; have Bel5 := Lib.hid (below_app Bel4.out Own59.out hgr5 (Nat.le_refl _) Bel4.out.size); have Own63 := Lib.hid own63; refine hK.out _ _ trivial (fun hHeld => ?_); clear hK K hgr5 own63 Own59 Bel4; (try simp only [Act.put, lsa, lsz, lss]); (refine htk 12 3 v63 rfl (by intro w hSw; clear hSw; go_simp) ?_); (try simp only [lsz, lss]); refine wpAnyH_done (by kernel_rfl) ?_ _); have hown5 : OwnN w.heap.size X5 v63 (putName out wd) := ownN_of Own63.out Hsz3.out (by rw [Hput.out]; simp <;> omega) (by rw [Hput.out]; simp); have Hown5 := Lib.hid hown5; clear hown5; go_wp2_with (go_at_call 79; refine (pTake g _ cap L q1 X5 (HP3.out.keep Bel5.out) HWq.out [44]).mono ?_; rintro e' w6 ⟨rfl, hP6, ho6⟩); exact names_round Hgw.out Hmu.out herr Htk.out Hwd2.out HwL.out HF1.out hi HWq.out hiq Htx.out Hlen.out Hown5.out (Ho3.out.trans (Off.of Bel5.out)) hP6 ho6
                · rw [if_pos (by kernel_rfl)]
                  go_simp
                  refine hK.out _ _ trivial (fun hHeld => ?_); clear hK K
                  (try simp only [Act.put, lsa, lsz, lss])
                  have n1 := (Blk.new w3 [.string ⟨wd.toArray⟩] 9).drew; have bel1 : Below w3.heap.size w3 (w3.alloc (.cells #[.string ⟨wd.toArray⟩] 9)).drew := ((Below.refl _ _).alloc (Nat.le_refl _) _).drew; have hz1 : (w3.alloc (.cells #[.string ⟨wd.toArray⟩] 9)).drew.heap.size = w3.heap.size + 1 := World.size_alloc _ _; obtain ⟨X1, hX1⟩ : ∃ X, (w3.alloc (.cells #[.string ⟨wd.toArray⟩] 9)).drew = X := ⟨_, rfl⟩; rw [show (w3.alloc (.cells ([.string ⟨wd.toArray⟩] : List Value).toArray 9)).drew = X1 from hX1] at n1; rw [hX1] at bel1 hz1 ⊢; clear hX1; have HZ1 := Lib.hid hz1; clear hz1; have N1 := Lib.hid n1; have Bel1 := Lib.hid bel1; clear n1 bel1; refine hrd 0 rfl (fun K hK => ?_); rw [if_pos (by kernel_rfl)]
                  go_simp
                  refine hK.out _ _ trivial (fun hHeld => ?_); clear hK K
                  (try simp only [Act.put, lsa, lsz, lss])
                  have own52 := ownsRow_base (own_emptyN X1) (show w3.heap.size ≤ X1.heap.size by have := HZ1.out; omega); have n2 := N1.out.alloc (.cells #[] 9); have bel2 := Bel1.out.alloc Bel1.out.size (.cells #[] 9); obtain ⟨X2, hX2⟩ : ∃ X, X1.alloc (.cells #[] 9) = X := ⟨_, rfl⟩; rw [hX2] at own52 n2 bel2 ⊢; clear hX2; have Own52 := Lib.hid own52; have N2 := Lib.hid n2; have Bel2 := Lib.hid bel2; clear own52 n2 bel2; refine hrd 4 rfl (fun K hK => ?_); rw [if_pos (by kernel_rfl)]; refine app_str X2 _ _ rfl w3.heap.size (.slice (some ⟨X1.heap.size, 0, none⟩) 0 0) 0 [] rfl Own52.out _ _ _ rfl (src_below S1.out Bel2.out) (ones_str _) (by omega) Bel2.out.size ?_; intro v56 X3 own56 hgr _; have Bel3 := Lib.hid (below_app Bel2.out Own52.out hgr (Nat.le_refl _) Bel2.out.size); have N3 : Hid (Blk X3 w3.heap.size 9 [.string ⟨wd.toArray⟩]) := Lib.hid ((hgr.block _ N2.out.lt (by intro e; have := HZ1.out; have e2 : w3.heap.size = X1.heap.size := Option.some.inj e; omega)).trans N2.out); have Own56 := Lib.hid own56; refine hK.out _ _ trivial (fun hHeld => ?_); clear hK K hgr own56 N2 N1 Own52 Bel2
                  (try simp only [Act.put, lsa, lsz, lss])
                  (refine hrd 7 rfl (fun K hK => ?_); rw [if_pos (by kernel_rfl)]; refine app_str X3 _ _ rfl w3.heap.size v56 _ _ rfl Own56.out _ _ _ rfl (src_blk N3.out rfl) (ones_one _) (by omega) Bel3.out.size ?_; intro v59 X4 own59 hgr4 _; have Bel4 := Lib.hid (below_app Bel3.out Own56.out hgr4 (Nat.le_refl _) Bel3.out.size); have Own59 := Lib.hid own59; refine hK.out _ _ trivial (fun hHeld => ?_); clear hK K hgr4 own59 N3 Own56 Bel3; (try simp only [Act.put, lsa, lsz, lss]); refine hrd 11 rfl (fun K hK => ?_); rw [if_pos (by kernel_rfl)]; refine app_str X4 _ _ rfl w3.heap.size v59 _ _ rfl Own59.out _ _ _ rfl (src_below S2.out Bel4.out) (ones_str _) (by omega) Bel4.out.size ?_; intro v63 X5 own63 hgr5 _; have Bel5 := Lib.hid (below_app Bel4.out Own59.out hgr5 (Nat.le_refl _) Bel4.out.size); have Own63 := Lib.hid own63; refine hK.out _ _ trivial (fun hHeld => ?_); clear hK K hgr5 own63 Own59 Bel4; (try simp only [Act.put, lsa, lsz, lss]); (refine htk 12 3 v63 rfl (by intro w hSw; clear hSw; go_simp) ?_); (try simp only [lsz, lss]); refine wpAnyH_done (by kernel_rfl) ?_ _); have hown5 : OwnN w.heap.size X5 v63 (putName out wd) := ownN_of Own63.out Hsz3.out (by rw [Hput.out]; simp <;> omega) (by rw [Hput.out]; simp); have Hown5 := Lib.hid hown5; clear hown5; go_wp2_with (go_at_call 79; refine (pTake g _ cap L q1 X5 (HP3.out.keep Bel5.out) HWq.out [44]).mono ?_; rintro e' w6 ⟨rfl, hP6, ho6⟩); exact names_round Hgw.out Hmu.out herr Htk.out Hwd2.out HwL.out HF1.out hi HWq.out hiq Htx.out Hlen.out Hown5.out (Ho3.out.trans (Off.of Bel5.out)) hP6 ho6
              · skip
                have S1 := Lib.hid (src_at (n := out.length) (c := c) (o := 0) (l := out) (w := w3) (h := h) rfl (fun j hj => by rw [Nat.zero_add]; exact Hcell.out j hj)); have S2 := Lib.hid (src_at (n := 0) (c := c - out.length) (o := out.length) (l := []) (w := w3) (h := h) rfl (fun j hj => absurd hj (Nat.not_lt_zero _)))
                go_wp2_with fail
                refine wp_region_held_drew (S := fun _ => True) (by kernel_rfl) trivial (fun hHeld => ?_); (refine htk 1 53 ?_ rfl ?_ ?_; rotate_left; (intro w hSw; clear hSw; go_simp); (try with_reducible rfl); simp only [lsz, lss]); (refine htk 2 54 ?_ rfl ?_ ?_; rotate_left; (intro w hSw; clear hSw; go_simp); (try with_reducible rfl); simp only [lsz, lss]); (refine htk 3 55 (.slice (some ⟨h, 0, none⟩) out.length c) rfl (by intro w hSw; clear hSw; go_simp) ?_); simp only [lsz, lss]; (refine htk 5 57 ?_ rfl ?_ ?_; rotate_left; (intro w hSw; clear hSw; go_simp); (try with_reducible rfl); simp only [lsz, lss]); (refine htk 8 60 ?_ rfl ?_ ?_; rotate_left; (intro w hSw; clear hSw; go_simp); (try with_reducible rfl); simp only [lsz, lss]); (refine htk 9 61 ?_ rfl ?_ ?_; rotate_left; (intro w hSw; clear hSw; go_simp); (try with_reducible rfl); simp only [lsz, lss]); (refine htk 10 62 (.slice (some ⟨h, out.length, none⟩) 0 (c - out.length)) rfl (by intro w hSw; clear hSw; go_simp) ?_); simp only [lsz, lss]; refine wpAnyH_ready (rs := [0, 6]) (by kernel_rfl) (by simp) (.cons rfl (fun K hK => ?_) (.cons rfl (fun K hK => ?_) .nil))
                · rw [if_pos (by kernel_rfl)]
                  go_simp
                  refine hK.out _ _ trivial (fun hHeld => ?_); clear hK K
                  (try simp only [Act.put, lsa, lsz, lss])
                  have own52 : (w3.alloc (.cells #[] 9)).drew.ownsRow w3.heap.size 9 1 (.slice (some ⟨w3.heap.size, 0, none⟩) 0 0) 0 [] := own_emptyN w3; have bel1 : Below w3.heap.size w3 (w3.alloc (.cells #[] 9)).drew := ((Below.refl _ _).alloc (Nat.le_refl _) _).drew; have Own52 := Lib.hid own52; have Bel1 := Lib.hid bel1; clear own52 bel1; have hz1 : (w3.alloc (.cells #[] 9)).drew.heap.size = w3.heap.size + 1 := World.size_alloc _ _; obtain ⟨X1, hX1⟩ : ∃ X, (w3.alloc (.cells #[] 9)).drew = X := ⟨_, rfl⟩; rw [hX1] at Own52 Bel1 hz1 ⊢; clear hX1; have HZ1 := Lib.hid hz1; clear hz1; refine wpAnyH_ready (rs := [4, 6]) (by kernel_rfl) (by simp) (.cons rfl (fun K hK => ?_) (.cons rfl (fun K hK => ?_) .nil))
                  · rw [if_pos (by kernel_rfl)]
                    refine app_str X1 _ _ rfl w3.heap.size (.slice (some ⟨w3.heap.size, 0, none⟩) 0 0) 0 [] rfl Own52.out _ _ _ rfl (src_below S1.out Bel1.out) (ones_str _) (by omega) Bel1.out.size ?_; intro v56 X2 own56 hgr _; have Bel2 := Lib.hid (below_app Bel1.out Own52.out hgr (Nat.le_refl _) Bel1.out.size); refine hK.out _ _ trivial (fun hHeld => ?_); clear hK K hgr
                    (try simp only [Act.put, lsa, lsz, lss])
                    refine hrd 6 rfl (fun K hK => ?_); rw [if_pos (by kernel_rfl)]
                    go_simp
                    refine hK.out _ _ trivial (fun hHeld => ?_); clear hK K
                    (try simp only [Act.put, lsa, lsz, lss])
                    have Own56 := Lib.hid (ownsRow_keep own56 ((Below.refl _ _).alloc (Nat.le_refl _) (.cells #[.string ⟨wd.toArray⟩] 9))); have N3 := Lib.hid (Blk.new X2 [.string ⟨wd.toArray⟩] 9); have Bel3 := Lib.hid (Bel2.out.alloc Bel2.out.size (.cells #[.string ⟨wd.toArray⟩] 9)); obtain ⟨X3, hX3⟩ : ∃ X, X2.alloc (.cells #[.string ⟨wd.toArray⟩] 9) = X := ⟨_, rfl⟩; rw [show X2.alloc (.cells ([.string ⟨wd.toArray⟩] : List Value).toArray 9) = X3 from hX3] at N3; rw [hX3] at Own56 Bel3 ⊢; clear hX3 own56 Bel2
                    (refine hrd 7 rfl (fun K hK => ?_); rw [if_pos (by kernel_rfl)]; refine app_str X3 _ _ rfl w3.heap.size v56 _ _ rfl Own56.out _ _ _ rfl (src_blk N3.out rfl) (ones_one _) (by omega) Bel3.out.size ?_; intro v59 X4 own59 hgr4 _; have Bel4 := Lib.hid (below_app Bel3.out Own56.out hgr4 (Nat.le_refl _) Bel3.out.size); have Own59 := Lib.hid own59; refine hK.out _ _ trivial (fun hHeld => ?_); clear hK K hgr4 own59 N3 Own56 Bel3; (try simp only [Act.put, lsa, lsz, lss]); refine hrd 11 rfl (fun K hK => ?_); rw [if_pos (by kernel_rfl)]; refine app_str X4 _ _ rfl w3.heap.size v59 _ _ rfl Own59.out _ _ _ rfl (src_below S2.out Bel4.out) (ones_str _) (by omega) Bel4.out.size ?_; intro v63 X5 own63 hgr5 _; have Bel5 := Lib.hid (below_app Bel4.out Own59.out hgr5 (Nat.le_refl _) Bel4.out.size); have Own63 := Lib.hid own63; refine hK.out _ _ trivial (fun hHeld => ?_); clear hK K hgr5 own63 Own59 Bel4; (try simp only [Act.put, lsa, lsz, lss]); (refine htk 12 3 v63 rfl (by intro w hSw; clear hSw; go_simp) ?_); (try simp only [lsz, lss]); refine wpAnyH_done (by kernel_rfl) ?_ _); have hown5 : OwnN w.heap.size X5 v63 (putName out wd) := ownN_of Own63.out Hsz3.out (by rw [Hput.out]; simp <;> omega) (by rw [Hput.out]; simp); have Hown5 := Lib.hid hown5; clear hown5; go_wp2_with (go_at_call 79; refine (pTake g _ cap L q1 X5 (HP3.out.keep Bel5.out) HWq.out [44]).mono ?_; rintro e' w6 ⟨rfl, hP6, ho6⟩); exact names_round Hgw.out Hmu.out herr Htk.out Hwd2.out HwL.out HF1.out hi HWq.out hiq Htx.out Hlen.out Hown5.out (Ho3.out.trans (Off.of Bel5.out)) hP6 ho6
                  · rw [if_pos (by kernel_rfl)]
                    go_simp
                    refine hK.out _ _ trivial (fun hHeld => ?_); clear hK K
                    (try simp only [Act.put, lsa, lsz, lss])
                    have own52b := ownsRow_keep Own52.out ((Below.refl _ _).alloc (Nat.le_refl _) (.cells #[.string ⟨wd.toArray⟩] 9)); have n2 := Blk.new X1 [.string ⟨wd.toArray⟩] 9; have bel2 := Bel1.out.alloc Bel1.out.size (.cells #[.string ⟨wd.toArray⟩] 9); obtain ⟨X2, hX2⟩ : ∃ X, X1.alloc (.cells #[.string ⟨wd.toArray⟩] 9) = X := ⟨_, rfl⟩; rw [show X1.alloc (.cells ([.string ⟨wd.toArray⟩] : List Value).toArray 9) = X2 from hX2] at n2; rw [hX2] at own52b bel2 ⊢; clear hX2; have Own52b := Lib.hid own52b; have N2 := Lib.hid n2; have Bel2 := Lib.hid bel2; clear own52b n2 bel2; refine hrd 4 rfl (fun K hK => ?_); rw [if_pos (by kernel_rfl)]; refine app_str X2 _ _ rfl w3.heap.size (.slice (some ⟨w3.heap.size, 0, none⟩) 0 0) 0 [] rfl Own52b.out _ _ _ rfl (src_below S1.out Bel2.out) (ones_str _) (by omega) Bel2.out.size ?_; intro v56 X3 own56 hgr _; have Bel3 := Lib.hid (below_app Bel2.out Own52b.out hgr (Nat.le_refl _) Bel2.out.size); have N3 : Hid (Blk X3 X1.heap.size 9 [.string ⟨wd.toArray⟩]) := Lib.hid ((hgr.block _ N2.out.lt (by intro e; have := HZ1.out; have e2 : X1.heap.size = w3.heap.size := Option.some.inj e; omega)).trans N2.out); have Own56 := Lib.hid own56; refine hK.out _ _ trivial (fun hHeld => ?_); clear hK K hgr own56 N2 Own52b Bel2
                    (try simp only [Act.put, lsa, lsz, lss])
                    (refine hrd 7 rfl (fun K hK => ?_); rw [if_pos (by kernel_rfl)]; refine app_str X3 _ _ rfl w3.heap.size v56 _ _ rfl Own56.out _ _ _ rfl (src_blk N3.out rfl) (ones_one _) (by omega) Bel3.out.size ?_; intro v59 X4 own59 hgr4 _; have Bel4 := Lib.hid (below_app Bel3.out Own56.out hgr4 (Nat.le_refl _) Bel3.out.size); have Own59 := Lib.hid own59; refine hK.out _ _ trivial (fun hHeld => ?_); clear hK K hgr4 own59 N3 Own56 Bel3; (try simp only [Act.put, lsa, lsz, lss]); refine hrd 11 rfl (fun K hK => ?_); rw [if_pos (by kernel_rfl)]; refine app_str X4 _ _ rfl w3.heap.size v59 _ _ rfl Own59.out _ _ _ rfl (src_below S2.out Bel4.out) (ones_str _) (by omega) Bel4.out.size ?_; intro v63 X5 own63 hgr5 _; have Bel5 := Lib.hid (below_app Bel4.out Own59.out hgr5 (Nat.le_refl _) Bel4.out.size); have Own63 := Lib.hid own63; refine hK.out _ _ trivial (fun hHeld => ?_); clear hK K hgr5 own63 Own59 Bel4; (try simp only [Act.put, lsa, lsz, lss]); (refine htk 12 3 v63 rfl (by intro w hSw; clear hSw; go_simp) ?_); (try simp only [lsz, lss]); refine wpAnyH_done (by kernel_rfl) ?_ _); have hown5 : OwnN w.heap.size X5 v63 (putName out wd) := ownN_of Own63.out Hsz3.out (by rw [Hput.out]; simp <;> omega) (by rw [Hput.out]; simp); have Hown5 := Lib.hid hown5; clear hown5; go_wp2_with (go_at_call 79; refine (pTake g _ cap L q1 X5 (HP3.out.keep Bel5.out) HWq.out [44]).mono ?_; rintro e' w6 ⟨rfl, hP6, ho6⟩); exact names_round Hgw.out Hmu.out herr Htk.out Hwd2.out HwL.out HF1.out hi HWq.out hiq Htx.out Hlen.out Hown5.out (Ho3.out.trans (Off.of Bel5.out)) hP6 ho6
                · rw [if_pos (by kernel_rfl)]
                  go_simp
                  refine hK.out _ _ trivial (fun hHeld => ?_); clear hK K
                  (try simp only [Act.put, lsa, lsz, lss])
                  have n1 := (Blk.new w3 [.string ⟨wd.toArray⟩] 9).drew; have bel1 : Below w3.heap.size w3 (w3.alloc (.cells #[.string ⟨wd.toArray⟩] 9)).drew := ((Below.refl _ _).alloc (Nat.le_refl _) _).drew; have hz1 : (w3.alloc (.cells #[.string ⟨wd.toArray⟩] 9)).drew.heap.size = w3.heap.size + 1 := World.size_alloc _ _; obtain ⟨X1, hX1⟩ : ∃ X, (w3.alloc (.cells #[.string ⟨wd.toArray⟩] 9)).drew = X := ⟨_, rfl⟩; rw [show (w3.alloc (.cells ([.string ⟨wd.toArray⟩] : List Value).toArray 9)).drew = X1 from hX1] at n1; rw [hX1] at bel1 hz1 ⊢; clear hX1; have HZ1 := Lib.hid hz1; clear hz1; have N1 := Lib.hid n1; have Bel1 := Lib.hid bel1; clear n1 bel1; refine hrd 0 rfl (fun K hK => ?_); rw [if_pos (by kernel_rfl)]
                  go_simp
                  refine hK.out _ _ trivial (fun hHeld => ?_); clear hK K
                  (try simp only [Act.put, lsa, lsz, lss])
                  have own52 := ownsRow_base (own_emptyN X1) (show w3.heap.size ≤ X1.heap.size by have := HZ1.out; omega); have n2 := N1.out.alloc (.cells #[] 9); have bel2 := Bel1.out.alloc Bel1.out.size (.cells #[] 9); obtain ⟨X2, hX2⟩ : ∃ X, X1.alloc (.cells #[] 9) = X := ⟨_, rfl⟩; rw [hX2] at own52 n2 bel2 ⊢; clear hX2; have Own52 := Lib.hid own52; have N2 := Lib.hid n2; have Bel2 := Lib.hid bel2; clear own52 n2 bel2; refine hrd 4 rfl (fun K hK => ?_); rw [if_pos (by kernel_rfl)]; refine app_str X2 _ _ rfl w3.heap.size (.slice (some ⟨X1.heap.size, 0, none⟩) 0 0) 0 [] rfl Own52.out _ _ _ rfl (src_below S1.out Bel2.out) (ones_str _) (by omega) Bel2.out.size ?_; intro v56 X3 own56 hgr _; have Bel3 := Lib.hid (below_app Bel2.out Own52.out hgr (Nat.le_refl _) Bel2.out.size); have N3 : Hid (Blk X3 w3.heap.size 9 [.string ⟨wd.toArray⟩]) := Lib.hid ((hgr.block _ N2.out.lt (by intro e; have := HZ1.out; have e2 : w3.heap.size = X1.heap.size := Option.some.inj e; omega)).trans N2.out); have Own56 := Lib.hid own56; refine hK.out _ _ trivial (fun hHeld => ?_); clear hK K hgr own56 N2 N1 Own52 Bel2
                  (try simp only [Act.put, lsa, lsz, lss])
                  (refine hrd 7 rfl (fun K hK => ?_); rw [if_pos (by kernel_rfl)]; refine app_str X3 _ _ rfl w3.heap.size v56 _ _ rfl Own56.out _ _ _ rfl (src_blk N3.out rfl) (ones_one _) (by omega) Bel3.out.size ?_; intro v59 X4 own59 hgr4 _; have Bel4 := Lib.hid (below_app Bel3.out Own56.out hgr4 (Nat.le_refl _) Bel3.out.size); have Own59 := Lib.hid own59; refine hK.out _ _ trivial (fun hHeld => ?_); clear hK K hgr4 own59 N3 Own56 Bel3; (try simp only [Act.put, lsa, lsz, lss]); refine hrd 11 rfl (fun K hK => ?_); rw [if_pos (by kernel_rfl)]; refine app_str X4 _ _ rfl w3.heap.size v59 _ _ rfl Own59.out _ _ _ rfl (src_below S2.out Bel4.out) (ones_str _) (by omega) Bel4.out.size ?_; intro v63 X5 own63 hgr5 _; have Bel5 := Lib.hid (below_app Bel4.out Own59.out hgr5 (Nat.le_refl _) Bel4.out.size); have Own63 := Lib.hid own63; refine hK.out _ _ trivial (fun hHeld => ?_); clear hK K hgr5 own63 Own59 Bel4; (try simp only [Act.put, lsa, lsz, lss]); (refine htk 12 3 v63 rfl (by intro w hSw; clear hSw; go_simp) ?_); (try simp only [lsz, lss]); refine wpAnyH_done (by kernel_rfl) ?_ _); have hown5 : OwnN w.heap.size X5 v63 (putName out wd) := ownN_of Own63.out Hsz3.out (by rw [Hput.out]; simp <;> omega) (by rw [Hput.out]; simp); have Hown5 := Lib.hid hown5; clear hown5; go_wp2_with (go_at_call 79; refine (pTake g _ cap L q1 X5 (HP3.out.keep Bel5.out) HWq.out [44]).mono ?_; rintro e' w6 ⟨rfl, hP6, ho6⟩); exact names_round Hgw.out Hmu.out herr Htk.out Hwd2.out HwL.out HF1.out hi HWq.out hiq Htx.out Hlen.out Hown5.out (Ho3.out.trans (Off.of Bel5.out)) hP6 ho6
      · have hfin : (out, p1.need L [41]) = (r, p') := by
          rcases hcase with ⟨hb, f1, h⟩ | ⟨_, h⟩
          · exact names_stop L (fun e => hgo ⟨hb, e⟩) h
          · exact h
        simp only [Prod.mk.injEq] at hfin; obtain ⟨rfl, rfl⟩ := hfin; clear hcase HR; have HP := Lib.hid hP; have Ho := Lib.hid ho; clear ho; obtain ⟨hb, hl⟩ := hP; clear hl; have hg := hb.lt; unfold PC at hb; have c0 := hb.cell 0 _ rfl; have c1 := hb.cell 1 _ rfl; have c2 := hb.cell 2 _ rfl; have c3 := hb.cell 3 _ rfl; have c4 := hb.cell 4 _ rfl; have f1 := hb.free 1; have f2 := hb.free 2; have f3 := hb.free 3; have f4 := hb.free 4; clear hb; cases b with
        | false =>
          clear hgo
          go_wp2_with (go_at_call 40; refine (pNeed g _ cap L p1 wr HP.out HW.out [41]).mono ?_; rintro e' w6 ⟨rfl, hP6, ho6⟩)
          go_ret; exact ⟨_, rfl, Hown.out.off ho6 Hgw.out, hP6, Ho.out.trans ho6⟩
        | true =>
          have herr : ¬ p1.err = 0 := fun e => hgo ⟨rfl, e⟩
          have herrb : (p1.err == 0) = false := by simpa using herr
          clear hgo
          go_wp2_with (go_at_call 40; refine (pNeed g _ cap L p1 wr HP.out HW.out [41]).mono ?_; rintro e' w6 ⟨rfl, hP6, ho6⟩)
          go_ret; exact ⟨_, rfl, Hown.out.off ho6 Hgw.out, hP6, Ho.out.trans ho6⟩
end Go.Proofs.YtpmbamfpmmdhcaaGreat
namespace Go.Proofs.YtpmbamfpmmdhcaaGreat
open Go.RowKit
set_option linter.unusedSimpArgs false
set_option linter.unusedVariables false
/-! ### names, once more: what they keep -/
theorem namesF_keep (L : List Tok) : ∀ (f : Nat) (p : PS) (out : List (List UInt8)) (r : List (List UInt8)) (p' : PS), namesF L f p out = some (r, p') → PW L p → (∀ x ∈ out, x.length ≤ 100000) → PW L p' ∧ (∀ x ∈ r, x.length ≤ 100000) ∧ p.i ≤ p'.i
  | 0, p, out, r, p', h, _, _ => by simp [namesF] at h
  | f + 1, p, out, r, p', h, hw, ho => by
    unfold namesF at h
    split at h
    · have hwt := hw.token 1 (by decide)
      have hwc := hwt.take [44]; have i1 := PS.token_i L p 1; have i2 := (PS.take_i L (p.token L 1).2 [44]).1; have ho2 : ∀ x ∈ putName out (p.token L 1).1.text, x.length ≤ 100000 := by
        intro x hx; rcases (putName_len out _).2 x hx with h | rfl
        · exact ho x h
        · unfold PS.token
          split
          · rw [PS.tok_eq hw.at']; exact hw.txt _ (List.getElem_mem _)
          · simp
      simp only at h
      split at h
      · obtain ⟨a, b, c⟩ := namesF_keep L f _ _ r p' h hwc ho2
        exact ⟨a, b, by omega⟩
      · simp only [Option.some.injEq, Prod.mk.injEq] at h
        obtain ⟨rfl, rfl⟩ := h; exact ⟨hwc, ho2, by omega⟩
    · simp only [Option.some.injEq, Prod.mk.injEq] at h
      obtain ⟨rfl, rfl⟩ := h; exact ⟨hw, ho, Nat.le_refl _⟩
theorem pNames_keep {L : List Tok} {f : Nat} {p : PS} {r : List (List UInt8)} {p' : PS} (h : pNames L f p = some (r, p')) (hw : PW L p) : PW L p' ∧ (∀ x ∈ r, x.length ≤ 100000) ∧ p.i ≤ p'.i := by
  unfold pNames at h
  have hq := hw.need [40]
  have hc := hq.take [41]
  have i1 := PS.need_i L p [40]
  have i2 := (PS.take_i L (p.need L [40]) [41]).1
  simp only at h
  split at h
  · simp only [Option.some.injEq, Prod.mk.injEq] at h
    obtain ⟨rfl, rfl⟩ := h; exact ⟨hc, by simp, by omega⟩
  · obtain ⟨⟨r0, p0⟩, h0, h1⟩ := Option.map_eq_some_iff.1 h
    simp only [Prod.mk.injEq] at h1; obtain ⟨rfl, rfl⟩ := h1; obtain ⟨a, b, c⟩ := namesF_keep L f _ _ _ _ h0 hc (by simp); have := PS.need_i L p0 [41]; exact ⟨a.need [41], b, by omega⟩
/-! ### matchers -/
def OwnMt (base : Nat) (w : World) (v : Value) (l : List Mat) : Prop := w.ownsRow base 90 3 v l.length (l.map Mat.cells).flatten
theorem OwnMt.off {g base : Nat} {w w' : World} {v : Value} {l : List Mat} (h : OwnMt base w v l) (ho : Off g w w') (hg : g < base) : OwnMt base w' v l := ownsRow_off h ho hg
theorem matCells_len (l : List Mat) : ∀ r ∈ l.map Mat.cells, r.length = 3 := by
  intro r hr; obtain ⟨m, _, rfl⟩ := List.mem_map.1 hr; rfl
theorem OwnMt.mats {g base : Nat} {w : World} {v : Value} {l : List Mat} (h : OwnMt base w v l) (hg : g < base) (hs : ∀ m ∈ l, m.small) : IsMats w.heap.size (blank g w) v l := by
  refine ⟨?_, hs⟩
  rcases h.2 with ⟨rfl, h0⟩ | ⟨k, cap, cur, rfl, hk, hh, h1, h2, h3, h4⟩
  · have : l = [] := List.eq_nil_of_length_eq_zero h0
    subst this; exact Arr.nil _ _ _
  · have hlt := (Array.getElem?_eq_some_iff.1 hh).1
    refine ⟨_, cap, by simp, by simpa using h1, h2, fun _ => ⟨k, 0, rfl, hlt, fun i r hr j x hx => ?_⟩⟩; have hc := World.ownsRow.cells h (g := k) rfl (i * 3 + j) x (flatten_at (matCells_len l) hr hx); have e : (⟨k, 0, none⟩ : Addr).add (i * 3 + j) = ⟨k, 0 + i * 3 + j, none⟩ := by unfold Addr.add; split <;> simp <;> omega
    rw [e] at hc; rw [blank_cell (a := ⟨k, 0 + i * 3 + j, none⟩) (show k ≠ g by omega)]; exact hc
theorem infoMt : (Tryz.prog.info? 90).map (fun i => (i.zero, i.size, i.bytes)) = some (some (.agg #[.int .i64 0, .string ⟨#[]⟩, .string ⟨#[]⟩]), 3, 40) := by kernel_rfl
def MatchR (g : Nat) (pt : Option Addr) (cap : Nat) (L : List Tok) (w : World) (r : List Mat) (p' : PS) (e' : Ending) (w' : World) : Prop := ∃ v, e' = .returned v ∧ OwnMt w.heap.size w' v r ∧ PA g pt cap L p' w' ∧ Off g w w'
theorem appL_mt {ops : Array Oper} {rest : List Oper} {o : Oper} {a : Act} {Q : Exit → Act → World → Prop} (X : World) (hgd : o.guard = none) (s x : Operand) (ho : o.op = .call { callee := .builtin .append, args := #[s, x], argTypes := #[24, 24] })
    (base : Nat) (v : Value) (n : Nat) (xs : List Value) (hs : a.eval s = v) (hown : X.ownsRow base 90 3 v n xs) (src : Value) (m : Nat) (news : List Value) (hx : a.eval x = src) (hsrc : Src X src 3 m news)
    (h1 : ∀ u ∈ news, u.oneCell' = true) (hn : n + m ≤ 1000000) (hbase : base ≤ X.heap.size)
    (h : ∀ v' w', w'.ownsRow base 90 3 v' (n + m) (xs ++ news) → X.grownBy w' v.ownBlock → (v'.ownBlock = v.ownBlock ∨ v'.ownBlock = some X.heap.size) → wpList Tryz.prog ops Q rest (a.put o.dst v') w') : wpList Tryz.prog ops Q (o :: rest) a X := by
  obtain ⟨i0, hi, hz⟩ := Option.map_eq_some_iff.1 infoMt
  simp only [Prod.mk.injEq] at hz
  exact wpList_append_src X hgd s x 24 ho base 90 i0 _ 3 40 Tryz.underlying24 hi hz.1 hz.2.1 hz.2.2 rfl (by decide) v n xs hs hown src m news hx hsrc h1 (by unfold maxLen; omega) (by omega) hbase h
theorem PA.setFar {g : Nat} {pt : Option Addr} {cap : Nat} {L : List Tok} {p : PS} {w : World} (h : PA g pt cap L p w) {k : Nat} (hk : g < k) (i : Nat) (u : Value) : PA g pt cap L p (w.setCell ⟨k, i, none⟩ u) :=
  ⟨h.1.far (show g ≠ k by omega) u, h.2.mono ((Below.refl g w).setCell (show g ≤ k by omega) u) (Nat.le_refl _)⟩
theorem Off.setNew {g : Nat} {w w2 : World} (h : Off g w w2) {k : Nat} (hk : w.heap.size ≤ k) (i : Nat) (u : Value) : Off g w (w2.setCell ⟨k, i, none⟩ u) :=
  ⟨h.os, h.tape, h.output, by unfold World.setCell; simp; exact h.size, fun j hj hg => by
    rw [← h.block j hj hg]; unfold World.setCell
    show (w2.heap.modify k _)[j]? = _
    rw [Array.getElem?_modify, if_neg (by omega)]⟩
theorem Off.then {g : Nat} {w X Y : World} (h : Off g w X) (hb : Below w.heap.size X Y) : Off g w Y := ⟨hb.os.trans h.os, hb.tape.trans h.tape, hb.output.trans h.output, Nat.le_trans h.size hb.size, fun k hk hg => (hb.block k hk).trans (h.block k hk hg)⟩
theorem PA.mono' {g : Nat} {pt : Option Addr} {cap : Nat} {L : List Tok} {p : PS} {w w' : World} (h : PA g pt cap L p w) (hb : Below (g + 1) w w') : PA g pt cap L p w' := ⟨h.1.mono hb (Nat.lt_succ_self g), h.2.mono (hb.mono (Nat.le_succ g)) (Nat.le_refl _)⟩
theorem setCell_size (w : World) (a : Addr) (u : Value) : (w.setCell a u).heap.size = w.heap.size := by unfold World.setCell; simp
theorem ownMt_add {base : Nat} {w : World} {v : Value} {q : List Mat} {m : Mat} (h : w.ownsRow base 90 3 v (q.length + 1) ((q.map Mat.cells).flatten ++ m.cells)) : OwnMt base w v (q ++ [m]) := by
  unfold OwnMt
  simpa using h
theorem mats_step (L : List Tok) {f1 : Nat} {p1 : PS} {out r : List Mat} {p' : PS} (herr : p1.err = 0) (h : (matsF L f1 p1 out).map (fun x => (x.1, x.2.need L [125])) = some (r, p')) :
    (((pOne L p1).2.take L [44]).1 = true ∧ ∃ f, (matsF L f ((pOne L p1).2.take L [44]).2 (out ++ [(pOne L p1).1])).map (fun x => (x.1, x.2.need L [125])) = some (r, p')) ∨
    (((pOne L p1).2.take L [44]).1 = false ∧ (out ++ [(pOne L p1).1], ((pOne L p1).2.take L [44]).2.need L [125]) = (r, p')) := by
  cases f1 with
  | zero => simp [matsF] at h
  | succ f =>
    unfold matsF at h; rw [if_pos herr] at h; simp only at h; cases hc : ((pOne L p1).2.take L [44]).1 with
    | true => left; refine ⟨rfl, f, ?_⟩; simpa [hc] using h
    | false => right; refine ⟨rfl, ?_⟩; simpa [hc] using h
theorem mats_stop (L : List Tok) {f1 : Nat} {p1 : PS} {out r : List Mat} {p' : PS} (herr : ¬ p1.err = 0) (h : (matsF L f1 p1 out).map (fun x => (x.1, x.2.need L [125])) = some (r, p')) : (out, p1.need L [125]) = (r, p') := by
  cases f1 with
  | zero => simp [matsF] at h
  | succ f =>
    unfold matsF at h; rw [if_neg herr] at h
    simpa using h
theorem pOne_keep {L : List Tok} {p : PS} (hw : PW L p) : PW L (pOne L p).2 ∧ p.i ≤ (pOne L p).2.i ∧ (pOne L p).1.small := by
  have h1 := hw.token 1 (by decide)
  have i1 := PS.token_i L p 1
  have h2 := h1.take [33, 61]
  have i2 := (PS.take_i L (p.token L 1).2 [33, 61]).1
  have h3 : PW L (if ((p.token L 1).2.take L [33, 61]).1 then ((p.token L 1).2.take L [33, 61]).2 else ((p.token L 1).2.take L [33, 61]).2.need L [61]) := by
    split
    · exact h2
    · exact h2.need [61]
  have i3 : (p.token L 1).2.i ≤ (if ((p.token L 1).2.take L [33, 61]).1 then ((p.token L 1).2.take L [33, 61]).2 else ((p.token L 1).2.take L [33, 61]).2.need L [61]).i := by
    have := PS.need_i L ((p.token L 1).2.take L [33, 61]).2 [61]
    split
    · exact i2
    · exact Nat.le_trans i2 this
  have txt : ∀ (q : PS) (k : Int), PW L q → (q.token L k).1.text.length ≤ 100000 := by
    intro q k hq; unfold PS.token
    split
    · rw [PS.tok_eq hq.at']; exact hq.txt _ (List.getElem_mem _)
    · simp
  refine ⟨h3.token 3 (by decide), ?_, ?_, ?_⟩
  · exact Nat.le_trans i1 (Nat.le_trans i3 (PS.token_i L _ 3))
  · have := txt p 1 hw
    show (⟨(p.token L 1).1.text.toArray⟩ : ByteArray).size ≤ maxLen
    unfold maxLen; simp [ByteArray.size]; omega
  · have := txt _ 3 h3
    show (⟨(PS.token L _ 3).1.text.toArray⟩ : ByteArray).size ≤ maxLen
    unfold maxLen; simp [ByteArray.size]; omega
theorem mats_round {g : Nat} {pt : Option Addr} {cap : Nat} {L : List Tok} {w wr w5 w6 : World} {out r : List Mat} {p1 q4 : PS} {m : Mat} {p' : PS} {f1 : Nat} {v : Value} (hgw : g < w.heap.size)
    (hmu : muP g wr = p1.i) (herr : p1.err = 0) (hone : pOne L p1 = (m, q4)) (h : (matsF L f1 p1 out).map (fun x => (x.1, x.2.need L [125])) = some (r, p'))
    (hw1 : PW L p1) (htx : ∀ x ∈ out, x.small) (hlen : out.length ≤ p1.i) (hown : OwnMt w.heap.size w5 v (out ++ [m])) (ho5 : Off g w w5) (hP6 : PA g pt cap L (q4.take L [44]).2 w6) (ho6 : Off g w5 w6) :
    (∃ (out : List Mat) (p1 : PS) (b : Bool), Value.bool (q4.take L [44]).1 = .bool b ∧ OwnMt w.heap.size w6 v out ∧ PA g pt cap L p1 w6 ∧ PW L p1 ∧ Off g w w6 ∧ (∀ x ∈ out, x.small) ∧ (b = true → out.length ≤ p1.i) ∧
        ((b = true ∧ ∃ f, (matsF L f p1 out).map (fun x => (x.1, x.2.need L [125])) = some (r, p')) ∨ (b = false ∧ (out, p1.need L [125]) = (r, p')))) ∧ 2 * (L.length - muP g w6) + boolN (.bool (q4.take L [44]).1) < 2 * (L.length - muP g wr) + boolN (.bool true) := by
  have hst := mats_step L herr h
  have hk := pOne_keep hw1
  rw [hone] at hst hk
  obtain ⟨k1, k2, k3⟩ := hk
  have k2 : p1.i ≤ q4.i := k2
  have hti := PS.take_i L q4 [44]
  refine ⟨⟨out ++ [m], _, _, rfl, hown.off ho6 hgw, hP6, k1.take [44], ho5.trans ho6, fun x hx => ?_, fun hc => ?_, hst⟩, ?_⟩
  · rcases List.mem_append.1 hx with h | h
    · exact htx x h
    · simp only [List.mem_cons, List.not_mem_nil, or_false] at h; subst h; exact k3
  · have := hti.2 hc; simp only [List.length_append, List.length_cons, List.length_nil]; omega
  · rw [muP_eq hP6, hmu]
    have hw2 : (q4.take L [44]).2.i < L.length := (k1.take [44]).at'; cases hc : (q4.take L [44]).1 with
    | true => have := hti.2 hc; simp only [boolN]; omega
    | false => simp only [boolN]; omega
theorem pMatchC (g : Nat) (pt : Option Addr) (cap : Nat) (L : List Tok) (f : Nat) (p : PS) (r : List Mat) (p' : PS) (hr : pMatch L f p = some (r, p')) (w : World) (h : PA g pt cap L p w) (hw : PW L p) :
    Calls Tryz.prog 50 #[.pointer (some ⟨g, 0, none⟩)] w (MatchR g pt cap L w r p') := by
  have HA := Lib.hid (show Calls Tryz.prog 79 #[.pointer (some ⟨g, 0, none⟩), .string ⟨#[123]⟩] w _ from pTake g pt cap L p w h hw [123])
  have hg := h.1.lt
  have Hgw := Lib.hid hg
  have hq := hw.take [123]
  unfold pMatch at hr
  obtain ⟨ca, hca⟩ : ∃ c, (p.take L [123]).1 = c := ⟨_, rfl⟩
  obtain ⟨qa, hqa⟩ : ∃ q, (p.take L [123]).2 = q := ⟨_, rfl⟩
  simp only [hca, hqa] at hr
  rw [hca, hqa] at HA
  rw [hqa] at hq
  have HBc := Lib.hid (fun (X : World) (hX : PA g pt cap L qa X) => (show Calls Tryz.prog 79 #[.pointer (some ⟨g, 0, none⟩), .string ⟨#[125]⟩] X _ from pTake g pt cap L qa X hX hq [125]))
  have hq2 := hq.take [125]
  obtain ⟨cb, hcb⟩ : ∃ c, (qa.take L [125]).1 = c := ⟨_, rfl⟩
  obtain ⟨qb, hqb⟩ : ∃ q, (qa.take L [125]).2 = q := ⟨_, rfl⟩
  simp only [hcb, hqb] at hr
  rw [hcb, hqb] at HBc
  rw [hqb] at hq2
  clear h hw hq hca hqa hcb hqb
  go_enter Tryz.func50, Tryz.ntmps50; (try simp only [List.append_eq, List.cons_append, List.nil_append])
  cases ca with
  | false =>
    rw [if_neg (by simp)] at hr; simp only [Option.some.injEq, Prod.mk.injEq] at hr; obtain ⟨rfl, rfl⟩ := hr
    go_wp2_with fail
    refine HA.out.mono ?_; rintro e' w1 ⟨rfl, hP1, ho1⟩; go_wp2; go_ret; exact ⟨_, rfl, World.ownsRow_nil _ _ _ _, hP1, ho1⟩
  | true =>
    rw [if_pos rfl] at hr; cases cb with
    | true =>
      rw [if_pos rfl] at hr; simp only [Option.some.injEq, Prod.mk.injEq] at hr; obtain ⟨rfl, rfl⟩ := hr
      go_wp2_with fail
      refine HA.out.mono ?_; rintro e' w1 ⟨rfl, hP1, ho1⟩
      go_wp2_with fail
      refine (HBc.out _ hP1).mono ?_; rintro e' w2 ⟨rfl, hP2, ho2⟩; go_wp2; go_ret; exact ⟨_, rfl, World.ownsRow_nil _ _ _ _, hP2, ho1.trans ho2⟩
    | false =>
      rw [if_neg (by simp)] at hr; have HR := Lib.hid hr; clear hr
      go_wp2_with fail
      refine HA.out.mono ?_; rintro e' w1 ⟨rfl, hP1, ho1⟩
      go_wp2_with fail
      refine (HBc.out _ hP1).mono ?_; rintro e' w2 ⟨rfl, hP2, ho2⟩; go_wp2; have hsz := (ho1.trans ho2).size; have Ho2 := Lib.hid (ho1.trans ho2); clear ho1 ho2 hP1 HA HBc
      go_loopw [3, 4] (fun v m wr => ∃ (out : List Mat) (p1 : PS) (b : Bool), m = .bool b ∧ OwnMt w.heap.size wr v out ∧ PA g pt cap L p1 wr ∧ PW L p1 ∧ Off g w wr ∧ (∀ x ∈ out, x.small) ∧ (b = true → out.length ≤ p1.i) ∧
          ((b = true ∧ ∃ f, (matsF L f p1 out).map (fun x => (x.1, x.2.need L [125])) = some (r, p')) ∨ (b = false ∧ (out, p1.need L [125]) = (r, p')))) (fun _ m wr => 2 * (L.length - muP g wr) + boolN m)
      case atStart => exact ⟨[], qb, true, rfl, World.ownsRow_nil _ _ _ _, hP2, hq2, Ho2.out, by simp, by simp, .inl ⟨rfl, f, HR.out⟩⟩
      case round =>
        obtain ⟨out, p1, b, rfl, hown, hP, hW, ho, htx, hlen, hcase⟩ := hrel; have Hown := Lib.hid hown; clear hown; have Htx := Lib.hid htx; clear htx; have HW := Lib.hid hW; clear hW
        by_cases hgo : b = true ∧ p1.err = 0
        · obtain ⟨rfl, herr⟩ := hgo
          have Hlen := Lib.hid (hlen rfl); clear hlen; obtain ⟨f1, hf1⟩ : ∃ f1, (matsF L f1 p1 out).map (fun x => (x.1, x.2.need L [125])) = some (r, p') := by
            rcases hcase with ⟨_, h⟩ | ⟨h, _⟩
            · exact h
            · cases h
          clear hcase HR; have HF1 := Lib.hid hf1; clear hf1; have Hmu := Lib.hid (muP_eq hP); have hiL := HW.out.at'; have hlenL := HW.out.len; have HP := Lib.hid hP; have Ho := Lib.hid ho; clear ho; obtain ⟨hb, hl⟩ := hP; clear hl; have hg := hb.lt; unfold PC at hb; have c0 := hb.cell 0 _ rfl; have c1 := hb.cell 1 _ rfl; have c2 := hb.cell 2 _ rfl; have c3 := hb.cell 3 _ rfl; have c4 := hb.cell 4 _ rfl; have f1 := hb.free 1; have f2 := hb.free 2; have f3 := hb.free 3; have f4 := hb.free 4; clear hb; have herrb : (p1.err == 0) = true := by simp [herr]
          have HK1 := Lib.hid (pToken g _ cap L p1 _ HP.out HW.out 1); have hW2 := HW.out.token 1 (by decide); obtain ⟨tk, htk⟩ : ∃ tk, (p1.token L 1).1 = tk := ⟨_, rfl⟩; obtain ⟨q1, hq1⟩ : ∃ q1, (p1.token L 1).2 = q1 := ⟨_, rfl⟩; rw [htk, hq1] at HK1; rw [hq1] at hW2; unfold Tok.val at HK1; have HT1 := Lib.hid (fun (X : World) (hX : PA g pt cap L q1 X) => pTake g pt cap L q1 X hX hW2 [33, 61]); have hW3 := hW2.take [33, 61]; obtain ⟨c1, hc1⟩ : ∃ c1, (q1.take L [33, 61]).1 = c1 := ⟨_, rfl⟩; obtain ⟨q2, hq2'⟩ : ∃ q2, (q1.take L [33, 61]).2 = q2 := ⟨_, rfl⟩; rw [hc1, hq2'] at HT1; rw [hq2'] at hW3; obtain ⟨q3, hq3⟩ : ∃ q3, (if c1 then q2 else q2.need L [61]) = q3 := ⟨_, rfl⟩; have hW4 : PW L q3 := by
            rw [← hq3]; split
            · exact hW3
            · exact hW3.need [61]
          have HN1 := Lib.hid (fun (X : World) (hX : PA g pt cap L q2 X) => pNeed g pt cap L q2 X hX hW3 [61]); have HK2 := Lib.hid (fun (X : World) (hX : PA g pt cap L q3 X) => pToken g pt cap L q3 X hX hW4 3); have hW5 := hW4.token 3 (by decide); obtain ⟨t3, ht3⟩ : ∃ t3, (q3.token L 3).1 = t3 := ⟨_, rfl⟩; obtain ⟨q4, hq4⟩ : ∃ q4, (q3.token L 3).2 = q4 := ⟨_, rfl⟩; rw [ht3, hq4] at HK2; rw [hq4] at hW5; unfold Tok.val at HK2; have HT2 := Lib.hid (fun (X : World) (hX : PA g pt cap L q4 X) => pTake g pt cap L q4 X hX hW5 [44]); have hft1 := fun wx => fieldTok1 tk.kind tk.num tk.pos ⟨tk.text.toArray⟩ wx
          have hft3 := fun wx => fieldTok1 t3.kind t3.num t3.pos ⟨t3.text.toArray⟩ wx
          obtain ⟨N1, hN1⟩ : ∃ N : ByteArray, (⟨tk.text.toArray⟩ : ByteArray) = N := ⟨_, rfl⟩; obtain ⟨N3, hN3⟩ : ∃ N : ByteArray, (⟨t3.text.toArray⟩ : ByteArray) = N := ⟨_, rfl⟩; have HOne : Hid (pOne L p1 = (⟨if c1 then 2 else 1, N1, N3⟩, q4)) := by
            show _ = _
            unfold pOne; simp only [htk, hq1, hc1, hq2', hq3, ht3, hq4, hN1, hN3]
          rw [hN1] at hft1 HK1; rw [hN3] at hft3 HK2; clear hN1 hN3 htk hq1 hc1 hq2' ht3 hq4 hW2 hW3 hW4 hW5; cases c1 with
          | true =>
            rw [if_pos rfl] at hq3; subst hq3
            go_wp2_with fail
            refine HK1.out.mono ?_; rintro e' w3 ⟨rfl, hP3, ho3⟩
            go_wp2_with fail
            refine (HT1.out _ (hP3.keep ((Below.refl _ _).alloc (Nat.le_refl _) _))).mono ?_; rintro e' w4 ⟨rfl, hP4, ho4⟩; have hg3 := hP3.1.lt; have hM4 : Blk w4 w3.heap.size 90 [.int .i64 1, .string N1, .string ⟨#[]⟩] := (ho4.block _ (by simp) (Nat.ne_of_gt hg3)).trans (Blk.new w3 _ _); have d0 := hM4.cell 0 _ rfl; have e0 := hM4.free 0; have HM4 := Lib.hid hM4; clear hM4
            go_wp2_with fail
            refine (HK2.out _ (hP4.setFar hg3 0 _)).mono ?_; rintro e' w5 ⟨rfl, hP5, ho5⟩; have hs4 := HM4.out.lt; have hM5 : Blk w5 w3.heap.size 90 [.int .i64 2, .string N1, .string ⟨#[]⟩] := (ho5.block _ (by unfold World.setCell; simpa using hs4) (Nat.ne_of_gt hg3)).trans (HM4.out.set_ 0 (.int .i64 2)); clear d0 e0; have d0 := hM5.cell 0 _ rfl; have d1 := hM5.cell 1 _ rfl; have d2 := hM5.cell 2 _ rfl; have e2 := hM5.free 2; have HM5 := Lib.hid hM5; clear hM5; obtain ⟨A, cp, rfl⟩ := ownsRow_slice Hown.out; have hoX : Off g wr ((w5.setCell ⟨w3.heap.size, 2, none⟩ (.string N3)).alloc (.cells #[.int .i64 2, .string N1, .string N3] 90)) := ((((((ho3.trans (Off.of ((Below.refl _ _).alloc (Nat.le_refl _) _))).trans ho4).setNew ho3.size 0 _).trans ho5).setNew ho3.size 2 _)).trans (Off.of ((Below.refl _ _).alloc (Nat.le_refl _) _)); have hPX : PA g pt cap L q4 ((w5.setCell ⟨w3.heap.size, 2, none⟩ (.string N3)).alloc (.cells #[.int .i64 2, .string N1, .string N3] 90)) := (hP5.setFar hg3 2 _).keep ((Below.refl _ _).alloc (Nat.le_refl _) _); have hsX : Src ((w5.setCell ⟨w3.heap.size, 2, none⟩ (.string N3)).alloc (.cells #[.int .i64 2, .string N1, .string N3] 90)) (.slice (some ⟨w5.heap.size, 0, none⟩) 1 1) 3 1 (⟨2, N1, N3⟩ : Mat).cells := by
              have := Blk.new (w5.setCell ⟨w3.heap.size, 2, none⟩ (.string N3)) [.int .i64 2, .string N1, .string N3] 90; rw [setCell_size] at this; exact src_blk this rfl
            have hnn : out.length + 1 ≤ 1000000 := by have := Hlen.out; omega
            have hszw := Ho.out.size; have HoX := Lib.hid hoX; have HPX := Lib.hid hPX; have HsX := Lib.hid hsX; clear hoX hPX hsX
            go_wp2_with (at_builtin; refine appL_mt _ rfl _ _ rfl w.heap.size _ out.length (out.map Mat.cells).flatten rfl (Hown.out.off HoX.out Hgw.out) _ 1 (⟨2, N1, N3⟩ : Mat).cells rfl HsX.out (by intro u hu; simp only [Mat.cells, List.mem_cons, List.not_mem_nil, or_false] at hu; rcases hu with rfl | rfl | rfl <;> rfl) hnn (Nat.le_trans hszw HoX.out.size) ?_; intro v6 w6 own6 hgr6 _; have hbg6 := Lib.hid (below_app (B := w.heap.size) (Below.refl _ _) (Hown.out.off HoX.out Hgw.out) hgr6 (Nat.le_refl _) (Nat.le_trans hszw HoX.out.size)); have Own6 := Lib.hid own6; clear own6 hgr6)
            refine (HT2.out _ (HPX.out.mono' (hbg6.out.mono Hgw.out))).mono ?_; rintro e' w7 ⟨rfl, hP7, ho7⟩; go_wp2; exact mats_round Hgw.out Hmu.out herr HOne.out HF1.out HW.out Htx.out Hlen.out (ownMt_add Own6.out) ((Ho.out.trans HoX.out).then hbg6.out) hP7 ho7
          | false =>
            rw [if_neg (by simp)] at hq3; subst hq3
            go_wp2_with fail
            refine HK1.out.mono ?_; rintro e' w3 ⟨rfl, hP3, ho3⟩
            go_wp2_with fail
            refine (HT1.out _ (hP3.keep ((Below.refl _ _).alloc (Nat.le_refl _) _))).mono ?_; rintro e' w4 ⟨rfl, hP4, ho4⟩; have hg3 := hP3.1.lt; have hM4 : Blk w4 w3.heap.size 90 [.int .i64 1, .string N1, .string ⟨#[]⟩] := (ho4.block _ (by simp) (Nat.ne_of_gt hg3)).trans (Blk.new w3 _ _); have HM4 := Lib.hid hM4; clear hM4
            go_wp2_with fail
            refine (HN1.out _ hP4).mono ?_; rintro e' w4b ⟨rfl, hP4b, ho4b⟩; have hM4b : Blk w4b w3.heap.size 90 [.int .i64 1, .string N1, .string ⟨#[]⟩] := (ho4b.block _ HM4.out.lt (Nat.ne_of_gt hg3)).trans HM4.out; have HM4b := Lib.hid hM4b; clear hM4b
            go_wp2_with fail
            refine (HK2.out _ hP4b).mono ?_; rintro e' w5 ⟨rfl, hP5, ho5⟩; have hM5 : Blk w5 w3.heap.size 90 [.int .i64 1, .string N1, .string ⟨#[]⟩] := (ho5.block _ HM4b.out.lt (Nat.ne_of_gt hg3)).trans HM4b.out; have d0 := hM5.cell 0 _ rfl; have d1 := hM5.cell 1 _ rfl; have d2 := hM5.cell 2 _ rfl; have e2 := hM5.free 2; have HM5 := Lib.hid hM5; clear hM5; obtain ⟨A, cp, rfl⟩ := ownsRow_slice Hown.out; have hoX : Off g wr ((w5.setCell ⟨w3.heap.size, 2, none⟩ (.string N3)).alloc (.cells #[.int .i64 1, .string N1, .string N3] 90)) := (((((ho3.trans (Off.of ((Below.refl _ _).alloc (Nat.le_refl _) _))).trans ho4).trans ho4b).trans ho5).setNew ho3.size 2 _).trans (Off.of ((Below.refl _ _).alloc (Nat.le_refl _) _)); have hPX : PA g pt cap L q4 ((w5.setCell ⟨w3.heap.size, 2, none⟩ (.string N3)).alloc (.cells #[.int .i64 1, .string N1, .string N3] 90)) := (hP5.setFar hg3 2 _).keep ((Below.refl _ _).alloc (Nat.le_refl _) _); have hsX : Src ((w5.setCell ⟨w3.heap.size, 2, none⟩ (.string N3)).alloc (.cells #[.int .i64 1, .string N1, .string N3] 90)) (.slice (some ⟨w5.heap.size, 0, none⟩) 1 1) 3 1 (⟨1, N1, N3⟩ : Mat).cells := by
              have := Blk.new (w5.setCell ⟨w3.heap.size, 2, none⟩ (.string N3)) [.int .i64 1, .string N1, .string N3] 90; rw [setCell_size] at this; exact src_blk this rfl
            have hnn : out.length + 1 ≤ 1000000 := by have := Hlen.out; omega
            have hszw := Ho.out.size; have HoX := Lib.hid hoX; have HPX := Lib.hid hPX; have HsX := Lib.hid hsX; clear hoX hPX hsX
            go_wp2_with (at_builtin; refine appL_mt _ rfl _ _ rfl w.heap.size _ out.length (out.map Mat.cells).flatten rfl (Hown.out.off HoX.out Hgw.out) _ 1 (⟨1, N1, N3⟩ : Mat).cells rfl HsX.out (by intro u hu; simp only [Mat.cells, List.mem_cons, List.not_mem_nil, or_false] at hu; rcases hu with rfl | rfl | rfl <;> rfl) hnn (Nat.le_trans hszw HoX.out.size) ?_; intro v6 w6 own6 hgr6 _; have hbg6 := Lib.hid (below_app (B := w.heap.size) (Below.refl _ _) (Hown.out.off HoX.out Hgw.out) hgr6 (Nat.le_refl _) (Nat.le_trans hszw HoX.out.size)); have Own6 := Lib.hid own6; clear own6 hgr6)
            refine (HT2.out _ (HPX.out.mono' (hbg6.out.mono Hgw.out))).mono ?_; rintro e' w7 ⟨rfl, hP7, ho7⟩; go_wp2; exact mats_round Hgw.out Hmu.out herr HOne.out HF1.out HW.out Htx.out Hlen.out (ownMt_add Own6.out) ((Ho.out.trans HoX.out).then hbg6.out) hP7 ho7
        · have hfin : (out, p1.need L [125]) = (r, p') := by
            rcases hcase with ⟨hb, f1, h⟩ | ⟨_, h⟩
            · exact mats_stop L (fun e => hgo ⟨hb, e⟩) h
            · exact h
          simp only [Prod.mk.injEq] at hfin; obtain ⟨rfl, rfl⟩ := hfin; clear hcase HR; have HP := Lib.hid hP; have Ho := Lib.hid ho; clear ho; obtain ⟨hb, hl⟩ := hP; clear hl; have hg := hb.lt; unfold PC at hb; have c0 := hb.cell 0 _ rfl; have c1 := hb.cell 1 _ rfl; have c2 := hb.cell 2 _ rfl; have c3 := hb.cell 3 _ rfl; have c4 := hb.cell 4 _ rfl; have f1 := hb.free 1; have f2 := hb.free 2; have f3 := hb.free 3; have f4 := hb.free 4; clear hb; cases b with
          | false =>
            clear hgo
            go_wp2_with fail
            refine (pNeed g _ cap L p1 wr HP.out HW.out [125]).mono ?_; rintro e' w6 ⟨rfl, hP6, ho6⟩; go_wp2; go_ret; exact ⟨_, rfl, Hown.out.off ho6 Hgw.out, hP6, Ho.out.trans ho6⟩
          | true =>
            have herr : ¬ p1.err = 0 := fun e => hgo ⟨rfl, e⟩
            have herrb : (p1.err == 0) = false := by simpa using herr
            clear hgo
            go_wp2_with fail
            refine (pNeed g _ cap L p1 wr HP.out HW.out [125]).mono ?_; rintro e' w6 ⟨rfl, hP6, ho6⟩; go_wp2; go_ret; exact ⟨_, rfl, Hown.out.off ho6 Hgw.out, hP6, Ho.out.trans ho6⟩
end Go.Proofs.YtpmbamfpmmdhcaaGreat
namespace Go.Proofs.YtpmbamfpmmdhcaaGreat
open Go.RowKit
set_option linter.unusedSimpArgs false
set_option linter.unusedVariables false
noncomputable def keepS (S : Nat → Prop) (w : World) : World := { w with heap := w.heap.mapIdx fun i o => @ite _ (S i) (Classical.propDecidable _) o (.cells #[] 0 (0, 0)) }
theorem keepS_cell {S : Nat → Prop} {w : World} {b off : Nat} (h : S b) : (keepS S w).cell? ⟨b, off, none⟩ = w.cell? ⟨b, off, none⟩ := World.cell?_of_block (by
  unfold keepS
  simp only [Array.getElem?_mapIdx]
  cases w.heap[b]? with
  | none => rfl
  | some o => simp [h])
theorem keepS_none {S : Nat → Prop} {w : World} {b off : Nat} (h : ¬ S b) : (keepS S w).cell? ⟨b, off, none⟩ = none := by
  have e : (keepS S w).heap[b]? = none ∨ (keepS S w).heap[b]? = some (.cells #[] 0 (0, 0)) := by
    unfold keepS; simp only [Array.getElem?_mapIdx]; cases w.heap[b]? with
    | none => left; rfl
    | some o => right; simp [h]
  rcases e with e | e <;> simp [World.cell?, e]
theorem cells_keepS {S S' : Nat → Prop} {w w' : World} {n : Nat} (hS : ∀ b, b < n → S b → S' b) (hw : ∀ b, b < n → S b → w'.heap[b]? = w.heap[b]?) : Cells n (keepS S w) (keepS S' w') := fun b off x hb hx => by
  by_cases h : S b
  · rw [keepS_cell h] at hx
    rw [keepS_cell (hS b hb h), World.cell?_of_block (w := w) (a := ⟨b, off, none⟩) (hw b hb h)]; exact hx
  · rw [keepS_none h] at hx; cases hx
theorem cells_unkeep {S : Nat → Prop} {w : World} {n : Nat} : Cells n (keepS S w) w := fun b off x hb hx => by
  by_cases h : S b
  · rwa [keepS_cell h] at hx
  · rw [keepS_none h] at hx; cases hx
def ExS (S : Nat → Prop) (w : World) (e : Ex) (cs : List Value) : Prop := IsEx w.heap.size (keepS S w) e cs
theorem ExS.go {S S' : Nat → Prop} {w w' : World} {e : Ex} {cs : List Value} (h : ExS S w e cs) (hs : w.heap.size ≤ w'.heap.size) (hS : ∀ b, b < w.heap.size → S b → S' b) (hw : ∀ b, b < w.heap.size → S b → w'.heap[b]? = w.heap[b]?) : ExS S' w' e cs := h.monoC (cells_keepS hS hw) hs
theorem ExS.off {S : Nat → Prop} {g : Nat} {w w' : World} {e : Ex} {cs : List Value} (h : ExS S w e cs) (ho : Off g w w') (hg : ¬ S g) : ExS S w' e cs := h.go ho.size (fun _ _ h => h) (fun b hb hS => ho.block b hb (fun e => hg (e ▸ hS)))
theorem ExS.ex {S : Nat → Prop} {w : World} {e : Ex} {cs : List Value} (h : ExS S w e cs) : IsEx w.heap.size w e cs := h.monoC cells_unkeep (Nat.le_refl _)
theorem ExS.len {S : Nat → Prop} {w : World} {e : Ex} {cs : List Value} (h : ExS S w e cs) : cs.length = 9 := by
  obtain ⟨vm, vn, vk, hcs, _⟩ := IsEx.cells h
  rw [hcs]; rfl
def StrsS (S : Nat → Prop) (w : World) (v : Value) (l : List ByteArray) : Prop := IsStrs w.heap.size (keepS S w) v l
def MatsS (S : Nat → Prop) (w : World) (v : Value) (l : List Mat) : Prop := IsMats w.heap.size (keepS S w) v l
def ExsS (S : Nat → Prop) (w : World) (v : Value) (l : List Ex) : Prop := IsExs w.heap.size (keepS S w) v l
theorem StrsS.go {S S' : Nat → Prop} {w w' : World} {v : Value} {l : List ByteArray} (h : StrsS S w v l) (hs : w.heap.size ≤ w'.heap.size) (hS : ∀ b, b < w.heap.size → S b → S' b) (hw : ∀ b, b < w.heap.size → S b → w'.heap[b]? = w.heap[b]?) : StrsS S' w' v l := ⟨h.1.monoC (cells_keepS hS hw) hs, h.2⟩
theorem MatsS.go {S S' : Nat → Prop} {w w' : World} {v : Value} {l : List Mat} (h : MatsS S w v l) (hs : w.heap.size ≤ w'.heap.size) (hS : ∀ b, b < w.heap.size → S b → S' b) (hw : ∀ b, b < w.heap.size → S b → w'.heap[b]? = w.heap[b]?) : MatsS S' w' v l := ⟨h.1.monoC (cells_keepS hS hw) hs, h.2⟩
theorem OwnN.strsS {base : Nat} {w : World} {v : Value} {l : List (List UInt8)} (h : OwnN base w v l) (hs : ∀ x ∈ l, x.length ≤ 100000) : StrsS (fun b => base ≤ b) w v (l.map baOf) := by
  refine ⟨?_, fun s hs' => by obtain ⟨x, hx, rfl⟩ := List.mem_map.1 hs'; have := hs x hx; unfold maxLen baOf; simp [ByteArray.size]; omega⟩
  rcases h.2 with ⟨rfl, h0⟩ | ⟨k, cap, cur, rfl, hk, hh, h1, h2, h3, h4⟩
  · have : l = [] := List.eq_nil_of_length_eq_zero h0
    subst this; exact Arr.nil _ _ _
  · have hlt := (Array.getElem?_eq_some_iff.1 hh).1
    refine ⟨_, cap, by simp, by simpa using h1, h2, fun _ => ⟨k, 0, rfl, hlt, fun i r hr j x hx => ?_⟩⟩; simp only [List.map_map, List.getElem?_map, Option.map_eq_some_iff, Function.comp] at hr; obtain ⟨a, ha, rfl⟩ := hr; have hj : j = 0 := by have := (List.getElem?_eq_some_iff.1 hx).1; simpa using this
    subst hj; simp only [List.getElem?_cons_zero, Option.some.injEq] at hx; subst hx; have hc := World.ownsRow.cells h (g := k) rfl i (.string ⟨a.toArray⟩) (by rw [List.getElem?_map, ha]; rfl); have e : (⟨k, 0, none⟩ : Addr).add i = ⟨k, 0 + i * 1 + 0, none⟩ := by unfold Addr.add; split <;> simp <;> omega
    rw [e] at hc; rw [keepS_cell hk]; exact hc
theorem OwnMt.matsS {base : Nat} {w : World} {v : Value} {l : List Mat} (h : OwnMt base w v l) (hs : ∀ m ∈ l, m.small) : MatsS (fun b => base ≤ b) w v l := by
  refine ⟨?_, hs⟩
  rcases h.2 with ⟨rfl, h0⟩ | ⟨k, cap, cur, rfl, hk, hh, h1, h2, h3, h4⟩
  · have : l = [] := List.eq_nil_of_length_eq_zero h0
    subst this; exact Arr.nil _ _ _
  · have hlt := (Array.getElem?_eq_some_iff.1 hh).1
    refine ⟨_, cap, by simp, by simpa using h1, h2, fun _ => ⟨k, 0, rfl, hlt, fun i r hr j x hx => ?_⟩⟩; have hc := World.ownsRow.cells h (g := k) rfl (i * 3 + j) x (flatten_at (matCells_len l) hr hx); have e : (⟨k, 0, none⟩ : Addr).add (i * 3 + j) = ⟨k, 0 + i * 3 + j, none⟩ := by unfold Addr.add; split <;> simp <;> omega
    rw [e] at hc; rw [keepS_cell hk]; exact hc
theorem noStrsS (S : Nat → Prop) (w : World) : StrsS S w (.slice none 0 0) [] := ⟨Arr.nil _ _ _, by simp⟩
theorem noMatsS (S : Nat → Prop) (w : World) : MatsS S w (.slice none 0 0) [] := ⟨Arr.nil _ _ _, by simp⟩
theorem noExsS (S : Nat → Prop) (w : World) : ExsS S w (.slice none 0 0) [] := ⟨[], Arr.nil _ _ _, rfl, fun k r e h => by simp at h⟩
theorem exsS {S : Nat → Prop} {b : Nat} {w : World} {l : List Ex} {rows : List (List Value)} (hB : Blk w b 28 rows.flatten) (hS : S b) (hl : rows.length = l.length) (hm : rows.length ≤ 1000) (hr : ∀ (k : Nat) (r : List Value) (e : Ex), rows[k]? = some r → l[k]? = some e → ExS S w e r) :
    ExsS S w (.slice (some ⟨b, 0, none⟩) rows.length rows.length) l := by
  refine ⟨rows, ⟨_, _, rfl, Nat.le_refl _, by unfold maxLen; omega, fun _ => ⟨b, 0, rfl, hB.lt, fun k r hrk j x hx => ?_⟩⟩, hl, hr⟩
  have h9 : ∀ r ∈ rows, r.length = 9 := by
    intro r hr'; obtain ⟨k, hk, rfl⟩ := List.getElem_of_mem hr'; exact (hr k rows[k] (l[k]'(by omega)) (by simp) (by simp)).len
  rw [keepS_cell hS, Nat.zero_add]
  exact hB.cell _ _ (flatten_at h9 hrk hx)
theorem exsS1 {S : Nat → Prop} {b : Nat} {w : World} {e : Ex} {cs : List Value} (hB : Blk w b 28 cs) (hS : S b) (h : ExS S w e cs) : ExsS S w (.slice (some ⟨b, 0, none⟩) 1 1) [e] :=
  exsS (rows := [cs]) (by simpa using hB) hS rfl (by simp) (fun k r x h1 h2 => by
    match k with
    | 0 => simp at h1 h2; subst h1 h2; exact h
    | k + 1 => simp at h1)
theorem exsS2 {S : Nat → Prop} {b : Nat} {w : World} {e f : Ex} {cs ds : List Value} (hB : Blk w b 28 (cs ++ ds)) (hS : S b) (h : ExS S w e cs) (h' : ExS S w f ds) : ExsS S w (.slice (some ⟨b, 0, none⟩) 2 2) [e, f] :=
  exsS (rows := [cs, ds]) (by simpa using hB) hS rfl (by simp) (fun k r x h1 h2 => by
    match k with
    | 0 => simp at h1 h2; subst h1 h2; exact h
    | 1 => simp at h1 h2; subst h1 h2; exact h'
    | k + 2 => simp at h1)
theorem exS_node {S : Nat → Prop} {w : World} {kind fn op num : Int} {metric : ByteArray} {mats : List Mat} {span : Int} {names : List ByteArray} {kids : List Ex} {vm vn vk : Value} (hs : metric.size ≤ maxLen) (hm : MatsS S w vm mats) (hn : StrsS S w vn names) (hk : ExsS S w vk kids) :
    ExS S w (.mk kind fn op num metric mats span names kids) [.int .i64 kind, .int .i64 fn, .int .i64 op, .int .i64 num, .string metric, vm, .int .i64 span, vn, vk] := by
  obtain ⟨rows, h1, h2, h3⟩ := hk
  exact .mk hs hm hn h1 h2 h3
abbrev ZX : List Value := [.int .i64 0, .int .i64 0, .int .i64 0, .int .i64 0, .string ⟨#[]⟩, .slice none 0 0, .int .i64 0, .slice none 0 0, .slice none 0 0]
theorem noExS (S : Nat → Prop) (w : World) : ExS S w noEx ZX := exS_node (by decide) (noMatsS S w) (noStrsS S w) (noExsS S w)
theorem Off.blkX {g : Nat} {w w' : World} (h : Off g w w') {b t : Nat} {cs : List Value} (hb : Blk w b t cs) (hg : b ≠ g) : Blk w' b t cs := (h.block b hb.lt hg).trans hb
def ExR (g : Nat) (pt : Option Addr) (cap : Nat) (L : List Tok) (S : Nat → Prop) (w : World) (e : Ex) (p' : PS) (e' : Ending) (w' : World) : Prop := ∃ cs, e' = .returned (.agg cs.toArray) ∧ ExS S w' e cs ∧ PA g pt cap L p' w' ∧ Off g w w'
def ExprC (g : Nat) (pt : Option Addr) (cap : Nat) (L : List Tok) (f : Nat) : Prop := ∀ (p : PS) (e : Ex) (p' : PS), pExpr L f p = some (e, p') → PW L p → ∀ w, PA g pt cap L p w → Calls Tryz.prog 42 #[.pointer (some ⟨g, 0, none⟩)] w (ExR g pt cap L (fun k => w.heap.size ≤ k) w e p')
def AtomC (g : Nat) (pt : Option Addr) (cap : Nat) (L : List Tok) (f : Nat) : Prop := ∀ (p : PS) (e : Ex) (p' : PS), pAtom L f p = some (e, p') → PW L p → ∀ w, PA g pt cap L p w → Calls Tryz.prog 110 #[.pointer (some ⟨g, 0, none⟩)] w (ExR g pt cap L (fun k => w.heap.size ≤ k) w e p')
def TermC (g : Nat) (pt : Option Addr) (cap : Nat) (L : List Tok) (f : Nat) : Prop := ∀ (p : PS) (e : Ex) (p' : PS), pTerm L f p = some (e, p') → PW L p → ∀ w, PA g pt cap L p w → Calls Tryz.prog 98 #[.pointer (some ⟨g, 0, none⟩)] w (ExR g pt cap L (fun k => w.heap.size ≤ k) w e p')
def SumC (g : Nat) (pt : Option Addr) (cap : Nat) (L : List Tok) (f : Nat) : Prop := ∀ (p : PS) (e : Ex) (p' : PS), pSum L f p = some (e, p') → PW L p → ∀ w, PA g pt cap L p w → Calls Tryz.prog 80 #[.pointer (some ⟨g, 0, none⟩)] w (ExR g pt cap L (fun k => w.heap.size ≤ k) w e p')
def StepC (g : Nat) (pt : Option Addr) (cap : Nat) (L : List Tok) (f : Nat) : Prop := ∀ (op : Int) (x : Ex) (deep : Bool) (p : PS) (e : Ex) (p' : PS), pStep L f op x deep p = some (e, p') → PW L p → ∀ (S : Nat → Prop) (cs : List Value) w, ¬ S g → PA g pt cap L p w → ExS S w x cs →
  Calls Tryz.prog 99 #[.pointer (some ⟨g, 0, none⟩), .int .i64 op, .agg cs.toArray, .bool deep] w (ExR g pt cap L (fun k => S k ∨ w.heap.size ≤ k) w e p')
theorem setRow_far (w : World) (b : Nat) (cs : Array Value) {k : Nat} (h : k ≠ b) : (w.setRow b cs).heap[k]? = w.heap[k]? := by
  show (w.heap.modify b _)[k]? = _
  rw [Array.getElem?_modify, if_neg (fun e => h e.symm)]
theorem exR_close {g : Nat} {pt : Option Addr} {cap : Nat} {L : List Tok} {b : Nat} {S S' : Nat → Prop} {w w3 : World} {e : Ex} {p' : PS} {cs : List Value} (hx : ExS S w3 e cs) (hP : PA g pt cap L p' w3) (ho : Off g w w3) (hb : w.heap.size ≤ b) (hg : g < b) (hbS : ¬ S b) (hSB : ∀ k, k < w3.heap.size → S k → S' k) :
    ExR g pt cap L S' w e p' (.returned (.agg cs.toArray)) (w3.setRow b cs.toArray) :=
  ⟨cs, rfl, hx.go (by rw [setRow_size]; exact Nat.le_refl _) hSB (fun k _ hk => setRow_far _ _ _ (fun e => hbS (e ▸ hk))), hP.row hg _, ho.rowNew hb _⟩
theorem pAtom_in (g : Nat) (pt : Option Addr) (cap : Nat) (L : List Tok) (f : Nat) (hE : ExprC g pt cap L f) (p : PS) (e : Ex) (p' : PS) (hc : (p.take L [40]).1 = true) (hr : (pExpr L f (p.take L [40]).2).map (fun x => (x.1, x.2.need L [41])) = some (e, p')) (hw : PW L p) (w : World) (h : PA g pt cap L p w) (hwe : ∀ e q, pExpr L f (p.take L [40]).2 = some (e, q) → PW L q) :
    Calls Tryz.prog 110 #[.pointer (some ⟨g, 0, none⟩)] w (ExR g pt cap L (fun k => w.heap.size ≤ k) w e p') := by
  obtain ⟨⟨e0, q⟩, h0, h1⟩ := Option.map_eq_some_iff.1 hr
  simp only [Prod.mk.injEq] at h1
  obtain ⟨e1, rfl⟩ := h1
  subst e1
  have hwq := hwe e0 q h0
  have HT := Lib.hid (fun (X : World) (hX : PA g pt cap L p X) => pTake g pt cap L p X hX hw [40])
  rw [hc] at HT
  have HE := Lib.hid (fun (X : World) (hX : PA g pt cap L (p.take L [40]).2 X) => hE _ _ _ h0 (hw.take [40]) X hX)
  have HN := Lib.hid (fun (X : World) (hX : PA g pt cap L q X) => pNeed g pt cap L q X hX hwq [41])
  have hg := h.1.lt
  go_enter Tryz.func110, Tryz.ntmps110; (try simp only [List.append_eq, List.cons_append, List.nil_append])
  go_wp2_with fail
  have hA := Blk.new w ZX 28
  refine (HT.out _ (h.keep ((Below.refl _ _).alloc (Nat.le_refl _) _))).mono ?_
  rintro e' w1 ⟨rfl, hP1, ho1⟩
  have hA1 := ho1.blkX hA (Nat.ne_of_gt hg)
  have ho1 := (Off.of (g := g) ((Below.refl w.heap.size w).alloc (Nat.le_refl _) (.cells ZX.toArray 28))).trans ho1
  clear hA
  go_wp2_with fail
  refine (HE.out _ hP1).mono ?_
  rintro e' w2 ⟨cs, rfl, hx2, hP2, ho2⟩
  have hA2 := ho2.blkX hA1 (Nat.ne_of_gt hg)
  obtain ⟨e, he⟩ : ∃ e, e0 = e := ⟨_, rfl⟩
  subst he
  obtain ⟨pm, cm, pn, cn, pk, ck, rfl, -⟩ := IsEx.cellsE hx2
  go_wp2_with fail
  have hX := Blk.new w2 [.int .i64 e0.kind, .int .i64 e0.fn, .int .i64 e0.op, .int .i64 e0.num, .string e0.metric, .slice pm e0.mats.length cm, .int .i64 e0.span, .slice pn e0.names.length cn, .slice pk e0.kids.length ck] 28
  have hbx : Below w2.heap.size w2 (w2.alloc (.cells ([.int .i64 e0.kind, .int .i64 e0.fn, .int .i64 e0.op, .int .i64 e0.num, .string e0.metric, .slice pm e0.mats.length cm, .int .i64 e0.span, .slice pn e0.names.length cn, .slice pk e0.kids.length ck] : List Value).toArray 28)) := (Below.refl _ _).alloc (Nat.le_refl _) _
  have hAX := hA2.keep hbx
  have hxX := hx2.off (Off.of (g := g) hbx) (by have := hP1.1.lt; omega)
  have hPX := hP2.keep hbx
  have hoX := (ho1.trans ho2).trans (Off.of (g := g) hbx)
  have hs1 := ho1.size
  have hg2 := hP2.1.lt
  have hg1 := hP1.1.lt
  have hs01 : w.heap.size + 1 ≤ w1.heap.size := by have := hA1.lt; omega
  generalize w2.alloc (.cells ([.int .i64 e0.kind, .int .i64 e0.fn, .int .i64 e0.op, .int .i64 e0.num, .string e0.metric, .slice pm e0.mats.length cm, .int .i64 e0.span, .slice pn e0.names.length cn, .slice pk e0.kids.length ck] : List Value).toArray 28) = X at hX hbx hAX hxX hPX hoX
  refine (HN.out _ hPX).mono ?_
  rintro e' w3 ⟨rfl, hP3, ho3⟩
  have HA3 := Lib.hid (ho3.blkX hAX (Nat.ne_of_gt hg))
  have hX3 := ho3.blkX hX (Nat.ne_of_gt hg2)
  have Hx3 := Lib.hid (hxX.off ho3 (show ¬ _ ≤ g by omega))
  have HP3 := Lib.hid hP3; have Ho3 := Lib.hid (hoX.trans ho3)
  have d0 := hX3.cell 0 _ rfl; have d1 := hX3.cell 1 _ rfl; have d2 := hX3.cell 2 _ rfl; have d3 := hX3.cell 3 _ rfl; have d4 := hX3.cell 4 _ rfl; have d5 := hX3.cell 5 _ rfl; have d6 := hX3.cell 6 _ rfl; have d7 := hX3.cell 7 _ rfl; have d8 := hX3.cell 8 _ rfl
  clear hX hbx hAX hxX hPX hoX hX3 hP3 ho3 hx2 hA1 hA2 hP1 hP2 ho1 ho2
  go_wp2_with (refine wpList_store_row rfl 28 _ _ rfl w.heap.size #[.int .i64 e0.kind, .int .i64 e0.fn, .int .i64 e0.op, .int .i64 e0.num, .string e0.metric, .slice pm e0.mats.length cm, .int .i64 e0.span, .slice pn e0.names.length cn, .slice pk e0.kids.length ck] rfl rfl 28 _ HA3.out (by kernel_rfl) rfl (by kernel_rfl) ?_)
  exact bodyPost_agg (d := _) rfl rfl (setRow_at HA3.out _) Tryz.underlying28 rfl (by kernel_rfl) rfl (exR_close Hx3.out HP3.out Ho3.out (Nat.le_refl _) hg (show ¬ _ ≤ w.heap.size by omega) (fun k _ hk => by show w.heap.size ≤ k; omega))
end Go.Proofs.YtpmbamfpmmdhcaaGreat
namespace Go.Proofs.YtpmbamfpmmdhcaaGreat
open Go.RowKit
set_option linter.unusedSimpArgs false
set_option linter.unusedVariables false
theorem funcV_parts (o : Option (Int × Int)) : ∃ k f b, funcV o = .tuple #[.int .i64 k, .int .i64 f, .bool b] ∧ (o = none → b = false) ∧ (∀ x, o = some x → k = x.1 ∧ f = x.2 ∧ b = true) := by
  cases o with
  | none => exact ⟨0, 0, false, rfl, fun _ => rfl, fun x h => by cases h⟩
  | some x => exact ⟨x.1, x.2, true, rfl, (fun h => absurd h (by simp)), (fun y h => by simp only [Option.some.injEq] at h; subst h; exact ⟨rfl, rfl, rfl⟩)⟩
theorem pAtom_bad (g : Nat) (pt : Option Addr) (cap : Nat) (L : List Tok) (p q : PS) (hc : p.take L [40] = (false, q)) (hbad : (if (q.tok L).kind = 1 then funcOf (q.tok L).text else none) = none) (hw : PW L p) (w : World) (h : PA g pt cap L p w) :
    Calls Tryz.prog 110 #[.pointer (some ⟨g, 0, none⟩)] w (ExR g pt cap L (fun k => w.heap.size ≤ k) w noEx (q.fail 14 (q.tok L).pos)) := by
  have HT := Lib.hid (fun (X : World) (hX : PA g pt cap L p X) => pTake g pt cap L p X hX hw [40])
  have hwq := hw.take [40]
  rw [hc] at HT hwq
  have hi := hwq.at'
  have hlen := hwq.len
  obtain ⟨b, off, rfl, hbg, -⟩ := h.now hw.at'
  have hg := h.1.lt
  have Hgw := Lib.hid hg
  have HFl := Lib.hid (fun (X : World) (hX : PA g (some ⟨b, off, none⟩) cap L q X) => pFail g (some ⟨b, off, none⟩) cap L q X hX 14 (q.tok L).pos)
  obtain ⟨k, fn, bb, hfv, hf1, -⟩ := funcV_parts (funcOf (q.tok L).text)
  have HFn := Lib.hid (fun (X : World) => pFunc ⟨(q.tok L).text.toArray⟩ X)
  have hfv2 : funcV (funcOf (⟨(q.tok L).text.toArray⟩ : ByteArray).data.toList) = .tuple #[.int .i64 k, .int .i64 fn, .bool bb] := hfv
  rw [hfv2] at HFn
  clear hfv hfv2
  have HQ := Lib.hid (show (q.fail 14 (q.tok L).pos) = _ from rfl)
  go_enter Tryz.func110, Tryz.ntmps110; (try simp only [List.append_eq, List.cons_append, List.nil_append])
  go_wp2_with fail
  have hA := Blk.new w ZX 28
  refine (HT.out _ (h.keep ((Below.refl _ _).alloc (Nat.le_refl _) _))).mono ?_
  rintro e' w1 ⟨rfl, hP, ho1⟩
  have HA1 := Lib.hid (ho1.blkX hA (Nat.ne_of_gt hg))
  have ho := (Off.of (g := g) ((Below.refl w.heap.size w).alloc (Nat.le_refl _) (.cells ZX.toArray 28))).trans ho1
  clear hA ho1 hg
  have HP := Lib.hid hP; have Ho := Lib.hid ho; clear ho; obtain ⟨b', off', hpt, -, e0, e1, e2, e3⟩ := hP.now hi; cases hpt; obtain ⟨hb, hl⟩ := hP; clear hl; have hg := hb.lt; have hbw := Nat.lt_trans hbg hg; unfold PC at hb; have c0 := hb.cell 0 _ rfl; have c1 := hb.cell 1 _ rfl; have c2 := hb.cell 2 _ rfl; have c3 := hb.cell 3 _ rfl; have c4 := hb.cell 4 _ rfl; have f1 := hb.free 1; have f2 := hb.free 2; have f3 := hb.free 3; have f4 := hb.free 4; clear hb
  have hlt1 := HA1.out.lt
  obtain ⟨t, ht⟩ : ∃ t, q.tok L = t := ⟨_, rfl⟩
  rw [ht] at e0 e1 e2 e3 hbad hf1 HFl HFn
  have Ht := Lib.hid ht; clear ht
  by_cases hk : t.kind = 1
  · rw [if_pos hk] at hbad
    obtain rfl := hf1 hbad; rw [hk] at e0; clear hbad hf1; go_wp2
    go_region
    all_goals go_wp2_with fail
    have hbx : Below w1.heap.size w1 (w1.alloc (.cells ([.int .i64 1, .string ⟨t.text.toArray⟩, .int .i64 t.num, .int .i64 t.pos] : List Value).toArray 65)).drew := ((Below.refl _ _).alloc (Nat.le_refl _) _).drew; have hTk := (Blk.new w1 [.int .i64 1, .string ⟨t.text.toArray⟩, .int .i64 t.num, .int .i64 t.pos] 65).drew; refine (HFn.out _).mono ?_; rintro e' w2 ⟨rfl, hb2⟩; have hTk2 := hTk.keep hb2; have hA2 := (HA1.out.keep hbx).keep hb2; have hP2 := (HP.out.keep hbx).keep hb2; have ho2 := (Ho.out.trans (Off.of (g := g) hbx)).trans (Off.of (g := g) hb2); clear c0 c1 c2 c3 c4 f1 f2 f3 f4 e0 e1 e2 e3 hTk hbx hb2; have htlt := hTk2.lt; have d0 := hTk2.cell 0 _ rfl; have d1 := hTk2.cell 1 _ rfl; have d2 := hTk2.cell 2 _ rfl; have d3 := hTk2.cell 3 _ rfl
    go_wp2_with fail
    refine (HFl.out _ hP2).mono ?_; rintro e' w3 ⟨rfl, hP3, ho3⟩; have HA3 := Lib.hid (ho3.blkX hA2 (Nat.ne_of_gt (show g < w.heap.size from Hgw.out)))
    go_wp2_with (refine wpList_store_row rfl 28 _ _ rfl w.heap.size ZX.toArray rfl rfl 28 _ HA3.out (by kernel_rfl) rfl (by kernel_rfl) ?_)
    exact bodyPost_agg (d := _) rfl rfl (setRow_at HA3.out _) Tryz.underlying28 rfl (by kernel_rfl) rfl (exR_close (S := fun _ => False) (noExS _ _) (by rw [Ht.out]; exact hP3) (ho2.trans ho3) (Nat.le_refl _) Hgw.out id (fun k _ h => h.elim))
  · have hkb : (t.kind != 1) = true := by simpa using hk
    clear hbad hf1; go_wp2
    go_region
    all_goals go_wp2_with fail
    have hbx : Below w1.heap.size w1 (w1.alloc (.cells ([.int .i64 t.kind, .string ⟨t.text.toArray⟩, .int .i64 t.num, .int .i64 t.pos] : List Value).toArray 65)).drew := ((Below.refl _ _).alloc (Nat.le_refl _) _).drew; have hTk := (Blk.new w1 [.int .i64 t.kind, .string ⟨t.text.toArray⟩, .int .i64 t.num, .int .i64 t.pos] 65).drew; refine (HFn.out _).mono ?_; rintro e' w2 ⟨rfl, hb2⟩; have hTk2 := hTk.keep hb2; have hA2 := (HA1.out.keep hbx).keep hb2; have hP2 := (HP.out.keep hbx).keep hb2; have ho2 := (Ho.out.trans (Off.of (g := g) hbx)).trans (Off.of (g := g) hb2); clear c0 c1 c2 c3 c4 f1 f2 f3 f4 e0 e1 e2 e3 hTk hbx hb2; have htlt := hTk2.lt; have d0 := hTk2.cell 0 _ rfl; have d1 := hTk2.cell 1 _ rfl; have d2 := hTk2.cell 2 _ rfl; have d3 := hTk2.cell 3 _ rfl
    go_wp2_with fail
    refine (HFl.out _ hP2).mono ?_; rintro e' w3 ⟨rfl, hP3, ho3⟩; have HA3 := Lib.hid (ho3.blkX hA2 (Nat.ne_of_gt (show g < w.heap.size from Hgw.out)))
    go_wp2_with (refine wpList_store_row rfl 28 _ _ rfl w.heap.size ZX.toArray rfl rfl 28 _ HA3.out (by kernel_rfl) rfl (by kernel_rfl) ?_)
    exact bodyPost_agg (d := _) rfl rfl (setRow_at HA3.out _) Tryz.underlying28 rfl (by kernel_rfl) rfl (exR_close (S := fun _ => False) (noExS _ _) (by rw [Ht.out]; exact hP3) (ho2.trans ho3) (Nat.le_refl _) Hgw.out id (fun k _ h => h.elim))
theorem matsF_keep (L : List Tok) : ∀ (f : Nat) (p : PS) (out : List Mat) (r : List Mat) (p' : PS), matsF L f p out = some (r, p') → PW L p → (∀ x ∈ out, x.small) → PW L p' ∧ (∀ x ∈ r, x.small) ∧ p.i ≤ p'.i
  | 0, p, out, r, p', h, _, _ => by simp [matsF] at h
  | f + 1, p, out, r, p', h, hw, ho => by
    unfold matsF at h
    split at h
    · obtain ⟨k1, k2, k3⟩ := pOne_keep hw
      have hwc := k1.take [44]; have i2 := (PS.take_i L (pOne L p).2 [44]).1; have ho2 : ∀ x ∈ out ++ [(pOne L p).1], x.small := by
        intro x hx; rcases List.mem_append.1 hx with h | h
        · exact ho x h
        · simp only [List.mem_cons, List.not_mem_nil, or_false] at h; subst h; exact k3
      simp only at h
      split at h
      · obtain ⟨a, b, c⟩ := matsF_keep L f _ _ r p' h hwc ho2
        exact ⟨a, b, by omega⟩
      · simp only [Option.some.injEq, Prod.mk.injEq] at h
        obtain ⟨rfl, rfl⟩ := h; exact ⟨hwc, ho2, by omega⟩
    · simp only [Option.some.injEq, Prod.mk.injEq] at h
      obtain ⟨rfl, rfl⟩ := h; exact ⟨hw, ho, Nat.le_refl _⟩
theorem pMatch_keep {L : List Tok} {f : Nat} {p : PS} {r : List Mat} {p' : PS} (h : pMatch L f p = some (r, p')) (hw : PW L p) : PW L p' ∧ (∀ x ∈ r, x.small) ∧ p.i ≤ p'.i := by
  unfold pMatch at h
  have hq := hw.take [123]
  have hc := hq.take [125]
  have i1 := (PS.take_i L p [123]).1
  have i2 := (PS.take_i L (p.take L [123]).2 [125]).1
  simp only at h
  split at h
  · split at h
    · simp only [Option.some.injEq, Prod.mk.injEq] at h
      obtain ⟨rfl, rfl⟩ := h; exact ⟨hc, by simp, by omega⟩
    · obtain ⟨⟨r0, p0⟩, h0, h1⟩ := Option.map_eq_some_iff.1 h
      simp only [Prod.mk.injEq] at h1; obtain ⟨rfl, rfl⟩ := h1; obtain ⟨a, b, c⟩ := matsF_keep L f _ _ _ _ h0 hc (by simp); have := PS.need_i L p0 [125]; exact ⟨a.need [125], b, by omega⟩
  · simp only [Option.some.injEq, Prod.mk.injEq] at h
    obtain ⟨rfl, rfl⟩ := h; exact ⟨hq, by simp, by omega⟩
theorem PW.on {L : List Tok} {q : PS} (hwq : PW L q) (hk : (q.tok L).kind ≠ 5) : PW L { q with i := q.i + 1 } := by
  have := hwq.next hk
  have h1 := hwq.lo; have h2 := hwq.hi
  exact ⟨hwq.ends, hwq.len, this, by simp only; omega, by simp only; omega, hwq.txt, hwq.num⟩
theorem tok_txt {L : List Tok} {q : PS} (hw : PW L q) (k : Int) : (q.token L k).1.text.length ≤ 100000 := by
  unfold PS.token
  split
  · rw [PS.tok_eq hw.at']; exact hw.txt _ (List.getElem_mem _)
  · simp
theorem ownMt_slice {w : World} {base : Nat} {v : Value} {l : List Mat} (h : OwnMt base w v l) : ∃ A c, v = .slice A l.length c := ownsRow_slice h
theorem MatsS.off {S : Nat → Prop} {g : Nat} {w w' : World} {v : Value} {l : List Mat} (h : MatsS S w v l) (ho : Off g w w') (hg : ¬ S g) : MatsS S w' v l := h.go ho.size (fun _ _ h => h) (fun b hb hS => ho.block b hb (fun e => hg (e ▸ hS)))
theorem MatsS.set {S : Nat → Prop} {w : World} {v : Value} {l : List Mat} (h : MatsS S w v l) {k : Nat} (hk : ¬ S k) (i : Nat) (u : Value) : MatsS S (w.setCell ⟨k, i, none⟩ u) v l := h.go (by rw [setCell_size]; exact Nat.le_refl _) (fun _ _ h => h) (fun b hb hS => by
  unfold World.setCell
  show (w.heap.modify k _)[b]? = _
  rw [Array.getElem?_modify]
  exact if_neg (fun e : k = b => hk (e ▸ hS)))
theorem pAtom_winC (g : Nat) (pt : Option Addr) (cap : Nat) (L : List Tok) (f : Nat) (fn : Int) (p q : PS) (e : Ex) (p' : PS) (hc : p.take L [40] = (false, q)) (hk : (q.tok L).kind = 1) (hfn : funcOf (q.tok L).text = some (1, fn)) (hr : pWindow L f fn { q with i := q.i + 1 } = some (e, p')) (hw : PW L p) (w : World) (h : PA g pt cap L p w) :
    Calls Tryz.prog 110 #[.pointer (some ⟨g, 0, none⟩)] w (ExR g pt cap L (fun k => w.heap.size ≤ k) w e p') := by
  have HT := Lib.hid (fun (X : World) (hX : PA g pt cap L p X) => pTake g pt cap L p X hX hw [40])
  have hwq : PW L q := by have := hw.take [40]; rw [hc] at this; exact this
  rw [hc] at HT
  have hwq1 : PW L { q with i := q.i + 1 } := hwq.on (by omega)
  have hi := hwq.at'
  have hlen := hwq.len
  obtain ⟨b, off, rfl, hbg, -⟩ := h.now hw.at'
  have hg := h.1.lt
  have Hgw := Lib.hid hg
  have HFn := Lib.hid (fun (X : World) => pFunc ⟨(q.tok L).text.toArray⟩ X)
  have hfv2 : funcV (funcOf (⟨(q.tok L).text.toArray⟩ : ByteArray).data.toList) = .tuple #[.int .i64 1, .int .i64 fn, .bool true] := by
    show funcV (funcOf (q.tok L).text) = _
    rw [hfn]; rfl
  rw [hfv2] at HFn
  clear hfv2 hfn
  unfold pWindow at hr
  obtain ⟨q1, hq1⟩ : ∃ q1, q1 = ({ q with i := q.i + 1 } : PS) := ⟨_, rfl⟩
  rw [← hq1] at hr hwq1
  obtain ⟨⟨ms, q4⟩, hm, hr1⟩ := Option.map_eq_some_iff.1 hr
  simp only [Prod.mk.injEq] at hr1
  have HN1 := Lib.hid (fun (X : World) (hX : PA g _ cap L q1 X) => pNeed g (some ⟨b, off, none⟩) cap L q1 X hX hwq1 [40])
  have hw2 := hwq1.need [40]
  obtain ⟨q2, hq2⟩ : ∃ q2, q1.need L [40] = q2 := ⟨_, rfl⟩
  rw [hq2] at HN1 hw2 hm hr1
  have HK1 := Lib.hid (fun (X : World) (hX : PA g _ cap L q2 X) => pToken g (some ⟨b, off, none⟩) cap L q2 X hX hw2 1)
  have hw3 := hw2.token 1 (by decide)
  have htx := tok_txt hw2 1
  obtain ⟨tk, htk⟩ : ∃ tk, (q2.token L 1).1 = tk := ⟨_, rfl⟩
  obtain ⟨q3, hq3⟩ : ∃ q3, (q2.token L 1).2 = q3 := ⟨_, rfl⟩
  rw [htk, hq3] at HK1
  rw [hq3] at hw3 hm
  rw [htk] at hr1 htx
  unfold Tok.val at HK1
  have HM := Lib.hid (fun (X : World) (hX : PA g _ cap L q3 X) => pMatchC g (some ⟨b, off, none⟩) cap L f q3 ms q4 hm X hX hw3)
  obtain ⟨hw4, hsm, -⟩ := pMatch_keep hm hw3
  have HN2 := Lib.hid (fun (X : World) (hX : PA g _ cap L q4 X) => pNeed g (some ⟨b, off, none⟩) cap L q4 X hX hw4 [91])
  have hw5 := hw4.need [91]
  obtain ⟨q5, hq5⟩ : ∃ q5, q4.need L [91] = q5 := ⟨_, rfl⟩
  rw [hq5] at HN2 hw5 hr1
  have HK2 := Lib.hid (fun (X : World) (hX : PA g _ cap L q5 X) => pToken g (some ⟨b, off, none⟩) cap L q5 X hX hw5 2)
  have hw6 := hw5.token 2 (by decide)
  obtain ⟨t5, ht5⟩ : ∃ t5, (q5.token L 2).1 = t5 := ⟨_, rfl⟩
  obtain ⟨q6, hq6⟩ : ∃ q6, (q5.token L 2).2 = q6 := ⟨_, rfl⟩
  rw [ht5, hq6] at HK2
  rw [hq6] at hw6 hr1
  rw [ht5] at hr1
  unfold Tok.val at HK2
  have HN3 := Lib.hid (fun (X : World) (hX : PA g _ cap L q6 X) => pNeed g (some ⟨b, off, none⟩) cap L q6 X hX hw6 [93])
  have hw7 := hw6.need [93]
  obtain ⟨q7, hq7⟩ : ∃ q7, q6.need L [93] = q7 := ⟨_, rfl⟩
  rw [hq7] at HN3 hw7 hr1
  have HN4 := Lib.hid (fun (X : World) (hX : PA g _ cap L q7 X) => pNeed g (some ⟨b, off, none⟩) cap L q7 X hX hw7 [41])
  have hft1 := fun wx => fieldTok1 tk.kind tk.num tk.pos ⟨tk.text.toArray⟩ wx
  have hft2 := fun wx => fieldTok2 t5.kind t5.num t5.pos ⟨t5.text.toArray⟩ wx
  obtain ⟨N1, hN1⟩ : ∃ N : ByteArray, (⟨tk.text.toArray⟩ : ByteArray) = N := ⟨_, rfl⟩
  have hNs : N1.size ≤ maxLen := by rw [← hN1]; unfold maxLen; simp [ByteArray.size]; omega
  rw [hN1] at hft1 HK1 hr1
  obtain ⟨he, hp⟩ := hr1
  subst he hp
  have Hsm := Lib.hid hsm; have HNs := Lib.hid hNs
  clear hN1 htk hq3 ht5 hq6 hq2 hq5 hq7 htx hm hr hw2 hw3 hw4 hw5 hw6 hw7 hwq1 hsm hNs hwq hw
  go_enter Tryz.func110, Tryz.ntmps110; (try simp only [List.append_eq, List.cons_append, List.nil_append])
  go_wp2_with fail
  have hA := Blk.new w ZX 28
  refine (HT.out _ (h.keep ((Below.refl _ _).alloc (Nat.le_refl _) _))).mono ?_
  rintro e' w1 ⟨rfl, hP, ho1⟩
  have HA1 := Lib.hid (ho1.blkX hA (Nat.ne_of_gt hg))
  have ho := (Off.of (g := g) ((Below.refl w.heap.size w).alloc (Nat.le_refl _) (.cells ZX.toArray 28))).trans ho1
  clear hA ho1 hg h
  have HP := Lib.hid hP; have Ho := Lib.hid ho; clear ho; obtain ⟨b', off', hpt, -, e0, e1, e2, e3⟩ := hP.now hi; cases hpt; obtain ⟨hb, hl⟩ := hP; clear hl; have hg := hb.lt; have hbw := Nat.lt_trans hbg hg; unfold PC at hb; have c0 := hb.cell 0 _ rfl; have c1 := hb.cell 1 _ rfl; have c2 := hb.cell 2 _ rfl; have c3 := hb.cell 3 _ rfl; have c4 := hb.cell 4 _ rfl; have f1 := hb.free 1; have f2 := hb.free 2; have f3 := hb.free 3; have f4 := hb.free 4; clear hb
  have hlt1 := HA1.out.lt
  obtain ⟨t, ht⟩ : ∃ t, q.tok L = t := ⟨_, rfl⟩
  rw [ht] at e0 e1 e2 e3 hk HFn
  clear ht
  rw [hk] at e0
  clear hk
  go_wp2
  go_region
  all_goals go_wp2_with fail
  have hbx : Below w1.heap.size w1 (w1.alloc (.cells ([.int .i64 1, .string ⟨t.text.toArray⟩, .int .i64 t.num, .int .i64 t.pos] : List Value).toArray 65)).drew := ((Below.refl _ _).alloc (Nat.le_refl _) _).drew
  have hTk := (Blk.new w1 [.int .i64 1, .string ⟨t.text.toArray⟩, .int .i64 t.num, .int .i64 t.pos] 65).drew
  refine (HFn.out _).mono ?_
  rintro e' w2 ⟨rfl, hb2⟩
  have hTk2 := hTk.keep hb2
  have hA2 := (HA1.out.keep hbx).keep hb2
  have hP2 := (HP.out.keep hbx).keep hb2
  have ho2 := (Ho.out.trans (Off.of (g := g) hbx)).trans (Off.of (g := g) hb2)
  clear c0 c1 c2 c3 c4 f1 f2 f3 f4 e0 e1 e2 e3 hTk hbx hb2
  have htlt := hTk2.lt
  have d0 := hTk2.cell 0 _ rfl; have d1 := hTk2.cell 1 _ rfl; have d2 := hTk2.cell 2 _ rfl; have d3 := hTk2.cell 3 _ rfl
  have hg2 := hP2.1.lt
  have hb3 := hP2.1
  unfold PC at hb3
  have c1 := hb3.cell 1 _ rfl
  have f1 := hb3.free 1
  clear hb3
  have HP2 := Lib.hid hP2; have HA2 := Lib.hid hA2; have Ho2 := Lib.hid ho2; clear hP2 hA2 ho2
  have hTk2' := hTk2; clear hTk2'
  go_wp2_with fail
  have hPs : PA g (some ⟨b, off, none⟩) cap L q1 (w2.setCell ⟨g, 1, none⟩ (.int .i64 ((q.i : Int) + 1))) := by rw [hq1]; exact HP2.out.upd hg2 (Off.set w2 1 _) (HP2.out.1.set_ 1 _)
  have hos := Ho2.out.trans (Off.set (g := g) w2 1 (.int .i64 ((q.i : Int) + 1)))
  have hAs := HA2.out.far (p := ⟨g, 1, none⟩) (Nat.ne_of_gt Hgw.out) (.int .i64 ((q.i : Int) + 1))
  have hzs := setCell_size w2 ⟨g, 1, none⟩ (.int .i64 ((q.i : Int) + 1))
  rw [← hzs]
  have hgs : g < (w2.setCell ⟨g, 1, none⟩ (.int .i64 ((q.i : Int) + 1))).heap.size := by rw [hzs]; exact hg2
  clear hzs
  generalize w2.setCell ⟨g, 1, none⟩ (.int .i64 ((q.i : Int) + 1)) = X1 at hPs hos hAs hgs
  have hB8 := Blk.new X1 [.int .i64 1, .int .i64 fn, .int .i64 0, .int .i64 0, .string ⟨#[]⟩, .slice none 0 0, .int .i64 0, .slice none 0 0, .slice none 0 0] 28
  have hbl : Below X1.heap.size X1 (X1.alloc (.cells ([.int .i64 1, .int .i64 fn, .int .i64 0, .int .i64 0, .string ⟨#[]⟩, .slice none 0 0, .int .i64 0, .slice none 0 0, .slice none 0 0] : List Value).toArray 28)) := (Below.refl _ _).alloc (Nat.le_refl _) _
  have hPt := hPs.keep hbl
  have hAt := hAs.keep hbl
  have hot := hos.trans (Off.of (g := g) hbl)
  have hlo1 := hAs.lt
  generalize X1.alloc (.cells ([.int .i64 1, .int .i64 fn, .int .i64 0, .int .i64 0, .string ⟨#[]⟩, .slice none 0 0, .int .i64 0, .slice none 0 0, .slice none 0 0] : List Value).toArray 28) = X2 at hB8 hbl hPt hAt hot
  have hgw := Hgw.out
  clear c1 f1 hTk2 HP2 HA2 Ho2 hbl hPs hAs hos d0 d1 d2 d3
  obtain ⟨B8, hB8e⟩ : ∃ B, X1.heap.size = B := ⟨_, rfl⟩
  rw [hB8e] at hB8 hgs hlo1 ⊢
  clear hB8e htlt hlt1
  refine (HN1.out _ hPt).mono ?_
  rintro e' w3 ⟨rfl, hP3, ho3⟩
  have hA3 := ho3.blkX hAt (Nat.ne_of_gt hgw)
  have hB3 := ho3.blkX hB8 (Nat.ne_of_gt hgs)
  have ho3 := hot.trans ho3
  clear hPt hAt hB8 hot
  go_wp2_with fail
  refine (HK1.out _ hP3).mono ?_
  rintro e' w4 ⟨rfl, hP4, ho4⟩
  have hA4 := ho4.blkX hA3 (Nat.ne_of_gt hgw)
  have hB4 := ho4.blkX hB3 (Nat.ne_of_gt hgs)
  have ho4 := ho3.trans ho4
  clear hP3 hA3 hB3 ho3
  have d4 := hB4.cell 4 _ rfl
  have f4b := hB4.free 4
  have HB4 := Lib.hid hB4; have HA4 := Lib.hid hA4; clear hA4 hB4
  have hlt4 := HB4.out.lt
  go_wp2_with fail
  refine (HM.out _ (hP4.setFar hgs 4 _)).mono ?_
  rintro e' w5 ⟨v, rfl, hown, hP5, ho5⟩
  obtain ⟨A, mc, rfl⟩ := ownMt_slice hown
  have hms5 := hown.matsS Hsm.out
  rw [setCell_size] at hms5
  have hB5 := ho5.blkX (HB4.out.set_ 4 (.string N1)) (Nat.ne_of_gt hgs)
  have hA5 := ho5.blkX (HA4.out.far (p := ⟨B8, 4, none⟩) (Nat.ne_of_lt hlo1) (.string N1)) (Nat.ne_of_gt hgw)
  have ho5 := (ho4.setNew (show w.heap.size ≤ B8 by omega) 4 (.string N1)).trans ho5
  have d5 := hB5.cell 5 _ rfl
  have f5b := hB5.free 5
  have HB5 := Lib.hid hB5; have HA5 := Lib.hid hA5; have HO5 := Lib.hid ho5; have HMS5 := Lib.hid hms5
  clear hB5 hA5 ho5 hms5 hown d4 f4b ho4 hP4
  go_wp2_with fail
  refine (HN2.out _ (hP5.setFar hgs 5 _)).mono ?_
  rintro e' w6 ⟨rfl, hP6, ho6⟩
  have hB6 := ho6.blkX (HB5.out.set_ 5 (.slice A ms.length mc)) (Nat.ne_of_gt hgs)
  have hA6 := ho6.blkX (HA5.out.far (p := ⟨B8, 5, none⟩) (Nat.ne_of_lt hlo1) (.slice A ms.length mc)) (Nat.ne_of_gt hgw)
  have hms6 := (HMS5.out.set (show ¬ w4.heap.size ≤ B8 by omega) 5 (.slice A ms.length mc)).off ho6 (show ¬ w4.heap.size ≤ g by omega)
  have ho6 := (HO5.out.setNew (show w.heap.size ≤ B8 by omega) 5 (.slice A ms.length mc)).trans ho6
  clear d5 f5b hP5 HB5 HA5 HO5 HMS5 HB4 HA4
  go_wp2_with fail
  refine (HK2.out _ hP6).mono ?_
  rintro e' w7 ⟨rfl, hP7, ho7⟩
  have hB7 := ho7.blkX hB6 (Nat.ne_of_gt hgs)
  have hA7 := ho7.blkX hA6 (Nat.ne_of_gt hgw)
  have hms7 := hms6.off ho7 (show ¬ w4.heap.size ≤ g by omega)
  have ho7 := ho6.trans ho7
  have d6 := hB7.cell 6 _ rfl
  have f6b := hB7.free 6
  have HB7 := Lib.hid hB7; have HA7 := Lib.hid hA7; have HO7 := Lib.hid ho7; have HMS7 := Lib.hid hms7
  clear hB6 hA6 hms6 ho6 hB7 hA7 ho7 hms7 hP6
  go_wp2_with fail
  refine (HN3.out _ (hP7.setFar hgs 6 _)).mono ?_
  rintro e' w8 ⟨rfl, hP8, ho8⟩
  have hB8' := ho8.blkX (HB7.out.set_ 6 (.int .i64 t5.num)) (Nat.ne_of_gt hgs)
  have hA8 := ho8.blkX (HA7.out.far (p := ⟨B8, 6, none⟩) (Nat.ne_of_lt hlo1) (.int .i64 t5.num)) (Nat.ne_of_gt hgw)
  have hms8 := (HMS7.out.set (show ¬ w4.heap.size ≤ B8 by omega) 6 (.int .i64 t5.num)).off ho8 (show ¬ w4.heap.size ≤ g by omega)
  have ho8 := (HO7.out.setNew (show w.heap.size ≤ B8 by omega) 6 (.int .i64 t5.num)).trans ho8
  clear d6 f6b hP7 HB7 HA7 HO7 HMS7
  go_wp2_with fail
  refine (HN4.out _ hP8).mono ?_
  rintro e' w9 ⟨rfl, hP9, ho9⟩
  have hB9 := ho9.blkX hB8' (Nat.ne_of_gt hgs)
  have HA9 := Lib.hid (ho9.blkX hA8 (Nat.ne_of_gt hgw))
  have HMS9 := Lib.hid (hms8.off ho9 (show ¬ w4.heap.size ≤ g by omega))
  have HO9 := Lib.hid (ho8.trans ho9)
  clear hB8' hA8 hms8 ho8 ho9
  have d0 := hB9.cell 0 _ rfl; have d1 := hB9.cell 1 _ rfl; have d2 := hB9.cell 2 _ rfl; have d3 := hB9.cell 3 _ rfl; have d4 := hB9.cell 4 _ rfl; have d5 := hB9.cell 5 _ rfl; have d6 := hB9.cell 6 _ rfl; have d7 := hB9.cell 7 _ rfl; have d8 := hB9.cell 8 _ rfl
  clear hB9
  go_wp2_with (refine wpList_store_row rfl 28 _ _ rfl w.heap.size #[.int .i64 1, .int .i64 fn, .int .i64 0, .int .i64 0, .string N1, .slice A ms.length mc, .int .i64 t5.num, .slice none 0 0, .slice none 0 0] rfl rfl 28 _ HA9.out (by kernel_rfl) rfl (by kernel_rfl) ?_)
  exact bodyPost_agg (d := _) rfl rfl (setRow_at HA9.out _) Tryz.underlying28 rfl (by kernel_rfl) rfl (exR_close (S := fun k => w4.heap.size ≤ k) (exS_node HNs.out HMS9.out (noStrsS _ _) (noExsS _ _)) hP9 HO9.out (Nat.le_refl _) hgw (show ¬ w4.heap.size ≤ w.heap.size by omega) (fun k _ h => by have h : w4.heap.size ≤ k := h; show w.heap.size ≤ k; omega))
end Go.Proofs.YtpmbamfpmmdhcaaGreat
namespace Go.Proofs.YtpmbamfpmmdhcaaGreat
open Go.RowKit
set_option linter.unusedSimpArgs false
set_option linter.unusedVariables false
theorem StrsS.off {S : Nat → Prop} {g : Nat} {w w' : World} {v : Value} {l : List ByteArray} (h : StrsS S w v l) (ho : Off g w w') (hg : ¬ S g) : StrsS S w' v l := h.go ho.size (fun _ _ h => h) (fun b hb hS => ho.block b hb (fun e => hg (e ▸ hS)))
theorem setCell_far (w : World) {k b : Nat} (hk : b ≠ k) (i : Nat) (u : Value) : (w.setCell ⟨k, i, none⟩ u).heap[b]? = w.heap[b]? := by
  unfold World.setCell
  show (w.heap.modify k _)[b]? = _
  rw [Array.getElem?_modify]
  exact if_neg (fun e : k = b => hk e.symm)
theorem StrsS.set {S : Nat → Prop} {w : World} {v : Value} {l : List ByteArray} (h : StrsS S w v l) {k : Nat} (hk : ¬ S k) (i : Nat) (u : Value) : StrsS S (w.setCell ⟨k, i, none⟩ u) v l := h.go (by rw [setCell_size]; exact Nat.le_refl _) (fun _ _ h => h) (fun b hb hS => setCell_far w (fun e : b = k => hk (by rw [← e]; exact hS)) i u)
theorem ExS.set {S : Nat → Prop} {w : World} {e : Ex} {cs : List Value} (h : ExS S w e cs) {k : Nat} (hk : ¬ S k) (i : Nat) (u : Value) : ExS S (w.setCell ⟨k, i, none⟩ u) e cs := h.go (by rw [setCell_size]; exact Nat.le_refl _) (fun _ _ h => h) (fun b hb hS => setCell_far w (fun e : b = k => hk (by rw [← e]; exact hS)) i u)
theorem StrsS.below {S : Nat → Prop} {w w' : World} {v : Value} {l : List ByteArray} (h : StrsS S w v l) (hb : Below w.heap.size w w') : StrsS S w' v l := h.go hb.size (fun _ _ h => h) (fun b hb' _ => hb.block b hb')
theorem ExS.below {S : Nat → Prop} {w w' : World} {e : Ex} {cs : List Value} (h : ExS S w e cs) (hb : Below w.heap.size w w') : ExS S w' e cs := h.go hb.size (fun _ _ h => h) (fun b hb' _ => hb.block b hb')
theorem ownN_slice {w : World} {base : Nat} {v : Value} {l : List (List UInt8)} (h : OwnN base w v l) : ∃ A c, v = .slice A l.length c := ownsRow_slice h
theorem pAtom_grpC (g : Nat) (pt : Option Addr) (cap : Nat) (L : List Tok) (f : Nat) (hE : ExprC g pt cap L f) (fn : Int) (p q : PS) (ns : List (List UInt8)) (q3 q5 : PS) (k : Ex) (hc : p.take L [40] = (false, q)) (hk : (q.tok L).kind = 1) (hfn : funcOf (q.tok L).text = some (2, fn))
    (hn : pNames L f (PS.need L { q with i := q.i + 1 } [98, 121]) = some (ns, q3)) (hx : pExpr L f (q3.need L [40]) = some (k, q5)) (hwx : PW L q5) (hw : PW L p) (w : World) (h : PA g pt cap L p w) :
    Calls Tryz.prog 110 #[.pointer (some ⟨g, 0, none⟩)] w (ExR g pt cap L (fun k => w.heap.size ≤ k) w (.mk 2 fn 0 0 ⟨#[]⟩ [] 0 (ns.map baOf) [k]) (q5.need L [41])) := by
  have HT := Lib.hid (fun (X : World) (hX : PA g pt cap L p X) => pTake g pt cap L p X hX hw [40])
  have hwq : PW L q := by have := hw.take [40]; rw [hc] at this; exact this
  rw [hc] at HT
  have hwq1 : PW L { q with i := q.i + 1 } := hwq.on (by omega)
  have hi := hwq.at'
  have hlen := hwq.len
  obtain ⟨b, off, rfl, hbg, -⟩ := h.now hw.at'
  have hg := h.1.lt
  have Hgw := Lib.hid hg
  have HFn := Lib.hid (fun (X : World) => pFunc ⟨(q.tok L).text.toArray⟩ X)
  have hfv2 : funcV (funcOf (⟨(q.tok L).text.toArray⟩ : ByteArray).data.toList) = .tuple #[.int .i64 2, .int .i64 fn, .bool true] := by
    show funcV (funcOf (q.tok L).text) = _
    rw [hfn]; rfl
  rw [hfv2] at HFn
  clear hfv2 hfn
  obtain ⟨q1, hq1⟩ : ∃ q1, q1 = ({ q with i := q.i + 1 } : PS) := ⟨_, rfl⟩
  rw [← hq1] at hn hwq1
  have HN1 := Lib.hid (fun (X : World) (hX : PA g _ cap L q1 X) => pNeed g (some ⟨b, off, none⟩) cap L q1 X hX hwq1 [98, 121])
  have hw2 := hwq1.need [98, 121]
  obtain ⟨q2, hq2⟩ : ∃ q2, q1.need L [98, 121] = q2 := ⟨_, rfl⟩
  rw [hq2] at HN1 hw2 hn
  have HM := Lib.hid (fun (X : World) (hX : PA g _ cap L q2 X) => pNamesC g (some ⟨b, off, none⟩) cap L f q2 ns q3 hn X hX hw2)
  obtain ⟨hw3, hsm, -⟩ := pNames_keep hn hw2
  have HN2 := Lib.hid (fun (X : World) (hX : PA g _ cap L q3 X) => pNeed g (some ⟨b, off, none⟩) cap L q3 X hX hw3 [40])
  have hw4 := hw3.need [40]
  have HE := Lib.hid (fun (X : World) (hX : PA g _ cap L (q3.need L [40]) X) => hE _ _ _ hx hw4 X hX)
  have HN4 := Lib.hid (fun (X : World) (hX : PA g _ cap L q5 X) => pNeed g (some ⟨b, off, none⟩) cap L q5 X hX hwx [41])
  have Hsm := Lib.hid hsm
  clear hq2 hn hx hw2 hw3 hw4 hwq1 hsm hwq hw hwx hE
  go_enter Tryz.func110, Tryz.ntmps110; (try simp only [List.append_eq, List.cons_append, List.nil_append])
  go_wp2_with fail
  have hA := Blk.new w ZX 28
  refine (HT.out _ (h.keep ((Below.refl _ _).alloc (Nat.le_refl _) _))).mono ?_
  rintro e' w1 ⟨rfl, hP, ho1⟩
  have HA1 := Lib.hid (ho1.blkX hA (Nat.ne_of_gt hg))
  have ho := (Off.of (g := g) ((Below.refl w.heap.size w).alloc (Nat.le_refl _) (.cells ZX.toArray 28))).trans ho1
  clear hA ho1 hg h
  have HP := Lib.hid hP; have Ho := Lib.hid ho; clear ho; obtain ⟨b', off', hpt, -, e0, e1, e2, e3⟩ := hP.now hi; cases hpt; obtain ⟨hb, hl⟩ := hP; clear hl; have hg := hb.lt; have hbw := Nat.lt_trans hbg hg; unfold PC at hb; have c0 := hb.cell 0 _ rfl; have c1 := hb.cell 1 _ rfl; have c2 := hb.cell 2 _ rfl; have c3 := hb.cell 3 _ rfl; have c4 := hb.cell 4 _ rfl; have f1 := hb.free 1; have f2 := hb.free 2; have f3 := hb.free 3; have f4 := hb.free 4; clear hb
  have hlt1 := HA1.out.lt
  obtain ⟨t, ht⟩ : ∃ t, q.tok L = t := ⟨_, rfl⟩
  rw [ht] at e0 e1 e2 e3 hk HFn
  clear ht
  rw [hk] at e0
  clear hk
  go_wp2
  go_region
  all_goals go_wp2_with fail
  have hbx : Below w1.heap.size w1 (w1.alloc (.cells ([.int .i64 1, .string ⟨t.text.toArray⟩, .int .i64 t.num, .int .i64 t.pos] : List Value).toArray 65)).drew := ((Below.refl _ _).alloc (Nat.le_refl _) _).drew
  have hTk := (Blk.new w1 [.int .i64 1, .string ⟨t.text.toArray⟩, .int .i64 t.num, .int .i64 t.pos] 65).drew
  refine (HFn.out _).mono ?_
  rintro e' w2 ⟨rfl, hb2⟩
  have hTk2 := hTk.keep hb2
  have hA2 := (HA1.out.keep hbx).keep hb2
  have hP2 := (HP.out.keep hbx).keep hb2
  have ho2 := (Ho.out.trans (Off.of (g := g) hbx)).trans (Off.of (g := g) hb2)
  clear c0 c1 c2 c3 c4 f1 f2 f3 f4 e0 e1 e2 e3 hTk hbx hb2
  have htlt := hTk2.lt
  have d0 := hTk2.cell 0 _ rfl; have d1 := hTk2.cell 1 _ rfl; have d2 := hTk2.cell 2 _ rfl; have d3 := hTk2.cell 3 _ rfl
  have hg2 := hP2.1.lt
  have hb3 := hP2.1
  unfold PC at hb3
  have c1 := hb3.cell 1 _ rfl
  have f1 := hb3.free 1
  clear hb3
  have HP2 := Lib.hid hP2; have HA2 := Lib.hid hA2; have Ho2 := Lib.hid ho2; clear hP2 hA2 ho2
  have hTk2' := hTk2; clear hTk2'
  go_wp2_with fail
  have hPs : PA g (some ⟨b, off, none⟩) cap L q1 (w2.setCell ⟨g, 1, none⟩ (.int .i64 ((q.i : Int) + 1))) := by rw [hq1]; exact HP2.out.upd hg2 (Off.set w2 1 _) (HP2.out.1.set_ 1 _)
  have hos := Ho2.out.trans (Off.set (g := g) w2 1 (.int .i64 ((q.i : Int) + 1)))
  have hAs := HA2.out.far (p := ⟨g, 1, none⟩) (Nat.ne_of_gt Hgw.out) (.int .i64 ((q.i : Int) + 1))
  have hzs := setCell_size w2 ⟨g, 1, none⟩ (.int .i64 ((q.i : Int) + 1))
  rw [← hzs]
  have hgs : g < (w2.setCell ⟨g, 1, none⟩ (.int .i64 ((q.i : Int) + 1))).heap.size := by rw [hzs]; exact hg2
  clear hzs
  generalize w2.setCell ⟨g, 1, none⟩ (.int .i64 ((q.i : Int) + 1)) = X1 at hPs hos hAs hgs
  have hB8 := Blk.new X1 [.int .i64 2, .int .i64 fn, .int .i64 0, .int .i64 0, .string ⟨#[]⟩, .slice none 0 0, .int .i64 0, .slice none 0 0, .slice none 0 0] 28
  have hbl : Below X1.heap.size X1 (X1.alloc (.cells ([.int .i64 2, .int .i64 fn, .int .i64 0, .int .i64 0, .string ⟨#[]⟩, .slice none 0 0, .int .i64 0, .slice none 0 0, .slice none 0 0] : List Value).toArray 28)) := (Below.refl _ _).alloc (Nat.le_refl _) _
  have hPt := hPs.keep hbl
  have hAt := hAs.keep hbl
  have hot := hos.trans (Off.of (g := g) hbl)
  have hlo1 := hAs.lt
  generalize X1.alloc (.cells ([.int .i64 2, .int .i64 fn, .int .i64 0, .int .i64 0, .string ⟨#[]⟩, .slice none 0 0, .int .i64 0, .slice none 0 0, .slice none 0 0] : List Value).toArray 28) = X2 at hB8 hbl hPt hAt hot
  have hgw := Hgw.out
  clear c1 f1 hTk2 HP2 HA2 Ho2 hbl hPs hAs hos d0 d1 d2 d3
  obtain ⟨B8, hB8e⟩ : ∃ B, X1.heap.size = B := ⟨_, rfl⟩
  rw [hB8e] at hB8 hgs hlo1 ⊢
  clear hB8e htlt hlt1
  refine (HN1.out _ hPt).mono ?_
  rintro e' w3 ⟨rfl, hP3, ho3⟩
  have hA3 := ho3.blkX hAt (Nat.ne_of_gt hgw)
  have hB3 := ho3.blkX hB8 (Nat.ne_of_gt hgs)
  have ho3 := hot.trans ho3
  have hlt3 := hB3.lt
  clear hPt hAt hB8 hot
  go_wp2_with fail
  refine (HM.out _ hP3).mono ?_
  rintro e' w4 ⟨v, rfl, hown, hP4, ho4⟩
  obtain ⟨A, mc, rfl⟩ := ownN_slice hown
  have hms4 := hown.strsS Hsm.out
  have hA4 := ho4.blkX hA3 (Nat.ne_of_gt hgw)
  have hB4 := ho4.blkX hB3 (Nat.ne_of_gt hgs)
  have hsz34 := ho4.size
  have ho4 := ho3.trans ho4
  have d7 := hB4.cell 7 _ rfl
  have f7b := hB4.free 7
  have HB4 := Lib.hid hB4; have HA4 := Lib.hid hA4; have HO4 := Lib.hid ho4; have HMS4 := Lib.hid hms4
  clear hP3 hA3 hB3 ho3 hA4 hB4 ho4 hms4 hown
  go_wp2_with fail
  refine (HN2.out _ (hP4.setFar hgs 7 _)).mono ?_
  rintro e' w6 ⟨rfl, hP6, ho6⟩
  have hB6 := ho6.blkX (HB4.out.set_ 7 (.slice A ns.length mc)) (Nat.ne_of_gt hgs)
  have hA6 := ho6.blkX (HA4.out.far (p := ⟨B8, 7, none⟩) (Nat.ne_of_lt hlo1) (.slice A ns.length mc)) (Nat.ne_of_gt hgw)
  have hms6 := (HMS4.out.set (show ¬ w3.heap.size ≤ B8 by omega) 7 (.slice A ns.length mc)).off ho6 (show ¬ w3.heap.size ≤ g by omega)
  have hsz46 : w4.heap.size ≤ w6.heap.size := by have := ho6.size; rw [setCell_size] at this; exact this
  have ho6 := (HO4.out.setNew (show w.heap.size ≤ B8 by omega) 7 (.slice A ns.length mc)).trans ho6
  clear d7 f7b hP4 HB4 HA4 HO4 HMS4
  go_wp2_with fail
  refine (HE.out _ hP6).mono ?_
  rintro e' w7 ⟨cs, rfl, hx7, hP7, ho7⟩
  have hB7 := ho7.blkX hB6 (Nat.ne_of_gt hgs)
  have hA7 := ho7.blkX hA6 (Nat.ne_of_gt hgw)
  have hms7 := hms6.off ho7 (show ¬ w3.heap.size ≤ g by omega)
  have hsz67 := ho7.size
  have ho7 := ho6.trans ho7
  obtain ⟨pm, cm, pn, cn, pk, ck, rfl, -⟩ := IsEx.cellsE hx7
  have hbl : Below w7.heap.size w7 (w7.alloc (.cells ([.int .i64 k.kind, .int .i64 k.fn, .int .i64 k.op, .int .i64 k.num, .string k.metric, .slice pm k.mats.length cm, .int .i64 k.span, .slice pn k.names.length cn, .slice pk k.kids.length ck] : List Value).toArray 28)) := (Below.refl _ _).alloc (Nat.le_refl _) _
  have hKb := Blk.new w7 [.int .i64 k.kind, .int .i64 k.fn, .int .i64 k.op, .int .i64 k.num, .string k.metric, .slice pm k.mats.length cm, .int .i64 k.span, .slice pn k.names.length cn, .slice pk k.kids.length ck] 28
  have hBx := hB7.keep hbl
  have d8 := hBx.cell 8 _ rfl
  have f8b := hBx.free 8
  have HBx := Lib.hid hBx
  have HAx := Lib.hid (hA7.keep hbl)
  have HMSx := Lib.hid (hms7.below hbl)
  have HXx := Lib.hid (hx7.below hbl)
  have HPx := Lib.hid (hP7.keep hbl)
  have HOx := Lib.hid (ho7.trans (Off.of (g := g) hbl))
  have HKb := Lib.hid hKb
  have hd8 := HBx.out.lt
  have hlt7 := hB7.lt
  have hzx : (w7.alloc (.cells ([.int .i64 k.kind, .int .i64 k.fn, .int .i64 k.op, .int .i64 k.num, .string k.metric, .slice pm k.mats.length cm, .int .i64 k.span, .slice pn k.names.length cn, .slice pk k.kids.length ck] : List Value).toArray 28)).heap.size = w7.heap.size + 1 := World.size_alloc _ _
  clear hB6 hA6 hms6 ho6 hP6 hB7 hA7 hms7 ho7 hP7 hx7 hKb hBx hbl
  generalize hXe : w7.alloc (.cells ([.int .i64 k.kind, .int .i64 k.fn, .int .i64 k.op, .int .i64 k.num, .string k.metric, .slice pm k.mats.length cm, .int .i64 k.span, .slice pn k.names.length cn, .slice pk k.kids.length ck] : List Value).toArray 28) = X at d8 f8b HBx HAx HMSx HXx HPx HOx HKb hd8 hzx
  go_wp2_with fail
  refine (HN4.out _ (HPx.out.setFar hgs 8 _)).mono ?_
  rintro e' w9 ⟨rfl, hP9, ho9⟩
  have hB9 := ho9.blkX (HBx.out.set_ 8 (.slice (some ⟨w7.heap.size, 0, none⟩) 1 1)) (Nat.ne_of_gt hgs)
  have HA9 := Lib.hid (ho9.blkX (HAx.out.far (p := ⟨B8, 8, none⟩) (Nat.ne_of_lt hlo1) (.slice (some ⟨w7.heap.size, 0, none⟩) 1 1)) (Nat.ne_of_gt hgw))
  have HMS9 := Lib.hid ((HMSx.out.set (show ¬ w3.heap.size ≤ B8 by omega) 8 (.slice (some ⟨w7.heap.size, 0, none⟩) 1 1)).off ho9 (show ¬ w3.heap.size ≤ g by omega))
  have HX9 := Lib.hid ((HXx.out.set (show ¬ w6.heap.size ≤ B8 by omega) 8 (.slice (some ⟨w7.heap.size, 0, none⟩) 1 1)).off ho9 (show ¬ w6.heap.size ≤ g by omega))
  have HK9 := Lib.hid (ho9.blkX (HKb.out.far (p := ⟨B8, 8, none⟩) (show w7.heap.size ≠ B8 by omega) (.slice (some ⟨w7.heap.size, 0, none⟩) 1 1)) (show w7.heap.size ≠ g by omega))
  have HO9 := Lib.hid ((HOx.out.setNew (show w.heap.size ≤ B8 by omega) 8 (.slice (some ⟨w7.heap.size, 0, none⟩) 1 1)).trans ho9)
  clear ho9 d8 f8b
  have d0 := hB9.cell 0 _ rfl; have d1 := hB9.cell 1 _ rfl; have d2 := hB9.cell 2 _ rfl; have d3 := hB9.cell 3 _ rfl; have d4 := hB9.cell 4 _ rfl; have d5 := hB9.cell 5 _ rfl; have d6 := hB9.cell 6 _ rfl; have d7 := hB9.cell 7 _ rfl; have d8 := hB9.cell 8 _ rfl
  clear hB9
  go_wp2_with (refine wpList_store_row rfl 28 _ _ rfl w.heap.size #[.int .i64 2, .int .i64 fn, .int .i64 0, .int .i64 0, .string ⟨#[]⟩, .slice none 0 0, .int .i64 0, .slice A ns.length mc, .slice (some ⟨w7.heap.size, 0, none⟩) 1 1] rfl rfl 28 _ HA9.out (by kernel_rfl) rfl (by kernel_rfl) ?_)
  exact bodyPost_agg (d := _) rfl rfl (setRow_at HA9.out _) Tryz.underlying28 rfl (by kernel_rfl) rfl (exR_close (S := fun k => w3.heap.size ≤ k) (exS_node (by decide) (noMatsS _ _) HMS9.out (exsS1 HK9.out (show w3.heap.size ≤ w7.heap.size by omega) (HX9.out.go (Nat.le_refl _) (fun k _ h => by have h : w6.heap.size ≤ k := h; show w3.heap.size ≤ k; omega) (fun _ _ _ => rfl)))) hP9 HO9.out (Nat.le_refl _) hgw (show ¬ w3.heap.size ≤ w.heap.size by omega) (fun k _ h => by have h : w3.heap.size ≤ k := h; show w.heap.size ≤ k; omega))
end Go.Proofs.YtpmbamfpmmdhcaaGreat
namespace Go.Proofs.YtpmbamfpmmdhcaaGreat
open Go.RowKit
set_option linter.unusedSimpArgs false
set_option linter.unusedVariables false
theorem pStep_numC (g : Nat) (pt : Option Addr) (cap : Nat) (L : List Tok) (op : Int) (x : Ex) (deep : Bool) (p : PS) (h0 : p.err = 0) (hk : (p.tok L).kind = 2) (hw : PW L p) (S : Nat → Prop) (cs : List Value) (w : World) (hSg : ¬ S g) (h : PA g pt cap L p w) (hx : ExS S w x cs) :
    Calls Tryz.prog 99 #[.pointer (some ⟨g, 0, none⟩), .int .i64 op, .agg cs.toArray, .bool deep] w (ExR g pt cap L (fun k => S k ∨ w.heap.size ≤ k) w (.mk 4 0 op (p.tok L).num ⟨#[]⟩ [] 0 [] [x]) { p with i := p.i + 1 }) := by
  have hi := hw.at'
  have hlen := hw.len
  obtain ⟨pm, cm, pn, cn, pk, ck, rfl, -⟩ := IsEx.cellsE hx
  obtain ⟨b, off, rfl, hbg, -⟩ := h.now hw.at'
  have hg := h.1.lt
  have hP := h
  have ho := Off.refl g w
  clear h
  have HP := Lib.hid hP; have Ho := Lib.hid ho; clear ho; obtain ⟨b', off', hpt, -, e0, e1, e2, e3⟩ := hP.now hi; cases hpt; obtain ⟨hb, hl⟩ := hP; clear hl; have hg := hb.lt; have hbw := Nat.lt_trans hbg hg; unfold PC at hb; have c0 := hb.cell 0 _ rfl; have c1 := hb.cell 1 _ rfl; have c2 := hb.cell 2 _ rfl; have c3 := hb.cell 3 _ rfl; have c4 := hb.cell 4 _ rfl; have f1 := hb.free 1; have f2 := hb.free 2; have f3 := hb.free 3; have f4 := hb.free 4; clear hb
  obtain ⟨t, ht⟩ : ∃ t, p.tok L = t := ⟨_, rfl⟩
  rw [ht] at e0 e1 e2 e3 hk ⊢
  clear ht
  rw [hk] at e0
  rw [h0] at c2
  have Hx := Lib.hid (hx.go (S' := fun k => S k ∧ k < w.heap.size) (Nat.le_refl _) (fun b hb h => ⟨h, hb⟩) (fun _ _ _ => rfl)); clear hx
  have e2r := e2
  go_enter Tryz.func99, Tryz.ntmps99; (try simp only [List.append_eq, List.cons_append, List.nil_append])
  go_wp2
  go_quiet (fail)
  go_wp2
  have hXb := (two_at w [.int .i64 x.kind, .int .i64 x.fn, .int .i64 x.op, .int .i64 x.num, .string x.metric, .slice pm x.mats.length cm, .int .i64 x.span, .slice pn x.names.length cn, .slice pk x.kids.length ck] ZX 28 28).drewN nq
  have hRb := (two_at' w (.cells ([.int .i64 x.kind, .int .i64 x.fn, .int .i64 x.op, .int .i64 x.num, .string x.metric, .slice pm x.mats.length cm, .int .i64 x.span, .slice pn x.names.length cn, .slice pk x.kids.length ck] : List Value).toArray 28) ZX 28).drewN nq
  have hbl := below_drewN (two_below w (.cells ([.int .i64 x.kind, .int .i64 x.fn, .int .i64 x.op, .int .i64 x.num, .string x.metric, .slice pm x.mats.length cm, .int .i64 x.span, .slice pn x.names.length cn, .slice pk x.kids.length ck] : List Value).toArray 28) (.cells ZX.toArray 28)) nq
  have hPY := HP.out.keep hbl
  have hxY := Hx.out.below hbl
  have hoY := Off.of (g := g) hbl
  have hgY := hPY.1.lt
  have hPX := hPY.upd (q := { p with i := p.i + 1 }) hgY (Off.set _ 1 (.int .i64 ((p.i : Int) + 1))) (hPY.1.set_ 1 (.int .i64 ((p.i : Int) + 1)))
  have hXX := hXb.far (p := ⟨g, 1, none⟩) (Nat.ne_of_gt hg) (.int .i64 ((p.i : Int) + 1))
  have hRX := hRb.far (p := ⟨g, 1, none⟩) (show w.heap.size + 1 ≠ g by omega) (.int .i64 ((p.i : Int) + 1))
  have hxX := hxY.set (k := g) (fun h => hSg h.1) 1 (.int .i64 ((p.i : Int) + 1))
  have hoX := hoY.trans (Off.set (g := g) _ 1 (.int .i64 ((p.i : Int) + 1)))
  have e2X := (hoX.cell (a := ⟨b, off + p.i * 4 + 2, none⟩) hbw (Nat.ne_of_lt hbg)).trans e2
  clear hXb hRb hbl hPY hxY hoY hgY c0 c1 c2 c3 c4 f1 f2 f3 f4 e0 e1 e2 e3 e2r
  generalize ((((w.alloc (.cells ([.int .i64 x.kind, .int .i64 x.fn, .int .i64 x.op, .int .i64 x.num, .string x.metric, .slice pm x.mats.length cm, .int .i64 x.span, .slice pn x.names.length cn, .slice pk x.kids.length ck] : List Value).toArray 28)).alloc (.cells ZX.toArray 28)).drewN nq).setCell ⟨g, 1, none⟩ (.int .i64 ((p.i : Int) + 1))) = X at hPX hXX hRX hxX hoX e2X
  have hbX := hPX.1
  unfold PC at hbX
  have c0 := hbX.cell 0 _ rfl
  have c1 : X.cell? ⟨g, 1, none⟩ = some (.int .i64 ((p.i : Int) + 1)) := hbX.cell 1 _ rfl
  clear hbX
  have x0 := hXX.cell 0 _ rfl; have x1 := hXX.cell 1 _ rfl; have x2 := hXX.cell 2 _ rfl; have x3 := hXX.cell 3 _ rfl; have x4 := hXX.cell 4 _ rfl; have x5 := hXX.cell 5 _ rfl; have x6 := hXX.cell 6 _ rfl; have x7 := hXX.cell 7 _ rfl; have x8 := hXX.cell 8 _ rfl
  have r0 := hRX.cell 0 _ rfl; have r1 := hRX.cell 1 _ rfl; have r2 := hRX.cell 2 _ rfl; have r3 := hRX.cell 3 _ rfl; have r4 := hRX.cell 4 _ rfl; have r5 := hRX.cell 5 _ rfl; have r6 := hRX.cell 6 _ rfl; have r7 := hRX.cell 7 _ rfl; have r8 := hRX.cell 8 _ rfl
  have hgX := hPX.1.lt
  have hwX := hXX.lt
  have hwX1 := hRX.lt
  have hbX2 : b < X.heap.size := Nat.lt_trans hbg hgX
  have s0 := hRX.free 0; have s1 := hRX.free 1; have s2 := hRX.free 2; have s3 := hRX.free 3; have s4 := hRX.free 4; have s5 := hRX.free 5; have s6 := hRX.free 6; have s7 := hRX.free 7; have s8 := hRX.free 8
  have HPX := Lib.hid hPX; have HXX := Lib.hid hXX; have HRX := Lib.hid hRX; have HxX := Lib.hid hxX; have HoX := Lib.hid hoX
  clear hPX hXX hRX hxX hoX
  go_region
  all_goals go_wp2
  have hgr : g < w.heap.size + 1 := by omega
  have hnr : ¬ (S (w.heap.size + 1) ∧ w.heap.size + 1 < w.heap.size) := fun h => by have := h.2; omega
  have hlr : w.heap.size ≤ w.heap.size + 1 := by omega
  have hZr := (((((((((HRX.out.set_ 0 (.int .i64 4)).set_ 1 (.int .i64 0)).set_ 2 (.int .i64 op)).set_ 3 (.int .i64 t.num)).set_ 4 (.string ⟨#[]⟩)).set_ 5 (.slice none 0 0)).set_ 6 (.int .i64 0)).set_ 7 (.slice none 0 0)).set_ 8 (.slice (some ⟨X.heap.size, 0, none⟩) 1 1))
  have hZp := (((((((((HPX.out.setFar hgr 0 (.int .i64 4)).setFar hgr 1 (.int .i64 0)).setFar hgr 2 (.int .i64 op)).setFar hgr 3 (.int .i64 t.num)).setFar hgr 4 (.string ⟨#[]⟩)).setFar hgr 5 (.slice none 0 0)).setFar hgr 6 (.int .i64 0)).setFar hgr 7 (.slice none 0 0)).setFar hgr 8 (.slice (some ⟨X.heap.size, 0, none⟩) 1 1))
  have hZx := (((((((((HxX.out.set hnr 0 (.int .i64 4)).set hnr 1 (.int .i64 0)).set hnr 2 (.int .i64 op)).set hnr 3 (.int .i64 t.num)).set hnr 4 (.string ⟨#[]⟩)).set hnr 5 (.slice none 0 0)).set hnr 6 (.int .i64 0)).set hnr 7 (.slice none 0 0)).set hnr 8 (.slice (some ⟨X.heap.size, 0, none⟩) 1 1))
  have hZo := (((((((((HoX.out.setNew hlr 0 (.int .i64 4)).setNew hlr 1 (.int .i64 0)).setNew hlr 2 (.int .i64 op)).setNew hlr 3 (.int .i64 t.num)).setNew hlr 4 (.string ⟨#[]⟩)).setNew hlr 5 (.slice none 0 0)).setNew hlr 6 (.int .i64 0)).setNew hlr 7 (.slice none 0 0)).setNew hlr 8 (.slice (some ⟨X.heap.size, 0, none⟩) 1 1))
  have hzs : (((((((((X.setCell ⟨w.heap.size + 1, 0, none⟩ (.int .i64 4)).setCell ⟨w.heap.size + 1, 1, none⟩ (.int .i64 0)).setCell ⟨w.heap.size + 1, 2, none⟩ (.int .i64 op)).setCell ⟨w.heap.size + 1, 3, none⟩ (.int .i64 t.num)).setCell ⟨w.heap.size + 1, 4, none⟩ (.string ⟨#[]⟩)).setCell ⟨w.heap.size + 1, 5, none⟩ (.slice none 0 0)).setCell ⟨w.heap.size + 1, 6, none⟩ (.int .i64 0)).setCell ⟨w.heap.size + 1, 7, none⟩ (.slice none 0 0)).setCell ⟨w.heap.size + 1, 8, none⟩ (.slice (some ⟨X.heap.size, 0, none⟩) 1 1)).heap.size = X.heap.size := by simp only [setCell_size]
  generalize (((((((((X.setCell ⟨w.heap.size + 1, 0, none⟩ (.int .i64 4)).setCell ⟨w.heap.size + 1, 1, none⟩ (.int .i64 0)).setCell ⟨w.heap.size + 1, 2, none⟩ (.int .i64 op)).setCell ⟨w.heap.size + 1, 3, none⟩ (.int .i64 t.num)).setCell ⟨w.heap.size + 1, 4, none⟩ (.string ⟨#[]⟩)).setCell ⟨w.heap.size + 1, 5, none⟩ (.slice none 0 0)).setCell ⟨w.heap.size + 1, 6, none⟩ (.int .i64 0)).setCell ⟨w.heap.size + 1, 7, none⟩ (.slice none 0 0)).setCell ⟨w.heap.size + 1, 8, none⟩ (.slice (some ⟨X.heap.size, 0, none⟩) 1 1)) = Z at hZr hZp hZx hZo hzs
  have hKb := (Blk.new Z [.int .i64 x.kind, .int .i64 x.fn, .int .i64 x.op, .int .i64 x.num, .string x.metric, .slice pm x.mats.length cm, .int .i64 x.span, .slice pn x.names.length cn, .slice pk x.kids.length ck] 28).drew
  have hbz : Below Z.heap.size Z (Z.alloc (.cells ([.int .i64 x.kind, .int .i64 x.fn, .int .i64 x.op, .int .i64 x.num, .string x.metric, .slice pm x.mats.length cm, .int .i64 x.span, .slice pn x.names.length cn, .slice pk x.kids.length ck] : List Value).toArray 28)).drew := ((Below.refl _ _).alloc (Nat.le_refl _) _).drew
  have hRf := hZr.keep hbz
  have hxf := hZx.below hbz
  have hPf := hZp.keep hbz
  have hof := hZo.trans (Off.of (g := g) hbz)
  rw [hzs] at hKb
  refine bodyPost_agg (d := _) rfl rfl hRf Tryz.underlying28 rfl (by kernel_rfl) rfl ⟨_, rfl, exS_node (by decide) (noMatsS _ _) (noStrsS _ _) (exsS1 hKb (Or.inr (show w.heap.size ≤ X.heap.size by omega)) (hxf.go (Nat.le_refl _) (fun k _ h => Or.inl h.1) (fun _ _ _ => rfl))), hPf, hof⟩
end Go.Proofs.YtpmbamfpmmdhcaaGreat
