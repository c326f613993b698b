/- Keep of both sides. -/
import Derived.Test.YtdmojmadklckbaaGr10
namespace Go.Proofs.Ytdmojmadklckbaa
open Go.RowKit
set_option linter.unusedSimpArgs false
set_option linter.unusedVariables false

/-- A slice of queries. -/
def IsQs (n : Nat) (w : World) (v : Value) (l : List (Int × Ex)) : Prop :=
  ∃ rows : List (List Value), Arr n w v 10 rows ∧ rows.length = l.length ∧ ∀ (k : Nat) (r : List Value) (q : Int × Ex), rows[k]? = some r → l[k]? = some q → ∃ cs, r = .int .i64 q.1 :: cs ∧ IsEx n w q.2 cs
theorem IsQs.mono {n m : Nat} {w w' : World} {v : Value} {l : List (Int × Ex)} (h : IsQs n w v l) (hb : Below n w w') (hm : n ≤ m) : IsQs m w' v l := by
  obtain ⟨rows, h1, h2, h3⟩ := h
  exact ⟨rows, h1.mono hb hm, h2, fun k r q hr hq => by obtain ⟨cs, e, he⟩ := h3 k r q hr hq; exact ⟨cs, e, he.mono hb hm⟩⟩
theorem IsQs.open {n : Nat} {w : World} {v : Value} {l : List (Int × Ex)} (h : IsQs n w v l) : ∃ p cap, v = .slice p l.length cap ∧ l.length ≤ cap ∧ cap ≤ maxLen ∧ l.length ≤ maxLen := by
  obtain ⟨rows, ⟨p, cap, hv, h1, h2, _⟩, h3, _⟩ := h
  rw [h3] at hv h1
  exact ⟨p, cap, hv, h1, h2, by omega⟩
theorem IsQs.nil (n : Nat) (w : World) : IsQs n w (.slice none 0 0) [] := ⟨[], Arr.nil _ _ _, rfl, fun k r q hr _ => by simp at hr⟩
theorem IsQs.get {n : Nat} {w : World} {p : Option Addr} {len cap : Nat} {l : List (Int × Ex)} (h : IsQs n w (.slice p len cap) l) {k : Nat} (hk : k < l.length) :
    ∃ b off pm cm pn cn pk ck, p = some ⟨b, off, none⟩ ∧ b < n ∧ IsEx n w l[k].2 [.int .i64 l[k].2.kind, .int .i64 l[k].2.fn, .int .i64 l[k].2.op, .int .i64 l[k].2.num, .string l[k].2.metric, .slice pm l[k].2.mats.length cm, .int .i64 l[k].2.span, .slice pn l[k].2.names.length cn, .slice pk l[k].2.kids.length ck] ∧
      w.cell? ⟨b, off + k * 10, none⟩ = some (.int .i64 l[k].1) ∧ w.cell? ⟨b, off + k * 10 + 1, none⟩ = some (.int .i64 l[k].2.kind) ∧ w.cell? ⟨b, off + k * 10 + 2, none⟩ = some (.int .i64 l[k].2.fn) ∧ w.cell? ⟨b, off + k * 10 + 3, none⟩ = some (.int .i64 l[k].2.op) ∧ w.cell? ⟨b, off + k * 10 + 4, none⟩ = some (.int .i64 l[k].2.num) ∧ w.cell? ⟨b, off + k * 10 + 5, none⟩ = some (.string l[k].2.metric) ∧ w.cell? ⟨b, off + k * 10 + 6, none⟩ = some (.slice pm l[k].2.mats.length cm) ∧ w.cell? ⟨b, off + k * 10 + 7, none⟩ = some (.int .i64 l[k].2.span) ∧ w.cell? ⟨b, off + k * 10 + 8, none⟩ = some (.slice pn l[k].2.names.length cn) ∧ w.cell? ⟨b, off + k * 10 + 9, none⟩ = some (.slice pk l[k].2.kids.length ck) := by
  obtain ⟨rows, h1, h2, h3⟩ := h
  obtain ⟨cs, hr, he⟩ := h3 k (rows[k]'(by omega)) l[k] (by simp) (by simp)
  obtain ⟨pm, cm, pn, cn, pk, ck, rfl, -⟩ := he.cellsE
  obtain ⟨b, off, hp, hb, hc⟩ := h1.at k _ (by rw [List.getElem?_eq_getElem (by omega), hr])
  exact ⟨b, off, pm, cm, pn, cn, pk, ck, hp, hb, he, hc 0 _ rfl, hc 1 _ rfl, hc 2 _ rfl, hc 3 _ rfl, hc 4 _ rfl, hc 5 _ rfl, hc 6 _ rfl, hc 7 _ rfl, hc 8 _ rfl, hc 9 _ rfl⟩

/-- What queries that may be need nothing up to, at or below a mark. -/
def kp (m : Int) (q : Int × Ex) : List Int := if checkQuery q.1 q.2 = 0 then [keepT q.1 q.2 m] else []
def keeps (m : Int) (l : List (Int × Ex)) : List Int := m :: l.flatMap (kp m)
def keepTo (m : Int) (l : List (Int × Ex)) : Int := minTo (keeps m l)
theorem keeps_step {m : Int} {l : List (Int × Ex)} {k : Nat} (h : k < l.length) : keeps m (l.take (k + 1)) = keeps m (l.take k) ++ kp m l[k] := by
  rw [List.take_succ_eq_append_getElem h]
  unfold keeps
  rw [List.flatMap_append, List.cons_append, List.flatMap_cons, List.flatMap_nil, List.append_nil]
theorem keeps_length (m : Int) (l : List (Int × Ex)) : (keeps m l).length ≤ l.length + 1 := by
  have : (l.flatMap (kp m)).length ≤ l.length := by
    induction l with
    | nil => simp
    | cons q l ih =>
      rw [List.flatMap_cons, List.length_append, List.length_cons]
      have : (kp m q).length ≤ 1 := by unfold kp; split <;> simp
      omega
  unfold keeps
  rw [List.length_cons]; omega
theorem keepTo_step {m : Int} {l : List (Int × Ex)} {k : Nat} (h : k < l.length) : keepTo m (l.take (k + 1)) = if checkQuery l[k].1 l[k].2 = 0 then min (keepTo m (l.take k)) (keepT l[k].1 l[k].2 m) else keepTo m (l.take k) := by
  unfold keepTo
  rw [keeps_step h]
  unfold kp keeps
  simp only [minTo, List.cons_append]
  split
  · simp only [List.foldl_append, List.foldl_cons, List.foldl_nil]
  · simp
theorem foldl_min_le (l : List Int) (a : Int) : l.foldl min a ≤ a := by
  induction l generalizing a with
  | nil => exact Int.le_refl _
  | cons x l ih => rw [List.foldl_cons]; have := ih (min a x); omega
theorem keepTo_le (m : Int) (l : List (Int × Ex)) : keepTo m l ≤ m := foldl_min_le _ _
theorem foldl_min_ge {l : List Int} {a b : Int} (ha : b ≤ a) (h : ∀ x ∈ l, b ≤ x) : b ≤ l.foldl min a := by
  induction l generalizing a with
  | nil => exact ha
  | cons x l ih => rw [List.foldl_cons]; exact ih (by have := h x (by simp); omega) (fun y hy => h y (by simp [hy]))
theorem keepT_ge {ev : Int} {e : Ex} {m : Int} (hm : 0 ≤ m) : 0 ≤ keepT ev e m := by unfold keepT; split <;> omega
theorem keepTo_ge {m : Int} (hm : 0 ≤ m) (l : List (Int × Ex)) : 0 ≤ keepTo m l := by
  refine foldl_min_ge hm ?_
  intro x hx
  obtain ⟨q, _, hq⟩ := List.mem_flatMap.1 hx
  unfold kp at hq
  split at hq
  · simp at hq; subst hq; exact keepT_ge hm
  · simp at hq

set_option maxRecDepth 100000 in
set_option maxHeartbeats 4000000 in
theorem gKeepM (l : List (Int × Ex)) (mark m : Int) (v : Value) (n : Nat) (w : World) (hn : n ≤ w.heap.size) (h : IsQs n w v l) (hsz : ∀ q ∈ l, q.2.size ≤ 1000000) (hlen : l.length ≤ 1000000) (hmk : i64 mark) (hm : (0 < mark ∧ m = mark) ∨ (mark ≤ 0 ∧ m = 0)) :
    Calls Try.prog 14 #[v, .int .i64 mark] w fun e' w' => e' = .returned (.int .i64 (keepTo m l)) ∧ Below w.heap.size w w' := by
  obtain ⟨p, cap, rfl, _, _, _⟩ := h.open
  have H := Lib.hid h; clear h
  have HS := Lib.hid hsz; clear hsz
  obtain ⟨i0, hi, hz0, hz1, hz2⟩ := info_parts infoL
  obtain ⟨hm1, hm2⟩ := hmk
  have hm0 : i64 m := by rcases hm with ⟨_, rfl⟩ | ⟨_, rfl⟩ <;> (unfold i64; omega)
  have Hm0 := Lib.hid hm0; clear hm0
  have hk0 : keepTo m l = minTo (keeps m l) := rfl
  have Hk0 := Lib.hid hk0; clear hk0
  go_enter Try.func14, Try.ntmps14; (try simp only [List.append_eq, List.cons_append, List.nil_append])
  go_upto_region 1 with fail
  go_cut [1] (fun s1 wx => s1 = .int .i64 m ∧ w = wx)
  case first =>
    rcases hm with ⟨hm, rfl⟩ | ⟨hm, rfl⟩
    all_goals go_wp2
    all_goals go_meet
    all_goals exact ⟨rfl, rfl⟩
  case rest =>
    obtain ⟨rfl, rfl⟩ := hcut
    have HM := Lib.hid hm; clear hm
    go_wp2
    go_loopw [5, 14] (fun v i wr => ∃ k : Nat, k ≤ l.length ∧ i = .int .i64 k ∧ OwnI 2 w.heap.size wr v (keeps m (l.take k)) ∧ Below w.heap.size w wr) (fun _ i _ => l.length - (intOf i).toNat)
    case atStart => exact ⟨0, Nat.zero_le _, rfl, ⟨rfl, .inr ⟨_, 1, _, rfl, Nat.le_refl _, heap_alloc_new w _, Nat.le_refl _, by decide, rfl, rfl⟩⟩, (Below.refl _ _).alloc (Nat.le_refl _) _⟩
    case round =>
      obtain ⟨k, hk, rfl, hown, hb⟩ := hrel
      have Hown := Lib.hid hown; clear hown
      have Hb := Lib.hid hb; clear hb
      have hsr := Hb.out.size
      have hkl := keeps_length m (l.take k)
      have hkl2 : (l.take k).length ≤ l.length := by rw [List.length_take]; omega
      by_cases hlt : k < l.length
      · have hqm := HS.out _ (List.getElem_mem hlt)
        have Hstep := Lib.hid (keeps_step (m := m) hlt)
        obtain ⟨b, off, pm', cm', pn', cn', pk', ck', rfl, hbn, hei, e0, e1, e2, e3, e4, e5, e6, e7, e8, e9⟩ := (H.out.mono (Hb.out.mono hn) (Nat.le_refl _)).get hlt
        have Hei := Lib.hid hei; clear hei
        obtain ⟨A, cap', rfl⟩ := ownsRow_slice Hown.out
        obtain ⟨ev, hev⟩ : ∃ ev, l[k].1 = ev := ⟨_, rfl⟩
        obtain ⟨e, he⟩ : ∃ e, l[k].2 = e := ⟨_, rfl⟩
        unfold kp at Hstep
        rw [hev] at e0 Hstep
        rw [he] at Hstep e1 e2 e3 e4 e5 e6 e7 e8 e9 Hei hqm
        clear hev he
        have hbl : b < wr.heap.size := by omega
        have HQ := Lib.hid (Blk.new wr ([.int .i64 ev, .int .i64 e.kind, .int .i64 e.fn, .int .i64 e.op, .int .i64 e.num, .string e.metric, .slice pm' e.mats.length cm', .int .i64 e.span, .slice pn' e.names.length cn', .slice pk' e.kids.length ck']) 28)
        by_cases hck : checkQuery ev e = 0
        · rw [if_pos hck] at Hstep
          go_wp2_with (first
            | (go_at_call 33; refine (aCheck ev e _ n _ (by simp; omega) (Hei.out.mono (((Below.refl n wr).alloc (by omega) _)) (Nat.le_refl _)) hqm).mono ?_; rintro e' w1 ⟨rfl, hb1⟩; rw [hck]; have hq1 := HQ.out.keep hb1; have d0 := hq1.cell 0 _ rfl; have d1 := hq1.cell 1 _ rfl; have d2 := hq1.cell 2 _ rfl; have d3 := hq1.cell 3 _ rfl; have d4 := hq1.cell 4 _ rfl; have d5 := hq1.cell 5 _ rfl; have d6 := hq1.cell 6 _ rfl; have d7 := hq1.cell 7 _ rfl; have d8 := hq1.cell 8 _ rfl; have d9 := hq1.cell 9 _ rfl; clear hq1; have HB1 := Lib.hid hb1; clear hb1; have hs1 := HB1.out.size; simp at hs1)
            | (go_at_call 37; refine (gKeep1 ev m e _ n _ (by have := HB1.out.size; simp at this; omega) ((Hei.out.mono (((Below.refl n wr).alloc (by omega) _)) (Nat.le_refl _)).mono (HB1.out.mono (by simp; omega)) (Nat.le_refl _)) hqm Hm0.out hck).mono ?_; rintro e' w2 ⟨rfl, hb2⟩; have HB2 := Lib.hid ((((Below.refl wr.heap.size wr).alloc (Nat.le_refl _) _).trans (HB1.out.mono (by simp))).trans (hb2.mono (by omega))); clear hb2; have hs2 := HB2.out.size)
            | (at_builtin; refine wpList_append_src _ rfl _ _ _ rfl w.heap.size 2 i0 _ 1 8 Try.underlying46 hi hz0 hz1 hz2 rfl (by decide) _ _ ((keeps m (l.take k)).map fun i => .int .i64 i) rfl (ownsRow_keep Hown.out (HB2.out.alloc hs2 _)) _ 1 [.int .i64 (keepT ev e m)] rfl (.inr ⟨_, 1, rfl, rfl, one_new w2 _ _⟩) (by intro u hu; simp at hu; subst hu; rfl) (by unfold maxLen; omega) (by omega) (by simp; omega) ?_; intro v3 w3 hown3 hgr3 hat3))
          refine ⟨⟨k + 1, by omega, by go_num, ?_, below_app ((Hb.out.trans (HB2.out.mono hsr)).alloc (by omega) _) (ownsRow_keep Hown.out (HB2.out.alloc hs2 _)) hgr3 (Nat.le_refl _) (by simp; omega)⟩, by simp [intOf]; omega⟩
          rw [Hstep.out]
          unfold OwnI
          rw [List.length_append, List.map_append]
          exact hown3
        · rw [if_neg hck] at Hstep
          have hck' : (checkQuery ev e == 0) = false := by simpa using hck
          go_wp2_with (go_at_call 33; refine (aCheck ev e _ n _ (by simp; omega) (Hei.out.mono (((Below.refl n wr).alloc (by omega) _)) (Nat.le_refl _)) hqm).mono ?_; rintro e' w1 ⟨rfl, hb1⟩; have HB1 := Lib.hid (((Below.refl wr.heap.size wr).alloc (Nat.le_refl _) _).trans (hb1.mono (by simp))); clear hb1)
          refine ⟨⟨k + 1, by omega, by go_num, ?_, Hb.out.trans (HB1.out.mono hsr)⟩, by simp [intOf]; omega⟩
          rw [Hstep.out, List.append_nil]
          exact ownsRow_keep Hown.out HB1.out
      · have hk' : k = l.length := by omega
        subst hk'
        rw [List.take_length] at Hown hkl
        have hin := Hown.out.ints (Nat.le_refl _)
        have HI := Lib.hid hin; clear hin
        obtain ⟨A, cap', rfl⟩ := ownsRow_slice Hown.out
        go_wp2_with (go_at_call 38; refine (sMin (keeps m l) _ _ _ (by simp [keeps]) HI.out).mono ?_; rintro e' w' ⟨rfl, rfl⟩)
        go_ret
        exact ⟨ret_int Hk0.out.symm, Hb.out⟩

end Go.Proofs.Ytdmojmadklckbaa
