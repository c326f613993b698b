/- The reference's Keep. -/
import Derived.Test.YtdmojmadklckbaaGr11
namespace Go.Proofs.Ytdmojmadklckbaa
open Go.RowKit
set_option linter.unusedSimpArgs false
set_option linter.unusedVariables false

theorem keepTo_none {m : Int} {l : List (Int × Ex)} {k : Nat} (h : k < l.length) (hn : nextT l[k].1 m = none) : keepTo m (l.take (k + 1)) = keepTo m (l.take k) := by
  have hle := keepTo_le m (l.take k)
  rw [keepTo_step h]
  split
  · unfold keepT; rw [hn]; simp only; omega
  · rfl
theorem keepTo_bad {m : Int} {l : List (Int × Ex)} {k : Nat} (h : k < l.length) (hn : ¬ checkQuery l[k].1 l[k].2 = 0) : keepTo m (l.take (k + 1)) = keepTo m (l.take k) := by
  rw [keepTo_step h, if_neg hn]
theorem keepTo_some {m t : Int} {l : List (Int × Ex)} {k : Nat} (h : k < l.length) (hc : checkQuery l[k].1 l[k].2 = 0) (hn : nextT l[k].1 m = some t) : keepTo m (l.take (k + 1)) = min (keepTo m (l.take k)) (max 0 (t - l[k].2.hor)) := by
  have hle := keepTo_le m (l.take k)
  rw [keepTo_step h, if_pos hc]
  unfold keepT; rw [hn]; simp only; omega

set_option maxRecDepth 100000 in
set_option maxHeartbeats 4000000 in
theorem rKeepM (l : List (Int × Ex)) (mark m : Int) (v : Value) (n : Nat) (w : World) (hn : n ≤ w.heap.size) (h : IsQs n w v l) (hsz : ∀ q ∈ l, q.2.size ≤ 1000000) (hlen : l.length ≤ 1000000) (hmk : i64 mark) (hm : (0 < mark ∧ m = mark) ∨ (mark ≤ 0 ∧ m = 0)) :
    Calls Try.prog 29 #[v, .int .i64 mark] w fun e' w' => e' = .returned (.int .i64 (keepTo m l)) ∧ Below w.heap.size w w' := by
  obtain ⟨p, cap, rfl, _, _, _⟩ := h.open
  have H := Lib.hid h; clear h
  have HS := Lib.hid hsz; clear hsz
  obtain ⟨hm1, hm2⟩ := hmk
  have hm0 : i64 m := by rcases hm with ⟨_, rfl⟩ | ⟨_, rfl⟩ <;> (unfold i64; omega)
  have hmge : 0 ≤ m := by omega
  have Hm0 := Lib.hid hm0; clear hm0
  go_enter Try.func29, Try.ntmps29; (try simp only [List.append_eq, List.cons_append, List.nil_append])
  go_upto_region 1 with fail
  go_cut [1] (fun s1 wx => s1 = .int .i64 m ∧ w = wx)
  case first =>
    rcases hm with ⟨hm, rfl⟩ | ⟨hm, rfl⟩
    all_goals go_wp2
    all_goals go_meet
    all_goals exact ⟨rfl, rfl⟩
  case rest =>
    obtain ⟨rfl, rfl⟩ := hcut
    have HM := Lib.hid hm; clear hm
    go_wp2
    go_loopw [5, 6] (fun s i wr => ∃ k : Nat, k ≤ l.length ∧ i = .int .i64 k ∧ s = .int .i64 (keepTo m (l.take k)) ∧ Below w.heap.size w wr) (fun _ i _ => l.length - (intOf i).toNat)
    case atStart => exact ⟨0, Nat.zero_le _, rfl, rfl, Below.refl _ _⟩
    case round =>
      obtain ⟨k, hk, rfl, rfl, hb⟩ := hrel
      have Hb := Lib.hid hb; clear hb
      have hsr := Hb.out.size
      by_cases hlt : k < l.length
      · have hqm := HS.out _ (List.getElem_mem hlt)
        have h0 := Lib.hid (keepTo_none (m := m) hlt)
        have h1 := Lib.hid (keepTo_bad (m := m) hlt)
        have h2 := Lib.hid (fun t => keepTo_some (m := m) (t := t) hlt)
        have hge := keepTo_ge hmge (l.take k)
        have hle := keepTo_le m (l.take k)
        have HG := Lib.hid ((H.out.mono (Hb.out.mono hn) (Nat.le_refl _)).get hlt)
        obtain ⟨b, off, pm', cm', pn', cn', pk', ck', rfl, hbn, hei, e0, e1, e2, e3, e4, e5, e6, e7, e8, e9⟩ := HG.out
        have Hei := Lib.hid hei; clear hei HG
        obtain ⟨ev, hev⟩ : ∃ ev, l[k].1 = ev := ⟨_, rfl⟩
        obtain ⟨e, he⟩ : ∃ e, l[k].2 = e := ⟨_, rfl⟩
        rw [hev] at e0 h0 h1 h2
        rw [he] at e1 e2 e3 e4 e5 e6 e7 e8 e9 Hei hqm h1 h2
        clear hev he
        obtain ⟨lo, hlo⟩ : ∃ lo, keepTo m (l.take k) = lo := ⟨_, rfl⟩
        rw [hlo] at h0 h1 h2 hge hle
        rw [hlo]
        clear hlo
        have hbl : b < wr.heap.size := by omega
        have HN := Lib.hid (fun wx => rNext ev m e _ wx Hei.out.qc Hm0.out)
        unfold nextV at HN
        cases hnx : nextT ev m with
        | none =>
          rw [hnx] at HN
          have Hr := Lib.hid (h0.out hnx)
          clear hnx h0 h1 h2
          go_wp2_with (first
            | (go_at_call 21; refine (HN.out _).mono ?_; rintro e' w1 ⟨rfl, hb1⟩; obtain ⟨hc1, hf1⟩ := bcell hb1; have hs1 := hb1.size; have HB1 := Lib.hid hb1; clear hb1)
            | (go_at_call 9; refine (rCheck ev e _ n _ (by omega) (Hei.out.mono (HB1.out.mono (by omega)) (Nat.le_refl _)) hqm).mono ?_; rintro e' w2 ⟨rfl, hb2⟩; have HB2 := Lib.hid (HB1.out.trans (hb2.mono hs1)); clear hb2))
          all_goals refine ⟨⟨k + 1, by omega, by go_num, by rw [Hr.out], Hb.out.trans (HB2.out.mono hsr)⟩, by simp [intOf]; omega⟩
        | some t =>
          rw [hnx] at HN
          by_cases hck : checkQuery ev e = 0
          · have Hr := Lib.hid (h2.out t hck hnx)
            have hbd := nextT_bd hnx
            have ht0 := hbd.2.2.1
            have ht1 := hbd.2.2.2.1
            unfold MT at ht1
            have hhb := hor_bd (check_expr hck)
            obtain ⟨hhb1, hhb2⟩ := hhb
            clear hnx h0 h1 h2 hbd
            go_wp2_with (first
              | (go_at_call 21; refine (HN.out _).mono ?_; rintro e' w1 ⟨rfl, hb1⟩; obtain ⟨hc1, hf1⟩ := bcell hb1; have hs1 := hb1.size; have HB1 := Lib.hid hb1; clear hb1)
              | (go_at_call 9; refine (rCheck ev e _ n _ (by omega) (Hei.out.mono (HB1.out.mono (by omega)) (Nat.le_refl _)) hqm).mono ?_; rintro e' w2 ⟨rfl, hb2⟩; rw [hck]; have HB2 := Lib.hid (HB1.out.trans (hb2.mono hs1)); clear hb2; obtain ⟨hc2, hf2⟩ := bcell HB2.out; have hs2 := HB2.out.size)
              | (go_at_call 10; refine (rHorizon e _ n _ (by omega) (Hei.out.mono (HB2.out.mono (by omega)) (Nat.le_refl _)) hqm).mono ?_; rintro e' w3 ⟨rfl, hb3⟩; have HB3 := Lib.hid (HB2.out.trans (hb3.mono hs2)); clear hb3))
            all_goals refine ⟨⟨k + 1, by omega, by go_num, ?_, Hb.out.trans (HB3.out.mono hsr)⟩, by simp [intOf]; omega⟩
            all_goals rw [Hr.out]
            all_goals congr 1
            all_goals (repeat' split)
            all_goals omega
          · have Hr := Lib.hid (h1.out hck)
            have hck' : (checkQuery ev e == 0) = false := by simpa using hck
            clear hnx h0 h1 h2
            go_wp2_with (first
              | (go_at_call 21; refine (HN.out _).mono ?_; rintro e' w1 ⟨rfl, hb1⟩; obtain ⟨hc1, hf1⟩ := bcell hb1; have hs1 := hb1.size; have HB1 := Lib.hid hb1; clear hb1)
              | (go_at_call 9; refine (rCheck ev e _ n _ (by omega) (Hei.out.mono (HB1.out.mono (by omega)) (Nat.le_refl _)) hqm).mono ?_; rintro e' w2 ⟨rfl, hb2⟩; have HB2 := Lib.hid (HB1.out.trans (hb2.mono hs1)); clear hb2))
            all_goals refine ⟨⟨k + 1, by omega, by go_num, by rw [Hr.out], Hb.out.trans (HB2.out.mono hsr)⟩, by simp [intOf]; omega⟩
      · have hk' : k = l.length := by omega
        subst hk'
        go_wp2
        go_ret
        exact ⟨ret_int (by rw [List.take_length]), Hb.out⟩

end Go.Proofs.Ytdmojmadklckbaa
