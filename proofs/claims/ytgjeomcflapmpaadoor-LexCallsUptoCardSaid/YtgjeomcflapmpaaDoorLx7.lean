/- lex.next, whole. -/
import Derived.Test.YtgjeomcflapmpaaDoorLxN
import Derived.Test.YtgjeomcflapmpaaDoorLxM
import Derived.Test.YtgjeomcflapmpaaDoorLxS
namespace Go.Proofs.YtgjeomcflapmpaaDoor
open Go.RowKit
set_option linter.unusedSimpArgs false
set_option linter.unusedVariables false

theorem u8b {c : UInt8} {n : Nat} (hn : n < 256) (h : c = UInt8.ofNat n) : ((c.toNat : Int) == (n : Int)) = true := by
  simp only [beq_iff_eq]; exact (u8_eq_iff c n hn).1 h

theorem lNext (s : ByteArray) (a : Nat) (l : List Tok) (v : Value) (N : Nat) (w : World) (hs : s.size ≤ 16384) (ha : a < s.size) (hN : N ≤ w.heap.size) (h : IsToks N w v l) :
    Calls Tryd.prog 25 #[.string s, .int .i64 a, v] w (NextR s a (freeOf l) w) := by
  have hb : ∀ wx, Below w.heap.size w wx → Calls Tryd.prog 40 #[v] wx fun e w' => e = .returned (.bool (freeOf l)) ∧ MayNew wx w' := fun wx hbx =>
    lBegins l v N wx (Nat.le_trans hN hbx.size) (h.mono (hbx.mono hN) (Nat.le_refl _))
  generalize freeOf l = free at *
  by_cases hc : letC s[a] = true
  · exact lNext_word s a free v w hs ha hc
  have hlt : letC s[a] = false := by simpa using hc
  by_cases hq : s[a] = 34
  · exact lNext_text s a free v w hs ha hq
  have h34 : ((s[a].toNat : Int) == 34) = false := u8ne (n := 34) (by omega) hq
  by_cases hd : dgC s[a] = true
  · have h45 : s[a] ≠ 45 := by intro e; rw [e] at hd; exact absurd hd (by decide)
    have h45' : ((s[a].toNat : Int) == 45) = false := u8ne (n := 45) (by omega) h45
    have htk : tokAt free (sl s a) = numAt s a := tokAt_num ha hlt hq (.inl hd)
    rcases num_digit hs ha hd with ⟨x, hx⟩ | hx
    · exact lNext_digitYes s a _ x free v w hs ha hd hx htk hlt h45' h34
    · exact lNext_digitNo s a _ free v w hs ha hd hx htk hlt h45' h34
  have hd' : dgC s[a] = false := by simpa using hd
  by_cases h45 : s[a] = 45
  · have h45' : ((s[a].toNat : Int) == 45) = true := u8b (n := 45) (by omega) h45
    by_cases hyes : (∃ h1 : a + 1 < s.size, dgC s[a + 1] = true) ∧ free = true
    · obtain ⟨⟨h1, h2⟩, hf⟩ := hyes
      have hh : headIs dgC (sl s (a + 1)) = true := by rw [headIs_at h1]; exact h2
      have htk : tokAt free (sl s a) = numAt s a := tokAt_num ha hlt hq (.inr ⟨h45, hf, hh⟩)
      rcases num_minus hs ha h45 hh with ⟨x, hx⟩ | hx
      · exact lNext_minusYes s a _ x free v w hs ha h1 h2 hf hb hx htk hlt h45' h34
      · exact lNext_minusNo s a _ free v w hs ha h1 h2 hf hb hx htk hlt h45' h34
    · have hno : ¬ (a + 1 < s.size) ∨ (∃ h : a + 1 < s.size, dgC s[a + 1] = false ∨ (dgC s[a + 1] = true ∧ free = false)) := by
        by_cases h1 : a + 1 < s.size
        · refine .inr ⟨h1, ?_⟩
          cases h2 : dgC s[a + 1] with
          | false => exact .inl rfl
          | true =>
            refine .inr ⟨rfl, ?_⟩
            cases hf : free with
            | false => rfl
            | true => exact absurd ⟨⟨h1, h2⟩, hf⟩ hyes
        · exact .inl h1
      have hh : free = false ∨ headIs dgC (sl s (a + 1)) = false := by
        rcases hno with h1 | ⟨h1, h2 | ⟨_, h2⟩⟩
        · exact .inr (headIs_end (by omega))
        · exact .inr (by rw [headIs_at h1]; exact h2)
        · exact .inl h2
      have htk : tokAt free (sl s a) = some (⟨4, [45], 0, 0⟩, 1) := by
        rw [tokAt_sign ha hlt hq hd' (fun _ => hh), sl_cons ha, h45]
        simp [signAt, pairC, signC]
      exact lNext_minusSign s a free v w hs ha htk hlt h45' h34 hb hno
  · have h45' : ((s[a].toNat : Int) == 45) = false := u8ne (n := 45) (by omega) h45
    exact lNext_sign s a free v w hs ha (tokAt_sign ha hlt hq hd' (fun e => absurd e h45)) hlt hd' h45' h34

end Go.Proofs.YtgjeomcflapmpaaDoor
