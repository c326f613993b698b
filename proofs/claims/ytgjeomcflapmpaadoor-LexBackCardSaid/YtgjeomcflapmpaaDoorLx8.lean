/- lex.All: all tokens. -/
import Derived.Test.YtgjeomcflapmpaaDoorLx7
import Derived.Test.YtgjeomcflapmpaaDoorApp
import Derived.Maps.AppendAt
namespace Go.Proofs.YtgjeomcflapmpaaDoor
open Go.RowKit
set_option linter.unusedSimpArgs false
set_option linter.unusedVariables false

theorem bodyPost_tmp_agg {P : Program} {fn : Func} {R : Ending → World → Prop} {a : Act} {w : World} {p u : Tmp} {ty g t : Nat} {cs : Array Value} {fr : Nat × Nat} {d : TypeDesc}
    (h : fn.results = #[.tmp u, .cell p ty]) (hp : a.tmps.getD p undef = .pointer (some ⟨g, 0, none⟩)) (hg : w.heap[g]? = some (.cells cs t fr)) (hu : P.underlying ty = some d)
    (hd : aggD d = true) (hi : (P.info? ty).map (·.size) = some cs.size) (hdf : a.defers = []) (hR : R (.returned (.tuple #[a.tmps.getD u undef, .agg cs])) w) :
    bodyPost P fn R .ret a w := by
  refine ⟨hdf, _, ?_, hR⟩
  have hp' : a.tmps[p]?.getD undef = .pointer (some ⟨g, 0, none⟩) := by rw [← hp]; simp
  simp only [results, h]
  simp [Sem.run_bind, Result.andThen, hp', asAddr, loadRow w g t ty cs fr d hg hu hd hi]

/-- Tokens in a block of their own. -/
def OwnT (base : Nat) (w : World) (v : Value) (l : List Tok) : Prop := w.ownsRow base 33 4 v l.length (l.map Tok.cells).flatten
theorem cells_len (l : List Tok) : ∀ r ∈ l.map Tok.cells, r.length = 4 := by
  intro r hr
  obtain ⟨t, _, rfl⟩ := List.mem_map.1 hr
  rfl
theorem cells_one (l : List Tok) : ∀ u ∈ (l.map Tok.cells).flatten, u.oneCell' = true := by
  intro u hu
  obtain ⟨r, hr, hur⟩ := List.mem_flatten.1 hu
  obtain ⟨t, _, rfl⟩ := List.mem_map.1 hr
  simp only [Tok.cells, List.mem_cons, List.not_mem_nil, or_false] at hur
  rcases hur with rfl | rfl | rfl | rfl <;> rfl
theorem OwnT.nil (base : Nat) (w : World) : OwnT base w (.slice none 0 0) [] := World.ownsRow_nil _ _ _ _
theorem OwnT.toks {base m : Nat} {w : World} {v : Value} {l : List Tok} (h : OwnT base w v l) (hm : w.heap.size ≤ m) : IsToks m w v l := by
  rcases h.2 with ⟨rfl, hl⟩ | ⟨g, cap, cur, rfl, hg, hh, hc1, hc2, hc3, hc4⟩
  · have : l = [] := List.eq_nil_of_length_eq_zero (by omega)
    subst this
    exact Arr.nil _ _ _
  · refine ⟨_, cap, by rw [List.length_map], by simpa using hc1, hc2, fun _ => ⟨g, 0, rfl, ?_, fun k r hr j x hx => ?_⟩⟩
    · have := (Array.getElem?_eq_some_iff.1 hh).1; omega
    · have hcell := h.cells (g := g) rfl (k * 4 + j) x (flatten_at (cells_len l) hr hx)
      have e0 : (⟨g, 0, none⟩ : Addr).add (k * 4 + j) = ⟨g, 0 + k * 4 + j, none⟩ := by
        unfold Addr.add
        split <;> simp <;> omega
      rw [e0] at hcell
      exact hcell
theorem OwnT.keep {base : Nat} {w w' : World} {v : Value} {l : List Tok} (h : OwnT base w v l) (hb : Below w.heap.size w w') : OwnT base w' v l := ownsRow_keep h hb
theorem OwnT.app {base : Nat} {w' : World} {v' : Value} {l : List Tok} {t : Tok} (h : w'.ownsRow base 33 4 v' (l.length + 1) ((l.map Tok.cells).flatten ++ t.cells)) : OwnT base w' v' (l ++ [t]) := by
  unfold OwnT; simpa using h

theorem infoT : (Tryd.prog.info? 33).map (fun i => (i.zero, i.size, i.bytes)) = some (some (.agg #[.int .i64 0, .string ⟨#[]⟩, .int .i64 0, .int .i64 0]), 4, 40) := by kernel_rfl
theorem infoFault : (Tryd.prog.info? 29).map (·.size) = some 2 := by kernel_rfl

theorem nextYes {s : ByteArray} {a : Nat} {l : List Tok} {v : Value} {N : Nat} {w : World} {t : Tok} {m : Nat} (ht : tokAt (freeOf l) (sl s a) = some (t, m)) (hs : s.size ≤ 16384) (ha : a < s.size) (hN : N ≤ w.heap.size) (h : IsToks N w v l) :
    Calls Tryd.prog 25 #[.string s, .int .i64 a, v] w fun e w' => e = .returned (.tuple #[.agg #[.int .i64 t.kind, .string ⟨t.text.toArray⟩, .int .i64 t.num, .int .i64 a], .int .i64 m, .bool true]) ∧ Below w.heap.size w w' := by
  refine (lNext s a l v N w hs ha hN h).mono ?_
  rintro e w' ⟨k, x, u, p, n, ok, rfl, hi, hb⟩
  rw [ht] at hi
  obtain ⟨rfl, rfl, rfl, rfl, rfl, rfl⟩ := hi
  exact ⟨rfl, hb⟩
theorem nextNo {s : ByteArray} {a : Nat} {l : List Tok} {v : Value} {N : Nat} {w : World} (ht : tokAt (freeOf l) (sl s a) = none) (hs : s.size ≤ 16384) (ha : a < s.size) (hN : N ≤ w.heap.size) (h : IsToks N w v l) :
    Calls Tryd.prog 25 #[.string s, .int .i64 a, v] w fun e w' => ∃ (k : Int) (x : ByteArray) (u p n : Int), e = .returned (.tuple #[.agg #[.int .i64 k, .string x, .int .i64 u, .int .i64 p], .int .i64 n, .bool false]) ∧ Below w.heap.size w w' := by
  refine (lNext s a l v N w hs ha hN h).mono ?_
  rintro e w' ⟨k, x, u, p, n, ok, rfl, hi, hb⟩
  rw [ht] at hi
  obtain rfl : ok = false := hi
  exact ⟨k, x, u, p, n, rfl, hb⟩

/-- All tokens of a text; what is wrong, and where. -/
def lexAll (s : ByteArray) : List Tok × Int × Int :=
  if 16384 < s.size then ([], 3, 0) else match lexL true 0 (sl s 0) with
    | .ok l => (l, 0, 0)
    | .error a => ([], 13, a)
def AllR (s : ByteArray) (w : World) (e : Ending) (w' : World) : Prop :=
  ∃ v, e = .returned (.tuple #[v, .agg #[.int .i64 (lexAll s).2.1, .int .i64 (lexAll s).2.2]]) ∧ OwnT w.heap.size w' v (lexAll s).1 ∧ Below w.heap.size w w'
theorem allEnd {s : ByteArray} {w W : World} {A : Act} (v : Value) (er at' : Int) (l : List Tok) (hp : A.tmps.getD 3 undef = .pointer (some ⟨w.heap.size, 0, none⟩)) (hg : Blk W w.heap.size 29 [.int .i64 er, .int .i64 at'])
    (hv : A.tmps.getD 2 undef = v) (hdf : A.defers = []) (hl : lexAll s = (l, er, at')) (ho : OwnT w.heap.size W v l) (hb : Below w.heap.size w W) : bodyPost Tryd.prog Tryd.f8 (AllR s w) .ret A W :=
  bodyPost_tmp_agg rfl hp hg Tryd.underlying29 rfl (by kernel_rfl) hdf ⟨v, by rw [hv, hl], by rw [hl]; exact ho, hb⟩

theorem lAll_long (s : ByteArray) (w : World) (hm : s.size ≤ maxLen) (hs : 16384 < s.size) : Calls Tryd.prog 8 #[.string s] w (AllR s w) := by
  unfold maxLen at hm
  have Hl : Hid (lexAll s = ([], 3, 0)) := by show _ = _; unfold lexAll; rw [if_pos hs]
  have h1 : (16384 : Int) < (s.size : Int) := by omega
  go_enter Tryd.func8, Tryd.ntmps8; (try simp only [List.append_eq, List.cons_append, List.nil_append])
  go_wp2
  go_step3
  go_wp2
  refine allEnd (.slice none 0 0) 3 0 [] rfl (Blk.new _ _ _) rfl rfl Hl.out (OwnT.nil _ _) ((Below.refl _ _).alloc (Nat.le_refl _) _)

/-- So far. -/
def LexI (s : ByteArray) (k : Nat) (l : List Tok) : Prop := lexL true 0 (sl s 0) = (lexL (freeOf l) k (sl s k)).map (l ++ ·)
theorem freeOf_snoc (l : List Tok) (t : Tok) : freeOf (l ++ [t]) = t.free := by simp [freeOf]
theorem LexI.start (s : ByteArray) : LexI s 0 [] := by
  unfold LexI freeOf
  cases h : lexL true 0 (sl s 0) with
  | ok a => simp [Except.map, h]
  | error a => simp [Except.map, h]
theorem LexI.blank {s : ByteArray} {k : Nat} {l : List Tok} (h : LexI s k l) (hk : k < s.size) (hb : blankC s[k] = true) : LexI s (k + 1) l := by
  unfold LexI at h ⊢
  rw [h, sl_cons hk, lexL_blank _ _ _ hb]
theorem LexI.note {s : ByteArray} {k : Nat} {l : List Tok} (h : LexI s k l) (hk : k < s.size) (hb : s[k] = 35) : LexI s (k + runN notNl (sl s k)) l := by
  unfold LexI at h ⊢
  have e : runN notNl (sl s k) = runN notNl (sl s (k + 1)) + 1 := by
    rw [sl_cons hk, hb]; rfl
  rw [e, h]
  conv => lhs; rw [sl_cons hk, hb, lexL_note]
  rw [sl_drop]
  rw [show k + 1 + runN notNl (sl s (k + 1)) = k + (runN notNl (sl s (k + 1)) + 1) by omega]
theorem LexI.bad {s : ByteArray} {k : Nat} {l : List Tok} (h : LexI s k l) (hs : s.size ≤ 16384) (hk : k < s.size) (hb : blankC s[k] = false) (hn : s[k] ≠ 35) (ht : tokAt (freeOf l) (sl s k) = none) : lexAll s = ([], 13, (k : Int)) := by
  unfold LexI at h
  rw [sl_cons hk] at h ht
  rw [lexL_bad k hb hn ht] at h
  unfold lexAll
  rw [if_neg (by omega), h]; rfl
theorem LexI.tok {s : ByteArray} {k : Nat} {l : List Tok} {t : Tok} {m : Nat} (h : LexI s k l) (hk : k < s.size) (hb : blankC s[k] = false) (hn : s[k] ≠ 35) (ht : tokAt (freeOf l) (sl s k) = some (t, m)) : LexI s (k + m) (l ++ [{ t with pos := k }]) := by
  unfold LexI at h ⊢
  rw [freeOf_snoc]
  rw [sl_cons hk] at h ht
  rw [lexL_tok k hb hn ht, ← sl_cons hk, sl_drop] at h
  rw [h]
  show _ = (lexL t.free (k + m) (sl s (k + m))).map _
  cases lexL t.free (k + m) (sl s (k + m)) with
  | ok a => simp [Except.map]
  | error a => simp [Except.map]
theorem LexI.done {s : ByteArray} {k : Nat} {l : List Tok} (h : LexI s k l) (hs : s.size ≤ 16384) (hk : s.size = k) : lexAll s = (l ++ [⟨5, [], 0, (k : Int)⟩], 0, 0) := by
  unfold LexI at h
  rw [sl_end (k := k) (by omega), lexL_nil] at h
  unfold lexAll
  rw [if_neg (by omega), h]; rfl
theorem textAt_len : ∀ (l : List UInt8) (x : List UInt8) (n : Nat), textAt l = some (x, n) → n ≤ l.length := by
  intro l
  refine textAt_ind (P := fun l => ∀ (x : List UInt8) (n : Nat), textAt l = some (x, n) → n ≤ l.length) ?_ l
  intro l ih x n h
  match l, ih, h with
  | [], _, h => cases h
  | c :: r, ih, h =>
    by_cases h1 : c = 34
    · subst h1; rw [textAt_quote] at h; cases h; simp
    by_cases h2 : c < 32 ∨ 126 < c
    · rw [textAt_bad r h1 h2] at h; cases h
    have h3 : 32 ≤ c ∧ c ≤ 126 := by
      simp only [UInt8.lt_iff_toNat_lt, UInt8.le_iff_toNat_le] at *; omega
    by_cases h4 : c = 92
    · subst h4
      by_cases h5 : headIs (fun d => d == 92 || d == 34) r = true
      · match r, h5, h, ih with
        | d :: r', h5, h, ih =>
          simp [headIs] at h5
          rw [textAt_esc r' h5] at h
          cases hh : textAt r' with
          | none => rw [hh] at h; cases h
          | some y =>
            obtain ⟨y, m⟩ := y
            rw [hh] at h; cases h
            have := ih r' (by simp; omega) y m hh
            simp; omega
      · by_cases h6 : ∃ a b r', r = 120 :: a :: b :: r' ∧ hexC a = true ∧ hexC b = true
        · obtain ⟨a, b, r', rfl, ha, hb⟩ := h6
          rw [textAt_hex r' ha hb] at h
          cases hh : textAt r' with
          | none => rw [hh] at h; cases h
          | some y =>
            obtain ⟨y, m⟩ := y
            rw [hh] at h; cases h
            have := ih r' (by simp; omega) y m hh
            simp; omega
        · rw [textAt_no (by simpa using h5)] at h
          · cases h
          · intro a b r' e
            cases ha : hexC a with
            | false => exact .inl rfl
            | true =>
              cases hb : hexC b with
              | false => exact .inr rfl
              | true => exact absurd ⟨a, b, r', e, ha, hb⟩ h6
    · rw [textAt_plain r h1 h3.1 h3.2 h4] at h
      cases hh : textAt r with
      | none => rw [hh] at h; cases h
      | some y =>
        obtain ⟨y, m⟩ := y
        rw [hh] at h; cases h
        have := ih r (by simp) y m hh
        simp; omega
theorem tokAt_len {free : Bool} {l : List UInt8} {t : Tok} {n : Nat} (h : tokAt free l = some (t, n)) : n ≤ l.length := by
  match l, h with
  | [], h => cases h
  | c :: r, h =>
    have h1 := runN_le wordC r
    have h2 := runN_le dgC r
    simp only [tokAt] at h
    split at h
    · split at h
      · cases h; simp; omega
      · cases h
    · split at h
      · cases hh : textAt r with
        | none => rw [hh] at h; cases h
        | some y =>
          obtain ⟨y, m⟩ := y
          have := textAt_len r y m hh
          rw [hh] at h
          simp only at h
          split at h
          · cases h; simp; omega
          · cases h
      · split at h
        · split at h
          · cases h; simp; omega
          · cases h
        · simp only [signAt] at h
          split at h
          · rename_i hp
            simp only [Bool.and_eq_true] at hp
            match r, hp.2, h with
            | [], hp, h => cases hp
            | d :: r', _, h => cases h; simp
          · split at h
            · cases h; simp
            · cases h

end Go.Proofs.YtgjeomcflapmpaaDoor
