/- The reference's parser in memory; its smallest steps: fail, is, take, need, token. -/
import Derived.Test.YtpmbamfpmmdhcaaGreatK10
import Derived.Test.YtpmbamfpmmdhcaaGreatK12
set_option maxRecDepth 100000
set_option maxHeartbeats 16000000
namespace Go.Proofs.YtpmbamfpmmdhcaaGreat
open Go.RowKit
set_option linter.unusedSimpArgs false
set_option linter.unusedVariables false
/-! ### what one block's changes leave as it was -/
structure Off (g : Nat) (w w' : World) : Prop where
  os : w'.os = w.os
  tape : w'.tape = w.tape
  output : w'.output = w.output
  size : w.heap.size ≤ w'.heap.size
  block : ∀ k,k < w.heap.size → k ≠ g → w'.heap[k]? = w.heap[k]?
theorem Off.refl (g : Nat) (w : World) : Off g w w := ⟨rfl,rfl,rfl,Nat.le_refl _,fun _ _ _ => rfl⟩
theorem Off.trans {g : Nat} {a b c : World} (h : Off g a b) (k : Off g b c) : Off g a c :=
  ⟨k.os.trans h.os,k.tape.trans h.tape,k.output.trans h.output,Nat.le_trans h.size k.size,fun i hi hg => (k.block i (Nat.lt_of_lt_of_le hi h.size) hg).trans (h.block i hi hg)⟩
theorem Off.of {g : Nat} {w w' : World} (h : Below w.heap.size w w') : Off g w w' := ⟨h.os,h.tape,h.output,h.size,fun k hk _ => h.block k hk⟩
theorem Off.set {g : Nat} (w : World) (i : Nat) (u : Value) : Off g w (w.setCell ⟨g,i,none⟩ u) :=
  ⟨rfl,rfl,rfl,by unfold World.setCell;simp,fun k _ hk => by
    unfold World.setCell
    show (w.heap.modify g _)[k]? = _
    rw [Array.getElem?_modify,if_neg (fun e => hk e.symm)]⟩
theorem Off.row {g : Nat} (w : World) (cs : Array Value) : Off g w (w.setRow g cs) :=
  ⟨rfl,rfl,rfl,by rw [setRow_size];exact Nat.le_refl _,fun k _ hk => by
    show (w.heap.modify g _)[k]? = _
    rw [Array.getElem?_modify,if_neg (fun e => hk e.symm)]⟩
theorem Off.cell {g : Nat} {w w' : World} (h : Off g w w') {a : Addr} (ha : a.block < w.heap.size) (hg : a.block ≠ g) : w'.cell? a = w.cell? a := World.cell?_of_block (h.block a.block ha hg)
theorem Off.below {g n : Nat} {w w' : World} (h : Off g w w') (hn : n ≤ g) (hs : n ≤ w.heap.size) : Below n w w' := ⟨h.os,h.tape,h.output,h.size,fun k hk => h.block k (by omega) (by omega)⟩
theorem Off.toks {g : Nat} {w w' : World} {v : Value} {L : List Tok} (ho : Off g w w') (h : IsToks g w v L) (hg : g ≤ w.heap.size) : IsToks g w' v L := IsToks.mono h (ho.below (Nat.le_refl _) hg) (Nat.le_refl _)
def blank (g : Nat) (w : World) : World := w.setRow g #[]
theorem blank_cell {g : Nat} {w : World} {a : Addr} (h : a.block ≠ g) : (blank g w).cell? a = w.cell? a := World.cell?_of_block (by
  show (w.heap.modify g _)[a.block]? = _
  rw [Array.getElem?_modify,if_neg (fun e => h e.symm)])
/-! ### the parser -/
def PC (pt : Option Addr) (n cap : Nat) (p : PS) : List Value := [.slice pt n cap,.int .i64 p.i,.int .i64 p.err,.int .i64 p.at',.int .i64 p.opn]
def PA (g : Nat) (pt : Option Addr) (cap : Nat) (L : List Tok) (p : PS) (w : World) : Prop := Blk w g 87 (PC pt L.length cap p) ∧ IsToks g w (.slice pt L.length cap) L
structure PW (L : List Tok) (p : PS) : Prop where
  ends : ∃ t l,L = l ++ [t] ∧ t.kind = 5
  len : L.length ≤ 100000
  at' : p.i < L.length
  lo : -(p.i : Int) ≤ p.opn
  hi : p.opn ≤ 64
  txt : ∀ t ∈ L,t.text.length ≤ 100000
  num : ∀ t ∈ L,-9223372036854775808 ≤ t.num ∧ t.num ≤ 9223372036854775807
theorem PW.fail {L : List Tok} {p : PS} (h : PW L p) (e a : Int) : PW L (p.fail e a) := by
  unfold PS.fail;split
  · exact ⟨h.ends,h.len,h.at',h.lo,h.hi,h.txt,h.num⟩
  · exact h
theorem PS.tok_eq {L : List Tok} {p : PS} (h : p.i < L.length) : p.tok L = L[p.i] := by
  unfold PS.tok;rw [List.getD_eq_getElem?_getD,List.getElem?_eq_getElem h];rfl
theorem PW.next {L : List Tok} {p : PS} (h : PW L p) (hk : (p.tok L).kind ≠ 5) : p.i + 1 < L.length := by
  obtain ⟨t,l,rfl,ht⟩ := h.ends
  have hi := h.at'
  rcases Nat.lt_or_ge (p.i + 1) (l ++ [t]).length with h' | h'
  · exact h'
  · exfalso
    simp only [List.length_append,List.length_cons,List.length_nil] at hi h';have e : p.i = l.length := by omega
    apply hk
    unfold PS.tok;rw [List.getD_eq_getElem?_getD,e]
    simp [ht]
def StepR (g : Nat) (pt : Option Addr) (cap : Nat) (L : List Tok) (w : World) (v : Value) (p' : PS) (e' : Ending) (w' : World) : Prop := e' = .returned v ∧ PA g pt cap L p' w' ∧ Off g w w'
theorem PA.keep {g : Nat} {pt : Option Addr} {cap : Nat} {L : List Tok} {p : PS} {w w' : World} (h : PA g pt cap L p w) (hb : Below w.heap.size w w') : PA g pt cap L p w' := ⟨h.1.keep hb,h.2.mono (hb.mono (Nat.le_of_lt h.1.lt)) (Nat.le_refl _)⟩
theorem StepR.keep {g : Nat} {pt : Option Addr} {cap : Nat} {L : List Tok} {p : PS} {w w' : World} {v v' : Value} (h : PA g pt cap L p w) (hb : Below w.heap.size w w') (hv : v = v') : StepR g pt cap L w v' p (.returned v) w' := ⟨by rw [hv],h.keep hb,.of hb⟩
theorem PA.now {g : Nat} {pt : Option Addr} {cap : Nat} {L : List Tok} {p : PS} {w : World} (h : PA g pt cap L p w) (hi : p.i < L.length) :
    ∃ b off,pt = some ⟨b,off,none⟩ ∧ b < g ∧ w.cell? ⟨b,off + p.i * 4,none⟩ = some (.int .i64 (p.tok L).kind) ∧ w.cell? ⟨b,off + p.i * 4 + 1,none⟩ = some (.string ⟨(p.tok L).text.toArray⟩) ∧
      w.cell? ⟨b,off + p.i * 4 + 2,none⟩ = some (.int .i64 (p.tok L).num) ∧ w.cell? ⟨b,off + p.i * 4 + 3,none⟩ = some (.int .i64 (p.tok L).pos) := by
  obtain ⟨b,off,h1,h2,h3,h4,h5,h6⟩ := h.2.get hi
  rw [PS.tok_eq hi]
  exact ⟨b,off,h1,h2,h3,h4,h5,h6⟩
theorem pIs (g : Nat) (pt : Option Addr) (cap : Nat) (L : List Tok) (p : PS) (w : World) (h : PA g pt cap L p w) (hw : PW L p) (s : List UInt8) :
    Calls Tryz.prog 48 #[.pointer (some ⟨g,0,none⟩),.string ⟨s.toArray⟩] w (StepR g pt cap L w (.bool (p.isT L s)) p) := by
  have hi := hw.at'
  have hlen := hw.len
  obtain ⟨b,off,rfl,hbg,e0,e1,e2,e3⟩ := h.now hi
  obtain ⟨hb,hl⟩ := h
  have hg := hb.lt
  have HB := Lib.hid hb
  have HL := Lib.hid hl;clear hl
  unfold PC at hb
  have c0 := hb.cell 0 _ rfl;have c1 := hb.cell 1 _ rfl;have c2 := hb.cell 2 _ rfl;have c3 := hb.cell 3 _ rfl;have c4 := hb.cell 4 _ rfl
  clear hb
  have hI : (p.isT L s) = (p.err == 0 && ((p.tok L).kind == 4 || (p.tok L).kind == 1) && (p.tok L).text == s) := rfl
  rw [hI];clear hI
  obtain ⟨t,ht⟩ : ∃ t,p.tok L = t := ⟨_,rfl⟩
  rw [ht] at e0 e1 e2 e3 ⊢
  clear ht
  have hbw : b < w.heap.size := Nat.lt_trans hbg hg
  go_enter Tryz.func48,Tryz.ntmps48;(try simp only [List.append_eq,List.cons_append,List.nil_append])
  go_wp2
  go_region
  all_goals go_wp2
  all_goals go_ret
  all_goals refine StepR.keep ⟨HB.out,HL.out⟩ ((Below.refl _ _).alloc (Nat.le_refl _) _).drew (by simp [*])
theorem PW.take {L : List Tok} {p : PS} (h : PW L p) (s : List UInt8) : PW L (p.take L s).2 := by
  unfold PS.take
  split
  · rename_i ht
    have hk : (p.tok L).kind ≠ 5 := by
      simp only [PS.isT,Bool.and_eq_true,Bool.or_eq_true,beq_iff_eq] at ht;omega
    have hn := h.next hk;have h1 := h.lo;have h2 := h.hi
    split
    · split
      · exact h.fail _ _
      · exact ⟨h.ends,h.len,hn,by simp only;omega,by simp only;omega,h.txt,h.num⟩
    · split
      · exact ⟨h.ends,h.len,hn,by simp only;omega,by simp only;omega,h.txt,h.num⟩
      · exact ⟨h.ends,h.len,hn,by simp only;omega,by simp only;omega,h.txt,h.num⟩
  · exact h
theorem PA.upd {g : Nat} {pt : Option Addr} {cap : Nat} {L : List Tok} {p q : PS} {w w' : World} (h : PA g pt cap L p w) (hg : g < w.heap.size) (ho : Off g w w') (hb : Blk w' g 87 (PC pt L.length cap q)) : PA g pt cap L q w' := ⟨hb,ho.toks h.2 (Nat.le_of_lt hg)⟩
theorem StepR.mono {g : Nat} {pt : Option Addr} {cap : Nat} {L : List Tok} {p : PS} {w w0 w' : World} {v : Value} {e : Ending} (ho : Off g w0 w) (h : StepR g pt cap L w v p e w') : StepR g pt cap L w0 v p e w' := ⟨h.1,h.2.1,ho.trans h.2.2⟩
theorem PW.need {L : List Tok} {p : PS} (h : PW L p) (s : List UInt8) : PW L (p.need L s) := by
  unfold PS.need;split
  · exact h.take s
  · exact (h.take s).fail _ _
theorem PW.token {L : List Tok} {p : PS} (h : PW L p) (k : Int) (hk : k ≠ 5) : PW L (p.token L k).2 := by
  unfold PS.token;split
  · rename_i ht
    have := h.next (by omega);have h1 := h.lo;have h2 := h.hi;exact ⟨h.ends,h.len,this,by simp only;omega,by simp only;omega,h.txt,h.num⟩
  · exact h.fail _ _
theorem Off.rowNew {g : Nat} {w w2 : World} (h : Off g w w2) {k : Nat} (hk : w.heap.size ≤ k) (cs : Array Value) : Off g w (w2.setRow k cs) :=
  ⟨h.os,h.tape,h.output,by rw [setRow_size];exact h.size,fun j hj hg => by
    rw [← h.block j hj hg]
    show (w2.heap.modify k _)[j]? = _
    rw [Array.getElem?_modify,if_neg (by omega)]⟩
theorem PA.row {g : Nat} {pt : Option Addr} {cap : Nat} {L : List Tok} {p : PS} {w : World} (h : PA g pt cap L p w) {k : Nat} (hk : g < k) (cs : Array Value) : PA g pt cap L p (w.setRow k cs) :=
  ⟨by
    unfold Blk
    show (w.heap.modify k _)[g]? = _
    rw [Array.getElem?_modify,if_neg (by omega)];exact h.1,h.2.mono (below_setRow (Below.refl g w) (Nat.le_of_lt hk) cs) (Nat.le_refl _)⟩
def Tok.val (t : Tok) : Value := .agg #[.int .i64 t.kind,.string ⟨t.text.toArray⟩,.int .i64 t.num,.int .i64 t.pos]
def noneOf (l : List ByteArray) (k : Nat) (s : ByteArray) : Prop := ∀ j (h : j < l.length),j < k → l[j] ≠ s
theorem noneOf.step {l : List ByteArray} {k : Nat} {s : ByteArray} (h : noneOf l k s) (hk : k < l.length) (hn : l[k] ≠ s) : noneOf l (k + 1) s := fun j hj hjk => by
  by_cases e : j = k
  · subst e;exact hn
  · exact h j hj (by omega)
def funcV (o : Option (Int × Int)) : Value := match o with
  | some (k,f) => .tuple #[.int .i64 k,.int .i64 f,.bool true]
  | none => .tuple #[.int .i64 0,.int .i64 0,.bool false]
theorem arrBlkP {w : World} {g t n sz : Nat} {rows : List (List Value)} (h : Blk w g t rows.flatten) (hg : g < n) (hsz : ∀ r ∈ rows,r.length = sz) (hn : rows.length ≤ maxLen) :
    Arr n w (.slice (some ⟨g,0,none⟩) rows.length rows.length) sz rows := ⟨_,_,rfl,Nat.le_refl _,hn,fun _ => ⟨g,0,rfl,hg,fun k r hr j x hx => by
      rw [Nat.zero_add];exact h.cell _ _ (flatten_at hsz hr hx)⟩⟩
theorem strsBlkP {w : World} {g n : Nat} (l : List ByteArray) (h : Blk w g 9 (l.map fun s => [Value.string s]).flatten) (hg : g < n) (hs : ∀ x ∈ l,x.size ≤ maxLen) (hn : l.length ≤ maxLen) : IsStrs n w (.slice (some ⟨g,0,none⟩) l.length l.length) l := by
  have := arrBlkP h hg (sz := 1) (fun r hr => by obtain ⟨s,_,rfl⟩ := List.mem_map.1 hr;rfl) (by simpa using hn)
  exact ⟨by simpa using this,hs⟩
def QC (pt : Option Addr) (n cap : Nat) (p : PS) : List Value := [.slice pt n cap,.int .i64 p.i,.int .i64 p.opn]
def QA (g : Nat) (pt : Option Addr) (cap : Nat) (L : List Tok) (p : PS) (w : World) : Prop := Blk w g 94 (QC pt L.length cap p) ∧ IsToks g w (.slice pt L.length cap) L
def flt (e a : Int) : List PanicEntry := [{ v := .iface 91 (.agg #[.int .i64 e,.int .i64 a]),recovered := false }]
theorem QA.keep {g : Nat} {pt : Option Addr} {cap : Nat} {L : List Tok} {p : PS} {w w' : World} (h : QA g pt cap L p w) (hb : Below w.heap.size w w') : QA g pt cap L p w' := ⟨h.1.keep hb,h.2.mono (hb.mono (Nat.le_of_lt h.1.lt)) (Nat.le_refl _)⟩
theorem QA.upd {g : Nat} {pt : Option Addr} {cap : Nat} {L : List Tok} {p q : PS} {w w' : World} (h : QA g pt cap L p w) (ho : Off g w w') (hb : Blk w' g 94 (QC pt L.length cap q)) : QA g pt cap L q w' := ⟨hb,ho.toks h.2 (Nat.le_of_lt h.1.lt)⟩
theorem QA.row {g : Nat} {pt : Option Addr} {cap : Nat} {L : List Tok} {p : PS} {w : World} (h : QA g pt cap L p w) {k : Nat} (hk : g < k) (cs : Array Value) : QA g pt cap L p (w.setRow k cs) :=
  ⟨by
    unfold Blk
    show (w.heap.modify k _)[g]? = _
    rw [Array.getElem?_modify,if_neg (by omega)];exact h.1,h.2.mono (below_setRow (Below.refl g w) (Nat.le_of_lt hk) cs) (Nat.le_refl _)⟩
theorem QA.now {g : Nat} {pt : Option Addr} {cap : Nat} {L : List Tok} {p : PS} {w : World} (h : QA g pt cap L p w) (hi : p.i < L.length) :
    ∃ b off,pt = some ⟨b,off,none⟩ ∧ b < g ∧ w.cell? ⟨b,off + p.i * 4,none⟩ = some (.int .i64 (p.tok L).kind) ∧ w.cell? ⟨b,off + p.i * 4 + 1,none⟩ = some (.string ⟨(p.tok L).text.toArray⟩) ∧
      w.cell? ⟨b,off + p.i * 4 + 2,none⟩ = some (.int .i64 (p.tok L).num) ∧ w.cell? ⟨b,off + p.i * 4 + 3,none⟩ = some (.int .i64 (p.tok L).pos) := by
  obtain ⟨b,off,h1,h2,h3,h4,h5,h6⟩ := h.2.get hi
  rw [PS.tok_eq hi]
  exact ⟨b,off,h1,h2,h3,h4,h5,h6⟩
def StepQ (g : Nat) (pt : Option Addr) (cap : Nat) (L : List Tok) (w : World) (v : Value) (p' : PS) (e' : Ending) (w' : World) : Prop :=
  (p'.err = 0 → e' = .returned v ∧ QA g pt cap L p' w') ∧ (p'.err ≠ 0 → e' = .panicked (flt p'.err p'.at')) ∧ Off g w w'
theorem StepQ.ok {g : Nat} {pt : Option Addr} {cap : Nat} {L : List Tok} {w : World} {v : Value} {p' : PS} {w' : World} (h0 : p'.err = 0) (h : QA g pt cap L p' w') (ho : Off g w w') : StepQ g pt cap L w v p' (.returned v) w' := ⟨fun _ => ⟨rfl,h⟩,fun hn => absurd h0 hn,ho⟩
theorem StepQ.bad {g : Nat} {pt : Option Addr} {cap : Nat} {L : List Tok} {w : World} {v : Value} {p' : PS} {e a : Int} {w' : World} (h0 : e ≠ 0) (he : p'.err = e) (ha : p'.at' = a) (ho : Off g w w') : StepQ g pt cap L w v p' (.panicked (flt e a)) w' := by
  subst he ha
  exact ⟨fun hn => absurd hn h0,fun _ => rfl,ho⟩
theorem fieldTokA (a c d : Int) (b : ByteArray) (wx : World) : (Instr.field 65 (.agg #[.int .i64 a,.string b,.int .i64 c,.int .i64 d]) 0).run Tryz.prog wx = .ok (.int .i64 a) wx := by kernel_rfl
theorem fieldTokB (a c d : Int) (b : ByteArray) (wx : World) : (Instr.field 65 (.agg #[.int .i64 a,.string b,.int .i64 c,.int .i64 d]) 1).run Tryz.prog wx = .ok (.string b) wx := by kernel_rfl
theorem fieldTokC (a c d : Int) (b : ByteArray) (wx : World) : (Instr.field 65 (.agg #[.int .i64 a,.string b,.int .i64 c,.int .i64 d]) 2).run Tryz.prog wx = .ok (.int .i64 c) wx := by kernel_rfl
theorem fieldTokD (a c d : Int) (b : ByteArray) (wx : World) : (Instr.field 65 (.agg #[.int .i64 a,.string b,.int .i64 c,.int .i64 d]) 3).run Tryz.prog wx = .ok (.int .i64 d) wx := by kernel_rfl
theorem qNow (g : Nat) (pt : Option Addr) (cap : Nat) (L : List Tok) (p : PS) (w : World) (h : QA g pt cap L p w) (hi : p.i < L.length) (hlen : L.length ≤ 100000) :
    Calls Tryz.prog 82 #[.pointer (some ⟨g,0,none⟩)] w fun e' w' => e' = .returned (p.tok L).val ∧ Below w.heap.size w w' := by
  obtain ⟨b,off,rfl,hbg,e0,e1,e2,e3⟩ := h.now hi
  obtain ⟨hb,hl⟩ := h
  have hg := hb.lt
  clear hl
  have hbw : b < w.heap.size := Nat.lt_trans hbg hg
  unfold QC at hb
  have c0 := hb.cell 0 _ rfl;have c1 := hb.cell 1 _ rfl;have c2 := hb.cell 2 _ rfl
  clear hb
  obtain ⟨t,ht⟩ : ∃ t,p.tok L = t := ⟨_,rfl⟩
  rw [ht] at e0 e1 e2 e3 ⊢
  clear ht
  go_enter Tryz.func82,Tryz.ntmps82;(try simp only [List.append_eq,List.cons_append,List.nil_append])
  go_wp2
  go_region
  all_goals go_wp2
  have hB := (Blk.new w [.int .i64 t.kind,.string ⟨t.text.toArray⟩,.int .i64 t.num,.int .i64 t.pos] 65).drew
  exact bodyPost_agg (d := _) rfl rfl hB Tryz.underlying65 rfl (by kernel_rfl) rfl ⟨rfl,((Below.refl _ _).alloc (Nat.le_refl _) _).drew⟩
theorem qBad (g : Nat) (pt : Option Addr) (cap : Nat) (L : List Tok) (p : PS) (w : World) (h : QA g pt cap L p w) (hi : p.i < L.length) (hlen : L.length ≤ 100000) (e : Int) :
    Calls Tryz.prog 88 #[.pointer (some ⟨g,0,none⟩),.int .i64 e] w fun e' w' => e' = .panicked (flt e (p.tok L).pos) ∧ Below w.heap.size w w' := by
  have HN := Lib.hid (qNow g pt cap L p w h hi hlen)
  unfold Tok.val at HN
  have hf := fun wx => fieldTokD (p.tok L).kind (p.tok L).num (p.tok L).pos ⟨(p.tok L).text.toArray⟩ wx
  clear h
  go_enter Tryz.func88,Tryz.ntmps88;(try simp only [List.append_eq,List.cons_append,List.nil_append])
  go_wp2_with (go_at_call 82;refine HN.out.mono ?_;rintro e' w1 ⟨rfl,hb⟩)
  exact ⟨rfl,rfl,hb⟩
def TW (t : Tok) : Prop := (t.kind = 1 → ∃ c r,t.text = c :: r ∧ letC c = true) ∧ (t.kind = 4 → ∃ c r,t.text = c :: r ∧ letC c = false)
structure QW (L : List Tok) (p : PS) : Prop where
  pw : PW L p
  tw : ∀ t ∈ L,TW t
  e0 : p.err = 0
theorem QW.tok {L : List Tok} {p : PS} (h : QW L p) : TW (p.tok L) := by
  rw [PS.tok_eq h.pw.at'];exact h.tw _ (List.getElem_mem _)
def isK (t : Tok) (k : Int) (s : List UInt8) : Bool := t.kind == k && t.text == s
theorem isT_sign {L : List Tok} {p : PS} (h : QW L p) {s : List UInt8} {c : UInt8} {r : List UInt8} (hs : s = c :: r) (hc : letC c = false) : p.isT L s = isK (p.tok L) 4 s := by
  have ht := h.tok
  unfold PS.isT isK
  rw [h.e0]
  generalize p.tok L = t at ht
  by_cases h4 : t.kind = 4
  · simp [h4]
  · by_cases h1 : t.kind = 1
    · obtain ⟨c',r',hx,hl⟩ := ht.1 h1
      have : (t.text == s) = false := by
        rw [hx,hs];simp only [beq_eq_false_iff_ne,ne_eq,List.cons.injEq,not_and];rintro rfl;rw [hl] at hc;cases hc
      simp [this]
    · rw [show (t.kind == 4) = false by simpa using h4,show (t.kind == 1) = false by simpa using h1];rfl
theorem isT_word {L : List Tok} {p : PS} (h : QW L p) {s : List UInt8} {c : UInt8} {r : List UInt8} (hs : s = c :: r) (hc : letC c = true) : p.isT L s = isK (p.tok L) 1 s := by
  have ht := h.tok
  unfold PS.isT isK
  rw [h.e0]
  generalize p.tok L = t at ht
  by_cases h1 : t.kind = 1
  · simp [h1]
  · by_cases h4 : t.kind = 4
    · obtain ⟨c',r',hx,hl⟩ := ht.2 h4
      have : (t.text == s) = false := by
        rw [hx,hs];simp only [beq_eq_false_iff_ne,ne_eq,List.cons.injEq,not_and];rintro rfl;rw [hl] at hc;cases hc
      simp [this]
    · rw [show (t.kind == 4) = false by simpa using h4,show (t.kind == 1) = false by simpa using h1];rfl
theorem qIs (g : Nat) (pt : Option Addr) (cap : Nat) (L : List Tok) (p : PS) (w : World) (h : QA g pt cap L p w) (hi : p.i < L.length) (hlen : L.length ≤ 100000) (k : Int) (s : List UInt8) :
    Calls Tryz.prog 91 #[.pointer (some ⟨g,0,none⟩),.int .i64 k,.string ⟨s.toArray⟩] w fun e' w' => e' = .returned (.bool (isK (p.tok L) k s)) ∧ Below w.heap.size w w' := by
  have HN := Lib.hid (fun (X : World) (hX : QA g pt cap L p X) => qNow g pt cap L p X hX hi hlen)
  unfold Tok.val at HN
  have hfA := fun wx => fieldTokA (p.tok L).kind (p.tok L).num (p.tok L).pos ⟨(p.tok L).text.toArray⟩ wx
  have hfB := fun wx => fieldTokB (p.tok L).kind (p.tok L).num (p.tok L).pos ⟨(p.tok L).text.toArray⟩ wx
  obtain ⟨t,ht⟩ : ∃ t,p.tok L = t := ⟨_,rfl⟩
  rw [ht] at HN hfA hfB ⊢
  clear ht
  by_cases hk : t.kind = k
  · subst hk
    have hkb : (t.kind == t.kind) = true := by simp
    have HR := Lib.hid (show isK t t.kind s = (t.text == s) from by unfold isK;rw [hkb];rfl);rw [HR.out];have HB : Hid ((t.text == s) = (t.text == s)) := Lib.hid rfl
    go_enter Tryz.func91,Tryz.ntmps91;(try simp only [List.append_eq,List.cons_append,List.nil_append])
    go_wp2_with fail
    refine (HN.out w h).mono ?_;rintro e' w1 ⟨rfl,hb1⟩
    go_wp2_with fail
    refine (HN.out w1 (h.keep hb1)).mono ?_;rintro e' w2 ⟨rfl,hb2⟩
    go_wp2_with fail
    go_ret;exact ⟨by simp [*],hb1.trans (hb2.mono hb1.size)⟩
  · have hkb : (t.kind == k) = false := by simpa using hk
    have HR := Lib.hid (show isK t k s = false from by unfold isK;rw [hkb];rfl);rw [HR.out]
    go_enter Tryz.func91,Tryz.ntmps91;(try simp only [List.append_eq,List.cons_append,List.nil_append])
    go_wp2_with fail
    refine (HN.out w h).mono ?_;rintro e' w1 ⟨rfl,hb1⟩
    go_wp2_with fail
    go_ret;exact ⟨rfl,hb1⟩
theorem qSignR (g : Nat) (pt : Option Addr) (cap : Nat) (L : List Tok) (p : PS) (w : World) (h : QA g pt cap L p w) (hi : p.i < L.length) (hlen : L.length ≤ 100000) (s : List UInt8) :
    Calls Tryz.prog 58 #[.pointer (some ⟨g,0,none⟩),.string ⟨s.toArray⟩] w fun e' w' => e' = .returned (.bool (isK (p.tok L) 4 s)) ∧ QA g pt cap L (if isK (p.tok L) 4 s then { p with i := p.i + 1 } else p) w' ∧ Off g w w' := by
  have HI := Lib.hid (qIs g pt cap L p w h hi hlen 4 s)
  have HP := Lib.hid h
  clear h
  cases hT : isK (p.tok L) 4 s with
  | false =>
    rw [hT] at HI;clear hT
    go_enter Tryz.func58,Tryz.ntmps58;(try simp only [List.append_eq,List.cons_append,List.nil_append])
    go_wp2_with fail
    refine HI.out.mono ?_;rintro e' w1 ⟨rfl,hb1⟩
    go_wp2_with fail
    go_ret;exact ⟨rfl,HP.out.keep hb1,Off.of hb1⟩
  | true =>
    rw [hT] at HI;clear hT
    go_enter Tryz.func58,Tryz.ntmps58;(try simp only [List.append_eq,List.cons_append,List.nil_append])
    go_wp2_with fail
    refine HI.out.mono ?_;rintro e' w1 ⟨rfl,hb1⟩;have hP1 := HP.out.keep hb1;have hg1 := hP1.1.lt;have hB := hP1.1;unfold QC at hB;have c0 := hB.cell 0 _ rfl;have c1 := hB.cell 1 _ rfl;have c2 := hB.cell 2 _ rfl;have f1 := hB.free 1;clear hB;have HP1 := Lib.hid hP1;clear hP1
    go_wp2_with fail
    go_ret;refine ⟨rfl,?_,(Off.of hb1).trans (Off.set w1 1 _)⟩;exact HP1.out.upd (Off.set w1 1 _) (HP1.out.1.set_ 1 _)
theorem take_sign {L : List Tok} {p : PS} (h : QW L p) {s : List UInt8} {c : UInt8} {r : List UInt8} (hs : s = c :: r) (hc : letC c = false) (h40 : s ≠ [40]) (h41 : s ≠ [41]) :
    p.take L s = (isK (p.tok L) 4 s,if isK (p.tok L) 4 s then { p with i := p.i + 1 } else p) := by
  unfold PS.take
  rw [isT_sign h hs hc,if_neg h40,if_neg h41]
  cases isK (p.tok L) 4 s <;> rfl
theorem QW.take {L : List Tok} {p : PS} (h : QW L p) (s : List UInt8) (h0 : (p.take L s).2.err = 0) : QW L (p.take L s).2 := ⟨h.pw.take s,h.tw,h0⟩
theorem qSign (g : Nat) (pt : Option Addr) (cap : Nat) (L : List Tok) (p : PS) (w : World) (h : QA g pt cap L p w) (hw : QW L p) (s : List UInt8) (c : UInt8) (r : List UInt8) (hs : s = c :: r) (hc : letC c = false) (h40 : s ≠ [40]) (h41 : s ≠ [41]) :
    Calls Tryz.prog 58 #[.pointer (some ⟨g,0,none⟩),.string ⟨s.toArray⟩] w fun e' w' => e' = .returned (.bool (p.take L s).1) ∧ QA g pt cap L (p.take L s).2 w' ∧ QW L (p.take L s).2 ∧ Off g w w' := by
  refine (qSignR g pt cap L p w h hw.pw.at' hw.pw.len s).mono ?_
  rintro e' w' ⟨rfl,hP,ho⟩
  have ht := take_sign hw hs hc h40 h41
  have hq : (p.take L s).2.err = 0 := by rw [ht];show (if isK (p.tok L) 4 s then ({ p with i := p.i + 1 } : PS) else p).err = 0;split <;> exact hw.e0
  refine ⟨by rw [ht],by rw [ht];exact hP,hw.take s hq,ho⟩
theorem need_of_not {L : List Tok} {p : PS} {s : List UInt8} (h : p.isT L s = false) : p.need L s = p.fail 14 (p.tok L).pos := by
  have : p.take L s = (false,p) := by unfold PS.take;rw [h];rfl
  unfold PS.need;rw [this];rfl
theorem need_of {L : List Tok} {p : PS} {s : List UInt8} (h : p.isT L s = true) (h40 : s ≠ [40]) (h41 : s ≠ [41]) : p.need L s = { p with i := p.i + 1 } := by
  have : p.take L s = (true,{ p with i := p.i + 1 }) := by unfold PS.take;rw [h,if_pos rfl,if_neg h40,if_neg h41]
  unfold PS.need;rw [this];rfl
theorem need_of40 {L : List Tok} {p : PS} (h : p.isT L [40] = true) (ho : p.opn ≠ 64) : p.need L [40] = { p with i := p.i + 1,opn := p.opn + 1 } := by
  have : p.take L [40] = (true,{ p with i := p.i + 1,opn := p.opn + 1 }) := by unfold PS.take;rw [h,if_pos rfl,if_pos rfl,if_neg ho]
  unfold PS.need;rw [this];rfl
theorem need_of40_bad {L : List Tok} {p : PS} (h : p.isT L [40] = true) (h0 : p.err = 0) (ho : p.opn = 64) : p.need L [40] = p.fail 3 (p.tok L).pos := by
  have : p.take L [40] = (false,p.fail 3 (p.tok L).pos) := by unfold PS.take;rw [h,if_pos rfl,if_pos rfl,if_pos ho]
  unfold PS.need;rw [this]
  show (p.fail 3 (p.tok L).pos).fail 14 _ = _
  unfold PS.fail;rw [if_pos h0];simp
theorem need_of41 {L : List Tok} {p : PS} (h : p.isT L [41] = true) : p.need L [41] = { p with i := p.i + 1,opn := p.opn - 1 } := by
  have : p.take L [41] = (true,{ p with i := p.i + 1,opn := p.opn - 1 }) := by unfold PS.take;rw [h,if_pos rfl,if_neg (by decide),if_pos rfl]
  unfold PS.need;rw [this];rfl
theorem StepQ.fail {g : Nat} {pt : Option Addr} {cap : Nat} {L : List Tok} {w : World} {v : Value} {p : PS} {e a : Int} {w' : World} (h0 : p.err = 0) (he : e ≠ 0) (ho : Off g w w') : StepQ g pt cap L w v (p.fail e a) (.panicked (flt e a)) w' := by
  have : p.fail e a = { p with err := e,at' := a } := by unfold PS.fail;rw [if_pos h0]
  rw [this];exact .bad he rfl rfl ho
theorem QW.need {L : List Tok} {p : PS} (h : QW L p) (s : List UInt8) (h0 : (p.need L s).err = 0) : QW L (p.need L s) := ⟨h.pw.need s,h.tw,h0⟩
theorem QW.token {L : List Tok} {p : PS} (h : QW L p) (k : Int) (hk : k ≠ 5) (h0 : (p.token L k).2.err = 0) : QW L (p.token L k).2 := ⟨h.pw.token k hk,h.tw,h0⟩
theorem qWant (g : Nat) (pt : Option Addr) (cap : Nat) (L : List Tok) (p : PS) (w : World) (h : QA g pt cap L p w) (hw : QW L p) (s : List UInt8) (c : UInt8) (r : List UInt8) (hs : s = c :: r) (hc : letC c = false) :
    Calls Tryz.prog 77 #[.pointer (some ⟨g,0,none⟩),.string ⟨s.toArray⟩] w (StepQ g pt cap L w (.tuple #[]) (p.need L s)) := by
  have hi := hw.pw.at'
  have hlen := hw.pw.len
  have hlo := hw.pw.lo
  have hhi := hw.pw.hi
  have H0 := Lib.hid hw.e0
  have hT := isT_sign hw hs hc
  have HI := Lib.hid (fun (X : World) (hX : QA g pt cap L p X) => qIs g pt cap L p X hX hi hlen 4 s)
  have HS := Lib.hid (fun (X : World) (hX : QA g pt cap L p X) => qSignR g pt cap L p X hX hi hlen s)
  have HB := Lib.hid (fun (X : World) (hX : QA g pt cap L p X) (e : Int) => qBad g pt cap L p X hX hi hlen e)
  clear hs hw
  by_cases h40 : s = [40]
  · subst h40
    cases hk : isK (p.tok L) 4 [40] with
    | false =>
      rw [hk] at hT HI HS;have HR := Lib.hid (need_of_not hT);clear hT hk;rw [HR.out]
      go_enter Tryz.func77,Tryz.ntmps77;(try simp only [List.append_eq,List.cons_append,List.nil_append])
      go_wp2_with fail
      refine (HI.out w h).mono ?_;rintro e' w1 ⟨rfl,hb1⟩
      go_wp2_with fail
      refine (HS.out w1 (h.keep hb1)).mono ?_;rintro e' w2 ⟨rfl,hP2,ho2⟩
      replace hP2 : QA g pt cap L p w2 := hP2
      go_wp2_with fail
      refine (HB.out w2 hP2 14).mono ?_;rintro e' w3 ⟨rfl,hb3⟩;exact ⟨rfl,StepQ.fail H0.out (by decide) (((Off.of hb1).trans ho2).trans (Off.of hb3))⟩
    | true =>
      rw [hk] at hT HI HS
      by_cases h64 : p.opn = 64
      · have h64b : (p.opn == 64) = true := by simpa using h64
        have HR := Lib.hid (need_of40_bad hT H0.out h64);clear hT hk;rw [HR.out]
        go_enter Tryz.func77,Tryz.ntmps77;(try simp only [List.append_eq,List.cons_append,List.nil_append])
        go_wp2_with fail
        refine (HI.out w h).mono ?_;rintro e' w1 ⟨rfl,hb1⟩;have hP1 := h.keep hb1;have hg1 := hP1.1.lt;have hB := hP1.1;unfold QC at hB;have c0 := hB.cell 0 _ rfl;have c1 := hB.cell 1 _ rfl;have c2 := hB.cell 2 _ rfl;clear hB;have HP1 := Lib.hid hP1;clear hP1
        go_wp2_with fail
        refine (HB.out w1 HP1.out 3).mono ?_;rintro e' w3 ⟨rfl,hb3⟩;exact ⟨rfl,StepQ.fail H0.out (by decide) ((Off.of hb1).trans (Off.of hb3))⟩
      · have h64b : (p.opn == 64) = false := by simpa using h64
        have HR := Lib.hid (need_of40 hT h64);clear hT hk;rw [HR.out]
        go_enter Tryz.func77,Tryz.ntmps77;(try simp only [List.append_eq,List.cons_append,List.nil_append])
        go_wp2_with fail
        refine (HI.out w h).mono ?_;rintro e' w1 ⟨rfl,hb1⟩;have hP1 := h.keep hb1;have hg1 := hP1.1.lt;have hB := hP1.1;unfold QC at hB;have c0 := hB.cell 0 _ rfl;have c1 := hB.cell 1 _ rfl;have c2 := hB.cell 2 _ rfl;clear hB;have HP1 := Lib.hid hP1;clear hP1
        go_wp2_with fail
        refine (HS.out w1 HP1.out).mono ?_;rintro e' w2 ⟨rfl,hP2,ho2⟩
        replace hP2 : QA g pt cap L { p with i := p.i + 1 } w2 := hP2
        have hg2 := hP2.1.lt;have hB := hP2.1;unfold QC at hB;have d2 := hB.cell 2 _ rfl;have f2 := hB.free 2;clear hB;have HP2 := Lib.hid hP2;clear hP2
        go_wp2_with fail
        refine bodyPost_end (results_none rfl _ _ _) rfl ?_;exact .ok H0.out (HP2.out.upd (Off.set w2 2 _) (HP2.out.1.set_ 2 _)) (((Off.of hb1).trans ho2).trans (Off.set w2 2 _))
  · have h40b : (s == [40]) = false := by simpa using h40
    cases hk : isK (p.tok L) 4 s with
    | false =>
      rw [hk] at hT HI HS;have HR := Lib.hid (need_of_not hT);clear hT hk;rw [HR.out]
      go_enter Tryz.func77,Tryz.ntmps77;(try simp only [List.append_eq,List.cons_append,List.nil_append])
      go_wp2_with fail
      refine (HS.out w h).mono ?_;rintro e' w2 ⟨rfl,hP2,ho2⟩
      replace hP2 : QA g pt cap L p w2 := hP2
      go_wp2_with fail
      refine (HB.out w2 hP2 14).mono ?_;rintro e' w3 ⟨rfl,hb3⟩;exact ⟨rfl,StepQ.fail H0.out (by decide) (ho2.trans (Off.of hb3))⟩
    | true =>
      rw [hk] at hT HI HS
      by_cases h41 : s = [41]
      · subst h41
        have HR := Lib.hid (need_of41 hT);clear hT hk;rw [HR.out]
        go_enter Tryz.func77,Tryz.ntmps77;(try simp only [List.append_eq,List.cons_append,List.nil_append])
        go_wp2_with fail
        refine (HS.out w h).mono ?_;rintro e' w2 ⟨rfl,hP2,ho2⟩
        replace hP2 : QA g pt cap L { p with i := p.i + 1 } w2 := hP2
        have hg2 := hP2.1.lt;have hB := hP2.1;unfold QC at hB;have d2 := hB.cell 2 _ rfl;have f2 := hB.free 2;clear hB;have HP2 := Lib.hid hP2;clear hP2
        go_wp2_with fail
        refine bodyPost_end (results_none rfl _ _ _) rfl ?_;exact .ok H0.out (HP2.out.upd (Off.set w2 2 _) (HP2.out.1.set_ 2 _)) (ho2.trans (Off.set w2 2 _))
      · have h41b : (s == [41]) = false := by simpa using h41
        have HR := Lib.hid (need_of hT h40 h41);clear hT hk h40 h41;rw [HR.out]
        go_enter Tryz.func77,Tryz.ntmps77;(try simp only [List.append_eq,List.cons_append,List.nil_append])
        go_wp2_with fail
        refine (HS.out w h).mono ?_;rintro e' w2 ⟨rfl,hP2,ho2⟩
        replace hP2 : QA g pt cap L { p with i := p.i + 1 } w2 := hP2
        go_wp2_with fail
        refine bodyPost_end (results_none rfl _ _ _) rfl ?_;exact .ok H0.out hP2 ho2
theorem qWord (g : Nat) (pt : Option Addr) (cap : Nat) (L : List Tok) (p : PS) (w : World) (h : QA g pt cap L p w) (hw : QW L p) (s : List UInt8) (c : UInt8) (r : List UInt8) (hs : s = c :: r) (hc : letC c = true) :
    Calls Tryz.prog 76 #[.pointer (some ⟨g,0,none⟩),.string ⟨s.toArray⟩] w (StepQ g pt cap L w (.tuple #[]) (p.need L s)) := by
  have hi := hw.pw.at'
  have hlen := hw.pw.len
  have H0 := Lib.hid hw.e0
  have hT := isT_word hw hs hc
  have HI := Lib.hid (fun (X : World) (hX : QA g pt cap L p X) => qIs g pt cap L p X hX hi hlen 1 s)
  have HB := Lib.hid (fun (X : World) (hX : QA g pt cap L p X) (e : Int) => qBad g pt cap L p X hX hi hlen e)
  have h40 : s ≠ [40] := by rintro rfl;simp only [List.cons.injEq] at hs;obtain ⟨rfl,-⟩ := hs;exact absurd hc (by decide)
  have h41 : s ≠ [41] := by rintro rfl;simp only [List.cons.injEq] at hs;obtain ⟨rfl,-⟩ := hs;exact absurd hc (by decide)
  clear hs hw
  cases hk : isK (p.tok L) 1 s with
  | false =>
    rw [hk] at hT HI;have HR := Lib.hid (need_of_not hT);clear hT hk h40 h41;rw [HR.out]
    go_enter Tryz.func76,Tryz.ntmps76;(try simp only [List.append_eq,List.cons_append,List.nil_append])
    go_wp2_with fail
    refine (HI.out w h).mono ?_;rintro e' w1 ⟨rfl,hb1⟩
    go_wp2_with fail
    refine (HB.out w1 (h.keep hb1) 14).mono ?_;rintro e' w3 ⟨rfl,hb3⟩;exact ⟨rfl,StepQ.fail H0.out (by decide) ((Off.of hb1).trans (Off.of hb3))⟩
  | true =>
    rw [hk] at hT HI;have HR := Lib.hid (need_of hT h40 h41);clear hT hk h40 h41;rw [HR.out]
    go_enter Tryz.func76,Tryz.ntmps76;(try simp only [List.append_eq,List.cons_append,List.nil_append])
    go_wp2_with fail
    refine (HI.out w h).mono ?_;rintro e' w1 ⟨rfl,hb1⟩;have hP1 := h.keep hb1;have hg1 := hP1.1.lt;have hB := hP1.1;unfold QC at hB;have c0 := hB.cell 0 _ rfl;have c1 := hB.cell 1 _ rfl;have c2 := hB.cell 2 _ rfl;have f1 := hB.free 1;clear hB;have HP1 := Lib.hid hP1;clear hP1
    go_wp2_with fail
    refine bodyPost_end (results_none rfl _ _ _) rfl ?_;exact .ok H0.out (HP1.out.upd (Off.set w1 1 _) (HP1.out.1.set_ 1 _)) ((Off.of hb1).trans (Off.set w1 1 _))
abbrev ZT : List Value := [.int .i64 0,.string ⟨#[]⟩,.int .i64 0,.int .i64 0]
abbrev TC (t : Tok) : List Value := [.int .i64 t.kind,.string ⟨t.text.toArray⟩,.int .i64 t.num,.int .i64 t.pos]
theorem qAny (g : Nat) (pt : Option Addr) (cap : Nat) (L : List Tok) (p : PS) (w : World) (h : QA g pt cap L p w) (hw : QW L p) (k : Int) :
    Calls Tryz.prog 55 #[.pointer (some ⟨g,0,none⟩),.int .i64 k] w (StepQ g pt cap L w (p.token L k).1.val (p.token L k).2) := by
  have hi := hw.pw.at'
  have hlen := hw.pw.len
  have H0 := Lib.hid hw.e0
  have HN := Lib.hid (fun (X : World) (hX : QA g pt cap L p X) => qNow g pt cap L p X hX hi hlen)
  have HB := Lib.hid (fun (X : World) (hX : QA g pt cap L p X) (e : Int) => qBad g pt cap L p X hX hi hlen e)
  have hg := h.1.lt
  unfold Tok.val at HN
  unfold PS.token
  obtain ⟨t,ht⟩ : ∃ t,p.tok L = t := ⟨_,rfl⟩
  rw [ht] at HN HB ⊢
  clear ht hw
  by_cases hk : t.kind = k
  · have hkb : (t.kind != k) = false := by simp [hk]
    rw [if_pos ⟨H0.out,hk⟩];clear hk
    go_enter Tryz.func55,Tryz.ntmps55;(try simp only [List.append_eq,List.cons_append,List.nil_append])
    go_wp2_with fail
    have hZ := Blk.new w ZT 65;have hb0 : Below w.heap.size w (w.alloc (.cells ZT.toArray 65)) := (Below.refl _ _).alloc (Nat.le_refl _) _;refine (HN.out _ (h.keep hb0)).mono ?_;rintro e' w1 ⟨rfl,hb1⟩;have hZ1 := hZ.keep hb1;have hP1 := (h.keep hb0).keep hb1;have hb1' := hb0.trans (hb1.mono hb0.size);have hlt1 := hZ1.lt;have hg1 := hP1.1.lt;have hB := hP1.1;unfold QC at hB;have c0 := hB.cell 0 _ rfl;have c1 := hB.cell 1 _ rfl;have c2 := hB.cell 2 _ rfl;have f1 := hB.free 1;clear hB hZ hb0 hb1;have HP1 := Lib.hid hP1;clear hP1;have HZ1 := Lib.hid hZ1;clear hZ1;have HB1 := Lib.hid hb1';clear hb1';have hos := Off.set (g := g) w1 1 (.int .i64 ((p.i : Int) + 1));have HZs := Lib.hid ((HZ1.out.far (p := ⟨g,1,none⟩) (by show w.heap.size ≠ g;omega) (.int .i64 ((p.i : Int) + 1))).alloc (.cells (TC t).toArray 65));have hba : Below (w1.setCell ⟨g,1,none⟩ (.int .i64 ((p.i : Int) + 1))).heap.size (w1.setCell ⟨g,1,none⟩ (.int .i64 ((p.i : Int) + 1))) ((w1.setCell ⟨g,1,none⟩ (.int .i64 ((p.i : Int) + 1))).alloc (.cells (TC t).toArray 65)) := (Below.refl _ _).alloc (Nat.le_refl _) _;have HP2 := Lib.hid ((HP1.out.upd (q := { p with i := p.i + 1 }) hos (HP1.out.1.set_ 1 _)).keep hba);have HO2 := Lib.hid (((Off.of (g := g) HB1.out).trans hos).trans (Off.of hba));clear hos hba
    go_wp2_with (refine wpList_store_row rfl 65 _ _ rfl w.heap.size (TC t).toArray rfl rfl 65 _ HZs.out (by kernel_rfl) rfl (by kernel_rfl) ?_)
    exact bodyPost_agg (d := _) rfl rfl (setRow_at HZs.out _) Tryz.underlying65 rfl (by kernel_rfl) rfl (StepQ.ok (p' := { p with i := p.i + 1 }) H0.out (HP2.out.row hg _) (HO2.out.rowNew (Nat.le_refl _) _))
  · have hkb : (t.kind != k) = true := by simp [hk]
    rw [if_neg (fun h => hk h.2)];clear hk
    go_enter Tryz.func55,Tryz.ntmps55;(try simp only [List.append_eq,List.cons_append,List.nil_append])
    go_wp2_with fail
    have hZ := Blk.new w ZT 65;have hb0 : Below w.heap.size w (w.alloc (.cells ZT.toArray 65)) := (Below.refl _ _).alloc (Nat.le_refl _) _;refine (HN.out _ (h.keep hb0)).mono ?_;rintro e' w1 ⟨rfl,hb1⟩;have hZ1 := hZ.keep hb1;have hP1 := (h.keep hb0).keep hb1;have hb1' := hb0.trans (hb1.mono hb0.size);have hlt1 := hZ1.lt;have hg1 := hP1.1.lt;clear hZ hb0 hb1 hZ1
    go_wp2_with fail
    refine (HB.out _ (hP1.keep ((Below.refl w1.heap.size w1).alloc (Nat.le_refl _) (.cells (TC t).toArray 65))) 14).mono ?_;rintro e' w3 ⟨rfl,hb3⟩;exact ⟨rfl,StepQ.fail H0.out (by decide) (((Off.of hb1').trans (Off.of ((Below.refl w1.heap.size w1).alloc (Nat.le_refl _) (.cells (TC t).toArray 65)))).trans (Off.of hb3))⟩
def placeF (ws s : List UInt8) : Nat → Nat → Nat → Nat → Int
  | 0,_,_,_ => 0
  | f + 1,i,n,a =>
    if i < ws.length ∧ ws.getD i 0 ≠ 32 then placeF ws s f (i + 1) n a
    else if (ws.take i).drop a = s then n else placeF ws s f (i + 1) (n + 1) (i + 1)
theorem toList_list (a b : ByteArray) : (a.toList == b.toList) = decide (a.data.toList = b.data.toList) := by
  rw [toList_beq]
  obtain ⟨⟨x⟩⟩ := a
  obtain ⟨⟨y⟩⟩ := b
  rw [Bool.eq_iff_iff];simp
theorem extract_list (s : ByteArray) (a b : Nat) : (s.extract a b).data.toList = (s.data.toList.take b).drop a := by
  simp only [ByteArray.data_extract]
  simp [List.extract_eq_take_drop,List.drop_take]
theorem qPlace (ws s : ByteArray) (hw : ws.size ≤ 100) (w : World) : Calls Tryz.prog 52 #[.string ws,.string s] w fun e' w' => e' = .returned (.int .i64 (placeF ws.data.toList s.data.toList (ws.size + 1) 0 1 0)) ∧ w = w' := by
  obtain ⟨R,hR⟩ : ∃ R,placeF ws.data.toList s.data.toList (ws.size + 1) 0 1 0 = R := ⟨_,rfl⟩
  have HR := Lib.hid hR
  rw [hR];clear hR
  have hlen : ws.data.toList.length = ws.size := by simp
  have HL := Lib.hid hlen;clear hlen
  go_enter Tryz.func52,Tryz.ntmps52;(try simp only [List.append_eq,List.cons_append,List.nil_append])
  go_wp2
  go_loop [5,6,7] (fun n at' i => ∃ (k m a : Nat),k ≤ ws.size + 1 ∧ a ≤ k ∧ m ≤ k + 1 ∧ n = .int .i64 m ∧ at' = .int .i64 a ∧ i = .int .i64 k ∧ Hid (placeF ws.data.toList s.data.toList (ws.size + 1 - k) k m a = R)) (fun _ _ i => ws.size + 1 - (intOf i).toNat)
  case atStart => exact ⟨0,1,0,by omega,by omega,by omega,rfl,rfl,rfl,HR⟩
  case round =>
    obtain ⟨k,m,a,hk,ha,hm,rfl,rfl,rfl,HP⟩ := hrel
    by_cases hle : k ≤ ws.size
    · have HS : Hid (ws.size + 1 - k = (ws.size + 1 - (k + 1)) + 1) := Lib.hid (by omega)
      have HP2 := HP;have HE := Lib.hid (extract_list ws a k);have HQ := Lib.hid (toList_list (ws.extract a k) s)
      by_cases hlt : k < ws.size
      · have HG : Hid (ws.data.toList.getD k 0 = ws[k]) := Lib.hid (by rw [List.getD_eq_getElem?_getD,List.getElem?_eq_getElem (by simpa using hlt)];rfl)
        by_cases h32 : ws[k] = 32
        · have hb : ((ws[k].toNat : Int) != 32) = false := by rw [h32];rfl
          have HN : Hid (placeF ws.data.toList s.data.toList (ws.size + 1 - k) k m a = if (ws.data.toList.take k).drop a = s.data.toList then (m : Int) else placeF ws.data.toList s.data.toList (ws.size + 1 - (k + 1)) (k + 1) (m + 1) (k + 1)) := Lib.hid (by
            rw [HS.out,placeF,if_neg (by rw [HG.out];exact fun h => h.2 h32)])
          clear h32
          by_cases he : (ws.data.toList.take k).drop a = s.data.toList
          · have hq : ((ws.extract a k).toList == s.toList) = true := by rw [HQ.out,HE.out];simpa using he
            have HX := Lib.hid he;clear he;go_wp2;go_ret;exact ⟨ret_int (by rw [← HP.out,HN.out,if_pos HX.out]),rfl⟩
          · have hq : ((ws.extract a k).toList == s.toList) = false := by rw [HQ.out,HE.out];simpa using he
            have HX := Lib.hid he;clear he;go_wp2
            go_round
            case rel => exact ⟨k + 1,m + 1,k + 1,by omega,by omega,by omega,by go_num,by go_num,by go_num,Lib.hid (by rw [← HP.out,HN.out,if_neg HX.out])⟩
            case measure => simp [intOf];omega
        · have hb : ((ws[k].toNat : Int) != 32) = true := by
            have := (u8_eq_iff ws[k] 32 (by omega));simp only [bne_iff_ne,ne_eq];intro h;exact h32 (this.2 h)
          have HN : Hid (placeF ws.data.toList s.data.toList (ws.size + 1 - k) k m a = placeF ws.data.toList s.data.toList (ws.size + 1 - (k + 1)) (k + 1) m a) := Lib.hid (by
            rw [HS.out,placeF,if_pos ⟨by rw [HL.out];exact hlt,by rw [HG.out];exact h32⟩])
          clear h32;go_wp2
          go_round
          case rel => exact ⟨k + 1,m,a,by omega,by omega,by omega,rfl,rfl,by go_num,Lib.hid (by rw [← HP.out,HN.out])⟩
          case measure => simp [intOf];omega
      · have HN : Hid (placeF ws.data.toList s.data.toList (ws.size + 1 - k) k m a = if (ws.data.toList.take k).drop a = s.data.toList then (m : Int) else placeF ws.data.toList s.data.toList (ws.size + 1 - (k + 1)) (k + 1) (m + 1) (k + 1)) := Lib.hid (by
          rw [HS.out,placeF,if_neg (by rw [HL.out];exact fun h => hlt h.1)])
        by_cases he : (ws.data.toList.take k).drop a = s.data.toList
        · have hq : ((ws.extract a k).toList == s.toList) = true := by rw [HQ.out,HE.out];simpa using he
          have HX := Lib.hid he;clear he;go_wp2;go_ret;exact ⟨ret_int (by rw [← HP.out,HN.out,if_pos HX.out]),rfl⟩
        · have hq : ((ws.extract a k).toList == s.toList) = false := by rw [HQ.out,HE.out];simpa using he
          have HX := Lib.hid he;clear he;go_wp2
          go_round
          case rel => exact ⟨k + 1,m + 1,k + 1,by omega,by omega,by omega,by go_num,by go_num,by go_num,Lib.hid (by rw [← HP.out,HN.out,if_neg HX.out])⟩
          case measure => simp [intOf];omega
    · have hk1 : k = ws.size + 1 := by omega
      have HX : Hid (R = 0) := Lib.hid (by rw [← HP.out,hk1,Nat.sub_self,placeF]);clear hk1;go_wp2;go_ret;exact ⟨ret_int HX.out.symm,rfl⟩
def W1 : ByteArray := ⟨#[115,117,109,32,99,111,117,110,116,32,109,105,110,32,109,97,120,32,108,97,115,116,32,105,110,99,114,101,97,115,101]⟩
def W2 : ByteArray := ⟨#[116,111,116,97,108,32,109,97,110,121,32,108,101,97,115,116,32,109,111,115,116]⟩
theorem place1 (s : List UInt8) : placeF W1.data.toList s 32 0 1 0 = if wordL 1 1 = s then 1 else if wordL 1 2 = s then 2 else if wordL 1 3 = s then 3 else if wordL 1 4 = s then 4 else if wordL 1 5 = s then 5 else if wordL 1 6 = s then 6 else 0 := by
  simp [placeF,W1,wordL]
theorem place2 (s : List UInt8) : placeF W2.data.toList s 22 0 1 0 = if wordL 2 1 = s then 1 else if wordL 2 2 = s then 2 else if wordL 2 3 = s then 3 else if wordL 2 4 = s then 4 else 0 := by
  simp [placeF,W2,wordL]
theorem funcOf_place (s : List UInt8) : funcOf s = if 0 < placeF W1.data.toList s 32 0 1 0 then some (1,placeF W1.data.toList s 32 0 1 0) else if 0 < placeF W2.data.toList s 22 0 1 0 then some (2,placeF W2.data.toList s 22 0 1 0) else none := by
  rw [place1,place2]
  unfold funcOf
  simp only [eq_comm (a := s)]
  by_cases h1 : wordL 1 1 = s
  · simp [h1]
  by_cases h2 : wordL 1 2 = s
  · simp [h1,h2]
  by_cases h3 : wordL 1 3 = s
  · simp [h1,h2,h3]
  by_cases h4 : wordL 1 4 = s
  · simp [h1,h2,h3,h4]
  by_cases h5 : wordL 1 5 = s
  · simp [h1,h2,h3,h4,h5]
  by_cases h6 : wordL 1 6 = s
  · simp [h1,h2,h3,h4,h5,h6]
  by_cases k1 : wordL 2 1 = s
  · simp [h1,h2,h3,h4,h5,h6,k1]
  by_cases k2 : wordL 2 2 = s
  · simp [h1,h2,h3,h4,h5,h6,k1,k2]
  by_cases k3 : wordL 2 3 = s
  · simp [h1,h2,h3,h4,h5,h6,k1,k2,k3]
  by_cases k4 : wordL 2 4 = s
  · simp [h1,h2,h3,h4,h5,h6,k1,k2,k3,k4]
  simp [h1,h2,h3,h4,h5,h6,k1,k2,k3,k4]
theorem qFunc (s : ByteArray) (w : World) : Calls Tryz.prog 20 #[.string s] w fun e' w' => e' = .returned (funcV (funcOf s.data.toList)) ∧ w = w' := by
  have H1 := Lib.hid (qPlace W1 s (by decide) w)
  have H2 := Lib.hid (qPlace W2 s (by decide) w)
  have HF := Lib.hid (funcOf_place s.data.toList)
  rw [HF.out]
  rw [show W1.size + 1 = 32 from by decide] at H1
  rw [show W2.size + 1 = 22 from by decide] at H2
  clear HF
  generalize placeF W1.data.toList s.data.toList 32 0 1 0 = x at H1 ⊢
  generalize placeF W2.data.toList s.data.toList 22 0 1 0 = y at H2 ⊢
  by_cases hx : 0 < x
  · rw [if_pos hx]
    go_enter Tryz.func20,Tryz.ntmps20;(try simp only [List.append_eq,List.cons_append,List.nil_append])
    go_wp2_with fail
    refine H1.out.mono ?_;rintro e' w' ⟨rfl,rfl⟩;go_wp2
    go_ret3
    exact ⟨rfl,rfl⟩
  · rw [if_neg hx]
    by_cases hy : 0 < y
    · rw [if_pos hy]
      go_enter Tryz.func20,Tryz.ntmps20;(try simp only [List.append_eq,List.cons_append,List.nil_append])
      go_wp2_with fail
      refine H1.out.mono ?_;rintro e' w' ⟨rfl,rfl⟩
      go_wp2_with fail
      refine H2.out.mono ?_;rintro e' w' ⟨rfl,rfl⟩;go_wp2
      go_ret3
      exact ⟨rfl,rfl⟩
    · rw [if_neg hy]
      go_enter Tryz.func20,Tryz.ntmps20;(try simp only [List.append_eq,List.cons_append,List.nil_append])
      go_wp2_with fail
      refine H1.out.mono ?_;rintro e' w' ⟨rfl,rfl⟩
      go_wp2_with fail
      refine H2.out.mono ?_;rintro e' w' ⟨rfl,rfl⟩;go_wp2
      go_ret3
      exact ⟨rfl,rfl⟩
end Go.Proofs.YtpmbamfpmmdhcaaGreat
