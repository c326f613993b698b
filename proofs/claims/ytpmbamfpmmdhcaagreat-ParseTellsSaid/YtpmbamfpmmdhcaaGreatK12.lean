/- Bytes that a function makes, in a block of its own; a string out of them; the sum of strings. -/
import Derived.Test.YtpmbamfpmmdhcaaGreatK11
import Derived.Test.YtpmbamfpmmdhcaaGreatProg
import Derived.Laws.IdiomStrings
import Derived.Lib.BufferRead
set_option maxRecDepth 100000
set_option maxHeartbeats 16000000
namespace Go.Proofs.YtpmbamfpmmdhcaaGreat
open Go.RowKit
set_option linter.unusedSimpArgs false
set_option linter.unusedVariables false
def bc (l : List UInt8) : List Value := l.map fun b => .int .u8 (b.toNat : Int)
theorem bc_snoc (l : List UInt8) (c : UInt8) : bc (l ++ [c]) = bc l ++ [.int .u8 (c.toNat : Int)] := by simp [bc]
def OwnB (base : Nat) (w : World) (v : Value) (l : List UInt8) : Prop := w.ownsRow base 5 1 v l.length (bc l)
theorem infoB : (Tryz.prog.info? 5).map (fun i => (i.zero,i.size,i.bytes)) = some (some (.int .u8 0),1,1) := by kernel_rfl
theorem ownB_slice {w : World} {base : Nat} {v : Value} {l : List UInt8} (h : OwnB base w v l) : ∃ A cap,v = .slice A l.length cap := by
  rcases h.2 with ⟨rfl,h2⟩ | ⟨g,cap,cur,rfl,_⟩
  · exact ⟨none,0,by rw [h2]⟩
  · exact ⟨_,_,rfl⟩
theorem ownB_convert {w : World} {base : Nat} {v : Value} {l : List UInt8} (h : OwnB base w v l) : (convert 45 9 v).run Tryz.prog w = .ok (.string ⟨l.toArray⟩) w := by
  rcases h.2 with ⟨rfl,h2⟩ | ⟨g,cap,cur,rfl,_⟩
  · have : l = [] := List.eq_nil_of_length_eq_zero h2
    subst this;exact Lib.run_convert_nil_bytes w _ _ 5 0 Tryz.underlying45 Tryz.underlying5 Tryz.underlying9
  · refine run_convert_bytes_back w _ _ 5 _ cap l Tryz.underlying45 Tryz.underlying5 Tryz.underlying9 (fun j hj => ?_)
    exact h.cells (g := g) rfl j _ (by simp [bc,hj])
theorem one_new (w : World) (x : Value) (t : Nat) : ∀ j u,[x][j]? = some u → (w.alloc (.cells #[x] t)).cell? ((⟨w.heap.size,0,none⟩ : Addr).add j) = some u := by
  intro j u hu
  match j,hu with
  | 0,hu =>
    simp at hu;subst hu
    show (w.alloc (.cells #[x] t)).cell? ⟨w.heap.size,0,none⟩ = _
    rw [World.cell?_alloc_new];rfl
  | j + 1,hu => simp at hu
theorem one_u8 (n : Int) : ∀ u ∈ [Value.int .u8 n],u.oneCell' = true := by
  intro u hu;simp only [List.mem_singleton] at hu;subst hu;rfl
def sl (s : ByteArray) (k : Nat) : List UInt8 := s.data.toList.drop k
theorem sl_length (s : ByteArray) (k : Nat) : (sl s k).length = s.size - k := by unfold sl;simp
theorem sl_cons {s : ByteArray} {k : Nat} (h : k < s.size) : sl s k = s[k] :: sl s (k + 1) := by
  unfold sl
  rw [List.drop_eq_getElem_cons (by simpa using h)];rfl
theorem sl_end {s : ByteArray} {k : Nat} (h : s.size ≤ k) : sl s k = [] := by unfold sl;exact List.drop_of_length_le (by simpa using h)
theorem sl_drop (s : ByteArray) (k n : Nat) : (sl s k).drop n = sl s (k + n) := by unfold sl;rw [List.drop_drop]
theorem headIs_at {p : UInt8 → Bool} {s : ByteArray} {k : Nat} (h : k < s.size) : headIs p (sl s k) = p s[k] := by rw [sl_cons h];rfl
theorem headIs_end {p : UInt8 → Bool} {s : ByteArray} {k : Nat} (h : s.size ≤ k) : headIs p (sl s k) = false := by rw [sl_end h];rfl
theorem sl_snoc {s : ByteArray} {a k : Nat} (ha : a ≤ k) (h : k < s.size) : (sl s a).take (k + 1 - a) = (sl s a).take (k - a) ++ [s[k]] := by
  have e : k + 1 - a = (k - a) + 1 := by omega
  rw [e,List.take_succ_eq_append_getElem (by rw [sl_length];omega)]
  unfold sl
  rw [List.getElem_drop]
  congr 2
  have : a + (k - a) = k := by omega
  simp only [this];rfl
theorem extract_sl (s : ByteArray) (a n : Nat) : s.extract a (a + n) = ⟨((sl s a).take n).toArray⟩ := by
  unfold sl
  apply ByteArray.ext
  simp only [ByteArray.data_extract]
  apply Array.ext'
  simp [List.extract_eq_take_drop]
theorem letC_iff (c : UInt8) : letC c = decide ((97 ≤ (c.toNat : Int) ∧ (c.toNat : Int) ≤ 122) ∨ (c.toNat : Int) = 95) := by
  rw [Bool.eq_iff_iff]
  have h : (c == 95) = true ↔ (c.toNat : Int) = 95 := by
    rw [beq_iff_eq]
    constructor
    · intro h;rw [h];rfl
    · intro h;apply UInt8.toNat_inj.1;have h' : c.toNat = 95 := by omega
      rw [h'];rfl
  simp only [letC,Bool.or_eq_true,h,decide_eq_true_eq,Bool.and_eq_true,UInt8.le_iff_toNat_le]
  simp
  omega
theorem dgC_iff (c : UInt8) : dgC c = decide (48 ≤ (c.toNat : Int) ∧ (c.toNat : Int) ≤ 57) := by
  rw [Bool.eq_iff_iff]
  simp only [dgC,decide_eq_true_eq,Bool.and_eq_true,UInt8.le_iff_toNat_le]
  simp
  omega
theorem u8_eq_iff (c : UInt8) (n : Nat) (hn : n < 256) : (c = UInt8.ofNat n) ↔ (c.toNat : Int) = n := by
  constructor
  · intro h;rw [h];simp [UInt8.toNat_ofNat'];omega
  · intro h;apply UInt8.toNat_inj.1;rw [UInt8.toNat_ofNat'];omega
def Tok.cells (t : Tok) : List Value := [.int .i64 t.kind,.string ⟨t.text.toArray⟩,.int .i64 t.num,.int .i64 t.pos]
def IsToks (n : Nat) (w : World) (v : Value) (l : List Tok) : Prop := Arr n w v 4 (l.map Tok.cells)
theorem IsToks.mono {n m : Nat} {w w' : World} {v : Value} {l : List Tok} (h : IsToks n w v l) (hb : Below n w w') (hm : n ≤ m) : IsToks m w' v l := Arr.mono h hb hm
theorem IsToks.open {n : Nat} {w : World} {v : Value} {l : List Tok} (h : IsToks n w v l) : ∃ p cap,v = .slice p l.length cap ∧ l.length ≤ cap ∧ cap ≤ maxLen ∧ l.length ≤ maxLen := by
  obtain ⟨p,cap,hv,h1,h2,_⟩ := h
  simp only [List.length_map] at hv h1
  exact ⟨p,cap,hv,h1,h2,by omega⟩
theorem IsToks.get {n : Nat} {w : World} {p : Option Addr} {len cap : Nat} {l : List Tok} (h : IsToks n w (.slice p len cap) l) {k : Nat} (hk : k < l.length) :
    ∃ b off,p = some ⟨b,off,none⟩ ∧ b < n ∧ w.cell? ⟨b,off + k * 4,none⟩ = some (.int .i64 l[k].kind) ∧ w.cell? ⟨b,off + k * 4 + 1,none⟩ = some (.string ⟨l[k].text.toArray⟩) ∧
      w.cell? ⟨b,off + k * 4 + 2,none⟩ = some (.int .i64 l[k].num) ∧ w.cell? ⟨b,off + k * 4 + 3,none⟩ = some (.int .i64 l[k].pos) := by
  obtain ⟨b,off,hp,hb,hc⟩ := h.at k l[k].cells (by simp [hk])
  exact ⟨b,off,hp,hb,hc 0 _ rfl,hc 1 _ rfl,hc 2 _ rfl,hc 3 _ rfl⟩
def freeOf (l : List Tok) : Bool := match l.getLast? with
  | none => true
  | some t => t.free
def MayNew (w w' : World) : Prop := w = w' ∨ ∃ o,w.alloc o = w'
theorem wrapNeg (N : Nat) (h : N ≤ 9223372036854775808) : wrap64 (IntKind.u64.wrap (-(N : Int))) = -(N : Int) := by
  rw [IntKind.wrap_u64];unfold wrap64;omega
theorem wrapPos (N : Nat) (h : N < 9223372036854775808) : wrap64 (N : Int) = (N : Int) := by
  unfold wrap64;omega
theorem decV_snoc (l : List UInt8) (c : UInt8) : decV (l ++ [c]) = decV l * 10 + (c.toNat - 48) := by simp [decV]
theorem decV_mono (l m : List UInt8) : decV l ≤ decV (l ++ m) := by
  induction m generalizing l with
  | nil => simp
  | cons c m ih =>
    have := ih (l ++ [c]);rw [decV_snoc] at this;simp only [List.append_assoc,List.singleton_append] at this;omega
theorem decV_take (l : List UInt8) (k : Nat) : decV (l.take k) ≤ decV l := by
  have := decV_mono (l.take k) (l.drop k)
  rwa [List.take_append_drop] at this
def wokD (neg : Bool) (l : List UInt8) : Bool := !(headIs (· == 48) l && (neg || decide (1 < l.length))) && (if neg then decide (decV l ≤ 9223372036854775808) else decide (decV l < 9223372036854775808))
theorem wokD_zero {neg : Bool} {l : List UInt8} (h : headIs (· == 48) l = true) (h1 : neg = true ∨ 1 < l.length) : wokD neg l = false := by
  unfold wokD;rw [h];rcases h1 with rfl | h1 <;> simp [*]
theorem wokD_big {neg : Bool} {l : List UInt8} (h : 9223372036854775808 < decV l) : wokD neg l = false := by
  unfold wokD;cases neg
  · simp;intro _;omega
  · simp;intro _;omega
theorem wokD_neg {l : List UInt8} (h : headIs (· == 48) l = false) : wokD true l = decide (decV l ≤ 9223372036854775808) := by unfold wokD;rw [h];simp
theorem wokD_pos {l : List UInt8} (h : headIs (· == 48) l = false ∨ l.length ≤ 1) : wokD false l = decide (decV l < 9223372036854775808) := by
  unfold wokD
  rcases h with h | h
  · rw [h];simp
  · have : decide (1 < l.length) = false := decide_eq_false (by omega)
    rw [this];simp
theorem hexV_le {c : UInt8} (h : hexC c = true) : hexV c ≤ 15 := by
  unfold hexC at h
  unfold hexV
  cases hd : dgC c with
  | true =>
    have h2 := hd;rw [dgC_iff] at h2
    simp at h2
    simp;omega
  | false =>
    rw [hd] at h
    simp [UInt8.le_iff_toNat_le] at h
    simp;omega
theorem hexOr {A B : Nat} (ha : A ≤ 15) (hb : B ≤ 15) : bits BinOp.or IntKind.u8 ((A : Int) * 16 % 256) (B : Int) = ((UInt8.ofNat (16 * A + B)).toNat : Int) := by
  have key : ∀ a : Fin 16,∀ b : Fin 16,bits BinOp.or IntKind.u8 ((a.val : Int) * 16 % 256) (b.val : Int) = ((UInt8.ofNat (16 * a.val + b.val)).toNat : Int) := by decide +kernel
  exact key ⟨A,by omega⟩ ⟨B,by omega⟩
def textR (r : List UInt8) : Option (List UInt8 × Nat) := match textAt r with
  | some (x,n) => if x.length ≤ 64 then some (x,n + 1) else none
  | none => none
def textV (o : Option (List UInt8 × Nat)) : Value := match o with
  | some (x,n) => .tuple #[.string ⟨x.toArray⟩,.int .i64 n,.bool true]
  | none => .tuple #[.string ⟨#[]⟩,.int .i64 0,.bool false]
def TxtI (s : ByteArray) (a k : Nat) (l : List UInt8) : Prop := textAt (sl s (a + 1)) = (textAt (sl s k)).map fun x => (l ++ x.1,x.2 + (k - (a + 1)))
theorem u8ne {c : UInt8} {n : Nat} (hn : n < 256) (h : ¬ c = UInt8.ofNat n) : ((c.toNat : Int) == (n : Int)) = false := by
  rw [Bool.eq_false_iff];intro e;simp only [beq_iff_eq] at e;exact h ((u8_eq_iff c n hn).2 e)
theorem txt_quote {s : ByteArray} {a k : Nat} {l : List UInt8} (h : TxtI s a k l) (hk : k < s.size) (hak : a + 1 ≤ k) (hc : s[k] = 34) : textR (sl s (a + 1)) = if l.length ≤ 64 then some (l,k + 1 - a) else none := by
  unfold TxtI at h
  rw [sl_cons hk,hc,textAt_quote] at h
  unfold textR
  rw [h]
  simp
  split <;> first | rfl | (congr 2;omega) | skip
theorem txt_none {s : ByteArray} {a k : Nat} {l : List UInt8} (h : TxtI s a k l) (hn : textAt (sl s k) = none) : textR (sl s (a + 1)) = none := by
  unfold TxtI at h
  unfold textR
  rw [h,hn];rfl
theorem txt_end {s : ByteArray} {a k : Nat} {l : List UInt8} (h : TxtI s a k l) (hk : s.size ≤ k) : textR (sl s (a + 1)) = none := txt_none h (by rw [sl_end hk];rfl)
theorem txt_step {s : ByteArray} {a k n : Nat} {l : List UInt8} {c : UInt8} (h : TxtI s a k l) (hak : a + 1 ≤ k) (hn : textAt (sl s k) = (textAt (sl s (k + n))).map fun x => (c :: x.1,x.2 + n)) : TxtI s a (k + n) (l ++ [c]) := by
  unfold TxtI at h ⊢
  rw [h,hn,Option.map_map]
  congr 1
  funext x
  simp
  omega
theorem bodyPost_tmp_agg {P : Program} {fn : Func} {R : Ending → World → Prop} {a : Act} {w : World} {p u : Tmp} {ty g t : Nat} {cs : Array Value} {fr : Nat × Nat} {d : TypeDesc}
    (h : fn.results = #[.tmp u,.cell p ty]) (hp : a.tmps.getD p undef = .pointer (some ⟨g,0,none⟩)) (hg : w.heap[g]? = some (.cells cs t fr)) (hu : P.underlying ty = some d)
    (hd : aggD d = true) (hi : (P.info? ty).map (·.size) = some cs.size) (hdf : a.defers = []) (hR : R (.returned (.tuple #[a.tmps.getD u undef,.agg cs])) w) :
    bodyPost P fn R .ret a w := by
  refine ⟨hdf,_,?_,hR⟩
  have hp' : a.tmps[p]?.getD undef = .pointer (some ⟨g,0,none⟩) := by rw [← hp];simp
  simp only [results,h]
  simp [Sem.run_bind,Result.andThen,hp',asAddr,loadRow w g t ty cs fr d hg hu hd hi]
def OwnT (base : Nat) (w : World) (v : Value) (l : List Tok) : Prop := w.ownsRow base 65 4 v l.length (l.map Tok.cells).flatten
theorem cells_len (l : List Tok) : ∀ r ∈ l.map Tok.cells,r.length = 4 := by
  intro r hr
  obtain ⟨t,_,rfl⟩ := List.mem_map.1 hr
  rfl
theorem cells_one (l : List Tok) : ∀ u ∈ (l.map Tok.cells).flatten,u.oneCell' = true := by
  intro u hu
  obtain ⟨r,hr,hur⟩ := List.mem_flatten.1 hu
  obtain ⟨t,_,rfl⟩ := List.mem_map.1 hr
  simp only [Tok.cells,List.mem_cons,List.not_mem_nil,or_false] at hur
  rcases hur with rfl | rfl | rfl | rfl <;> rfl
theorem OwnT.nil (base : Nat) (w : World) : OwnT base w (.slice none 0 0) [] := World.ownsRow_nil _ _ _ _
theorem OwnT.toks {base m : Nat} {w : World} {v : Value} {l : List Tok} (h : OwnT base w v l) (hm : w.heap.size ≤ m) : IsToks m w v l := by
  rcases h.2 with ⟨rfl,hl⟩ | ⟨g,cap,cur,rfl,hg,hh,hc1,hc2,hc3,hc4⟩
  · have : l = [] := List.eq_nil_of_length_eq_zero (by omega)
    subst this;exact Arr.nil _ _ _
  · refine ⟨_,cap,by rw [List.length_map],by simpa using hc1,hc2,fun _ => ⟨g,0,rfl,?_,fun k r hr j x hx => ?_⟩⟩
    · have := (Array.getElem?_eq_some_iff.1 hh).1;omega
    · have hcell := h.cells (g := g) rfl (k * 4 + j) x (flatten_at (cells_len l) hr hx)
      have e0 : (⟨g,0,none⟩ : Addr).add (k * 4 + j) = ⟨g,0 + k * 4 + j,none⟩ := by
        unfold Addr.add
        split <;> simp <;> omega
      rw [e0] at hcell;exact hcell
theorem OwnT.keep {base : Nat} {w w' : World} {v : Value} {l : List Tok} (h : OwnT base w v l) (hb : Below w.heap.size w w') : OwnT base w' v l := ownsRow_keep h hb
theorem OwnT.app {base : Nat} {w' : World} {v' : Value} {l : List Tok} {t : Tok} (h : w'.ownsRow base 65 4 v' (l.length + 1) ((l.map Tok.cells).flatten ++ t.cells)) : OwnT base w' v' (l ++ [t]) := by
  unfold OwnT;simpa using h
theorem infoT : (Tryz.prog.info? 65).map (fun i => (i.zero,i.size,i.bytes)) = some (some (.agg #[.int .i64 0,.string ⟨#[]⟩,.int .i64 0,.int .i64 0]),4,40) := by kernel_rfl
def lexAll (s : ByteArray) : List Tok × Int × Int :=
  if 16384 < s.size then ([],3,0) else match lexL true 0 (sl s 0) with
    | .ok l => (l,0,0)
    | .error a => ([],13,a)
def AllR (s : ByteArray) (w : World) (e : Ending) (w' : World) : Prop :=
  ∃ v,e = .returned (.tuple #[v,.agg #[.int .i64 (lexAll s).2.1,.int .i64 (lexAll s).2.2]]) ∧ OwnT w.heap.size w' v (lexAll s).1 ∧ Below w.heap.size w w'
def LexI (s : ByteArray) (k : Nat) (l : List Tok) : Prop := lexL true 0 (sl s 0) = (lexL (freeOf l) k (sl s k)).map (l ++ ·)
theorem freeOf_snoc (l : List Tok) (t : Tok) : freeOf (l ++ [t]) = t.free := by simp [freeOf]
theorem LexI.start (s : ByteArray) : LexI s 0 [] := by
  unfold LexI freeOf
  cases h : lexL true 0 (sl s 0) with
  | ok a => simp [Except.map,h]
  | error a => simp [Except.map,h]
theorem LexI.blank {s : ByteArray} {k : Nat} {l : List Tok} (h : LexI s k l) (hk : k < s.size) (hb : blankC s[k] = true) : LexI s (k + 1) l := by
  unfold LexI at h ⊢
  rw [h,sl_cons hk,lexL_blank _ _ _ hb]
theorem LexI.note {s : ByteArray} {k : Nat} {l : List Tok} (h : LexI s k l) (hk : k < s.size) (hb : s[k] = 35) : LexI s (k + runN notNl (sl s k)) l := by
  unfold LexI at h ⊢
  have e : runN notNl (sl s k) = runN notNl (sl s (k + 1)) + 1 := by
    rw [sl_cons hk,hb];rfl
  rw [e,h]
  conv => lhs;rw [sl_cons hk,hb,lexL_note]
  rw [sl_drop]
  rw [show k + 1 + runN notNl (sl s (k + 1)) = k + (runN notNl (sl s (k + 1)) + 1) by omega]
theorem LexI.bad {s : ByteArray} {k : Nat} {l : List Tok} (h : LexI s k l) (hs : s.size ≤ 16384) (hk : k < s.size) (hb : blankC s[k] = false) (hn : s[k] ≠ 35) (ht : tokAt (freeOf l) (sl s k) = none) : lexAll s = ([],13,(k : Int)) := by
  unfold LexI at h
  rw [sl_cons hk] at h ht
  rw [lexL_bad k hb hn ht] at h
  unfold lexAll
  rw [if_neg (by omega),h];rfl
theorem LexI.tok {s : ByteArray} {k : Nat} {l : List Tok} {t : Tok} {m : Nat} (h : LexI s k l) (hk : k < s.size) (hb : blankC s[k] = false) (hn : s[k] ≠ 35) (ht : tokAt (freeOf l) (sl s k) = some (t,m)) : LexI s (k + m) (l ++ [{ t with pos := k }]) := by
  unfold LexI at h ⊢
  rw [freeOf_snoc]
  rw [sl_cons hk] at h ht
  rw [lexL_tok k hb hn ht,← sl_cons hk,sl_drop] at h
  rw [h]
  show _ = (lexL t.free (k + m) (sl s (k + m))).map _
  cases lexL t.free (k + m) (sl s (k + m)) with
  | ok a => simp [Except.map]
  | error a => simp [Except.map]
theorem LexI.done {s : ByteArray} {k : Nat} {l : List Tok} (h : LexI s k l) (hs : s.size ≤ 16384) (hk : s.size = k) : lexAll s = (l ++ [⟨5,[],0,(k : Int)⟩],0,0) := by
  unfold LexI at h
  rw [sl_end (k := k) (by omega),lexL_nil] at h
  unfold lexAll
  rw [if_neg (by omega),h];rfl
theorem textAt_len : ∀ (l : List UInt8) (x : List UInt8) (n : Nat),textAt l = some (x,n) → n ≤ l.length := by
  intro l
  refine textAt_ind (P := fun l => ∀ (x : List UInt8) (n : Nat),textAt l = some (x,n) → n ≤ l.length) ?_ l
  intro l ih x n h
  match l,ih,h with
  | [],_,h => cases h
  | c :: r,ih,h =>
    by_cases h1 : c = 34
    · subst h1;rw [textAt_quote] at h;cases h;simp
    by_cases h2 : c < 32 ∨ 126 < c
    · rw [textAt_bad r h1 h2] at h;cases h
    have h3 : 32 ≤ c ∧ c ≤ 126 := by
      simp only [UInt8.lt_iff_toNat_lt,UInt8.le_iff_toNat_le] at *;omega
    by_cases h4 : c = 92
    · subst h4
      by_cases h5 : headIs (fun d => d == 92 || d == 34) r = true
      · match r,h5,h,ih with
        | d :: r',h5,h,ih =>
          simp [headIs] at h5
          rw [textAt_esc r' h5] at h;cases hh : textAt r' with
          | none => rw [hh] at h;cases h
          | some y =>
            obtain ⟨y,m⟩ := y;rw [hh] at h;cases h;have := ih r' (by simp;omega) y m hh
            simp;omega
      · by_cases h6 : ∃ a b r',r = 120 :: a :: b :: r' ∧ hexC a = true ∧ hexC b = true
        · obtain ⟨a,b,r',rfl,ha,hb⟩ := h6
          rw [textAt_hex r' ha hb] at h;cases hh : textAt r' with
          | none => rw [hh] at h;cases h
          | some y =>
            obtain ⟨y,m⟩ := y;rw [hh] at h;cases h;have := ih r' (by simp;omega) y m hh
            simp;omega
        · rw [textAt_no (by simpa using h5)] at h
          · cases h
          · intro a b r' e
            cases ha : hexC a with
            | false => exact .inl rfl
            | true =>
              cases hb : hexC b with
              | false => exact .inr rfl
              | true => exact absurd ⟨a,b,r',e,ha,hb⟩ h6
    · rw [textAt_plain r h1 h3.1 h3.2 h4] at h
      cases hh : textAt r with
      | none => rw [hh] at h;cases h
      | some y =>
        obtain ⟨y,m⟩ := y;rw [hh] at h;cases h;have := ih r (by simp) y m hh
        simp;omega
theorem tokAt_len {free : Bool} {l : List UInt8} {t : Tok} {n : Nat} (h : tokAt free l = some (t,n)) : n ≤ l.length := by
  match l,h with
  | [],h => cases h
  | c :: r,h =>
    have h1 := runN_le wordC r;have h2 := runN_le dgC r;simp only [tokAt] at h
    split at h
    · split at h
      · cases h;simp;omega
      · cases h
    · split at h
      · cases hh : textAt r with
        | none => rw [hh] at h;cases h
        | some y =>
          obtain ⟨y,m⟩ := y;have := textAt_len r y m hh;rw [hh] at h;simp only at h
          split at h
          · cases h;simp;omega
          · cases h
      · split at h
        · split at h
          · cases h;simp;omega
          · cases h
        · simp only [signAt] at h
          split at h
          · rename_i hp
            simp only [Bool.and_eq_true] at hp
            match r,hp.2,h with
            | [],hp,h => cases hp
            | d :: r',_,h => cases h;simp
          · split at h
            · cases h;simp
            · cases h
theorem lLetter (c : UInt8) (w : World) : Calls Tryz.prog 100 #[.int .u8 c.toNat] w fun e w' => e = .returned (.bool (letC c)) ∧ w = w' := by
  rw [letC_iff]
  go_enter Tryz.func100,Tryz.ntmps100;(try simp only [List.append_eq,List.cons_append,List.nil_append])
  go_wp2
  all_goals go_ret
  all_goals exact ⟨ret_bool (by (first | rfl | (rw [Bool.eq_iff_iff];simp only [Bool.and_eq_true,Bool.or_eq_true,decide_eq_true_eq,beq_iff_eq,bne_iff_ne,ne_eq,Bool.not_eq_true',decide_eq_false_iff_not,Bool.false_eq_true,iff_false,false_iff,iff_true,true_iff];omega))),rfl⟩
theorem lDigit (c : UInt8) (w : World) : Calls Tryz.prog 103 #[.int .u8 c.toNat] w fun e w' => e = .returned (.bool (dgC c)) ∧ w = w' := by
  rw [dgC_iff]
  go_enter Tryz.func103,Tryz.ntmps103;(try simp only [List.append_eq,List.cons_append,List.nil_append])
  go_wp2
  all_goals go_ret
  all_goals exact ⟨ret_bool (by (first | rfl | (rw [Bool.eq_iff_iff];simp only [Bool.and_eq_true,Bool.or_eq_true,decide_eq_true_eq,beq_iff_eq,bne_iff_ne,ne_eq,Bool.not_eq_true',decide_eq_false_iff_not,Bool.false_eq_true,iff_false,false_iff,iff_true,true_iff];omega))),rfl⟩
theorem lWord1 (c : UInt8) (w : World) : Calls Tryz.prog 112 #[.int .u8 c.toNat] w fun e w' => e = .returned (.bool (wordC c)) ∧ w = w' := by
  unfold wordC
  have hl := fun wx => lLetter c wx
  generalize letC c = b at hl ⊢
  have Hl := Lib.hid hl;clear hl
  cases b
  all_goals
    go_enter Tryz.func112,Tryz.ntmps112;(try simp only [List.append_eq,List.cons_append,List.nil_append])
    go_wp2_with (first
      | (go_at_call 100;refine (Hl.out _).mono ?_;rintro e w' ⟨rfl,rfl⟩)
      | (go_at_call 103;refine (lDigit _ _).mono ?_;rintro e w' ⟨rfl,rfl⟩))
    go_ret;exact ⟨rfl,rfl⟩
theorem lNote1 (c : UInt8) (w : World) : Calls Tryz.prog 86 #[.int .u8 c.toNat] w fun e w' => e = .returned (.bool (notNl c)) ∧ w = w' := by
  go_enter Tryz.func86,Tryz.ntmps86;(try simp only [List.append_eq,List.cons_append,List.nil_append])
  go_wp2
  all_goals go_ret
  all_goals refine ⟨ret_bool ?_,rfl⟩
  all_goals
    rw [Bool.eq_iff_iff];simp only [notNl,bne_iff_ne,ne_eq];have := u8_eq_iff c 10 (by omega);rw [show UInt8.ofNat 10 = 10 from rfl] at this;rw [this];simp
theorem untilWord (s : ByteArray) (a : Nat) (w : World) (hs : s.size ≤ maxLen) (ha : a ≤ s.size) :
    Calls Tryz.prog 85 #[.string s,.int .i64 a,.func (.func 112) #[] #[]] w fun e w' => e = .returned (.int .i64 (runN wordC (sl s a))) ∧ w = w' := by
  unfold maxLen at hs
  go_enter Tryz.func85,Tryz.ntmps85;(try simp only [List.append_eq,List.cons_append,List.nil_append])
  go_wp2
  go_loop [7] (fun i => ∃ k : Nat,a ≤ k ∧ k ≤ s.size ∧ i = .int .i64 k ∧ ((sl s a).take (k - a)).all wordC = true) (fun i => s.size - (intOf i).toNat)
  case atStart => exact ⟨a,Nat.le_refl _,ha,rfl,by simp⟩
  case round =>
    obtain ⟨k,hak,hk,rfl,hr⟩ := hrel;have Hr := Lib.hid hr;clear hr
    by_cases hlt : k < s.size
    · go_wp2_with (go_at_call 112;refine (lWord1 _ _).mono ?_;rintro e w' ⟨rfl,rfl⟩)
      · go_round
        case rel =>
          refine ⟨k + 1,by omega,by omega,by go_num,?_⟩;rw [sl_snoc hak hlt,List.all_append,Hr.out]
          simp;assumption
        case measure => simp [intOf];omega
      · go_ret
        refine ⟨ret_int ?_,rfl⟩;rw [runN_eq (n := k - a) (by rw [sl_length];omega) Hr.out (by rw [sl_drop,show a + (k - a) = k by omega,headIs_at hlt];assumption)];omega
    · go_wp2
      go_ret;refine ⟨ret_int ?_,rfl⟩;rw [runN_eq (n := k - a) (by rw [sl_length];omega) Hr.out (by rw [sl_drop,show a + (k - a) = k by omega,headIs_end (by omega)])];omega
theorem untilDigit (s : ByteArray) (a : Nat) (w : World) (hs : s.size ≤ maxLen) (ha : a ≤ s.size) :
    Calls Tryz.prog 85 #[.string s,.int .i64 a,.func (.func 103) #[] #[]] w fun e w' => e = .returned (.int .i64 (runN dgC (sl s a))) ∧ w = w' := by
  unfold maxLen at hs
  go_enter Tryz.func85,Tryz.ntmps85;(try simp only [List.append_eq,List.cons_append,List.nil_append])
  go_wp2
  go_loop [7] (fun i => ∃ k : Nat,a ≤ k ∧ k ≤ s.size ∧ i = .int .i64 k ∧ ((sl s a).take (k - a)).all dgC = true) (fun i => s.size - (intOf i).toNat)
  case atStart => exact ⟨a,Nat.le_refl _,ha,rfl,by simp⟩
  case round =>
    obtain ⟨k,hak,hk,rfl,hr⟩ := hrel;have Hr := Lib.hid hr;clear hr
    by_cases hlt : k < s.size
    · go_wp2_with (go_at_call 103;refine (lDigit _ _).mono ?_;rintro e w' ⟨rfl,rfl⟩)
      · go_round
        case rel =>
          refine ⟨k + 1,by omega,by omega,by go_num,?_⟩;rw [sl_snoc hak hlt,List.all_append,Hr.out]
          simp;assumption
        case measure => simp [intOf];omega
      · go_ret
        refine ⟨ret_int ?_,rfl⟩;rw [runN_eq (n := k - a) (by rw [sl_length];omega) Hr.out (by rw [sl_drop,show a + (k - a) = k by omega,headIs_at hlt];assumption)];omega
    · go_wp2
      go_ret;refine ⟨ret_int ?_,rfl⟩;rw [runN_eq (n := k - a) (by rw [sl_length];omega) Hr.out (by rw [sl_drop,show a + (k - a) = k by omega,headIs_end (by omega)])];omega
theorem untilNote (s : ByteArray) (a : Nat) (w : World) (hs : s.size ≤ maxLen) (ha : a ≤ s.size) :
    Calls Tryz.prog 85 #[.string s,.int .i64 a,.func (.func 86) #[] #[]] w fun e w' => e = .returned (.int .i64 (runN notNl (sl s a))) ∧ w = w' := by
  unfold maxLen at hs
  go_enter Tryz.func85,Tryz.ntmps85;(try simp only [List.append_eq,List.cons_append,List.nil_append])
  go_wp2
  go_loop [7] (fun i => ∃ k : Nat,a ≤ k ∧ k ≤ s.size ∧ i = .int .i64 k ∧ ((sl s a).take (k - a)).all notNl = true) (fun i => s.size - (intOf i).toNat)
  case atStart => exact ⟨a,Nat.le_refl _,ha,rfl,by simp⟩
  case round =>
    obtain ⟨k,hak,hk,rfl,hr⟩ := hrel;have Hr := Lib.hid hr;clear hr
    by_cases hlt : k < s.size
    · go_wp2_with (go_at_call 86;refine (lNote1 _ _).mono ?_;rintro e w' ⟨rfl,rfl⟩)
      · go_round
        case rel =>
          refine ⟨k + 1,by omega,by omega,by go_num,?_⟩;rw [sl_snoc hak hlt,List.all_append,Hr.out]
          simp;assumption
        case measure => simp [intOf];omega
      · go_ret
        refine ⟨ret_int ?_,rfl⟩;rw [runN_eq (n := k - a) (by rw [sl_length];omega) Hr.out (by rw [sl_drop,show a + (k - a) = k by omega,headIs_at hlt];assumption)];omega
    · go_wp2
      go_ret;refine ⟨ret_int ?_,rfl⟩;rw [runN_eq (n := k - a) (by rw [sl_length];omega) Hr.out (by rw [sl_drop,show a + (k - a) = k by omega,headIs_end (by omega)])];omega
def TokIs (o : Option (Tok × Nat)) (a : Nat) (k : Int) (x : ByteArray) (v p n : Int) (ok : Bool) : Prop := match o with
  | some (t,m) => ok = true ∧ k = t.kind ∧ x = ⟨t.text.toArray⟩ ∧ v = t.num ∧ p = a ∧ n = m
  | none => ok = false
theorem bodyPost_agg_tmp2 {P : Program} {fn : Func} {R : Ending → World → Prop} {a : Act} {w : World} {p u v : Tmp} {ty g t : Nat} {cs : Array Value} {fr : Nat × Nat} {d : TypeDesc}
    (h : fn.results = #[.cell p ty,.tmp u,.tmp v]) (hp : a.tmps.getD p undef = .pointer (some ⟨g,0,none⟩)) (hg : w.heap[g]? = some (.cells cs t fr)) (hu : P.underlying ty = some d)
    (hd : aggD d = true) (hi : (P.info? ty).map (·.size) = some cs.size) (hdf : a.defers = []) (hR : R (.returned (.tuple #[.agg cs,a.tmps.getD u undef,a.tmps.getD v undef])) w) :
    bodyPost P fn R .ret a w := by
  refine ⟨hdf,_,?_,hR⟩
  have hp' : a.tmps[p]?.getD undef = .pointer (some ⟨g,0,none⟩) := by rw [← hp];simp
  simp only [results,h]
  simp [Sem.run_bind,Result.andThen,hp',asAddr,loadRow w g t ty cs fr d hg hu hd hi]
theorem tokAt_word {s : ByteArray} {a : Nat} (free : Bool) (ha : a < s.size) (hc : letC s[a] = true) :
    tokAt free (sl s a) = if runN wordC (sl s a) ≤ 24 then some (⟨1,(sl s a).take (runN wordC (sl s a)),0,0⟩,runN wordC (sl s a)) else none := by
  rw [sl_cons ha]
  have h : wordC s[a] = true := by unfold wordC;rw [hc];rfl
  have e : runN wordC (s[a] :: sl s (a + 1)) = runN wordC (sl s (a + 1)) + 1 := by simp only [runN,h,if_true]
  rw [e]
  simp only [tokAt,hc,if_true]
theorem infoSz4 : (Tryz.prog.info? 65).map (·.size) = some 4 := by kernel_rfl
def numAt (s : ByteArray) (a : Nat) : Option (Tok × Nat) :=
  if wholeOk ((sl s a).take (runN dgC (sl s (a + 1)) + 1)) && !headIs letC (sl s (a + (runN dgC (sl s (a + 1)) + 1))) then
    some (⟨2,(sl s a).take (runN dgC (sl s (a + 1)) + 1),wholeV ((sl s a).take (runN dgC (sl s (a + 1)) + 1)),0⟩,runN dgC (sl s (a + 1)) + 1) else none
theorem tokAt_num {s : ByteArray} {a : Nat} {free : Bool} (ha : a < s.size) (hl : letC s[a] = false) (hq : s[a] ≠ 34) (h : dgC s[a] = true ∨ (s[a] = 45 ∧ free = true ∧ headIs dgC (sl s (a + 1)) = true)) :
    tokAt free (sl s a) = numAt s a := by
  unfold numAt
  have e : a + (runN dgC (sl s (a + 1)) + 1) = a + 1 + runN dgC (sl s (a + 1)) := by omega
  have e2 : sl s (a + 1 + runN dgC (sl s (a + 1))) = (sl s (a + 1)).drop (runN dgC (sl s (a + 1))) := (sl_drop _ _ _).symm
  rw [e,e2]
  rw [sl_cons ha]
  have hq' : (s[a] == 34) = false := by simp [hq]
  have hd : (dgC s[a] || (s[a] == 45 && free && headIs dgC (sl s (a + 1)))) = true := by
    rcases h with h | ⟨h1,h2,h3⟩
    · rw [h];rfl
    · rw [h1,h2,h3];rfl
  simp only [tokAt,hl,hq',hd,Bool.false_eq_true,if_false,if_true]
theorem tokAt_sign {s : ByteArray} {a : Nat} {free : Bool} (ha : a < s.size) (hl : letC s[a] = false) (hq : s[a] ≠ 34) (hd : dgC s[a] = false) (h : s[a] = 45 → free = false ∨ headIs dgC (sl s (a + 1)) = false) :
    tokAt free (sl s a) = signAt (sl s a) := by
  rw [sl_cons ha]
  have hq' : (s[a] == 34) = false := by simp [hq]
  have hd : (dgC s[a] || (s[a] == 45 && free && headIs dgC (sl s (a + 1)))) = false := by
    rw [hd]
    by_cases h45 : s[a] = 45
    · rcases h h45 with h | h <;> simp [h]
    · simp [h45]
  simp only [tokAt,hl,hq',hd,Bool.false_eq_true,if_false]
theorem tok_all (k v p : Int) (x : ByteArray) : ([.int .i64 k,.string x,.int .i64 v,.int .i64 p] : List Value).toArray.all (·.oneCell') = true := by simp [Value.oneCell']
theorem u8b {c : UInt8} {n : Nat} (hn : n < 256) (h : c = UInt8.ofNat n) : ((c.toNat : Int) == (n : Int)) = true := by
  simp only [beq_iff_eq];exact (u8_eq_iff c n hn).1 h
theorem src_new {W : World} {cs : List Value} {t m c sz g : Nat} (hl : cs.length = m * sz) (hg : g = W.heap.size) : Src (W.alloc (.cells cs.toArray t)) (.slice (some ⟨g,0,none⟩) m c) sz m cs := by
  subst hg
  refine .inr ⟨_,c,rfl,hl,fun j u hu => ?_⟩
  have e : (⟨W.heap.size,0,none⟩ : Addr).add j = ⟨W.heap.size,j,none⟩ := by
    unfold Addr.add
    split <;> simp <;> omega
  rw [e]
  exact (Blk.new W cs t).cell j u hu
theorem Blk.far_row {w : World} {g g' t : Nat} {cs : List Value} (h : Blk w g t cs) (hg : g ≠ g') (us : Array Value) : Blk (w.setRow g' us) g t cs := (setRow_other w g' g us hg).trans h
end Go.Proofs.YtpmbamfpmmdhcaaGreat
