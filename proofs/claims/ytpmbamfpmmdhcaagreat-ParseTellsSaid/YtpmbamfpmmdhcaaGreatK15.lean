/- The reference's parser: names. -/
import Derived.Test.YtpmbamfpmmdhcaaGreatK13
set_option maxRecDepth 100000
set_option maxHeartbeats 16000000
namespace Go.Proofs.YtpmbamfpmmdhcaaGreat
open Go.RowKit
set_option linter.unusedSimpArgs false
set_option linter.unusedVariables false
/-! ### what the plain steps keep -/
theorem PS.fail_i (p : PS) (e a : Int) : (p.fail e a).i = p.i := by unfold PS.fail;split <;> rfl
theorem PS.take_i (L : List Tok) (p : PS) (s : List UInt8) : p.i ≤ (p.take L s).2.i ∧ ((p.take L s).1 = true → p.i < (p.take L s).2.i) := by
  unfold PS.take
  repeat' split
  all_goals simp [PS.fail_i]
theorem PS.need_i (L : List Tok) (p : PS) (s : List UInt8) : p.i ≤ (p.need L s).i := by
  have := (PS.take_i L p s).1
  unfold PS.need;split
  · exact this
  · rw [PS.fail_i];exact this
theorem PS.token_i (L : List Tok) (p : PS) (k : Int) : p.i ≤ (p.token L k).2.i := by
  unfold PS.token;split
  · simp
  · simp [PS.fail_i]
theorem ownsRow_off {g : Nat} {w w' : World} {base e sz n : Nat} {v : Value} {xs : List Value} (h : w.ownsRow base e sz v n xs) (ho : Off g w w') (hg : g < base) : w'.ownsRow base e sz v n xs := by
  refine ⟨h.1,?_⟩
  rcases h.2 with h | ⟨k,cap,cur,hv,hk,hh,h1,h2,h3,h4⟩
  · exact .inl h
  · exact .inr ⟨k,cap,cur,hv,hk,(ho.block k (Array.getElem?_eq_some_iff.1 hh).1 (by omega)).trans hh,h1,h2,h3,h4⟩
def OwnN (base : Nat) (w : World) (v : Value) (l : List (List UInt8)) : Prop := w.ownsRow base 9 1 v l.length (l.map fun s => .string ⟨s.toArray⟩)
theorem OwnN.off {g base : Nat} {w w' : World} {v : Value} {l : List (List UInt8)} (h : OwnN base w v l) (ho : Off g w w') (hg : g < base) : OwnN base w' v l := ownsRow_off h ho hg
theorem infoSN : (Tryz.prog.info? 9).map (fun i => (i.zero,i.size,i.bytes)) = some (some (.string ⟨#[]⟩),1,16) := by kernel_rfl
theorem src_blk {X : World} {b t sz m c : Nat} {cs : List Value} (h : Blk X b t cs) (hl : cs.length = m * sz) : Src X (.slice (some ⟨b,0,none⟩) m c) sz m cs := by
  refine .inr ⟨_,c,rfl,hl,fun j u hu => ?_⟩
  have e : (⟨b,0,none⟩ : Addr).add j = ⟨b,j,none⟩ := by
    unfold Addr.add
    split <;> simp <;> omega
  rw [e]
  exact h.cell j u hu
theorem ones_one (s : ByteArray) : ∀ u ∈ [Value.string s],u.oneCell' = true := by
  intro u hu;simp only [List.mem_cons,List.not_mem_nil,or_false] at hu;subst hu;rfl
def muP (g : Nat) (w : World) : Nat := (intOf ((w.cell? ⟨g,1,none⟩).getD undef)).toNat
theorem putName_len : ∀ (out : List (List UInt8)) (w : List UInt8),(putName out w).length ≤ out.length + 1 ∧ ∀ x ∈ putName out w,x ∈ out ∨ x = w
  | [],w => by simp [putName]
  | y :: r,w => by
    have ih := putName_len r w;unfold putName
    split
    · refine ⟨by simpa using ih.1,fun x hx => ?_⟩
      rcases List.mem_cons.1 hx with rfl | hx
      · left;simp
      · rcases ih.2 x hx with h | h
        · left;simp [h]
        · exact .inr h
    · split
      · exact ⟨by simp,fun x hx => .inl hx⟩
      · refine ⟨by simp,fun x hx => ?_⟩
        rcases List.mem_cons.1 hx with rfl | hx
        · exact .inr rfl
        · exact .inl hx
/-! ### names,once more: what they keep -/
theorem namesF_keep (L : List Tok) : ∀ (f : Nat) (p : PS) (out : List (List UInt8)) (r : List (List UInt8)) (p' : PS),namesF L f p out = some (r,p') → PW L p → (∀ x ∈ out,x.length ≤ 100000) → PW L p' ∧ (∀ x ∈ r,x.length ≤ 100000) ∧ p.i ≤ p'.i
  | 0,p,out,r,p',h,_,_ => by simp [namesF] at h
  | f + 1,p,out,r,p',h,hw,ho => by
    unfold namesF at h
    split at h
    · have hwt := hw.token 1 (by decide)
      have hwc := hwt.take [44];have i1 := PS.token_i L p 1;have i2 := (PS.take_i L (p.token L 1).2 [44]).1;have ho2 : ∀ x ∈ putName out (p.token L 1).1.text,x.length ≤ 100000 := by
        intro x hx;rcases (putName_len out _).2 x hx with h | rfl
        · exact ho x h
        · unfold PS.token
          split
          · rw [PS.tok_eq hw.at'];exact hw.txt _ (List.getElem_mem _)
          · simp
      simp only at h
      split at h
      · obtain ⟨a,b,c⟩ := namesF_keep L f _ _ r p' h hwc ho2
        exact ⟨a,b,by omega⟩
      · simp only [Option.some.injEq,Prod.mk.injEq] at h
        obtain ⟨rfl,rfl⟩ := h;exact ⟨hwc,ho2,by omega⟩
    · simp only [Option.some.injEq,Prod.mk.injEq] at h
      obtain ⟨rfl,rfl⟩ := h;exact ⟨hw,ho,Nat.le_refl _⟩
theorem pNames_keep {L : List Tok} {f : Nat} {p : PS} {r : List (List UInt8)} {p' : PS} (h : pNames L f p = some (r,p')) (hw : PW L p) : PW L p' ∧ (∀ x ∈ r,x.length ≤ 100000) ∧ p.i ≤ p'.i := by
  unfold pNames at h
  have hq := hw.need [40]
  have hc := hq.take [41]
  have i1 := PS.need_i L p [40]
  have i2 := (PS.take_i L (p.need L [40]) [41]).1
  simp only at h
  split at h
  · simp only [Option.some.injEq,Prod.mk.injEq] at h
    obtain ⟨rfl,rfl⟩ := h;exact ⟨hc,by simp,by omega⟩
  · obtain ⟨⟨r0,p0⟩,h0,h1⟩ := Option.map_eq_some_iff.1 h
    simp only [Prod.mk.injEq] at h1;obtain ⟨rfl,rfl⟩ := h1;obtain ⟨a,b,c⟩ := namesF_keep L f _ _ _ _ h0 hc (by simp);have := PS.need_i L p0 [41];exact ⟨a.need [41],b,by omega⟩
/-! ### matchers -/
def OwnMt (base : Nat) (w : World) (v : Value) (l : List Mat) : Prop := w.ownsRow base 90 3 v l.length (l.map Mat.cells).flatten
theorem OwnMt.off {g base : Nat} {w w' : World} {v : Value} {l : List Mat} (h : OwnMt base w v l) (ho : Off g w w') (hg : g < base) : OwnMt base w' v l := ownsRow_off h ho hg
theorem matCells_len (l : List Mat) : ∀ r ∈ l.map Mat.cells,r.length = 3 := by
  intro r hr;obtain ⟨m,_,rfl⟩ := List.mem_map.1 hr;rfl
theorem OwnMt.mats {g base : Nat} {w : World} {v : Value} {l : List Mat} (h : OwnMt base w v l) (hg : g < base) (hs : ∀ m ∈ l,m.small) : IsMats w.heap.size (blank g w) v l := by
  refine ⟨?_,hs⟩
  rcases h.2 with ⟨rfl,h0⟩ | ⟨k,cap,cur,rfl,hk,hh,h1,h2,h3,h4⟩
  · have : l = [] := List.eq_nil_of_length_eq_zero h0
    subst this;exact Arr.nil _ _ _
  · have hlt := (Array.getElem?_eq_some_iff.1 hh).1
    refine ⟨_,cap,by simp,by simpa using h1,h2,fun _ => ⟨k,0,rfl,hlt,fun i r hr j x hx => ?_⟩⟩;have hc := World.ownsRow.cells h (g := k) rfl (i * 3 + j) x (flatten_at (matCells_len l) hr hx);have e : (⟨k,0,none⟩ : Addr).add (i * 3 + j) = ⟨k,0 + i * 3 + j,none⟩ := by unfold Addr.add;split <;> simp <;> omega
    rw [e] at hc;rw [blank_cell (a := ⟨k,0 + i * 3 + j,none⟩) (show k ≠ g by omega)];exact hc
theorem infoMt : (Tryz.prog.info? 90).map (fun i => (i.zero,i.size,i.bytes)) = some (some (.agg #[.int .i64 0,.string ⟨#[]⟩,.string ⟨#[]⟩]),3,40) := by kernel_rfl
theorem appL_mt {ops : Array Oper} {rest : List Oper} {o : Oper} {a : Act} {Q : Exit → Act → World → Prop} (X : World) (hgd : o.guard = none) (s x : Operand) (ho : o.op = .call { callee := .builtin .append,args := #[s,x],argTypes := #[24,24] })
    (base : Nat) (v : Value) (n : Nat) (xs : List Value) (hs : a.eval s = v) (hown : X.ownsRow base 90 3 v n xs) (src : Value) (m : Nat) (news : List Value) (hx : a.eval x = src) (hsrc : Src X src 3 m news)
    (h1 : ∀ u ∈ news,u.oneCell' = true) (hn : n + m ≤ 1000000) (hbase : base ≤ X.heap.size)
    (h : ∀ v' w',w'.ownsRow base 90 3 v' (n + m) (xs ++ news) → X.grownBy w' v.ownBlock → (v'.ownBlock = v.ownBlock ∨ v'.ownBlock = some X.heap.size) → wpList Tryz.prog ops Q rest (a.put o.dst v') w') : wpList Tryz.prog ops Q (o :: rest) a X := by
  obtain ⟨i0,hi,hz⟩ := Option.map_eq_some_iff.1 infoMt
  simp only [Prod.mk.injEq] at hz
  exact wpList_append_src X hgd s x 24 ho base 90 i0 _ 3 40 Tryz.underlying24 hi hz.1 hz.2.1 hz.2.2 rfl (by decide) v n xs hs hown src m news hx hsrc h1 (by unfold maxLen;omega) (by omega) hbase h
theorem PA.setFar {g : Nat} {pt : Option Addr} {cap : Nat} {L : List Tok} {p : PS} {w : World} (h : PA g pt cap L p w) {k : Nat} (hk : g < k) (i : Nat) (u : Value) : PA g pt cap L p (w.setCell ⟨k,i,none⟩ u) :=
  ⟨h.1.far (show g ≠ k by omega) u,h.2.mono ((Below.refl g w).setCell (show g ≤ k by omega) u) (Nat.le_refl _)⟩
theorem Off.setNew {g : Nat} {w w2 : World} (h : Off g w w2) {k : Nat} (hk : w.heap.size ≤ k) (i : Nat) (u : Value) : Off g w (w2.setCell ⟨k,i,none⟩ u) :=
  ⟨h.os,h.tape,h.output,by unfold World.setCell;simp;exact h.size,fun j hj hg => by
    rw [← h.block j hj hg];unfold World.setCell
    show (w2.heap.modify k _)[j]? = _
    rw [Array.getElem?_modify,if_neg (by omega)]⟩
theorem Off.then {g : Nat} {w X Y : World} (h : Off g w X) (hb : Below w.heap.size X Y) : Off g w Y := ⟨hb.os.trans h.os,hb.tape.trans h.tape,hb.output.trans h.output,Nat.le_trans h.size hb.size,fun k hk hg => (hb.block k hk).trans (h.block k hk hg)⟩
theorem setCell_size (w : World) (a : Addr) (u : Value) : (w.setCell a u).heap.size = w.heap.size := by unfold World.setCell;simp
theorem ownMt_add {base : Nat} {w : World} {v : Value} {q : List Mat} {m : Mat} (h : w.ownsRow base 90 3 v (q.length + 1) ((q.map Mat.cells).flatten ++ m.cells)) : OwnMt base w v (q ++ [m]) := by
  unfold OwnMt
  simpa using h
theorem pOne_keep {L : List Tok} {p : PS} (hw : PW L p) : PW L (pOne L p).2 ∧ p.i ≤ (pOne L p).2.i ∧ (pOne L p).1.small := by
  have h1 := hw.token 1 (by decide)
  have i1 := PS.token_i L p 1
  have h2 := h1.take [33,61]
  have i2 := (PS.take_i L (p.token L 1).2 [33,61]).1
  have h3 : PW L (if ((p.token L 1).2.take L [33,61]).1 then ((p.token L 1).2.take L [33,61]).2 else ((p.token L 1).2.take L [33,61]).2.need L [61]) := by
    split
    · exact h2
    · exact h2.need [61]
  have i3 : (p.token L 1).2.i ≤ (if ((p.token L 1).2.take L [33,61]).1 then ((p.token L 1).2.take L [33,61]).2 else ((p.token L 1).2.take L [33,61]).2.need L [61]).i := by
    have := PS.need_i L ((p.token L 1).2.take L [33,61]).2 [61]
    split
    · exact i2
    · exact Nat.le_trans i2 this
  have txt : ∀ (q : PS) (k : Int),PW L q → (q.token L k).1.text.length ≤ 100000 := by
    intro q k hq;unfold PS.token
    split
    · rw [PS.tok_eq hq.at'];exact hq.txt _ (List.getElem_mem _)
    · simp
  refine ⟨h3.token 3 (by decide),?_,?_,?_⟩
  · exact Nat.le_trans i1 (Nat.le_trans i3 (PS.token_i L _ 3))
  · have := txt p 1 hw
    show (⟨(p.token L 1).1.text.toArray⟩ : ByteArray).size ≤ maxLen
    unfold maxLen;simp [ByteArray.size];omega
  · have := txt _ 3 h3
    show (⟨(PS.token L _ 3).1.text.toArray⟩ : ByteArray).size ≤ maxLen
    unfold maxLen;simp [ByteArray.size];omega
noncomputable def keepS (S : Nat → Prop) (w : World) : World := { w with heap := w.heap.mapIdx fun i o => @ite _ (S i) (Classical.propDecidable _) o (.cells #[] 0 (0,0)) }
theorem keepS_cell {S : Nat → Prop} {w : World} {b off : Nat} (h : S b) : (keepS S w).cell? ⟨b,off,none⟩ = w.cell? ⟨b,off,none⟩ := World.cell?_of_block (by
  unfold keepS
  simp only [Array.getElem?_mapIdx]
  cases w.heap[b]? with
  | none => rfl
  | some o => simp [h])
theorem keepS_none {S : Nat → Prop} {w : World} {b off : Nat} (h : ¬ S b) : (keepS S w).cell? ⟨b,off,none⟩ = none := by
  have e : (keepS S w).heap[b]? = none ∨ (keepS S w).heap[b]? = some (.cells #[] 0 (0,0)) := by
    unfold keepS;simp only [Array.getElem?_mapIdx];cases w.heap[b]? with
    | none => left;rfl
    | some o => right;simp [h]
  rcases e with e | e <;> simp [World.cell?,e]
theorem cells_keepS {S S' : Nat → Prop} {w w' : World} {n : Nat} (hS : ∀ b,b < n → S b → S' b) (hw : ∀ b,b < n → S b → w'.heap[b]? = w.heap[b]?) : Cells n (keepS S w) (keepS S' w') := fun b off x hb hx => by
  by_cases h : S b
  · rw [keepS_cell h] at hx
    rw [keepS_cell (hS b hb h),World.cell?_of_block (w := w) (a := ⟨b,off,none⟩) (hw b hb h)];exact hx
  · rw [keepS_none h] at hx;cases hx
theorem cells_unkeep {S : Nat → Prop} {w : World} {n : Nat} : Cells n (keepS S w) w := fun b off x hb hx => by
  by_cases h : S b
  · rwa [keepS_cell h] at hx
  · rw [keepS_none h] at hx;cases hx
def ExS (S : Nat → Prop) (w : World) (e : Ex) (cs : List Value) : Prop := IsEx w.heap.size (keepS S w) e cs
theorem ExS.go {S S' : Nat → Prop} {w w' : World} {e : Ex} {cs : List Value} (h : ExS S w e cs) (hs : w.heap.size ≤ w'.heap.size) (hS : ∀ b,b < w.heap.size → S b → S' b) (hw : ∀ b,b < w.heap.size → S b → w'.heap[b]? = w.heap[b]?) : ExS S' w' e cs := h.monoC (cells_keepS hS hw) hs
theorem ExS.off {S : Nat → Prop} {g : Nat} {w w' : World} {e : Ex} {cs : List Value} (h : ExS S w e cs) (ho : Off g w w') (hg : ¬ S g) : ExS S w' e cs := h.go ho.size (fun _ _ h => h) (fun b hb hS => ho.block b hb (fun e => hg (e ▸ hS)))
theorem ExS.ex {S : Nat → Prop} {w : World} {e : Ex} {cs : List Value} (h : ExS S w e cs) : IsEx w.heap.size w e cs := h.monoC cells_unkeep (Nat.le_refl _)
theorem ExS.len {S : Nat → Prop} {w : World} {e : Ex} {cs : List Value} (h : ExS S w e cs) : cs.length = 9 := by
  obtain ⟨vm,vn,vk,hcs,_⟩ := IsEx.cells h
  rw [hcs];rfl
def StrsS (S : Nat → Prop) (w : World) (v : Value) (l : List ByteArray) : Prop := IsStrs w.heap.size (keepS S w) v l
def MatsS (S : Nat → Prop) (w : World) (v : Value) (l : List Mat) : Prop := IsMats w.heap.size (keepS S w) v l
def ExsS (S : Nat → Prop) (w : World) (v : Value) (l : List Ex) : Prop := IsExs w.heap.size (keepS S w) v l
theorem StrsS.go {S S' : Nat → Prop} {w w' : World} {v : Value} {l : List ByteArray} (h : StrsS S w v l) (hs : w.heap.size ≤ w'.heap.size) (hS : ∀ b,b < w.heap.size → S b → S' b) (hw : ∀ b,b < w.heap.size → S b → w'.heap[b]? = w.heap[b]?) : StrsS S' w' v l := ⟨h.1.monoC (cells_keepS hS hw) hs,h.2⟩
theorem MatsS.go {S S' : Nat → Prop} {w w' : World} {v : Value} {l : List Mat} (h : MatsS S w v l) (hs : w.heap.size ≤ w'.heap.size) (hS : ∀ b,b < w.heap.size → S b → S' b) (hw : ∀ b,b < w.heap.size → S b → w'.heap[b]? = w.heap[b]?) : MatsS S' w' v l := ⟨h.1.monoC (cells_keepS hS hw) hs,h.2⟩
theorem OwnN.strsS {base : Nat} {w : World} {v : Value} {l : List (List UInt8)} (h : OwnN base w v l) (hs : ∀ x ∈ l,x.length ≤ 100000) : StrsS (fun b => base ≤ b) w v (l.map baOf) := by
  refine ⟨?_,fun s hs' => by obtain ⟨x,hx,rfl⟩ := List.mem_map.1 hs';have := hs x hx;unfold maxLen baOf;simp [ByteArray.size];omega⟩
  rcases h.2 with ⟨rfl,h0⟩ | ⟨k,cap,cur,rfl,hk,hh,h1,h2,h3,h4⟩
  · have : l = [] := List.eq_nil_of_length_eq_zero h0
    subst this;exact Arr.nil _ _ _
  · have hlt := (Array.getElem?_eq_some_iff.1 hh).1
    refine ⟨_,cap,by simp,by simpa using h1,h2,fun _ => ⟨k,0,rfl,hlt,fun i r hr j x hx => ?_⟩⟩;simp only [List.map_map,List.getElem?_map,Option.map_eq_some_iff,Function.comp] at hr;obtain ⟨a,ha,rfl⟩ := hr;have hj : j = 0 := by have := (List.getElem?_eq_some_iff.1 hx).1;simpa using this
    subst hj;simp only [List.getElem?_cons_zero,Option.some.injEq] at hx;subst hx;have hc := World.ownsRow.cells h (g := k) rfl i (.string ⟨a.toArray⟩) (by rw [List.getElem?_map,ha];rfl);have e : (⟨k,0,none⟩ : Addr).add i = ⟨k,0 + i * 1 + 0,none⟩ := by unfold Addr.add;split <;> simp <;> omega
    rw [e] at hc;rw [keepS_cell hk];exact hc
theorem OwnMt.matsS {base : Nat} {w : World} {v : Value} {l : List Mat} (h : OwnMt base w v l) (hs : ∀ m ∈ l,m.small) : MatsS (fun b => base ≤ b) w v l := by
  refine ⟨?_,hs⟩
  rcases h.2 with ⟨rfl,h0⟩ | ⟨k,cap,cur,rfl,hk,hh,h1,h2,h3,h4⟩
  · have : l = [] := List.eq_nil_of_length_eq_zero h0
    subst this;exact Arr.nil _ _ _
  · have hlt := (Array.getElem?_eq_some_iff.1 hh).1
    refine ⟨_,cap,by simp,by simpa using h1,h2,fun _ => ⟨k,0,rfl,hlt,fun i r hr j x hx => ?_⟩⟩;have hc := World.ownsRow.cells h (g := k) rfl (i * 3 + j) x (flatten_at (matCells_len l) hr hx);have e : (⟨k,0,none⟩ : Addr).add (i * 3 + j) = ⟨k,0 + i * 3 + j,none⟩ := by unfold Addr.add;split <;> simp <;> omega
    rw [e] at hc;rw [keepS_cell hk];exact hc
theorem noStrsS (S : Nat → Prop) (w : World) : StrsS S w (.slice none 0 0) [] := ⟨Arr.nil _ _ _,by simp⟩
theorem noMatsS (S : Nat → Prop) (w : World) : MatsS S w (.slice none 0 0) [] := ⟨Arr.nil _ _ _,by simp⟩
theorem noExsS (S : Nat → Prop) (w : World) : ExsS S w (.slice none 0 0) [] := ⟨[],Arr.nil _ _ _,rfl,fun k r e h => by simp at h⟩
theorem exsS {S : Nat → Prop} {b : Nat} {w : World} {l : List Ex} {rows : List (List Value)} (hB : Blk w b 28 rows.flatten) (hS : S b) (hl : rows.length = l.length) (hm : rows.length ≤ 1000) (hr : ∀ (k : Nat) (r : List Value) (e : Ex),rows[k]? = some r → l[k]? = some e → ExS S w e r) :
    ExsS S w (.slice (some ⟨b,0,none⟩) rows.length rows.length) l := by
  refine ⟨rows,⟨_,_,rfl,Nat.le_refl _,by unfold maxLen;omega,fun _ => ⟨b,0,rfl,hB.lt,fun k r hrk j x hx => ?_⟩⟩,hl,hr⟩
  have h9 : ∀ r ∈ rows,r.length = 9 := by
    intro r hr';obtain ⟨k,hk,rfl⟩ := List.getElem_of_mem hr';exact (hr k rows[k] (l[k]'(by omega)) (by simp) (by simp)).len
  rw [keepS_cell hS,Nat.zero_add]
  exact hB.cell _ _ (flatten_at h9 hrk hx)
theorem exsS1 {S : Nat → Prop} {b : Nat} {w : World} {e : Ex} {cs : List Value} (hB : Blk w b 28 cs) (hS : S b) (h : ExS S w e cs) : ExsS S w (.slice (some ⟨b,0,none⟩) 1 1) [e] :=
  exsS (rows := [cs]) (by simpa using hB) hS rfl (by simp) (fun k r x h1 h2 => by
    match k with
    | 0 => simp at h1 h2;subst h1 h2;exact h
    | k + 1 => simp at h1)
theorem exsS2 {S : Nat → Prop} {b : Nat} {w : World} {e f : Ex} {cs ds : List Value} (hB : Blk w b 28 (cs ++ ds)) (hS : S b) (h : ExS S w e cs) (h' : ExS S w f ds) : ExsS S w (.slice (some ⟨b,0,none⟩) 2 2) [e,f] :=
  exsS (rows := [cs,ds]) (by simpa using hB) hS rfl (by simp) (fun k r x h1 h2 => by
    match k with
    | 0 => simp at h1 h2;subst h1 h2;exact h
    | 1 => simp at h1 h2;subst h1 h2;exact h'
    | k + 2 => simp at h1)
theorem exS_node {S : Nat → Prop} {w : World} {kind fn op num : Int} {metric : ByteArray} {mats : List Mat} {span : Int} {names : List ByteArray} {kids : List Ex} {vm vn vk : Value} (hs : metric.size ≤ maxLen) (hm : MatsS S w vm mats) (hn : StrsS S w vn names) (hk : ExsS S w vk kids) :
    ExS S w (.mk kind fn op num metric mats span names kids) [.int .i64 kind,.int .i64 fn,.int .i64 op,.int .i64 num,.string metric,vm,.int .i64 span,vn,vk] := by
  obtain ⟨rows,h1,h2,h3⟩ := hk
  exact .mk hs hm hn h1 h2 h3
abbrev ZX : List Value := [.int .i64 0,.int .i64 0,.int .i64 0,.int .i64 0,.string ⟨#[]⟩,.slice none 0 0,.int .i64 0,.slice none 0 0,.slice none 0 0]
theorem noExS (S : Nat → Prop) (w : World) : ExS S w noEx ZX := exS_node (by decide) (noMatsS S w) (noStrsS S w) (noExsS S w)
theorem Off.blkX {g : Nat} {w w' : World} (h : Off g w w') {b t : Nat} {cs : List Value} (hb : Blk w b t cs) (hg : b ≠ g) : Blk w' b t cs := (h.block b hb.lt hg).trans hb
theorem setRow_far (w : World) (b : Nat) (cs : Array Value) {k : Nat} (h : k ≠ b) : (w.setRow b cs).heap[k]? = w.heap[k]? := by
  show (w.heap.modify b _)[k]? = _
  rw [Array.getElem?_modify,if_neg (fun e => h e.symm)]
theorem funcV_parts (o : Option (Int × Int)) : ∃ k f b,funcV o = .tuple #[.int .i64 k,.int .i64 f,.bool b] ∧ (o = none → b = false) ∧ (∀ x,o = some x → k = x.1 ∧ f = x.2 ∧ b = true) := by
  cases o with
  | none => exact ⟨0,0,false,rfl,fun _ => rfl,fun x h => by cases h⟩
  | some x => exact ⟨x.1,x.2,true,rfl,(fun h => absurd h (by simp)),(fun y h => by simp only [Option.some.injEq] at h;subst h;exact ⟨rfl,rfl,rfl⟩)⟩
theorem matsF_keep (L : List Tok) : ∀ (f : Nat) (p : PS) (out : List Mat) (r : List Mat) (p' : PS),matsF L f p out = some (r,p') → PW L p → (∀ x ∈ out,x.small) → PW L p' ∧ (∀ x ∈ r,x.small) ∧ p.i ≤ p'.i
  | 0,p,out,r,p',h,_,_ => by simp [matsF] at h
  | f + 1,p,out,r,p',h,hw,ho => by
    unfold matsF at h
    split at h
    · obtain ⟨k1,k2,k3⟩ := pOne_keep hw
      have hwc := k1.take [44];have i2 := (PS.take_i L (pOne L p).2 [44]).1;have ho2 : ∀ x ∈ out ++ [(pOne L p).1],x.small := by
        intro x hx;rcases List.mem_append.1 hx with h | h
        · exact ho x h
        · simp only [List.mem_cons,List.not_mem_nil,or_false] at h;subst h;exact k3
      simp only at h
      split at h
      · obtain ⟨a,b,c⟩ := matsF_keep L f _ _ r p' h hwc ho2
        exact ⟨a,b,by omega⟩
      · simp only [Option.some.injEq,Prod.mk.injEq] at h
        obtain ⟨rfl,rfl⟩ := h;exact ⟨hwc,ho2,by omega⟩
    · simp only [Option.some.injEq,Prod.mk.injEq] at h
      obtain ⟨rfl,rfl⟩ := h;exact ⟨hw,ho,Nat.le_refl _⟩
theorem pMatch_keep {L : List Tok} {f : Nat} {p : PS} {r : List Mat} {p' : PS} (h : pMatch L f p = some (r,p')) (hw : PW L p) : PW L p' ∧ (∀ x ∈ r,x.small) ∧ p.i ≤ p'.i := by
  unfold pMatch at h
  have hq := hw.take [123]
  have hc := hq.take [125]
  have i1 := (PS.take_i L p [123]).1
  have i2 := (PS.take_i L (p.take L [123]).2 [125]).1
  simp only at h
  split at h
  · split at h
    · simp only [Option.some.injEq,Prod.mk.injEq] at h
      obtain ⟨rfl,rfl⟩ := h;exact ⟨hc,by simp,by omega⟩
    · obtain ⟨⟨r0,p0⟩,h0,h1⟩ := Option.map_eq_some_iff.1 h
      simp only [Prod.mk.injEq] at h1;obtain ⟨rfl,rfl⟩ := h1;obtain ⟨a,b,c⟩ := matsF_keep L f _ _ _ _ h0 hc (by simp);have := PS.need_i L p0 [125];exact ⟨a.need [125],b,by omega⟩
  · simp only [Option.some.injEq,Prod.mk.injEq] at h
    obtain ⟨rfl,rfl⟩ := h;exact ⟨hq,by simp,by omega⟩
theorem PW.on {L : List Tok} {q : PS} (hwq : PW L q) (hk : (q.tok L).kind ≠ 5) : PW L { q with i := q.i + 1 } := by
  have := hwq.next hk
  have h1 := hwq.lo;have h2 := hwq.hi
  exact ⟨hwq.ends,hwq.len,this,by simp only;omega,by simp only;omega,hwq.txt,hwq.num⟩
theorem tok_txt {L : List Tok} {q : PS} (hw : PW L q) (k : Int) : (q.token L k).1.text.length ≤ 100000 := by
  unfold PS.token
  split
  · rw [PS.tok_eq hw.at'];exact hw.txt _ (List.getElem_mem _)
  · simp
theorem ownMt_slice {w : World} {base : Nat} {v : Value} {l : List Mat} (h : OwnMt base w v l) : ∃ A c,v = .slice A l.length c := ownsRow_slice h
theorem MatsS.off {S : Nat → Prop} {g : Nat} {w w' : World} {v : Value} {l : List Mat} (h : MatsS S w v l) (ho : Off g w w') (hg : ¬ S g) : MatsS S w' v l := h.go ho.size (fun _ _ h => h) (fun b hb hS => ho.block b hb (fun e => hg (e ▸ hS)))
theorem MatsS.set {S : Nat → Prop} {w : World} {v : Value} {l : List Mat} (h : MatsS S w v l) {k : Nat} (hk : ¬ S k) (i : Nat) (u : Value) : MatsS S (w.setCell ⟨k,i,none⟩ u) v l := h.go (by rw [setCell_size];exact Nat.le_refl _) (fun _ _ h => h) (fun b hb hS => by
  unfold World.setCell
  show (w.heap.modify k _)[b]? = _
  rw [Array.getElem?_modify]
  exact if_neg (fun e : k = b => hk (e ▸ hS)))
theorem StrsS.off {S : Nat → Prop} {g : Nat} {w w' : World} {v : Value} {l : List ByteArray} (h : StrsS S w v l) (ho : Off g w w') (hg : ¬ S g) : StrsS S w' v l := h.go ho.size (fun _ _ h => h) (fun b hb hS => ho.block b hb (fun e => hg (e ▸ hS)))
theorem setCell_far (w : World) {k b : Nat} (hk : b ≠ k) (i : Nat) (u : Value) : (w.setCell ⟨k,i,none⟩ u).heap[b]? = w.heap[b]? := by
  unfold World.setCell
  show (w.heap.modify k _)[b]? = _
  rw [Array.getElem?_modify]
  exact if_neg (fun e : k = b => hk e.symm)
theorem StrsS.set {S : Nat → Prop} {w : World} {v : Value} {l : List ByteArray} (h : StrsS S w v l) {k : Nat} (hk : ¬ S k) (i : Nat) (u : Value) : StrsS S (w.setCell ⟨k,i,none⟩ u) v l := h.go (by rw [setCell_size];exact Nat.le_refl _) (fun _ _ h => h) (fun b hb hS => setCell_far w (fun e : b = k => hk (by rw [← e];exact hS)) i u)
theorem ExS.set {S : Nat → Prop} {w : World} {e : Ex} {cs : List Value} (h : ExS S w e cs) {k : Nat} (hk : ¬ S k) (i : Nat) (u : Value) : ExS S (w.setCell ⟨k,i,none⟩ u) e cs := h.go (by rw [setCell_size];exact Nat.le_refl _) (fun _ _ h => h) (fun b hb hS => setCell_far w (fun e : b = k => hk (by rw [← e];exact hS)) i u)
theorem StrsS.below {S : Nat → Prop} {w w' : World} {v : Value} {l : List ByteArray} (h : StrsS S w v l) (hb : Below w.heap.size w w') : StrsS S w' v l := h.go hb.size (fun _ _ h => h) (fun b hb' _ => hb.block b hb')
theorem ExS.below {S : Nat → Prop} {w w' : World} {e : Ex} {cs : List Value} (h : ExS S w e cs) (hb : Below w.heap.size w w') : ExS S w' e cs := h.go hb.size (fun _ _ h => h) (fun b hb' _ => hb.block b hb')
theorem ownN_slice {w : World} {base : Nat} {v : Value} {l : List (List UInt8)} (h : OwnN base w v l) : ∃ A c,v = .slice A l.length c := ownsRow_slice h
end Go.Proofs.YtpmbamfpmmdhcaaGreat
