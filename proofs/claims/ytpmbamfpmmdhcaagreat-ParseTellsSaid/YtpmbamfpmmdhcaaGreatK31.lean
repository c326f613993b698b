/- The program's read, of an expression, a query, matchers. (PRINTED by gen_qread2.py.) -/
import Derived.Test.YtpmbamfpmmdhcaaGreatK19
import Derived.Test.YtpmbamfpmmdhcaaGreatK47
import Derived.Test.YtpmbamfpmmdhcaaGreatK30
set_option maxRecDepth 100000
set_option maxHeartbeats 16000000
namespace Go.Proofs.YtpmbamfpmmdhcaaGreat
open Go.RowKit
set_option linter.unusedSimpArgs false
set_option linter.unusedVariables false
theorem leaves_agg2 {P : Program} {fn : Func} {R : Ending → World → Prop} {T : Array Value} {w : World} {p u : Tmp} {ty ty2 g g2 t t2 : Nat} {cs cs2 : Array Value} {fr fr2 : Nat × Nat} {d d2 : TypeDesc}
    (h : fn.results = #[.cell p ty,.cell u ty2]) (hp : T.getD p undef = .pointer (some ⟨g,0,none⟩)) (hg : w.heap[g]? = some (.cells cs t fr)) (hu : P.underlying ty = some d)
    (hd : aggD d = true) (hi : (P.info? ty).map (·.size) = some cs.size) (hp2 : T.getD u undef = .pointer (some ⟨g2,0,none⟩)) (hg2 : w.heap[g2]? = some (.cells cs2 t2 fr2)) (hu2 : P.underlying ty2 = some d2)
    (hd2 : aggD d2 = true) (hi2 : (P.info? ty2).map (·.size) = some cs2.size) (hR : R (.returned (.tuple #[.agg cs,.agg cs2])) w) :
    Leaves P fn T R [] .returning w := by
  refine ⟨_,?_,hR⟩
  have hp' : T[p]?.getD undef = .pointer (some ⟨g,0,none⟩) := by rw [← hp];simp
  have hp2' : T[u]?.getD undef = .pointer (some ⟨g2,0,none⟩) := by rw [← hp2];simp
  simp only [results,h]
  simp [Sem.run_bind,Result.andThen,hp',hp2',asAddr,loadRow w g t ty cs fr d hg hu hd hi,loadRow w g2 t2 ty2 cs2 fr2 d2 hg2 hu2 hd2 hi2]
theorem setRow_same {w : World} {g t : Nat} {cs : List Value} (h : Blk w g t cs) : w.setRow g cs.toArray = w := by
  obtain ⟨hlt,hg⟩ := Array.getElem?_eq_some_iff.1 h
  obtain ⟨heap,tape,drawn,os,output⟩ := w
  simp only [World.setRow] at hlt hg ⊢
  congr 1
  apply Array.ext
  · simp
  · intro i h1 h2
    simp only [Array.getElem_modify]
    split
    · rename_i e
      subst e;rw [hg]
    · rfl
theorem ownsRow_far2 {W w1 : World} {v : Value} {l : List Tok} {B : Nat} (h : OwnT W.heap.size w1 v l) (hz : W.heap.size = B + 2) (u1 u2 : Value) : OwnT W.heap.size ((w1.setCell ⟨B + 1,0,none⟩ u1).setCell ⟨B + 1,1,none⟩ u2) v l := by
  refine ⟨h.1,?_⟩
  rcases h.2 with h | ⟨k,cap,cur,hv,hk,hh,h1,h2,h3,h4⟩
  · exact .inl h
  · refine .inr ⟨k,cap,cur,hv,hk,?_,h1,h2,h3,h4⟩
    rw [Below.heap_setCell _ _ _ _ (show k ≠ B + 1 by omega),Below.heap_setCell _ _ _ _ (show k ≠ B + 1 by omega)];exact hh
theorem ownT_off {base g : Nat} {W W' : World} {v : Value} {l : List Tok} {cs : List Value} (h : OwnT base W v l) (hb : Blk W g 94 cs) (ho : Off g W W') : OwnT base W' v l := by
  refine ⟨h.1,?_⟩
  rcases h.2 with h | ⟨k,cap,cur,hv,hk,hh,h1,h2,h3,h4⟩
  · exact .inl h
  · have hne : k ≠ g := by
      rintro rfl;have := hh.symm.trans hb;simp only [Option.some.injEq,Obj.cells.injEq] at this;exact absurd this.2.1 (by decide)
    exact .inr ⟨k,cap,cur,hv,hk,(ho.block k (Array.getElem?_eq_some_iff.1 hh).1 hne).trans hh,h1,h2,h3,h4⟩
theorem toks_row {g base b : Nat} {w : World} {v : Value} {l : List Tok} (h : IsToks g w v l) (ho : OwnT base w v l) (hb : b < base) (us : Array Value) : IsToks g (w.setRow b us) v l := by
  obtain ⟨p,cap,hv,h1,h2,h3⟩ := h
  refine ⟨p,cap,hv,h1,h2,fun hne => ?_⟩
  obtain ⟨b',off,hp,hbn,hc⟩ := h3 hne
  have hbb : base ≤ b' := by
    rcases ho.2 with ⟨e,-⟩ | ⟨k,cap',cur,e,hk,-⟩
    · rw [hv,hp] at e;cases e
    · rw [hv,hp] at e
      simp only [Value.slice.injEq,Option.some.injEq,Addr.mk.injEq] at e;omega
  refine ⟨b',off,hp,hbn,fun k r hr j x hx => ?_⟩
  rw [World.cell?_of_block (w := w) (a := ⟨b',_,none⟩) (setRow_far w b us (show b' ≠ b by omega))]
  exact hc k r hr j x hx
theorem Off.belowW {g : Nat} {w w1 w2 : World} (h : Below w.heap.size w w1) (ho : Off g w1 w2) (hg : w.heap.size ≤ g) : Below w.heap.size w w2 := h.trans (ho.below hg h.size)
theorem MatsS.mats' {S : Nat → Prop} {w : World} {v : Value} {l : List Mat} (h : MatsS S w v l) : IsMats w.heap.size w v l := ⟨h.1.monoC cells_unkeep (Nat.le_refl _),h.2⟩
theorem readE_lex (s : ByteArray) (w : World) (hs : s.size ≤ maxLen) (h0 : (lexAll s).2.1 ≠ 0) (q : PS) (hq : q.err = (lexAll s).2.1 ∧ q.at' = (lexAll s).2.2) (ok : Value → World → Prop) :
    Calls Tryz.prog 25 #[.string s,.func (.func 26) #[] #[]] w (ReadR q (.agg ZX.toArray) ok w) := by
  have hmf : ∀ (fn : Fn) (first cap : Array Value) (w : World),(Instr.makeFunc fn first cap).run Tryz.prog w = .ok (.func fn first cap) w := fun _ _ _ _ => rfl
  have HL := Lib.hid (fun (X : World) => lAll s X hs)
  have h0b : ((lexAll s).2.1 == 0) = false := by simpa using h0
  have Hq := Lib.hid hq
  have H0 := Lib.hid h0
  clear hq h0
  go_enter_defers Tryz.func25,Tryz.ntmps25
  go_wp2_with fail
  have hT := two_at w ZX [.int .i64 0,.int .i64 0] 28 31
  have hF := two_at' w (.cells ZX.toArray 28) [.int .i64 0,.int .i64 0] 31
  have hb0 := two_below w (.cells ZX.toArray 28) (.cells ([.int .i64 0,.int .i64 0] : List Value).toArray 31)
  refine (HL.out _).mono ?_
  rintro e' w1 ⟨v,rfl,ho,hb⟩
  have hT1 := hT.keep hb
  have hF1 := hF.keep hb
  have hb1 := hb0.trans (hb.mono hb0.size)
  have hf0 := hF1.free 0
  have hf1 := hF1.free 1
  have c0 := hF1.cell 0 _ rfl
  have c1 := hF1.cell 1 _ rfl
  have hl1 := hF1.lt
  clear hT hF hb0 hb ho
  generalize (lexAll s).2.1 = er at h0b Hq H0 c0 c1 ⊢
  generalize (lexAll s).2.2 = aa at Hq c0 c1 ⊢
  go_upto_region 3 with fail
  have hT2 := (hT1.far (p := ⟨w.heap.size + 1,0,none⟩) (show w.heap.size ≠ w.heap.size + 1 by omega) (.int .i64 er)).far (p := ⟨w.heap.size + 1,1,none⟩) (show w.heap.size ≠ w.heap.size + 1 by omega) (.int .i64 aa)
  have hF2 := (hF1.set_ 0 (.int .i64 er)).set_ 1 (.int .i64 aa)
  have hb2 := (hb1.setCell (p := ⟨w.heap.size + 1,0,none⟩) (show w.heap.size ≤ w.heap.size + 1 by omega) (.int .i64 er)).setCell (p := ⟨w.heap.size + 1,1,none⟩) (show w.heap.size ≤ w.heap.size + 1 by omega) (.int .i64 aa)
  generalize ((w1.setCell ⟨w.heap.size + 1,0,none⟩ (.int .i64 er)).setCell ⟨w.heap.size + 1,1,none⟩ (.int .i64 aa)) = w2 at hT2 hF2 hb2
  clear hT1 hF1 hb1 hf0 hf1 c0 c1 hl1 h0b
  refine wp_region_held_drew (S := fun _ => True) (by kernel_rfl) trivial (fun hHeld => ?_)
  have hT3 := hT2.drew
  have hF3 := hF2.drew
  have hb3 := hb2.drew
  generalize w2.drew = wd at hT3 hF3 hb3 hHeld
  clear hT2 hF2 hb2
  have q0 := hT3.cell 0 _ rfl;have q1 := hT3.cell 1 _ rfl;have q2 := hT3.cell 2 _ rfl;have q3 := hT3.cell 3 _ rfl;have q4 := hT3.cell 4 _ rfl;have q5 := hT3.cell 5 _ rfl;have q6 := hT3.cell 6 _ rfl;have q7 := hT3.cell 7 _ rfl;have q8 := hT3.cell 8 _ rfl
  have r0 := hF3.cell 0 _ rfl
  have r1 := hF3.cell 1 _ rfl
  
  refine wpAnyH_ready (rs := [0,1]) (by kernel_rfl) (by simp) (.cons rfl (fun K hK => ?_) (.cons rfl (fun K hK => ?_) .nil))
  · rw [if_pos (by kernel_rfl)];go_simp;refine hK.out _ _ trivial (fun hHeld => ?_);clear hK K;(try simp only [Act.put,lsa,lsz,lss])
    refine wpAnyH_ready (rs := [1,2]) (by kernel_rfl) (by simp) (.cons rfl (fun K hK => ?_) (.cons rfl (fun K hK => ?_) .nil))
    · rw [if_pos (by kernel_rfl)];go_simp;refine hK.out _ _ trivial (fun hHeld => ?_);clear hK K;(try simp only [Act.put,lsa,lsz,lss])
      refine hrd 2 rfl (fun K hK => ?_);rw [if_pos (by kernel_rfl)];refine wp_store_row 28 _ _ rfl w.heap.size ZX.toArray rfl rfl 28 ZX.toArray hT3 (by kernel_rfl) rfl (by kernel_rfl) ?_;rw [setRow_same hT3];refine hK.out _ _ trivial (fun hHeld => ?_);clear hK K;(try simp only [Act.put,lsa,lsz,lss]);refine hrd 3 rfl (fun K hK => ?_);rw [if_pos (by kernel_rfl)];refine wp_store_row 31 _ _ rfl (w.heap.size + 1) #[.int .i64 er,.int .i64 aa] rfl rfl 31 #[.int .i64 er,.int .i64 aa] hF3 (by kernel_rfl) rfl (by kernel_rfl) ?_;rw [show wd.setRow (w.heap.size + 1) #[.int .i64 er,.int .i64 aa] = wd from setRow_same hF3];refine hK.out _ _ trivial (fun hHeld => ?_);clear hK K;(try simp only [Act.put,lsa,lsz,lss]);refine wpAnyH_done (by kernel_rfl) ?_ _;go_wp2;exact leaves_agg2 rfl rfl hT3 Tryz.underlying28 rfl (by kernel_rfl) rfl hF3 Tryz.underlying31 rfl (by kernel_rfl) ⟨fun hn => absurd (Hq.out.1.symm.trans hn) H0.out,fun _ => by rw [Hq.out.1,Hq.out.2];rfl,hb3⟩
    · rw [if_pos (by kernel_rfl)];refine wp_store_row 28 _ _ rfl w.heap.size ZX.toArray rfl rfl 28 ZX.toArray hT3 (by kernel_rfl) rfl (by kernel_rfl) ?_;rw [setRow_same hT3];refine hK.out _ _ trivial (fun hHeld => ?_);clear hK K;(try simp only [Act.put,lsa,lsz,lss]);refine hrd 1 rfl (fun K hK => ?_);rw [if_pos (by kernel_rfl)];go_simp;refine hK.out _ _ trivial (fun hHeld => ?_);clear hK K;(try simp only [Act.put,lsa,lsz,lss]);refine hrd 3 rfl (fun K hK => ?_);rw [if_pos (by kernel_rfl)];refine wp_store_row 31 _ _ rfl (w.heap.size + 1) #[.int .i64 er,.int .i64 aa] rfl rfl 31 #[.int .i64 er,.int .i64 aa] hF3 (by kernel_rfl) rfl (by kernel_rfl) ?_;rw [show wd.setRow (w.heap.size + 1) #[.int .i64 er,.int .i64 aa] = wd from setRow_same hF3];refine hK.out _ _ trivial (fun hHeld => ?_);clear hK K;(try simp only [Act.put,lsa,lsz,lss]);refine wpAnyH_done (by kernel_rfl) ?_ _;go_wp2;exact leaves_agg2 rfl rfl hT3 Tryz.underlying28 rfl (by kernel_rfl) rfl hF3 Tryz.underlying31 rfl (by kernel_rfl) ⟨fun hn => absurd (Hq.out.1.symm.trans hn) H0.out,fun _ => by rw [Hq.out.1,Hq.out.2];rfl,hb3⟩
  · rw [if_pos (by kernel_rfl)];go_simp;refine hK.out _ _ trivial (fun hHeld => ?_);clear hK K;(try simp only [Act.put,lsa,lsz,lss]);refine hrd 0 rfl (fun K hK => ?_);rw [if_pos (by kernel_rfl)];go_simp;refine hK.out _ _ trivial (fun hHeld => ?_);clear hK K;(try simp only [Act.put,lsa,lsz,lss]);refine hrd 2 rfl (fun K hK => ?_);rw [if_pos (by kernel_rfl)];refine wp_store_row 28 _ _ rfl w.heap.size ZX.toArray rfl rfl 28 ZX.toArray hT3 (by kernel_rfl) rfl (by kernel_rfl) ?_;rw [setRow_same hT3];refine hK.out _ _ trivial (fun hHeld => ?_);clear hK K;(try simp only [Act.put,lsa,lsz,lss]);refine hrd 3 rfl (fun K hK => ?_);rw [if_pos (by kernel_rfl)];refine wp_store_row 31 _ _ rfl (w.heap.size + 1) #[.int .i64 er,.int .i64 aa] rfl rfl 31 #[.int .i64 er,.int .i64 aa] hF3 (by kernel_rfl) rfl (by kernel_rfl) ?_;rw [show wd.setRow (w.heap.size + 1) #[.int .i64 er,.int .i64 aa] = wd from setRow_same hF3];refine hK.out _ _ trivial (fun hHeld => ?_);clear hK K;(try simp only [Act.put,lsa,lsz,lss]);refine wpAnyH_done (by kernel_rfl) ?_ _;go_wp2;exact leaves_agg2 rfl rfl hT3 Tryz.underlying28 rfl (by kernel_rfl) rfl hF3 Tryz.underlying31 rfl (by kernel_rfl) ⟨fun hn => absurd (Hq.out.1.symm.trans hn) H0.out,fun _ => by rw [Hq.out.1,Hq.out.2];rfl,hb3⟩
theorem readE (s : ByteArray) (w : World) (hs : s.size ≤ maxLen) (f : Nat) (e : Ex) (p4 : PS) (hr : pExpr (LX s) f (PX s) = some (e,p4)) :
    Calls Tryz.prog 25 #[.string s,.func (.func 26) #[] #[]] w (ReadR (p4.fin (LX s)) (.agg ZX.toArray) (fun v w' => ∃ cs,v = .agg cs.toArray ∧ ExS (fun k => w.heap.size ≤ k) w' e cs) w) := by
  have hst : St (PX s) (p4.fin (LX s)) := St.trans ((sts (LX s) f).expr _ _ _ hr) (St.token _ _ _)
  by_cases hn0 : (lexAll s).2.1 ≠ 0
  · have h0 := hn0
    obtain ⟨a,b⟩ := hst h0;exact readE_lex s w hs h0 _ ⟨a,b⟩ _
  have h0 : (lexAll s).2.1 = 0 := Decidable.not_not.1 hn0
  have hmf : ∀ (fn : Fn) (first cap : Array Value) (w : World),(Instr.makeFunc fn first cap).run Tryz.prog w = .ok (.func fn first cap) w := fun _ _ _ _ => rfl
  have HL := Lib.hid (fun (X : World) => lAll s X hs)
  obtain ⟨hQ0,hLX⟩ := qw_begin h0
  have h00 : (lexAll s).2.2 = 0 := by
    rcases lexAll_cases s with ⟨-,h,-⟩ | h
    · exact h
    · exact absurd h0 h
  have hP0 : PX s = ⟨0,0,0,0⟩ := by unfold PX;rw [h0,h00]
  have HP0 := Lib.hid hP0
  have HC := Lib.hid (fun (g : Nat) (A : Option Addr) (cap : Nat) (X : World) (hPA : QA g A cap (LX s) (PX s) X) => ((allQs g A cap (LX s) f).expr _ _ _ hr hQ0 X hPA))
  have H4 : Hid (p4.err = 0 → QW (LX s) p4) := Lib.hid (fun h => ⟨((keeps (LX s) f).expr _ _ _ hr (pw_begin s)).1,hQ0.tw,h⟩)
  have HK := Lib.hid (fun (hq : QW (LX s) p4) (g : Nat) (A : Option Addr) (cap : Nat) (X : World) (hX : QA g A cap (LX s) p4 X) => qAny g A cap (LX s) p4 X hX hq 5)
  have Hst4 := Lib.hid (St.token (LX s) p4 5)
  have HLX := Lib.hid hLX
  obtain ⟨q,hq⟩ : ∃ q,p4.fin (LX s) = q := ⟨_,rfl⟩
  rw [hq]
  have hq' : (p4.token (LX s) 5).2 = q := hq
  rw [hq'] at HK Hst4
  obtain ⟨tk,htk⟩ : ∃ tk,(p4.token (LX s) 5).1 = tk := ⟨_,rfl⟩
  rw [htk] at HK
  unfold Tok.val at HK
  clear hst hQ0 hLX hP0 hq hq' htk hs
  go_enter_defers Tryz.func25,Tryz.ntmps25
  go_wp2_with fail
  have hT := two_at w ZX [.int .i64 0,.int .i64 0] 28 31
  have hF := two_at' w (.cells ZX.toArray 28) [.int .i64 0,.int .i64 0] 31
  have hb0 := two_below w (.cells ZX.toArray 28) (.cells ([.int .i64 0,.int .i64 0] : List Value).toArray 31)
  have hz0 : ((w.alloc (.cells ZX.toArray 28)).alloc (.cells ([.int .i64 0,.int .i64 0] : List Value).toArray 31)).heap.size = w.heap.size + 2 := by simp
  refine (HL.out _).mono ?_
  rintro e' w1 ⟨v,rfl,ho,hb⟩
  rw [h0,h00]
  rw [← HLX.out] at ho
  obtain ⟨A,cap,rfl⟩ := ownsRow_slice ho
  have hT1 := hT.keep hb
  have hF1 := hF.keep hb
  have hb1 := hb0.trans (hb.mono hb0.size)
  have hf0 := hF1.free 0
  have hf1 := hF1.free 1
  have c0 := hF1.cell 0 _ rfl
  have c1 := hF1.cell 1 _ rfl
  have hl1 := hF1.lt
  have HO := Lib.hid ho
  have HT1 := Lib.hid hT1;have HF1 := Lib.hid hF1;have HB1 := Lib.hid hb1
  clear hT hF hb0 hb ho h0 h00 hT1 hF1 hb1
  go_wp2_with fail
  have hT2 := (HT1.out.far (p := ⟨w.heap.size + 1,0,none⟩) (show w.heap.size ≠ w.heap.size + 1 by omega) (.int .i64 0)).far (p := ⟨w.heap.size + 1,1,none⟩) (show w.heap.size ≠ w.heap.size + 1 by omega) (.int .i64 0)
  have hF2 := (HF1.out.set_ 0 (.int .i64 0)).set_ 1 (.int .i64 0)
  have hb2 := (HB1.out.setCell (p := ⟨w.heap.size + 1,0,none⟩) (show w.heap.size ≤ w.heap.size + 1 by omega) (.int .i64 0)).setCell (p := ⟨w.heap.size + 1,1,none⟩) (show w.heap.size ≤ w.heap.size + 1 by omega) (.int .i64 0)
  have hz2 : ((w1.setCell ⟨w.heap.size + 1,0,none⟩ (.int .i64 0)).setCell ⟨w.heap.size + 1,1,none⟩ (.int .i64 0)).heap.size = w1.heap.size := by rw [setCell_size,setCell_size]
  have hTk : IsToks w1.heap.size ((w1.setCell ⟨w.heap.size + 1,0,none⟩ (.int .i64 0)).setCell ⟨w.heap.size + 1,1,none⟩ (.int .i64 0)) (.slice A (LX s).length cap) (LX s) := by
    have h1 := ownsRow_far2 HO.out hz0 (.int .i64 0) (.int .i64 0);have h2 := h1.toks (Nat.le_refl _)
    rwa [hz2] at h2
  have hOT : OwnT (w.heap.size + 2) ((w1.setCell ⟨w.heap.size + 1,0,none⟩ (.int .i64 0)).setCell ⟨w.heap.size + 1,1,none⟩ (.int .i64 0)) (.slice A (LX s).length cap) (LX s) := by
    have := ownsRow_far2 HO.out hz0 (.int .i64 0) (.int .i64 0)
    rwa [hz0] at this
  generalize ((w1.setCell ⟨w.heap.size + 1,0,none⟩ (.int .i64 0)).setCell ⟨w.heap.size + 1,1,none⟩ (.int .i64 0)) = w2 at hT2 hF2 hb2 hz2 hTk hOT
  have hPA : QA w1.heap.size A cap (LX s) (PX s) (w2.alloc (.cells (QC A (LX s).length cap (PX s)).toArray 94)) := by
    refine ⟨?_,?_⟩
    · rw [← hz2];exact Blk.new w2 _ _
    · exact hTk.mono ((Below.refl _ _).alloc (by omega) _) (Nat.le_refl _)
  have hOa : OwnT (w.heap.size + 2) (w2.alloc (.cells (QC A (LX s).length cap (PX s)).toArray 94)) (.slice A (LX s).length cap) (LX s) := ownsRow_keep hOT ((Below.refl _ _).alloc (Nat.le_refl _) _)
  have hTa := hT2.alloc (.cells (QC A (LX s).length cap (PX s)).toArray 94)
  have hFa := hF2.alloc (.cells (QC A (LX s).length cap (PX s)).toArray 94)
  have hba := hb2.alloc hb2.size (.cells (QC A (LX s).length cap (PX s)).toArray 94)
  have hPe : (QC A (LX s).length cap (PX s)) = [.slice A (LX s).length cap,.int .i64 0,.int .i64 0] := by rw [HP0.out];rfl
  rw [hPe] at hPA hTa hFa hba hOa
  generalize w2.alloc (.cells ([.slice A (LX s).length cap,.int .i64 0,.int .i64 0] : List Value).toArray 94) = w3 at hPA hTa hFa hba hOa
  have hgb : w.heap.size + 1 < w1.heap.size := hl1
  clear hT2 hF2 hb2 hz2 hTk hOT HO HT1 HF1 HB1 hf0 hf1 c0 c1 hl1 hPe
  obtain ⟨g,hge⟩ : ∃ g,w1.heap.size = g := ⟨_,rfl⟩
  rw [hge] at hPA hgb ⊢
  clear hge
  refine (HC.out _ _ _ _ hPA).mono ?_
  rintro e' w4 ⟨hok,hbad,ho4⟩
  have hT4 := ho4.blkX hTa (show w.heap.size ≠ g by omega)
  have hF4 := ho4.blkX hFa (show w.heap.size + 1 ≠ g by omega)
  have hb4 := Off.belowW hba ho4 (by omega)
  have hO4 := ownT_off hOa hPA.1 ho4
  by_cases hx : p4.err ≠ 0
  · obtain rfl := hbad hx
    obtain ⟨qa,qb⟩ := Hst4.out hx;refine leaves_cons (f := 54) (args := #[.pointer (some ⟨w.heap.size,0,none⟩),.pointer (some ⟨w.heap.size + 1,0,none⟩)]) (by simp) (by simp [go_sem]) ?_;refine (catchE w.heap.size (w.heap.size + 1) _ _ p4.err p4.at' w4 hT4 hF4 (by omega) rfl rfl).mono ?_;rintro e' u' w5 ⟨rfl,rfl,hT5,hF5,hb5⟩
    show Leaves _ _ _ _ [] .returning w5
    exact leaves_agg2 rfl rfl hT5 Tryz.underlying28 rfl (by kernel_rfl) rfl hF5 Tryz.underlying31 rfl (by kernel_rfl) ⟨fun hn => absurd (qa.symm.trans hn) hx,fun _ => by rw [qa,qb],hb4.trans (hb5 w.heap.size (Nat.le_refl _) (by omega) (by have := hT4.lt;omega))⟩
  have hx0 : p4.err = 0 := Decidable.not_not.1 hx
  have Q4 := Lib.hid (H4.out hx0)
  obtain ⟨cs,rfl,hx4,hP4⟩ := hok hx0
  obtain ⟨pm,cm,pn,cn,pk,ck,rfl,-⟩ := IsEx.cellsE hx4
  have HT4 := Lib.hid hT4
  have hgw : w.heap.size < g := by omega
  have hP5 : QA g A cap (LX s) p4 (w4.setRow w.heap.size #[.int .i64 e.kind,.int .i64 e.fn,.int .i64 e.op,.int .i64 e.num,.string e.metric,.slice pm e.mats.length cm,.int .i64 e.span,.slice pn e.names.length cn,.slice pk e.kids.length ck]) := ⟨(setRow_far _ _ _ (show g ≠ w.heap.size by omega)).trans hP4.1,toks_row hP4.2 hO4 (by omega) _⟩
  have hT5 : Blk (w4.setRow w.heap.size #[.int .i64 e.kind,.int .i64 e.fn,.int .i64 e.op,.int .i64 e.num,.string e.metric,.slice pm e.mats.length cm,.int .i64 e.span,.slice pn e.names.length cn,.slice pk e.kids.length ck]) w.heap.size 28 [.int .i64 e.kind,.int .i64 e.fn,.int .i64 e.op,.int .i64 e.num,.string e.metric,.slice pm e.mats.length cm,.int .i64 e.span,.slice pn e.names.length cn,.slice pk e.kids.length ck] := setRow_at hT4 _
  have hF5 : Blk (w4.setRow w.heap.size #[.int .i64 e.kind,.int .i64 e.fn,.int .i64 e.op,.int .i64 e.num,.string e.metric,.slice pm e.mats.length cm,.int .i64 e.span,.slice pn e.names.length cn,.slice pk e.kids.length ck]) (w.heap.size + 1) 31 [.int .i64 0,.int .i64 0] := (setRow_far _ _ _ (show w.heap.size + 1 ≠ w.heap.size by omega)).trans hF4
  have hb5 := below_setRow hb4 (Nat.le_refl _) #[.int .i64 e.kind,.int .i64 e.fn,.int .i64 e.op,.int .i64 e.num,.string e.metric,.slice pm e.mats.length cm,.int .i64 e.span,.slice pn e.names.length cn,.slice pk e.kids.length ck]
  have hx5 : ExS (fun k => g < k) (w4.setRow w.heap.size #[.int .i64 e.kind,.int .i64 e.fn,.int .i64 e.op,.int .i64 e.num,.string e.metric,.slice pm e.mats.length cm,.int .i64 e.span,.slice pn e.names.length cn,.slice pk e.kids.length ck]) e [.int .i64 e.kind,.int .i64 e.fn,.int .i64 e.op,.int .i64 e.num,.string e.metric,.slice pm e.mats.length cm,.int .i64 e.span,.slice pn e.names.length cn,.slice pk e.kids.length ck] := hx4.go (by rw [setRow_size];exact Nat.le_refl _) (fun k _ h => by have h : w3.heap.size ≤ k := h;have := hPA.1.lt;show g < k;omega) (fun k _ h => setRow_far _ _ _ (by have h : w3.heap.size ≤ k := h;have := hPA.1.lt;omega))
  have HP5 := Lib.hid hP5;have HT5 := Lib.hid hT5;have HF5 := Lib.hid hF5;have HB5 := Lib.hid hb5;have HX5 := Lib.hid hx5
  clear hok hbad hx hx0 hT4 hF4 hb4 hO4 hP4 hx4 hP5 hT5 hF5 hb5 hx5 ho4 hTa hFa hba hOa hPA
  go_wp2_with (refine wpList_store_row rfl 28 _ _ rfl w.heap.size #[.int .i64 e.kind,.int .i64 e.fn,.int .i64 e.op,.int .i64 e.num,.string e.metric,.slice pm e.mats.length cm,.int .i64 e.span,.slice pn e.names.length cn,.slice pk e.kids.length ck] rfl rfl 28 _ HT4.out (by kernel_rfl) rfl (by kernel_rfl) ?_)
  generalize w4.setRow w.heap.size #[.int .i64 e.kind,.int .i64 e.fn,.int .i64 e.op,.int .i64 e.num,.string e.metric,.slice pm e.mats.length cm,.int .i64 e.span,.slice pn e.names.length cn,.slice pk e.kids.length ck] = w5 at HP5 HT5 HF5 HB5 HX5
  refine (HK.out Q4.out _ _ _ _ HP5.out).mono ?_
  rintro e' w6 ⟨hok,hbad,ho6⟩
  have hT6 := ho6.blkX HT5.out (show w.heap.size ≠ g by omega)
  have hF6 := ho6.blkX HF5.out (show w.heap.size + 1 ≠ g by omega)
  have hb6 := Off.belowW HB5.out ho6 (by omega)
  have hx6 := HX5.out.off ho6 (Nat.lt_irrefl g)
  by_cases hx : q.err ≠ 0
  · obtain rfl := hbad hx
    refine leaves_cons (f := 54) (args := #[.pointer (some ⟨w.heap.size,0,none⟩),.pointer (some ⟨w.heap.size + 1,0,none⟩)]) (by simp) (by simp [go_sem]) ?_;refine (catchE w.heap.size (w.heap.size + 1) _ _ q.err q.at' w6 hT6 hF6 (by omega) rfl rfl).mono ?_;rintro e' u' w7 ⟨rfl,rfl,hT5,hF5,hb5⟩
    show Leaves _ _ _ _ [] .returning w7
    exact leaves_agg2 rfl rfl hT5 Tryz.underlying28 rfl (by kernel_rfl) rfl hF5 Tryz.underlying31 rfl (by kernel_rfl) ⟨fun hn => absurd hn hx,fun _ => rfl,hb6.trans (hb5 w.heap.size (Nat.le_refl _) (by omega) (by have := hT6.lt;omega))⟩
  have H0 : Hid (q.err = 0) := Lib.hid (Decidable.not_not.1 hx)
  obtain ⟨rfl,hP6⟩ := hok H0.out
  clear hok hbad hx HT4 HP5 HT5 HF5 HB5 HX5 hP6
  have hlt6 := hF6.lt
  have q0 := hT6.cell 0 _ rfl;have q1 := hT6.cell 1 _ rfl;have q2 := hT6.cell 2 _ rfl;have q3 := hT6.cell 3 _ rfl;have q4 := hT6.cell 4 _ rfl;have q5 := hT6.cell 5 _ rfl;have q6 := hT6.cell 6 _ rfl;have q7 := hT6.cell 7 _ rfl;have q8 := hT6.cell 8 _ rfl
  have f0 := hF6.free 0;have f1 := hF6.free 1
  have r0 := hF6.cell 0 _ rfl;have r1 := hF6.cell 1 _ rfl
  have HT6 := Lib.hid hT6;have HF6 := Lib.hid hF6;have HB6 := Lib.hid hb6;have HX6 := Lib.hid hx6
  clear hT6 hF6 hb6 hx6 ho6
  have hsame : Hid (w6.setRow w.heap.size #[.int .i64 e.kind,.int .i64 e.fn,.int .i64 e.op,.int .i64 e.num,.string e.metric,.slice pm e.mats.length cm,.int .i64 e.span,.slice pn e.names.length cn,.slice pk e.kids.length ck] = w6) := Lib.hid (setRow_same HT6.out)
  go_wp2_with (refine wpList_store_row rfl 28 _ _ rfl w.heap.size #[.int .i64 e.kind,.int .i64 e.fn,.int .i64 e.op,.int .i64 e.num,.string e.metric,.slice pm e.mats.length cm,.int .i64 e.span,.slice pn e.names.length cn,.slice pk e.kids.length ck] rfl rfl 28 _ HT6.out (by kernel_rfl) rfl (by kernel_rfl) ?_;rw [hsame.out])
  have hT7 := (HT6.out.far (p := ⟨w.heap.size + 1,0,none⟩) (show w.heap.size ≠ w.heap.size + 1 by omega) (.int .i64 0)).far (p := ⟨w.heap.size + 1,1,none⟩) (show w.heap.size ≠ w.heap.size + 1 by omega) (.int .i64 0)
  have hF7 := (HF6.out.set_ 0 (.int .i64 0)).set_ 1 (.int .i64 0)
  have hb7 := (HB6.out.setCell (p := ⟨w.heap.size + 1,0,none⟩) (show w.heap.size ≤ w.heap.size + 1 by omega) (.int .i64 0)).setCell (p := ⟨w.heap.size + 1,1,none⟩) (show w.heap.size ≤ w.heap.size + 1 by omega) (.int .i64 0)
  have hx7 := (HX6.out.set (k := w.heap.size + 1) (show ¬ g < w.heap.size + 1 by omega) 0 (.int .i64 0)).set (k := w.heap.size + 1) (show ¬ g < w.heap.size + 1 by omega) 1 (.int .i64 0)
  generalize ((w6.setCell ⟨w.heap.size + 1,0,none⟩ (.int .i64 0)).setCell ⟨w.heap.size + 1,1,none⟩ (.int .i64 0)) = w7 at hT7 hF7 hb7 hx7
  refine leaves_cons (f := 54) (args := #[.pointer (some ⟨w.heap.size,0,none⟩),.pointer (some ⟨w.heap.size + 1,0,none⟩)]) (by simp) (by simp [go_sem]) ?_
  refine (idleE w.heap.size (w.heap.size + 1) w7).mono ?_
  rintro e' u' w8 ⟨rfl,rfl,hb8⟩
  have hT8 := hT7.keep hb8
  have hF8 := hF7.keep hb8
  show Leaves _ _ _ _ [] .returning w8
  exact leaves_agg2 rfl rfl hT8 Tryz.underlying28 rfl (by kernel_rfl) rfl hF8 Tryz.underlying31 rfl (by kernel_rfl) ⟨fun _ => ⟨_,rfl,_,rfl,(hx7.below hb8).go (Nat.le_refl _) (fun k _ h => by have h : g < k := h;show w.heap.size ≤ k;omega) (fun _ _ _ => rfl)⟩,fun hn => absurd H0.out hn,hb7.trans (hb8.mono (by have := hT7.lt;omega))⟩
theorem readQ_lex (s : ByteArray) (w : World) (hs : s.size ≤ maxLen) (h0 : (lexAll s).2.1 ≠ 0) (q : PS) (hq : q.err = (lexAll s).2.1 ∧ q.at' = (lexAll s).2.2) (ok : Value → World → Prop) :
    Calls Tryz.prog 36 #[.string s,.func (.func 37) #[] #[]] w (ReadR q (.agg ZQr.toArray) ok w) := by
  have hmf : ∀ (fn : Fn) (first cap : Array Value) (w : World),(Instr.makeFunc fn first cap).run Tryz.prog w = .ok (.func fn first cap) w := fun _ _ _ _ => rfl
  have HL := Lib.hid (fun (X : World) => lAll s X hs)
  have h0b : ((lexAll s).2.1 == 0) = false := by simpa using h0
  have Hq := Lib.hid hq
  have H0 := Lib.hid h0
  clear hq h0
  go_enter_defers Tryz.func36,Tryz.ntmps36
  go_wp2_with fail
  have hT := two_at w ZQr [.int .i64 0,.int .i64 0] 42 31
  have hF := two_at' w (.cells ZQr.toArray 42) [.int .i64 0,.int .i64 0] 31
  have hb0 := two_below w (.cells ZQr.toArray 42) (.cells ([.int .i64 0,.int .i64 0] : List Value).toArray 31)
  refine (HL.out _).mono ?_
  rintro e' w1 ⟨v,rfl,ho,hb⟩
  have hT1 := hT.keep hb
  have hF1 := hF.keep hb
  have hb1 := hb0.trans (hb.mono hb0.size)
  have hf0 := hF1.free 0
  have hf1 := hF1.free 1
  have c0 := hF1.cell 0 _ rfl
  have c1 := hF1.cell 1 _ rfl
  have hl1 := hF1.lt
  clear hT hF hb0 hb ho
  generalize (lexAll s).2.1 = er at h0b Hq H0 c0 c1 ⊢
  generalize (lexAll s).2.2 = aa at Hq c0 c1 ⊢
  go_upto_region 3 with fail
  have hT2 := (hT1.far (p := ⟨w.heap.size + 1,0,none⟩) (show w.heap.size ≠ w.heap.size + 1 by omega) (.int .i64 er)).far (p := ⟨w.heap.size + 1,1,none⟩) (show w.heap.size ≠ w.heap.size + 1 by omega) (.int .i64 aa)
  have hF2 := (hF1.set_ 0 (.int .i64 er)).set_ 1 (.int .i64 aa)
  have hb2 := (hb1.setCell (p := ⟨w.heap.size + 1,0,none⟩) (show w.heap.size ≤ w.heap.size + 1 by omega) (.int .i64 er)).setCell (p := ⟨w.heap.size + 1,1,none⟩) (show w.heap.size ≤ w.heap.size + 1 by omega) (.int .i64 aa)
  generalize ((w1.setCell ⟨w.heap.size + 1,0,none⟩ (.int .i64 er)).setCell ⟨w.heap.size + 1,1,none⟩ (.int .i64 aa)) = w2 at hT2 hF2 hb2
  clear hT1 hF1 hb1 hf0 hf1 c0 c1 hl1 h0b
  refine wp_region_held_drew (S := fun _ => True) (by kernel_rfl) trivial (fun hHeld => ?_)
  have hT3 := hT2.drew
  have hF3 := hF2.drew
  have hb3 := hb2.drew
  generalize w2.drew = wd at hT3 hF3 hb3 hHeld
  clear hT2 hF2 hb2
  have q0 := hT3.cell 0 _ rfl;have q1 := hT3.cell 1 _ rfl;have q2 := hT3.cell 2 _ rfl;have q3 := hT3.cell 3 _ rfl;have q4 := hT3.cell 4 _ rfl;have q5 := hT3.cell 5 _ rfl;have q6 := hT3.cell 6 _ rfl;have q7 := hT3.cell 7 _ rfl;have q8 := hT3.cell 8 _ rfl;have q9 := hT3.cell 9 _ rfl
  have r0 := hF3.cell 0 _ rfl
  have r1 := hF3.cell 1 _ rfl
  
  refine wpAnyH_ready (rs := [0,1]) (by kernel_rfl) (by simp) (.cons rfl (fun K hK => ?_) (.cons rfl (fun K hK => ?_) .nil))
  · rw [if_pos (by kernel_rfl)];go_simp;refine hK.out _ _ trivial (fun hHeld => ?_);clear hK K;(try simp only [Act.put,lsa,lsz,lss])
    refine wpAnyH_ready (rs := [1,2]) (by kernel_rfl) (by simp) (.cons rfl (fun K hK => ?_) (.cons rfl (fun K hK => ?_) .nil))
    · rw [if_pos (by kernel_rfl)];go_simp;refine hK.out _ _ trivial (fun hHeld => ?_);clear hK K;(try simp only [Act.put,lsa,lsz,lss])
      refine hrd 2 rfl (fun K hK => ?_);rw [if_pos (by kernel_rfl)];refine wp_store_row 42 _ _ rfl w.heap.size ZQr.toArray rfl rfl 42 ZQr.toArray hT3 (by kernel_rfl) rfl (by kernel_rfl) ?_;rw [setRow_same hT3];refine hK.out _ _ trivial (fun hHeld => ?_);clear hK K;(try simp only [Act.put,lsa,lsz,lss]);refine hrd 3 rfl (fun K hK => ?_);rw [if_pos (by kernel_rfl)];refine wp_store_row 31 _ _ rfl (w.heap.size + 1) #[.int .i64 er,.int .i64 aa] rfl rfl 31 #[.int .i64 er,.int .i64 aa] hF3 (by kernel_rfl) rfl (by kernel_rfl) ?_;rw [show wd.setRow (w.heap.size + 1) #[.int .i64 er,.int .i64 aa] = wd from setRow_same hF3];refine hK.out _ _ trivial (fun hHeld => ?_);clear hK K;(try simp only [Act.put,lsa,lsz,lss]);refine wpAnyH_done (by kernel_rfl) ?_ _;go_wp2;exact leaves_agg2 rfl rfl hT3 Tryz.underlying42 rfl (by kernel_rfl) rfl hF3 Tryz.underlying31 rfl (by kernel_rfl) ⟨fun hn => absurd (Hq.out.1.symm.trans hn) H0.out,fun _ => by rw [Hq.out.1,Hq.out.2];rfl,hb3⟩
    · rw [if_pos (by kernel_rfl)];refine wp_store_row 42 _ _ rfl w.heap.size ZQr.toArray rfl rfl 42 ZQr.toArray hT3 (by kernel_rfl) rfl (by kernel_rfl) ?_;rw [setRow_same hT3];refine hK.out _ _ trivial (fun hHeld => ?_);clear hK K;(try simp only [Act.put,lsa,lsz,lss]);refine hrd 1 rfl (fun K hK => ?_);rw [if_pos (by kernel_rfl)];go_simp;refine hK.out _ _ trivial (fun hHeld => ?_);clear hK K;(try simp only [Act.put,lsa,lsz,lss]);refine hrd 3 rfl (fun K hK => ?_);rw [if_pos (by kernel_rfl)];refine wp_store_row 31 _ _ rfl (w.heap.size + 1) #[.int .i64 er,.int .i64 aa] rfl rfl 31 #[.int .i64 er,.int .i64 aa] hF3 (by kernel_rfl) rfl (by kernel_rfl) ?_;rw [show wd.setRow (w.heap.size + 1) #[.int .i64 er,.int .i64 aa] = wd from setRow_same hF3];refine hK.out _ _ trivial (fun hHeld => ?_);clear hK K;(try simp only [Act.put,lsa,lsz,lss]);refine wpAnyH_done (by kernel_rfl) ?_ _;go_wp2;exact leaves_agg2 rfl rfl hT3 Tryz.underlying42 rfl (by kernel_rfl) rfl hF3 Tryz.underlying31 rfl (by kernel_rfl) ⟨fun hn => absurd (Hq.out.1.symm.trans hn) H0.out,fun _ => by rw [Hq.out.1,Hq.out.2];rfl,hb3⟩
  · rw [if_pos (by kernel_rfl)];go_simp;refine hK.out _ _ trivial (fun hHeld => ?_);clear hK K;(try simp only [Act.put,lsa,lsz,lss]);refine hrd 0 rfl (fun K hK => ?_);rw [if_pos (by kernel_rfl)];go_simp;refine hK.out _ _ trivial (fun hHeld => ?_);clear hK K;(try simp only [Act.put,lsa,lsz,lss]);refine hrd 2 rfl (fun K hK => ?_);rw [if_pos (by kernel_rfl)];refine wp_store_row 42 _ _ rfl w.heap.size ZQr.toArray rfl rfl 42 ZQr.toArray hT3 (by kernel_rfl) rfl (by kernel_rfl) ?_;rw [setRow_same hT3];refine hK.out _ _ trivial (fun hHeld => ?_);clear hK K;(try simp only [Act.put,lsa,lsz,lss]);refine hrd 3 rfl (fun K hK => ?_);rw [if_pos (by kernel_rfl)];refine wp_store_row 31 _ _ rfl (w.heap.size + 1) #[.int .i64 er,.int .i64 aa] rfl rfl 31 #[.int .i64 er,.int .i64 aa] hF3 (by kernel_rfl) rfl (by kernel_rfl) ?_;rw [show wd.setRow (w.heap.size + 1) #[.int .i64 er,.int .i64 aa] = wd from setRow_same hF3];refine hK.out _ _ trivial (fun hHeld => ?_);clear hK K;(try simp only [Act.put,lsa,lsz,lss]);refine wpAnyH_done (by kernel_rfl) ?_ _;go_wp2;exact leaves_agg2 rfl rfl hT3 Tryz.underlying42 rfl (by kernel_rfl) rfl hF3 Tryz.underlying31 rfl (by kernel_rfl) ⟨fun hn => absurd (Hq.out.1.symm.trans hn) H0.out,fun _ => by rw [Hq.out.1,Hq.out.2];rfl,hb3⟩
theorem readQ (s : ByteArray) (w : World) (hs : s.size ≤ maxLen) (f : Nat) (e : Ex) (p4 : PS) (hr : pExpr (LX s) f ((((PX s).need (LX s) [101,118,101,114,121]).token (LX s) 2).2.need (LX s) [58]) = some (e,p4)) :
    Calls Tryz.prog 36 #[.string s,.func (.func 37) #[] #[]] w (ReadR (p4.fin (LX s)) (.agg ZQr.toArray) (fun v w' => ∃ cs,v = .agg (.int .i64 (((PX s).need (LX s) [101,118,101,114,121]).token (LX s) 2).1.num :: cs).toArray ∧ ExS (fun k => w.heap.size ≤ k) w' e cs) w) := by
  have hst : St (PX s) (p4.fin (LX s)) := St.trans ((((St.need _ _ _).trans (.token _ _ _)).trans (.need _ _ _)).trans ((sts (LX s) f).expr _ _ _ hr)) (St.token _ _ _)
  by_cases hn0 : (lexAll s).2.1 ≠ 0
  · have h0 := hn0
    obtain ⟨a,b⟩ := hst h0;exact readQ_lex s w hs h0 _ ⟨a,b⟩ _
  have h0 : (lexAll s).2.1 = 0 := Decidable.not_not.1 hn0
  have hmf : ∀ (fn : Fn) (first cap : Array Value) (w : World),(Instr.makeFunc fn first cap).run Tryz.prog w = .ok (.func fn first cap) w := fun _ _ _ _ => rfl
  have HL := Lib.hid (fun (X : World) => lAll s X hs)
  obtain ⟨hQ0,hLX⟩ := qw_begin h0
  have h00 : (lexAll s).2.2 = 0 := by
    rcases lexAll_cases s with ⟨-,h,-⟩ | h
    · exact h
    · exact absurd h0 h
  have hP0 : PX s = ⟨0,0,0,0⟩ := by unfold PX;rw [h0,h00]
  have HP0 := Lib.hid hP0
  have HC := Lib.hid (fun (g : Nat) (A : Option Addr) (cap : Nat) (X : World) (hPA : QA g A cap (LX s) (PX s) X) => (qQuery g A cap (LX s) f (PX s) e p4 hr hQ0 X hPA))
  have H4 : Hid (p4.err = 0 → QW (LX s) p4) := Lib.hid (fun h => ⟨((keeps (LX s) f).expr _ _ _ hr (((pw_begin s).need _).token 2 (by decide) |>.need _)).1,hQ0.tw,h⟩)
  have HK := Lib.hid (fun (hq : QW (LX s) p4) (g : Nat) (A : Option Addr) (cap : Nat) (X : World) (hX : QA g A cap (LX s) p4 X) => qAny g A cap (LX s) p4 X hX hq 5)
  have Hst4 := Lib.hid (St.token (LX s) p4 5)
  have HLX := Lib.hid hLX
  obtain ⟨q,hq⟩ : ∃ q,p4.fin (LX s) = q := ⟨_,rfl⟩
  rw [hq]
  have hq' : (p4.token (LX s) 5).2 = q := hq
  rw [hq'] at HK Hst4
  obtain ⟨tk,htk⟩ : ∃ tk,(p4.token (LX s) 5).1 = tk := ⟨_,rfl⟩
  rw [htk] at HK
  unfold Tok.val at HK
  clear hst hQ0 hLX hP0 hq hq' htk hs
  go_enter_defers Tryz.func36,Tryz.ntmps36
  go_wp2_with fail
  have hT := two_at w ZQr [.int .i64 0,.int .i64 0] 42 31
  have hF := two_at' w (.cells ZQr.toArray 42) [.int .i64 0,.int .i64 0] 31
  have hb0 := two_below w (.cells ZQr.toArray 42) (.cells ([.int .i64 0,.int .i64 0] : List Value).toArray 31)
  have hz0 : ((w.alloc (.cells ZQr.toArray 42)).alloc (.cells ([.int .i64 0,.int .i64 0] : List Value).toArray 31)).heap.size = w.heap.size + 2 := by simp
  refine (HL.out _).mono ?_
  rintro e' w1 ⟨v,rfl,ho,hb⟩
  rw [h0,h00]
  rw [← HLX.out] at ho
  obtain ⟨A,cap,rfl⟩ := ownsRow_slice ho
  have hT1 := hT.keep hb
  have hF1 := hF.keep hb
  have hb1 := hb0.trans (hb.mono hb0.size)
  have hf0 := hF1.free 0
  have hf1 := hF1.free 1
  have c0 := hF1.cell 0 _ rfl
  have c1 := hF1.cell 1 _ rfl
  have hl1 := hF1.lt
  have HO := Lib.hid ho
  have HT1 := Lib.hid hT1;have HF1 := Lib.hid hF1;have HB1 := Lib.hid hb1
  clear hT hF hb0 hb ho h0 h00 hT1 hF1 hb1
  go_wp2_with fail
  have hT2 := (HT1.out.far (p := ⟨w.heap.size + 1,0,none⟩) (show w.heap.size ≠ w.heap.size + 1 by omega) (.int .i64 0)).far (p := ⟨w.heap.size + 1,1,none⟩) (show w.heap.size ≠ w.heap.size + 1 by omega) (.int .i64 0)
  have hF2 := (HF1.out.set_ 0 (.int .i64 0)).set_ 1 (.int .i64 0)
  have hb2 := (HB1.out.setCell (p := ⟨w.heap.size + 1,0,none⟩) (show w.heap.size ≤ w.heap.size + 1 by omega) (.int .i64 0)).setCell (p := ⟨w.heap.size + 1,1,none⟩) (show w.heap.size ≤ w.heap.size + 1 by omega) (.int .i64 0)
  have hz2 : ((w1.setCell ⟨w.heap.size + 1,0,none⟩ (.int .i64 0)).setCell ⟨w.heap.size + 1,1,none⟩ (.int .i64 0)).heap.size = w1.heap.size := by rw [setCell_size,setCell_size]
  have hTk : IsToks w1.heap.size ((w1.setCell ⟨w.heap.size + 1,0,none⟩ (.int .i64 0)).setCell ⟨w.heap.size + 1,1,none⟩ (.int .i64 0)) (.slice A (LX s).length cap) (LX s) := by
    have h1 := ownsRow_far2 HO.out hz0 (.int .i64 0) (.int .i64 0);have h2 := h1.toks (Nat.le_refl _)
    rwa [hz2] at h2
  have hOT : OwnT (w.heap.size + 2) ((w1.setCell ⟨w.heap.size + 1,0,none⟩ (.int .i64 0)).setCell ⟨w.heap.size + 1,1,none⟩ (.int .i64 0)) (.slice A (LX s).length cap) (LX s) := by
    have := ownsRow_far2 HO.out hz0 (.int .i64 0) (.int .i64 0)
    rwa [hz0] at this
  generalize ((w1.setCell ⟨w.heap.size + 1,0,none⟩ (.int .i64 0)).setCell ⟨w.heap.size + 1,1,none⟩ (.int .i64 0)) = w2 at hT2 hF2 hb2 hz2 hTk hOT
  have hPA : QA w1.heap.size A cap (LX s) (PX s) (w2.alloc (.cells (QC A (LX s).length cap (PX s)).toArray 94)) := by
    refine ⟨?_,?_⟩
    · rw [← hz2];exact Blk.new w2 _ _
    · exact hTk.mono ((Below.refl _ _).alloc (by omega) _) (Nat.le_refl _)
  have hOa : OwnT (w.heap.size + 2) (w2.alloc (.cells (QC A (LX s).length cap (PX s)).toArray 94)) (.slice A (LX s).length cap) (LX s) := ownsRow_keep hOT ((Below.refl _ _).alloc (Nat.le_refl _) _)
  have hTa := hT2.alloc (.cells (QC A (LX s).length cap (PX s)).toArray 94)
  have hFa := hF2.alloc (.cells (QC A (LX s).length cap (PX s)).toArray 94)
  have hba := hb2.alloc hb2.size (.cells (QC A (LX s).length cap (PX s)).toArray 94)
  have hPe : (QC A (LX s).length cap (PX s)) = [.slice A (LX s).length cap,.int .i64 0,.int .i64 0] := by rw [HP0.out];rfl
  rw [hPe] at hPA hTa hFa hba hOa
  generalize w2.alloc (.cells ([.slice A (LX s).length cap,.int .i64 0,.int .i64 0] : List Value).toArray 94) = w3 at hPA hTa hFa hba hOa
  have hgb : w.heap.size + 1 < w1.heap.size := hl1
  clear hT2 hF2 hb2 hz2 hTk hOT HO HT1 HF1 HB1 hf0 hf1 c0 c1 hl1 hPe
  obtain ⟨g,hge⟩ : ∃ g,w1.heap.size = g := ⟨_,rfl⟩
  rw [hge] at hPA hgb ⊢
  clear hge
  refine (HC.out _ _ _ _ hPA).mono ?_
  rintro e' w4 ⟨hok,hbad,ho4⟩
  have hT4 := ho4.blkX hTa (show w.heap.size ≠ g by omega)
  have hF4 := ho4.blkX hFa (show w.heap.size + 1 ≠ g by omega)
  have hb4 := Off.belowW hba ho4 (by omega)
  have hO4 := ownT_off hOa hPA.1 ho4
  by_cases hx : p4.err ≠ 0
  · obtain rfl := hbad hx
    obtain ⟨qa,qb⟩ := Hst4.out hx;refine leaves_cons (f := 75) (args := #[.pointer (some ⟨w.heap.size,0,none⟩),.pointer (some ⟨w.heap.size + 1,0,none⟩)]) (by simp) (by simp [go_sem]) ?_;refine (catchQ w.heap.size (w.heap.size + 1) _ _ p4.err p4.at' w4 hT4 hF4 (by omega) rfl rfl).mono ?_;rintro e' u' w5 ⟨rfl,rfl,hT5,hF5,hb5⟩
    show Leaves _ _ _ _ [] .returning w5
    exact leaves_agg2 rfl rfl hT5 Tryz.underlying42 rfl (by kernel_rfl) rfl hF5 Tryz.underlying31 rfl (by kernel_rfl) ⟨fun hn => absurd (qa.symm.trans hn) hx,fun _ => by rw [qa,qb],hb4.trans (hb5 w.heap.size (Nat.le_refl _) (by omega) (by have := hT4.lt;omega))⟩
  have hx0 : p4.err = 0 := Decidable.not_not.1 hx
  have Q4 := Lib.hid (H4.out hx0)
  obtain ⟨cs,rfl,hx4,hP4⟩ := hok hx0
  obtain ⟨pm,cm,pn,cn,pk,ck,rfl,-⟩ := IsEx.cellsE hx4
  have HT4 := Lib.hid hT4
  have hgw : w.heap.size < g := by omega
  have hP5 : QA g A cap (LX s) p4 (w4.setRow w.heap.size #[.int .i64 (((PX s).need (LX s) [101,118,101,114,121]).token (LX s) 2).1.num,.int .i64 e.kind,.int .i64 e.fn,.int .i64 e.op,.int .i64 e.num,.string e.metric,.slice pm e.mats.length cm,.int .i64 e.span,.slice pn e.names.length cn,.slice pk e.kids.length ck]) := ⟨(setRow_far _ _ _ (show g ≠ w.heap.size by omega)).trans hP4.1,toks_row hP4.2 hO4 (by omega) _⟩
  have hT5 : Blk (w4.setRow w.heap.size #[.int .i64 (((PX s).need (LX s) [101,118,101,114,121]).token (LX s) 2).1.num,.int .i64 e.kind,.int .i64 e.fn,.int .i64 e.op,.int .i64 e.num,.string e.metric,.slice pm e.mats.length cm,.int .i64 e.span,.slice pn e.names.length cn,.slice pk e.kids.length ck]) w.heap.size 42 [.int .i64 (((PX s).need (LX s) [101,118,101,114,121]).token (LX s) 2).1.num,.int .i64 e.kind,.int .i64 e.fn,.int .i64 e.op,.int .i64 e.num,.string e.metric,.slice pm e.mats.length cm,.int .i64 e.span,.slice pn e.names.length cn,.slice pk e.kids.length ck] := setRow_at hT4 _
  have hF5 : Blk (w4.setRow w.heap.size #[.int .i64 (((PX s).need (LX s) [101,118,101,114,121]).token (LX s) 2).1.num,.int .i64 e.kind,.int .i64 e.fn,.int .i64 e.op,.int .i64 e.num,.string e.metric,.slice pm e.mats.length cm,.int .i64 e.span,.slice pn e.names.length cn,.slice pk e.kids.length ck]) (w.heap.size + 1) 31 [.int .i64 0,.int .i64 0] := (setRow_far _ _ _ (show w.heap.size + 1 ≠ w.heap.size by omega)).trans hF4
  have hb5 := below_setRow hb4 (Nat.le_refl _) #[.int .i64 (((PX s).need (LX s) [101,118,101,114,121]).token (LX s) 2).1.num,.int .i64 e.kind,.int .i64 e.fn,.int .i64 e.op,.int .i64 e.num,.string e.metric,.slice pm e.mats.length cm,.int .i64 e.span,.slice pn e.names.length cn,.slice pk e.kids.length ck]
  have hx5 : ExS (fun k => g < k) (w4.setRow w.heap.size #[.int .i64 (((PX s).need (LX s) [101,118,101,114,121]).token (LX s) 2).1.num,.int .i64 e.kind,.int .i64 e.fn,.int .i64 e.op,.int .i64 e.num,.string e.metric,.slice pm e.mats.length cm,.int .i64 e.span,.slice pn e.names.length cn,.slice pk e.kids.length ck]) e [.int .i64 e.kind,.int .i64 e.fn,.int .i64 e.op,.int .i64 e.num,.string e.metric,.slice pm e.mats.length cm,.int .i64 e.span,.slice pn e.names.length cn,.slice pk e.kids.length ck] := hx4.go (by rw [setRow_size];exact Nat.le_refl _) (fun k _ h => by have h : w3.heap.size ≤ k := h;have := hPA.1.lt;show g < k;omega) (fun k _ h => setRow_far _ _ _ (by have h : w3.heap.size ≤ k := h;have := hPA.1.lt;omega))
  have HP5 := Lib.hid hP5;have HT5 := Lib.hid hT5;have HF5 := Lib.hid hF5;have HB5 := Lib.hid hb5;have HX5 := Lib.hid hx5
  clear hok hbad hx hx0 hT4 hF4 hb4 hO4 hP4 hx4 hP5 hT5 hF5 hb5 hx5 ho4 hTa hFa hba hOa hPA
  go_wp2_with (refine wpList_store_row rfl 42 _ _ rfl w.heap.size #[.int .i64 (((PX s).need (LX s) [101,118,101,114,121]).token (LX s) 2).1.num,.int .i64 e.kind,.int .i64 e.fn,.int .i64 e.op,.int .i64 e.num,.string e.metric,.slice pm e.mats.length cm,.int .i64 e.span,.slice pn e.names.length cn,.slice pk e.kids.length ck] rfl rfl 42 _ HT4.out (by kernel_rfl) rfl (by kernel_rfl) ?_)
  generalize w4.setRow w.heap.size #[.int .i64 (((PX s).need (LX s) [101,118,101,114,121]).token (LX s) 2).1.num,.int .i64 e.kind,.int .i64 e.fn,.int .i64 e.op,.int .i64 e.num,.string e.metric,.slice pm e.mats.length cm,.int .i64 e.span,.slice pn e.names.length cn,.slice pk e.kids.length ck] = w5 at HP5 HT5 HF5 HB5 HX5
  refine (HK.out Q4.out _ _ _ _ HP5.out).mono ?_
  rintro e' w6 ⟨hok,hbad,ho6⟩
  have hT6 := ho6.blkX HT5.out (show w.heap.size ≠ g by omega)
  have hF6 := ho6.blkX HF5.out (show w.heap.size + 1 ≠ g by omega)
  have hb6 := Off.belowW HB5.out ho6 (by omega)
  have hx6 := HX5.out.off ho6 (Nat.lt_irrefl g)
  by_cases hx : q.err ≠ 0
  · obtain rfl := hbad hx
    refine leaves_cons (f := 75) (args := #[.pointer (some ⟨w.heap.size,0,none⟩),.pointer (some ⟨w.heap.size + 1,0,none⟩)]) (by simp) (by simp [go_sem]) ?_;refine (catchQ w.heap.size (w.heap.size + 1) _ _ q.err q.at' w6 hT6 hF6 (by omega) rfl rfl).mono ?_;rintro e' u' w7 ⟨rfl,rfl,hT5,hF5,hb5⟩
    show Leaves _ _ _ _ [] .returning w7
    exact leaves_agg2 rfl rfl hT5 Tryz.underlying42 rfl (by kernel_rfl) rfl hF5 Tryz.underlying31 rfl (by kernel_rfl) ⟨fun hn => absurd hn hx,fun _ => rfl,hb6.trans (hb5 w.heap.size (Nat.le_refl _) (by omega) (by have := hT6.lt;omega))⟩
  have H0 : Hid (q.err = 0) := Lib.hid (Decidable.not_not.1 hx)
  obtain ⟨rfl,hP6⟩ := hok H0.out
  clear hok hbad hx HT4 HP5 HT5 HF5 HB5 HX5 hP6
  have hlt6 := hF6.lt
  have q0 := hT6.cell 0 _ rfl;have q1 := hT6.cell 1 _ rfl;have q2 := hT6.cell 2 _ rfl;have q3 := hT6.cell 3 _ rfl;have q4 := hT6.cell 4 _ rfl;have q5 := hT6.cell 5 _ rfl;have q6 := hT6.cell 6 _ rfl;have q7 := hT6.cell 7 _ rfl;have q8 := hT6.cell 8 _ rfl;have q9 := hT6.cell 9 _ rfl
  have f0 := hF6.free 0;have f1 := hF6.free 1
  have r0 := hF6.cell 0 _ rfl;have r1 := hF6.cell 1 _ rfl
  have HT6 := Lib.hid hT6;have HF6 := Lib.hid hF6;have HB6 := Lib.hid hb6;have HX6 := Lib.hid hx6
  clear hT6 hF6 hb6 hx6 ho6
  have hsame : Hid (w6.setRow w.heap.size #[.int .i64 (((PX s).need (LX s) [101,118,101,114,121]).token (LX s) 2).1.num,.int .i64 e.kind,.int .i64 e.fn,.int .i64 e.op,.int .i64 e.num,.string e.metric,.slice pm e.mats.length cm,.int .i64 e.span,.slice pn e.names.length cn,.slice pk e.kids.length ck] = w6) := Lib.hid (setRow_same HT6.out)
  go_wp2_with (refine wpList_store_row rfl 42 _ _ rfl w.heap.size #[.int .i64 (((PX s).need (LX s) [101,118,101,114,121]).token (LX s) 2).1.num,.int .i64 e.kind,.int .i64 e.fn,.int .i64 e.op,.int .i64 e.num,.string e.metric,.slice pm e.mats.length cm,.int .i64 e.span,.slice pn e.names.length cn,.slice pk e.kids.length ck] rfl rfl 42 _ HT6.out (by kernel_rfl) rfl (by kernel_rfl) ?_;rw [hsame.out])
  have hT7 := (HT6.out.far (p := ⟨w.heap.size + 1,0,none⟩) (show w.heap.size ≠ w.heap.size + 1 by omega) (.int .i64 0)).far (p := ⟨w.heap.size + 1,1,none⟩) (show w.heap.size ≠ w.heap.size + 1 by omega) (.int .i64 0)
  have hF7 := (HF6.out.set_ 0 (.int .i64 0)).set_ 1 (.int .i64 0)
  have hb7 := (HB6.out.setCell (p := ⟨w.heap.size + 1,0,none⟩) (show w.heap.size ≤ w.heap.size + 1 by omega) (.int .i64 0)).setCell (p := ⟨w.heap.size + 1,1,none⟩) (show w.heap.size ≤ w.heap.size + 1 by omega) (.int .i64 0)
  have hx7 := (HX6.out.set (k := w.heap.size + 1) (show ¬ g < w.heap.size + 1 by omega) 0 (.int .i64 0)).set (k := w.heap.size + 1) (show ¬ g < w.heap.size + 1 by omega) 1 (.int .i64 0)
  generalize ((w6.setCell ⟨w.heap.size + 1,0,none⟩ (.int .i64 0)).setCell ⟨w.heap.size + 1,1,none⟩ (.int .i64 0)) = w7 at hT7 hF7 hb7 hx7
  refine leaves_cons (f := 75) (args := #[.pointer (some ⟨w.heap.size,0,none⟩),.pointer (some ⟨w.heap.size + 1,0,none⟩)]) (by simp) (by simp [go_sem]) ?_
  refine (idleQ w.heap.size (w.heap.size + 1) w7).mono ?_
  rintro e' u' w8 ⟨rfl,rfl,hb8⟩
  have hT8 := hT7.keep hb8
  have hF8 := hF7.keep hb8
  show Leaves _ _ _ _ [] .returning w8
  exact leaves_agg2 rfl rfl hT8 Tryz.underlying42 rfl (by kernel_rfl) rfl hF8 Tryz.underlying31 rfl (by kernel_rfl) ⟨fun _ => ⟨_,rfl,_,rfl,(hx7.below hb8).go (Nat.le_refl _) (fun k _ h => by have h : g < k := h;show w.heap.size ≤ k;omega) (fun _ _ _ => rfl)⟩,fun hn => absurd H0.out hn,hb7.trans (hb8.mono (by have := hT7.lt;omega))⟩
end Go.Proofs.YtpmbamfpmmdhcaaGreat
