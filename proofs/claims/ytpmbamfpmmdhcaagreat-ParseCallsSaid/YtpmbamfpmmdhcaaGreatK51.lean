/- The program's Match. -/
import Derived.Test.YtpmbamfpmmdhcaaGreatK32
set_option maxRecDepth 100000
set_option maxHeartbeats 16000000
namespace Go.Proofs.YtpmbamfpmmdhcaaGreat
open Go.RowKit
set_option linter.unusedSimpArgs false
set_option linter.unusedVariables false
def MtR (ms : List Mat) (q : PS) (w : World) (e' : Ending) (w' : World) : Prop := Below w.heap.size w w' ∧
  ((q.err = 0 ∧ ∃ v,e' = .returned (.tuple #[v,.agg #[.int .i64 0,.int .i64 q.at']]) ∧ IsMats w'.heap.size w' v ms) ∨
   (q.err ≠ 0 ∧ e' = .returned (.tuple #[.slice none 0 0,.agg #[.int .i64 q.err,.int .i64 q.at']])))
def M0 (s : ByteArray) : PS := if (PX s).isT (LX s) [123] then PX s else (PX s).fail 14 ((PX s).tok (LX s)).pos
theorem tMatch (s : ByteArray) (w : World) (hs : s.size ≤ maxLen) (ms : List Mat) (p4 : PS) (f : Nat) (hr : pMatch (LX s) f (M0 s) = some (ms,p4)) :
    Calls Tryz.prog 18 #[.string s] w (MtR ms (p4.done (LX s) (checkMats ms)) w) := by
  have hz : p4.err = 0 → p4.at' = 0 := fun h => by
    have hza : Za (PX s) p4 := (by unfold M0;split;exact .refl _;exact .fail _ _ _ (by decide) : Za (PX s) (M0 s)).trans (.match' hr);obtain ⟨a,b⟩ := hza h;rw [b];exact px_at a
  obtain ⟨hd1,hd2⟩ := done_fin (L := LX s) hz (checkMats ms)
  have HR := Lib.hid (fun (X : World) => readM s X hs f ms p4 hr)
  have HC := Lib.hid (fun (X : World) (v : Value) (hX : IsMats X.heap.size X v ms) => lCheckMatch ms v _ X (Nat.le_refl _) hX)
  generalize p4.done (LX s) (checkMats ms) = q at hd1 hd2 ⊢
  generalize p4.fin (LX s) = q0 at HR hd1 hd2
  generalize checkMats ms = c at HC hd2
  have Hd1 := Lib.hid hd1;have Hd2 := Lib.hid hd2
  clear hz hd1 hd2 hr hs
  go_enter Tryz.func18,Tryz.ntmps18;(try simp only [List.append_eq,List.cons_append,List.nil_append])
  go_wp2_with fail
  have hF := Blk.new w [.int .i64 0,.int .i64 0] 31
  have hb0 : Below w.heap.size w (w.alloc (.cells ([.int .i64 0,.int .i64 0] : List Value).toArray 31)) := (Below.refl _ _).alloc (Nat.le_refl _) _
  have hz0 : (w.alloc (.cells ([.int .i64 0,.int .i64 0] : List Value).toArray 31)).heap.size = w.heap.size + 1 := by simp
  refine (HR.out _).mono ?_
  rintro e' w1 ⟨hok,hbad,hb⟩
  have hF1 := hF.keep hb
  have hb1 := hb0.trans (hb.mono hb0.size)
  have hlF := hF1.lt
  clear hF hb0 hb
  by_cases h0 : q0.err = 0
  · obtain ⟨v,rfl,hx1⟩ := hok h0
    obtain ⟨d1,d2⟩ := Hd2.out h0;have hx1' : IsMats w1.heap.size w1 v ms := hx1.mats';obtain ⟨A,mc,rfl,-⟩ := hx1'.open;clear hok hbad;have D1 := Lib.hid d1;have D2 := Lib.hid d2;have HF1 := Lib.hid hF1;have HB1 := Lib.hid hb1;have HX1 := Lib.hid hx1;clear d1 d2 hF1 hb1 hx1 h0 hx1'
    go_wp2_with fail
    have hb2 : Below w1.heap.size w1 (w1.alloc (.cells ([.int .i64 0,.int .i64 0] : List Value).toArray 31)) := (Below.refl _ _).alloc (Nat.le_refl _) _;have hF2 := HF1.out.keep hb2;have hX2 := HX1.out.go hb2.size (fun _ _ h => h) (fun b hb' _ => hb2.block b hb');have hB2 := HB1.out.trans (hb2.mono HB1.out.size);generalize (w1.alloc (.cells ([.int .i64 0,.int .i64 0] : List Value).toArray 31)) = w2 at hF2 hX2 hB2;clear hb2 HF1 HB1 HX1;refine (HC.out _ _ hX2.mats').mono ?_;rintro e' w3 ⟨rfl,hb3⟩;have hX3 := hX2.go hb3.size (fun _ _ h => h) (fun b hb' _ => hb3.block b hb');have HF3 := Lib.hid (hF2.keep hb3);have HB3 := Lib.hid (hB2.trans (hb3.mono hB2.size));have HX3 := Lib.hid hX3;clear hF2 hX2 hB2 hb3 hX3
    by_cases hc : c = 0
    · subst hc
      go_wp2_with (refine wpList_store_row rfl 31 _ _ rfl w.heap.size #[.int .i64 0,.int .i64 0] rfl rfl 31 _ HF3.out (by kernel_rfl) rfl (by kernel_rfl) ?_)
      refine bodyPost_tmp_agg (d := _) rfl rfl (setRow_at HF3.out _) Tryz.underlying31 rfl (by kernel_rfl) rfl ⟨below_setRow HB3.out (Nat.le_refl _) _,Or.inl ⟨D1.out,.slice A ms.length mc,by rw [D2.out];rfl,?_⟩⟩;exact (HX3.out.off (Off.row _ _) (show ¬ _ ≤ w.heap.size by rw [hz0];omega)).mats'
    · have hcb : (c == 0) = false := by simpa using hc
      have D3 := Lib.hid hc;clear hc
      go_wp2_with (refine wpList_store_row rfl 31 _ _ rfl w.heap.size #[.int .i64 c,.int .i64 0] rfl rfl 31 _ HF3.out (by kernel_rfl) rfl (by kernel_rfl) ?_)
      exact bodyPost_tmp_agg (d := _) rfl rfl (setRow_at HF3.out _) Tryz.underlying31 rfl (by kernel_rfl) rfl ⟨below_setRow HB3.out (Nat.le_refl _) _,Or.inr ⟨by rw [D1.out];exact D3.out,by rw [D1.out,D2.out];(try rfl)⟩⟩
  · obtain rfl := hbad h0
    obtain ⟨d1,d2⟩ := Hd1.out h0;clear hok hbad;have h0b : (q0.err == 0) = false := by simpa using h0
    have HF1 := Lib.hid hF1;have HB1 := Lib.hid hb1;have D1 := Lib.hid d1;have D2 := Lib.hid d2;have H0 := Lib.hid h0;clear hF1 hb1 d1 d2 h0
    go_upto_region 3 with fail
    have hb2 : Below w1.heap.size w1 (w1.alloc (.cells ([.int .i64 q0.err,.int .i64 q0.at'] : List Value).toArray 31)) := (Below.refl _ _).alloc (Nat.le_refl _) _;have hG2 := Blk.new w1 [.int .i64 q0.err,.int .i64 q0.at'] 31;have hF2 := HF1.out.keep hb2;have hB2 := HB1.out.trans (hb2.mono HB1.out.size);generalize (w1.alloc (.cells ([.int .i64 q0.err,.int .i64 q0.at'] : List Value).toArray 31)) = w2 at hG2 hF2 hB2;clear hb2 HF1 HB1;refine wp_region_held_drew (S := fun X => Blk X w1.heap.size 31 [.int .i64 q0.err,.int .i64 q0.at']) (by kernel_rfl) hG2.drew (fun hHeld => ?_);have hF3 := hF2.drew;have hB3 := hB2.drew;have hG3 := hG2.drew;generalize w2.drew = wd at hF3 hB3 hG3 hHeld;clear hG2 hF2 hB2
    (refine htk 0 15 (.agg ([.int .i64 q0.err,.int .i64 q0.at'] : List Value).toArray) rfl ?_ ?_;(intro w hSw;have q0 := hSw.cell 0 _ rfl;have q1 := hSw.cell 1 _ rfl;go_simp);simp only [lsz,lss])
    (refine htk 1 2 ?_ rfl ?_ ?_;rotate_left;(intro w hSw;clear hSw;go_simp);(try with_reducible rfl);simp only [lsz,lss])
    refine held_store 2 rfl (by kernel_rfl) (by kernel_rfl) rfl 31 _ _ rfl w.heap.size [.int .i64 q0.err,.int .i64 q0.at'] [.int .i64 0,.int .i64 0] 31 rfl rfl hF3 (by kernel_rfl) rfl (by kernel_rfl) ((setRow_far _ _ _ (show w1.heap.size ≠ w.heap.size by omega)).trans hG3) (fun hHeld => ?_);refine wpAnyH_done (by kernel_rfl) ?_ _;go_wp2;exact bodyPost_tmp_agg (d := _) rfl rfl (setRow_at hF3 _) Tryz.underlying31 rfl (by kernel_rfl) rfl ⟨below_setRow hB3 (Nat.le_refl _) _,Or.inr ⟨by rw [D1.out];exact H0.out,by rw [D1.out,D2.out];(try rfl)⟩⟩
end Go.Proofs.YtpmbamfpmmdhcaaGreat
