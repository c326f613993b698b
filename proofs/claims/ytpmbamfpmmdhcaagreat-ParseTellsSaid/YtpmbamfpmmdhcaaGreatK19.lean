/- The program's read: the deferred closures. (PRINTED by gen_qread.py.) -/
import Derived.Test.YtpmbamfpmmdhcaaGreatK14
import Derived.Laws.Pointers
import Derived.ChangeAlike
import Derived.Test.YtpmbamfpmmdhcaaGreatK18
set_option maxRecDepth 100000
set_option maxHeartbeats 16000000
namespace Go.Proofs.YtpmbamfpmmdhcaaGreat
open Go.RowKit
set_option linter.unusedSimpArgs false
set_option linter.unusedVariables false
theorem assertFault (e a : Int) (wx : World) : (Instr.typeAssert (.iface 91 (.agg #[.int .i64 e,.int .i64 a])) 20 91 true).run Tryz.prog wx = .ok (.tuple #[.agg #[.int .i64 e,.int .i64 a],.bool true]) wx := by kernel_rfl
theorem assertNil (wx : World) : (Instr.typeAssert .nilIface 20 91 true).run Tryz.prog wx = .ok (.tuple #[.agg #[.int .i64 0,.int .i64 0],.bool false]) wx := by kernel_rfl
abbrev ZQr : List Value := [.int .i64 0,.int .i64 0,.int .i64 0,.int .i64 0,.int .i64 0,.string ⟨#[]⟩,.slice none 0 0,.int .i64 0,.slice none 0 0,.slice none 0 0]
def CatchR (ob fb : Nat) (tz : Nat) (zc : List Value) (e a : Int) (w : World) (e' : Ending) (u' : FrameMode) (w' : World) : Prop :=
  e' = .returned (.tuple #[]) ∧ u' = .panicking [{ v := .iface 91 (.agg #[.int .i64 e,.int .i64 a]),recovered := true }] ∧ Blk w' ob tz zc ∧ Blk w' fb 31 [.int .i64 e,.int .i64 a] ∧
    (∀ n,n ≤ ob → n ≤ fb → n ≤ w.heap.size → Below n w w')
theorem catchE (ob fb : Nat) (oc fc : List Value) (e a : Int) (w : World) (ho : Blk w ob 28 oc) (hf : Blk w fb 31 fc) (hne : ob ≠ fb) (holn : oc.length = 9) (hfln : fc.length = 2) :
    CallsD Tryz.prog 54 #[.pointer (some ⟨ob,0,none⟩),.pointer (some ⟨fb,0,none⟩)] (.panicking (flt e a)) w (CatchR ob fb 28 [.int .i64 0,.int .i64 0,.int .i64 0,.int .i64 0,.string ⟨#[]⟩,.slice none 0 0,.int .i64 0,.slice none 0 0,.slice none 0 0] e a w) := by
  refine callsD_of_wpS Tryz.func54 rfl fun c₀ cs hu => ?_
  rw [Tryz.ntmps54]
  rw [show (#[.pointer (some ⟨ob,0,none⟩),.pointer (some ⟨fb,0,none⟩)] ++ Array.replicate (13 - (#[.pointer (some ⟨ob,0,none⟩),.pointer (some ⟨fb,0,none⟩)] : Array Value).size) undef : Array Value) = #[.pointer (some ⟨ob,0,none⟩),.pointer (some ⟨fb,0,none⟩),undef,undef,undef,undef,undef,undef,undef,undef,undef,undef,undef] from rfl]
  have hta := fun wx => assertFault e a wx
  apply wpS_seq
  refine wpS_recover (v := .iface 91 (.agg #[.int .i64 e,.int .i64 a])) (cs := { c₀ with mode := .panicking [{ v := .iface 91 (.agg #[.int .i64 e,.int .i64 a]),recovered := true }] } :: cs) ?_ (by kernel_rfl) (by rfl) (by simp [recoverD,hu,flt]) ?_
  · rintro ⟨a',w',u',h,-⟩;cases h
  have hol := ho.lt
  have hfl := hf.lt
  go_wp2
  refine wpS_of_wp ?_
  go_wp2
  have hT := two_at w [.int .i64 e,.int .i64 a] ZX 91 28
  have hZ := two_at' w (.cells ([.int .i64 e,.int .i64 a] : List Value).toArray 91) ZX 28
  have hb := two_below w (.cells ([.int .i64 e,.int .i64 a] : List Value).toArray 91) (.cells ZX.toArray 28)
  have ho2 := ho.keep hb
  have hf2 := hf.keep hb
  refine wp_region_held_drew (S := fun X => Blk X w.heap.size 91 [.int .i64 e,.int .i64 a] ∧ Blk X (w.heap.size + 1) 28 ZX) (by kernel_rfl) ⟨hT.drew,hZ.drew⟩ (fun hHeld => ?_)
  (refine htk 0 11 (.agg ZX.toArray) rfl ?_ ?_;(intro w hSw;have q0 := hSw.2.cell 0 _ rfl;have q1 := hSw.2.cell 1 _ rfl;have q2 := hSw.2.cell 2 _ rfl;have q3 := hSw.2.cell 3 _ rfl;have q4 := hSw.2.cell 4 _ rfl;have q5 := hSw.2.cell 5 _ rfl;have q6 := hSw.2.cell 6 _ rfl;have q7 := hSw.2.cell 7 _ rfl;have q8 := hSw.2.cell 8 _ rfl;go_simp);simp only [lsz,lss])
  (refine htk 1 12 (.agg ([.int .i64 e,.int .i64 a] : List Value).toArray) rfl ?_ ?_;(intro w hSw;have q0 := hSw.1.cell 0 _ rfl;have q1 := hSw.1.cell 1 _ rfl;go_simp);simp only [lsz,lss])
  have hZ3 := hZ.drew
  have ho3 := ho2.drew
  have hf3 := hf2.drew
  have hT3 := hT.drew
  have hb3 := hb.drew
  generalize ((w.alloc (.cells ([.int .i64 e,.int .i64 a] : List Value).toArray 91)).alloc (.cells ZX.toArray 28)).drew = wd at ho3 hf3 hT3 hZ3 hb3 hHeld
  refine held_store 2 rfl (by kernel_rfl) (by kernel_rfl) rfl 28 _ _ rfl ob ZX oc 28 rfl rfl ho3 (by kernel_rfl) holn (by kernel_rfl) ⟨(setRow_far _ _ _ (show w.heap.size ≠ ob by omega)).trans hT3,(setRow_far _ _ _ (show w.heap.size + 1 ≠ ob by omega)).trans hZ3⟩ (fun hHeld => ?_)
  refine held_store 3 rfl (by kernel_rfl) (by kernel_rfl) rfl 31 _ _ rfl fb [.int .i64 e,.int .i64 a] fc 31 rfl rfl ((setRow_far _ _ _ (fun h => hne h.symm)).trans hf3) (by kernel_rfl) hfln (by kernel_rfl) ⟨(setRow_far _ _ _ (show w.heap.size ≠ fb by omega)).trans ((setRow_far _ _ _ (show w.heap.size ≠ ob by omega)).trans hT3),(setRow_far _ _ _ (show w.heap.size + 1 ≠ fb by omega)).trans ((setRow_far _ _ _ (show w.heap.size + 1 ≠ ob by omega)).trans hZ3)⟩ (fun hHeld => ?_)
  refine wpAnyH_done (by kernel_rfl) ?_ _
  go_wp2
  refine ⟨rfl,_,rfl,.tuple #[],results_none rfl _ _ _,rfl,rfl,(setRow_far _ _ _ hne).trans (setRow_at ho3 _),setRow_at ((setRow_far _ _ _ (fun h => hne h.symm)).trans hf3) _,fun n h1 h2 h3 => ?_⟩
  exact below_setRow (below_setRow (hb3.mono h3) h1 _) h2 _
theorem idleE (ob fb : Nat) (w : World) :
    CallsD Tryz.prog 54 #[.pointer (some ⟨ob,0,none⟩),.pointer (some ⟨fb,0,none⟩)] .returning w fun e' u' w' => e' = .returned (.tuple #[]) ∧ u' = .returning ∧ Below w.heap.size w w' := by
  refine callsD_of_wpS Tryz.func54 rfl fun c₀ cs hu => ?_
  rw [Tryz.ntmps54]
  rw [show (#[.pointer (some ⟨ob,0,none⟩),.pointer (some ⟨fb,0,none⟩)] ++ Array.replicate (13 - (#[.pointer (some ⟨ob,0,none⟩),.pointer (some ⟨fb,0,none⟩)] : Array Value).size) undef : Array Value) = #[.pointer (some ⟨ob,0,none⟩),.pointer (some ⟨fb,0,none⟩),undef,undef,undef,undef,undef,undef,undef,undef,undef,undef,undef] from rfl]
  have hta := fun wx => assertNil wx
  apply wpS_seq
  refine wpS_recover_none ?_ (by kernel_rfl) (by rfl) (by simp [recoverD,hu]) ?_
  · rintro ⟨a',w',u',h,-⟩;cases h
  go_wp2
  refine wpS_of_wp ?_
  go_wp2
  refine ⟨rfl,.returning,by rw [← hu],.tuple #[],results_none rfl _ _ _,rfl,rfl,(Below.refl _ _).alloc (Nat.le_refl _) _⟩
theorem catchQ (ob fb : Nat) (oc fc : List Value) (e a : Int) (w : World) (ho : Blk w ob 42 oc) (hf : Blk w fb 31 fc) (hne : ob ≠ fb) (holn : oc.length = 10) (hfln : fc.length = 2) :
    CallsD Tryz.prog 75 #[.pointer (some ⟨ob,0,none⟩),.pointer (some ⟨fb,0,none⟩)] (.panicking (flt e a)) w (CatchR ob fb 42 [.int .i64 0,.int .i64 0,.int .i64 0,.int .i64 0,.int .i64 0,.string ⟨#[]⟩,.slice none 0 0,.int .i64 0,.slice none 0 0,.slice none 0 0] e a w) := by
  refine callsD_of_wpS Tryz.func75 rfl fun c₀ cs hu => ?_
  rw [Tryz.ntmps75]
  rw [show (#[.pointer (some ⟨ob,0,none⟩),.pointer (some ⟨fb,0,none⟩)] ++ Array.replicate (13 - (#[.pointer (some ⟨ob,0,none⟩),.pointer (some ⟨fb,0,none⟩)] : Array Value).size) undef : Array Value) = #[.pointer (some ⟨ob,0,none⟩),.pointer (some ⟨fb,0,none⟩),undef,undef,undef,undef,undef,undef,undef,undef,undef,undef,undef] from rfl]
  have hta := fun wx => assertFault e a wx
  apply wpS_seq
  refine wpS_recover (v := .iface 91 (.agg #[.int .i64 e,.int .i64 a])) (cs := { c₀ with mode := .panicking [{ v := .iface 91 (.agg #[.int .i64 e,.int .i64 a]),recovered := true }] } :: cs) ?_ (by kernel_rfl) (by rfl) (by simp [recoverD,hu,flt]) ?_
  · rintro ⟨a',w',u',h,-⟩;cases h
  have hol := ho.lt
  have hfl := hf.lt
  go_wp2
  refine wpS_of_wp ?_
  go_wp2
  have hT := two_at w [.int .i64 e,.int .i64 a] ZQr 91 42
  have hZ := two_at' w (.cells ([.int .i64 e,.int .i64 a] : List Value).toArray 91) ZQr 42
  have hb := two_below w (.cells ([.int .i64 e,.int .i64 a] : List Value).toArray 91) (.cells ZQr.toArray 42)
  have ho2 := ho.keep hb
  have hf2 := hf.keep hb
  refine wp_region_held_drew (S := fun X => Blk X w.heap.size 91 [.int .i64 e,.int .i64 a] ∧ Blk X (w.heap.size + 1) 42 ZQr) (by kernel_rfl) ⟨hT.drew,hZ.drew⟩ (fun hHeld => ?_)
  (refine htk 0 11 (.agg ZQr.toArray) rfl ?_ ?_;(intro w hSw;have q0 := hSw.2.cell 0 _ rfl;have q1 := hSw.2.cell 1 _ rfl;have q2 := hSw.2.cell 2 _ rfl;have q3 := hSw.2.cell 3 _ rfl;have q4 := hSw.2.cell 4 _ rfl;have q5 := hSw.2.cell 5 _ rfl;have q6 := hSw.2.cell 6 _ rfl;have q7 := hSw.2.cell 7 _ rfl;have q8 := hSw.2.cell 8 _ rfl;have q9 := hSw.2.cell 9 _ rfl;go_simp);simp only [lsz,lss])
  (refine htk 1 12 (.agg ([.int .i64 e,.int .i64 a] : List Value).toArray) rfl ?_ ?_;(intro w hSw;have q0 := hSw.1.cell 0 _ rfl;have q1 := hSw.1.cell 1 _ rfl;go_simp);simp only [lsz,lss])
  have hZ3 := hZ.drew
  have ho3 := ho2.drew
  have hf3 := hf2.drew
  have hT3 := hT.drew
  have hb3 := hb.drew
  generalize ((w.alloc (.cells ([.int .i64 e,.int .i64 a] : List Value).toArray 91)).alloc (.cells ZQr.toArray 42)).drew = wd at ho3 hf3 hT3 hZ3 hb3 hHeld
  refine held_store 2 rfl (by kernel_rfl) (by kernel_rfl) rfl 42 _ _ rfl ob ZQr oc 42 rfl rfl ho3 (by kernel_rfl) holn (by kernel_rfl) ⟨(setRow_far _ _ _ (show w.heap.size ≠ ob by omega)).trans hT3,(setRow_far _ _ _ (show w.heap.size + 1 ≠ ob by omega)).trans hZ3⟩ (fun hHeld => ?_)
  refine held_store 3 rfl (by kernel_rfl) (by kernel_rfl) rfl 31 _ _ rfl fb [.int .i64 e,.int .i64 a] fc 31 rfl rfl ((setRow_far _ _ _ (fun h => hne h.symm)).trans hf3) (by kernel_rfl) hfln (by kernel_rfl) ⟨(setRow_far _ _ _ (show w.heap.size ≠ fb by omega)).trans ((setRow_far _ _ _ (show w.heap.size ≠ ob by omega)).trans hT3),(setRow_far _ _ _ (show w.heap.size + 1 ≠ fb by omega)).trans ((setRow_far _ _ _ (show w.heap.size + 1 ≠ ob by omega)).trans hZ3)⟩ (fun hHeld => ?_)
  refine wpAnyH_done (by kernel_rfl) ?_ _
  go_wp2
  refine ⟨rfl,_,rfl,.tuple #[],results_none rfl _ _ _,rfl,rfl,(setRow_far _ _ _ hne).trans (setRow_at ho3 _),setRow_at ((setRow_far _ _ _ (fun h => hne h.symm)).trans hf3) _,fun n h1 h2 h3 => ?_⟩
  exact below_setRow (below_setRow (hb3.mono h3) h1 _) h2 _
theorem idleQ (ob fb : Nat) (w : World) :
    CallsD Tryz.prog 75 #[.pointer (some ⟨ob,0,none⟩),.pointer (some ⟨fb,0,none⟩)] .returning w fun e' u' w' => e' = .returned (.tuple #[]) ∧ u' = .returning ∧ Below w.heap.size w w' := by
  refine callsD_of_wpS Tryz.func75 rfl fun c₀ cs hu => ?_
  rw [Tryz.ntmps75]
  rw [show (#[.pointer (some ⟨ob,0,none⟩),.pointer (some ⟨fb,0,none⟩)] ++ Array.replicate (13 - (#[.pointer (some ⟨ob,0,none⟩),.pointer (some ⟨fb,0,none⟩)] : Array Value).size) undef : Array Value) = #[.pointer (some ⟨ob,0,none⟩),.pointer (some ⟨fb,0,none⟩),undef,undef,undef,undef,undef,undef,undef,undef,undef,undef,undef] from rfl]
  have hta := fun wx => assertNil wx
  apply wpS_seq
  refine wpS_recover_none ?_ (by kernel_rfl) (by rfl) (by simp [recoverD,hu]) ?_
  · rintro ⟨a',w',u',h,-⟩;cases h
  go_wp2
  refine wpS_of_wp ?_
  go_wp2
  refine ⟨rfl,.returning,by rw [← hu],.tuple #[],results_none rfl _ _ _,rfl,rfl,(Below.refl _ _).alloc (Nat.le_refl _) _⟩
end Go.Proofs.YtpmbamfpmmdhcaaGreat
