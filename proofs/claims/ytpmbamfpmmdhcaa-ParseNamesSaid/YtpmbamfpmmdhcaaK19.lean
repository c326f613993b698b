/- The program's read: the deferred closures. (PRINTED by gen_qread.py.) -/
import Derived.Test.YtpmbamfpmmdhcaaK13
import Derived.Test.YtpmbamfpmmdhcaaK14
import Derived.Laws.Pointers
import Derived.RegionTactic
import Derived.ChangeAlike
import Derived.Test.YtpmbamfpmmdhcaaK1
import Derived.Test.YtpmbamfpmmdhcaaK18
set_option maxRecDepth 100000
set_option maxHeartbeats 16000000
namespace Go.Proofs.Ytpmbamfpmmdhcaa
open Go.RowKit
set_option linter.unusedSimpArgs false
set_option linter.unusedVariables false
theorem assertFault (e a : Int) (wx : World) : (Instr.typeAssert (.iface 61 (.agg #[.int .i64 e, .int .i64 a])) 20 61 true).run Try.prog wx = .ok (.tuple #[.agg #[.int .i64 e, .int .i64 a], .bool true]) wx := by kernel_rfl
theorem assertNil (wx : World) : (Instr.typeAssert .nilIface 20 61 true).run Try.prog wx = .ok (.tuple #[.agg #[.int .i64 0, .int .i64 0], .bool false]) wx := by kernel_rfl
abbrev ZS : List Value := [.slice none 0 0]
abbrev ZQr : List Value := [.int .i64 0, .int .i64 0, .int .i64 0, .int .i64 0, .int .i64 0, .string ⟨#[]⟩, .slice none 0 0, .int .i64 0, .slice none 0 0, .slice none 0 0]
def CatchR (ob fb : Nat) (tz : Nat) (zc : List Value) (e a : Int) (w : World) (e' : Ending) (u' : FrameMode) (w' : World) : Prop :=
  e' = .returned (.tuple #[]) ∧ u' = .panicking [{ v := .iface 61 (.agg #[.int .i64 e, .int .i64 a]), recovered := true }] ∧ Blk w' ob tz zc ∧ Blk w' fb 29 [.int .i64 e, .int .i64 a] ∧
    (∀ n, n ≤ ob → n ≤ fb → n ≤ w.heap.size → Below n w w')
theorem catchE (ob fb : Nat) (oc fc : List Value) (e a : Int) (w : World) (ho : Blk w ob 26 oc) (hf : Blk w fb 29 fc) (hne : ob ≠ fb) (holn : oc.length = 9) (hfln : fc.length = 2) :
    CallsD Try.prog 22 #[.pointer (some ⟨ob, 0, none⟩), .pointer (some ⟨fb, 0, none⟩)] (.panicking (flt e a)) w (CatchR ob fb 26 [.int .i64 0, .int .i64 0, .int .i64 0, .int .i64 0, .string ⟨#[]⟩, .slice none 0 0, .int .i64 0, .slice none 0 0, .slice none 0 0] e a w) := by
  refine callsD_of_wpS Try.func22 rfl fun c₀ cs hu => ?_
  rw [Try.ntmps22]
  rw [show (#[.pointer (some ⟨ob, 0, none⟩), .pointer (some ⟨fb, 0, none⟩)] ++ Array.replicate (13 - (#[.pointer (some ⟨ob, 0, none⟩), .pointer (some ⟨fb, 0, none⟩)] : Array Value).size) undef : Array Value) = #[.pointer (some ⟨ob, 0, none⟩), .pointer (some ⟨fb, 0, none⟩), undef, undef, undef, undef, undef, undef, undef, undef, undef, undef, undef] from rfl]
  have hta := fun wx => assertFault e a wx
  apply wpS_seq
  refine wpS_recover (v := .iface 61 (.agg #[.int .i64 e, .int .i64 a])) (cs := { c₀ with mode := .panicking [{ v := .iface 61 (.agg #[.int .i64 e, .int .i64 a]), recovered := true }] } :: cs) ?_ (by kernel_rfl) (by rfl) (by simp [recoverD, hu, flt]) ?_
  · rintro ⟨a', w', u', h, -⟩; cases h
  have hol := ho.lt
  have hfl := hf.lt
  go_wp2
  refine wpS_of_wp ?_
  go_wp2
  have hT := two_at w [.int .i64 e, .int .i64 a] ZX 61 26
  have hZ := two_at' w (.cells ([.int .i64 e, .int .i64 a] : List Value).toArray 61) ZX 26
  have hb := two_below w (.cells ([.int .i64 e, .int .i64 a] : List Value).toArray 61) (.cells ZX.toArray 26)
  have ho2 := ho.keep hb
  have hf2 := hf.keep hb
  refine wp_region_held_drew (S := fun X => Blk X w.heap.size 61 [.int .i64 e, .int .i64 a] ∧ Blk X (w.heap.size + 1) 26 ZX) (by kernel_rfl) ⟨hT.drew, hZ.drew⟩ (fun hHeld => ?_)
  (refine htk 0 11 (.agg ZX.toArray) rfl ?_ ?_; (intro w hSw; have q0 := hSw.2.cell 0 _ rfl; have q1 := hSw.2.cell 1 _ rfl; have q2 := hSw.2.cell 2 _ rfl; have q3 := hSw.2.cell 3 _ rfl; have q4 := hSw.2.cell 4 _ rfl; have q5 := hSw.2.cell 5 _ rfl; have q6 := hSw.2.cell 6 _ rfl; have q7 := hSw.2.cell 7 _ rfl; have q8 := hSw.2.cell 8 _ rfl; go_simp); simp only [lsz, lss])
  (refine htk 1 12 (.agg ([.int .i64 e, .int .i64 a] : List Value).toArray) rfl ?_ ?_; (intro w hSw; have q0 := hSw.1.cell 0 _ rfl; have q1 := hSw.1.cell 1 _ rfl; go_simp); simp only [lsz, lss])
  have hZ3 := hZ.drew
  have ho3 := ho2.drew
  have hf3 := hf2.drew
  have hT3 := hT.drew
  have hb3 := hb.drew
  generalize ((w.alloc (.cells ([.int .i64 e, .int .i64 a] : List Value).toArray 61)).alloc (.cells ZX.toArray 26)).drew = wd at ho3 hf3 hT3 hZ3 hb3 hHeld
  refine held_store 2 rfl (by kernel_rfl) (by kernel_rfl) rfl 26 _ _ rfl ob ZX oc 26 rfl rfl ho3 (by kernel_rfl) holn (by kernel_rfl) ⟨(setRow_far _ _ _ (show w.heap.size ≠ ob by omega)).trans hT3, (setRow_far _ _ _ (show w.heap.size + 1 ≠ ob by omega)).trans hZ3⟩ (fun hHeld => ?_)
  refine held_store 3 rfl (by kernel_rfl) (by kernel_rfl) rfl 29 _ _ rfl fb [.int .i64 e, .int .i64 a] fc 29 rfl rfl ((setRow_far _ _ _ (fun h => hne h.symm)).trans hf3) (by kernel_rfl) hfln (by kernel_rfl) ⟨(setRow_far _ _ _ (show w.heap.size ≠ fb by omega)).trans ((setRow_far _ _ _ (show w.heap.size ≠ ob by omega)).trans hT3), (setRow_far _ _ _ (show w.heap.size + 1 ≠ fb by omega)).trans ((setRow_far _ _ _ (show w.heap.size + 1 ≠ ob by omega)).trans hZ3)⟩ (fun hHeld => ?_)
  refine wpAnyH_done (by kernel_rfl) ?_ _
  go_wp2
  refine ⟨rfl, _, rfl, .tuple #[], results_none rfl _ _ _, rfl, rfl, (setRow_far _ _ _ hne).trans (setRow_at ho3 _), setRow_at ((setRow_far _ _ _ (fun h => hne h.symm)).trans hf3) _, fun n h1 h2 h3 => ?_⟩
  exact below_setRow (below_setRow (hb3.mono h3) h1 _) h2 _
theorem idleE (ob fb : Nat) (w : World) :
    CallsD Try.prog 22 #[.pointer (some ⟨ob, 0, none⟩), .pointer (some ⟨fb, 0, none⟩)] .returning w fun e' u' w' => e' = .returned (.tuple #[]) ∧ u' = .returning ∧ Below w.heap.size w w' := by
  refine callsD_of_wpS Try.func22 rfl fun c₀ cs hu => ?_
  rw [Try.ntmps22]
  rw [show (#[.pointer (some ⟨ob, 0, none⟩), .pointer (some ⟨fb, 0, none⟩)] ++ Array.replicate (13 - (#[.pointer (some ⟨ob, 0, none⟩), .pointer (some ⟨fb, 0, none⟩)] : Array Value).size) undef : Array Value) = #[.pointer (some ⟨ob, 0, none⟩), .pointer (some ⟨fb, 0, none⟩), undef, undef, undef, undef, undef, undef, undef, undef, undef, undef, undef] from rfl]
  have hta := fun wx => assertNil wx
  apply wpS_seq
  refine wpS_recover_none ?_ (by kernel_rfl) (by rfl) (by simp [recoverD, hu]) ?_
  · rintro ⟨a', w', u', h, -⟩; cases h
  go_wp2
  refine wpS_of_wp ?_
  go_wp2
  refine ⟨rfl, .returning, by rw [← hu], .tuple #[], results_none rfl _ _ _, rfl, rfl, (Below.refl _ _).alloc (Nat.le_refl _) _⟩
theorem catchQ (ob fb : Nat) (oc fc : List Value) (e a : Int) (w : World) (ho : Blk w ob 52 oc) (hf : Blk w fb 29 fc) (hne : ob ≠ fb) (holn : oc.length = 10) (hfln : fc.length = 2) :
    CallsD Try.prog 51 #[.pointer (some ⟨ob, 0, none⟩), .pointer (some ⟨fb, 0, none⟩)] (.panicking (flt e a)) w (CatchR ob fb 52 [.int .i64 0, .int .i64 0, .int .i64 0, .int .i64 0, .int .i64 0, .string ⟨#[]⟩, .slice none 0 0, .int .i64 0, .slice none 0 0, .slice none 0 0] e a w) := by
  refine callsD_of_wpS Try.func51 rfl fun c₀ cs hu => ?_
  rw [Try.ntmps51]
  rw [show (#[.pointer (some ⟨ob, 0, none⟩), .pointer (some ⟨fb, 0, none⟩)] ++ Array.replicate (13 - (#[.pointer (some ⟨ob, 0, none⟩), .pointer (some ⟨fb, 0, none⟩)] : Array Value).size) undef : Array Value) = #[.pointer (some ⟨ob, 0, none⟩), .pointer (some ⟨fb, 0, none⟩), undef, undef, undef, undef, undef, undef, undef, undef, undef, undef, undef] from rfl]
  have hta := fun wx => assertFault e a wx
  apply wpS_seq
  refine wpS_recover (v := .iface 61 (.agg #[.int .i64 e, .int .i64 a])) (cs := { c₀ with mode := .panicking [{ v := .iface 61 (.agg #[.int .i64 e, .int .i64 a]), recovered := true }] } :: cs) ?_ (by kernel_rfl) (by rfl) (by simp [recoverD, hu, flt]) ?_
  · rintro ⟨a', w', u', h, -⟩; cases h
  have hol := ho.lt
  have hfl := hf.lt
  go_wp2
  refine wpS_of_wp ?_
  go_wp2
  have hT := two_at w [.int .i64 e, .int .i64 a] ZQr 61 52
  have hZ := two_at' w (.cells ([.int .i64 e, .int .i64 a] : List Value).toArray 61) ZQr 52
  have hb := two_below w (.cells ([.int .i64 e, .int .i64 a] : List Value).toArray 61) (.cells ZQr.toArray 52)
  have ho2 := ho.keep hb
  have hf2 := hf.keep hb
  refine wp_region_held_drew (S := fun X => Blk X w.heap.size 61 [.int .i64 e, .int .i64 a] ∧ Blk X (w.heap.size + 1) 52 ZQr) (by kernel_rfl) ⟨hT.drew, hZ.drew⟩ (fun hHeld => ?_)
  (refine htk 0 11 (.agg ZQr.toArray) rfl ?_ ?_; (intro w hSw; have q0 := hSw.2.cell 0 _ rfl; have q1 := hSw.2.cell 1 _ rfl; have q2 := hSw.2.cell 2 _ rfl; have q3 := hSw.2.cell 3 _ rfl; have q4 := hSw.2.cell 4 _ rfl; have q5 := hSw.2.cell 5 _ rfl; have q6 := hSw.2.cell 6 _ rfl; have q7 := hSw.2.cell 7 _ rfl; have q8 := hSw.2.cell 8 _ rfl; have q9 := hSw.2.cell 9 _ rfl; go_simp); simp only [lsz, lss])
  (refine htk 1 12 (.agg ([.int .i64 e, .int .i64 a] : List Value).toArray) rfl ?_ ?_; (intro w hSw; have q0 := hSw.1.cell 0 _ rfl; have q1 := hSw.1.cell 1 _ rfl; go_simp); simp only [lsz, lss])
  have hZ3 := hZ.drew
  have ho3 := ho2.drew
  have hf3 := hf2.drew
  have hT3 := hT.drew
  have hb3 := hb.drew
  generalize ((w.alloc (.cells ([.int .i64 e, .int .i64 a] : List Value).toArray 61)).alloc (.cells ZQr.toArray 52)).drew = wd at ho3 hf3 hT3 hZ3 hb3 hHeld
  refine held_store 2 rfl (by kernel_rfl) (by kernel_rfl) rfl 52 _ _ rfl ob ZQr oc 52 rfl rfl ho3 (by kernel_rfl) holn (by kernel_rfl) ⟨(setRow_far _ _ _ (show w.heap.size ≠ ob by omega)).trans hT3, (setRow_far _ _ _ (show w.heap.size + 1 ≠ ob by omega)).trans hZ3⟩ (fun hHeld => ?_)
  refine held_store 3 rfl (by kernel_rfl) (by kernel_rfl) rfl 29 _ _ rfl fb [.int .i64 e, .int .i64 a] fc 29 rfl rfl ((setRow_far _ _ _ (fun h => hne h.symm)).trans hf3) (by kernel_rfl) hfln (by kernel_rfl) ⟨(setRow_far _ _ _ (show w.heap.size ≠ fb by omega)).trans ((setRow_far _ _ _ (show w.heap.size ≠ ob by omega)).trans hT3), (setRow_far _ _ _ (show w.heap.size + 1 ≠ fb by omega)).trans ((setRow_far _ _ _ (show w.heap.size + 1 ≠ ob by omega)).trans hZ3)⟩ (fun hHeld => ?_)
  refine wpAnyH_done (by kernel_rfl) ?_ _
  go_wp2
  refine ⟨rfl, _, rfl, .tuple #[], results_none rfl _ _ _, rfl, rfl, (setRow_far _ _ _ hne).trans (setRow_at ho3 _), setRow_at ((setRow_far _ _ _ (fun h => hne h.symm)).trans hf3) _, fun n h1 h2 h3 => ?_⟩
  exact below_setRow (below_setRow (hb3.mono h3) h1 _) h2 _
theorem idleQ (ob fb : Nat) (w : World) :
    CallsD Try.prog 51 #[.pointer (some ⟨ob, 0, none⟩), .pointer (some ⟨fb, 0, none⟩)] .returning w fun e' u' w' => e' = .returned (.tuple #[]) ∧ u' = .returning ∧ Below w.heap.size w w' := by
  refine callsD_of_wpS Try.func51 rfl fun c₀ cs hu => ?_
  rw [Try.ntmps51]
  rw [show (#[.pointer (some ⟨ob, 0, none⟩), .pointer (some ⟨fb, 0, none⟩)] ++ Array.replicate (13 - (#[.pointer (some ⟨ob, 0, none⟩), .pointer (some ⟨fb, 0, none⟩)] : Array Value).size) undef : Array Value) = #[.pointer (some ⟨ob, 0, none⟩), .pointer (some ⟨fb, 0, none⟩), undef, undef, undef, undef, undef, undef, undef, undef, undef, undef, undef] from rfl]
  have hta := fun wx => assertNil wx
  apply wpS_seq
  refine wpS_recover_none ?_ (by kernel_rfl) (by rfl) (by simp [recoverD, hu]) ?_
  · rintro ⟨a', w', u', h, -⟩; cases h
  go_wp2
  refine wpS_of_wp ?_
  go_wp2
  refine ⟨rfl, .returning, by rw [← hu], .tuple #[], results_none rfl _ _ _, rfl, rfl, (Below.refl _ _).alloc (Nat.le_refl _) _⟩
theorem setCell_one {w : World} {g t : Nat} {v : Value} (h : Blk w g t [v]) (u : Value) : w.setCell ⟨g, 0, none⟩ u = w.setRow g [u].toArray := by
  obtain ⟨hlt, hg⟩ := Array.getElem?_eq_some_iff.1 h
  unfold World.setCell World.setRow
  congr 1
  apply Array.ext
  · simp
  · intro i h1 h2
    simp only [Array.getElem_modify]
    split
    · rename_i e
      subst e; rw [hg]
      simp
    · rfl
theorem catchM (ob fb : Nat) (oc fc : List Value) (e a : Int) (w : World) (ho : Blk w ob 22 oc) (hf : Blk w fb 29 fc) (hne : ob ≠ fb) (holn : oc.length = 1) (hfln : fc.length = 2) :
    CallsD Try.prog 31 #[.pointer (some ⟨ob, 0, none⟩), .pointer (some ⟨fb, 0, none⟩)] (.panicking (flt e a)) w (CatchR ob fb 22 [.slice none 0 0] e a w) := by
  refine callsD_of_wpS Try.func31 rfl fun c₀ cs hu => ?_
  rw [Try.ntmps31]
  rw [show (#[.pointer (some ⟨ob, 0, none⟩), .pointer (some ⟨fb, 0, none⟩)] ++ Array.replicate (13 - (#[.pointer (some ⟨ob, 0, none⟩), .pointer (some ⟨fb, 0, none⟩)] : Array Value).size) undef : Array Value) = #[.pointer (some ⟨ob, 0, none⟩), .pointer (some ⟨fb, 0, none⟩), undef, undef, undef, undef, undef, undef, undef, undef, undef, undef, undef] from rfl]
  have hta := fun wx => assertFault e a wx
  apply wpS_seq
  refine wpS_recover (v := .iface 61 (.agg #[.int .i64 e, .int .i64 a])) (cs := { c₀ with mode := .panicking [{ v := .iface 61 (.agg #[.int .i64 e, .int .i64 a]), recovered := true }] } :: cs) ?_ (by kernel_rfl) (by rfl) (by simp [recoverD, hu, flt]) ?_
  · rintro ⟨a', w', u', h, -⟩; cases h
  have hol := ho.lt
  have hfl := hf.lt
  go_wp2
  refine wpS_of_wp ?_
  go_wp2
  have hT := Blk.new w [.int .i64 e, .int .i64 a] 61
  have hb : Below w.heap.size w (w.alloc (.cells ([.int .i64 e, .int .i64 a] : List Value).toArray 61)) := (Below.refl _ _).alloc (Nat.le_refl _) _
  have ho2 := ho.keep hb
  have hf2 := hf.keep hb
  refine wp_region_held_drew (S := fun X => Blk X w.heap.size 61 [.int .i64 e, .int .i64 a]) (by kernel_rfl) hT.drew (fun hHeld => ?_)
  (refine htk 0 11 ?_ rfl ?_ ?_; rotate_left; (intro w hSw; clear hSw; go_simp); (try with_reducible rfl); simp only [lsz, lss])
  (refine htk 1 12 (.agg ([.int .i64 e, .int .i64 a] : List Value).toArray) rfl ?_ ?_; (intro w hSw; have q0 := hSw.cell 0 _ rfl; have q1 := hSw.cell 1 _ rfl; go_simp); simp only [lsz, lss])
  have ho3 := ho2.drew
  have hf3 := hf2.drew
  have hT3 := hT.drew
  have hb3 := hb.drew
  generalize (w.alloc (.cells ([.int .i64 e, .int .i64 a] : List Value).toArray 61)).drew = wd at ho3 hf3 hT3 hb3 hHeld
  obtain ⟨ov, rfl⟩ : ∃ v, oc = [v] := by match oc, holn with | [v], _ => exact ⟨v, rfl⟩
  have hoc := ho3.cell 0 _ rfl
  have hof := ho3.free 0
  refine hrd 2 rfl (fun K hK => ?_)
  rw [if_pos (by kernel_rfl)]
  go_simp
  rw [show wd.setCell ⟨ob, 0, none⟩ (.slice none 0 0) = wd.setRow ob ZS.toArray from setCell_one ho3 _]
  refine hK.out _ _ ((setRow_far _ _ _ (show w.heap.size ≠ ob by omega)).trans hT3) (fun hHeld => ?_)
  clear hK K
  (try simp only [Act.put, lsa, lsz, lss])
  refine held_store 3 rfl (by kernel_rfl) (by kernel_rfl) rfl 29 _ _ rfl fb [.int .i64 e, .int .i64 a] fc 29 rfl rfl ((setRow_far _ _ _ (fun h => hne h.symm)).trans hf3) (by kernel_rfl) hfln (by kernel_rfl) ((setRow_far _ _ _ (show w.heap.size ≠ fb by omega)).trans ((setRow_far _ _ _ (show w.heap.size ≠ ob by omega)).trans hT3)) (fun hHeld => ?_)
  refine wpAnyH_done (by kernel_rfl) ?_ _
  go_wp2
  refine ⟨rfl, _, rfl, .tuple #[], results_none rfl _ _ _, rfl, rfl, (setRow_far _ _ _ hne).trans (setRow_at ho3 _), setRow_at ((setRow_far _ _ _ (fun h => hne h.symm)).trans hf3) _, fun n h1 h2 h3 => ?_⟩
  exact below_setRow (below_setRow (hb3.mono h3) h1 _) h2 _
theorem idleM (ob fb : Nat) (w : World) :
    CallsD Try.prog 31 #[.pointer (some ⟨ob, 0, none⟩), .pointer (some ⟨fb, 0, none⟩)] .returning w fun e' u' w' => e' = .returned (.tuple #[]) ∧ u' = .returning ∧ Below w.heap.size w w' := by
  refine callsD_of_wpS Try.func31 rfl fun c₀ cs hu => ?_
  rw [Try.ntmps31]
  rw [show (#[.pointer (some ⟨ob, 0, none⟩), .pointer (some ⟨fb, 0, none⟩)] ++ Array.replicate (13 - (#[.pointer (some ⟨ob, 0, none⟩), .pointer (some ⟨fb, 0, none⟩)] : Array Value).size) undef : Array Value) = #[.pointer (some ⟨ob, 0, none⟩), .pointer (some ⟨fb, 0, none⟩), undef, undef, undef, undef, undef, undef, undef, undef, undef, undef, undef] from rfl]
  have hta := fun wx => assertNil wx
  apply wpS_seq
  refine wpS_recover_none ?_ (by kernel_rfl) (by rfl) (by simp [recoverD, hu]) ?_
  · rintro ⟨a', w', u', h, -⟩; cases h
  go_wp2
  refine wpS_of_wp ?_
  go_wp2
  refine ⟨rfl, .returning, by rw [← hu], .tuple #[], results_none rfl _ _ _, rfl, rfl, (Below.refl _ _).alloc (Nat.le_refl _) _⟩
end Go.Proofs.Ytpmbamfpmmdhcaa
