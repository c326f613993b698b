/- A region that recovers first, and goes on as any other. No program here. -/
import Derived.Test.YtpmbamfpmmdhcaaGreatK0
import Derived.Defers
import Derived.Recover
set_option maxRecDepth 100000
set_option maxHeartbeats 16000000
namespace Go.Proofs.YtpmbamfpmmdhcaaGreat
open Go.RowKit
set_option linter.unusedSimpArgs false
set_option linter.unusedVariables false
section
variable {P : Program} {ops : Array Oper} {Q : Exit → Act → List Frame → World → Prop} {cs : List Frame}
theorem upon_mono {o : Oper} {a : Act} {K K' : Act → World → Prop} {R : Exit → Act → World → Prop} (hK : ∀ a w,K a w → K' a w) {r : Result Next} (h : o.upon P a K R r) : o.upon P a K' R r := by
  match r,h with
  | .ok (.value v) w',h => exact hK _ _ h
  | .ok .skip w',h => exact hK _ _ h
  | .ok (.defer d) w',h => exact hK _ _ h
  | .ok (.enter f args) w',h =>
    refine Calls.mono h ?_;intro e w'' he;cases e with
    | returned v => exact hK _ _ he
    | panicked c => exact he
    | outgrown => exact he
  | .ok (.row row args) w',h => exact Rows.mono h (fun v w'' hv => hK _ _ hv)
  | .halt (.panic v) w',h => exact h
theorem opsS_of_list (hno : ¬ LetsOut (fun e a w => Q e a cs w)) : ∀ (l : List Oper) (k : Nat),(∀ j,l[j]? = ops[k + j]?) → ∀ a w,wpList P ops (fun e a w => Q e a cs w) l a w → wpOpsS P ops Q (List.range' k l.length) a cs w
  | [],k,_,a,w,h => h
  | o :: l,k,hl,a,w,h => by
    have h0 : ops[k]? = some o := by simpa using (hl 0).symm
    have ih := opsS_of_list hno l (k + 1) (fun j => by have := hl (j + 1);simpa [Nat.add_assoc,Nat.add_comm 1 j] using this);simp only [List.length_cons,List.range'_succ,wpOpsS,h0];simp only [wpList] at h
    split
    · rename_i hw
      rw [if_pos hw] at h;rcases h with h | ⟨-,h⟩
      · unfold Oper.wp at h
        generalize (execOp a.eval o).run P w = r at h;have h2 := upon_mono (K' := fun a' w' => wpOpsS P ops Q (List.range' (k + 1) l.length) a' cs w') (fun a w hh => ih a w hh) h
        split
        · exact h.elim
        · exact h2
      · exact absurd h hno
    · rename_i hw
      rw [if_neg hw] at h;exact ih _ _ h
theorem wpS_recover {id : Nat} {o : Oper} {l : List Oper} {a : Act} {w : World} {v : Value} {cs0 : List Frame} (hno : ¬ LetsOut (fun e a w => Q e a cs w)) (hw : Region.wanted o (yielded (o :: l).toArray a.tmps) = true) (hr : (execOp a.eval o).run P w = .ok .recover w)
    (hc : recoverD cs0 = some (v,cs)) (h : wpList P (o :: l).toArray (fun e a w => Q e a cs w) l (a.put o.dst v) w) : (Code.region id (o :: l).toArray false).wpS P Q a cs0 w := by
  refine wpS_region ?_
  have hs : List.range ((o :: l).toArray).size = 0 :: List.range' 1 l.length := by
    rw [List.range_eq_range']
    simp [List.range'_succ]
  rw [hs]
  simp only [wpOpsS]
  have h0 : ((o :: l).toArray)[0]? = some o := by simp
  simp only [h0,hw,if_true,hr,hc]
  exact opsS_of_list hno l 1 (fun j => by simp [Nat.add_comm 1 j]) _ _ h
theorem wpS_recover_none {id : Nat} {o : Oper} {l : List Oper} {a : Act} {w : World} (hno : ¬ LetsOut (fun e a w => Q e a cs w)) (hw : Region.wanted o (yielded (o :: l).toArray a.tmps) = true) (hr : (execOp a.eval o).run P w = .ok .recover w)
    (hc : recoverD cs = none) (h : wpList P (o :: l).toArray (fun e a w => Q e a cs w) l (a.put o.dst .nilIface) w) : (Code.region id (o :: l).toArray false).wpS P Q a cs w := by
  refine wpS_region ?_
  have hs : List.range ((o :: l).toArray).size = 0 :: List.range' 1 l.length := by
    rw [List.range_eq_range']
    simp [List.range'_succ]
  rw [hs]
  simp only [wpOpsS]
  have h0 : ((o :: l).toArray)[0]? = some o := by simp
  simp only [h0,hw,if_true,hr,hc]
  exact opsS_of_list hno l 1 (fun j => by simp [Nat.add_comm 1 j]) _ _ h
end
end Go.Proofs.YtpmbamfpmmdhcaaGreat
