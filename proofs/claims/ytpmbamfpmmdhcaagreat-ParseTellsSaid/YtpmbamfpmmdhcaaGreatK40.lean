/- The reference's Expr, Match. (PRINTED by gen_qtop3.py.) -/
import Derived.Test.YtpmbamfpmmdhcaaGreatK32
import Derived.Test.YtpmbamfpmmdhcaaGreatK33
import Derived.Test.YtpmbamfpmmdhcaaGreatK39
set_option maxRecDepth 100000
set_option maxHeartbeats 16000000
namespace Go.Proofs.YtpmbamfpmmdhcaaGreat
open Go.RowKit
set_option linter.unusedSimpArgs false
set_option linter.unusedVariables false
def QRes (ev : Int) (x : Ex) (fe fa : Int) (w : World) (e' : Ending) (w' : World) : Prop := ∃ cs,e' = .returned (.tuple #[.agg (.int .i64 ev :: cs).toArray,.agg #[.int .i64 fe,.int .i64 fa]]) ∧ IsEx w'.heap.size w' x cs ∧ Below w.heap.size w w'
def ERes (x : Ex) (fe fa : Int) (w : World) (e' : Ending) (w' : World) : Prop := ∃ cs,e' = .returned (.tuple #[.agg cs.toArray,.agg #[.int .i64 fe,.int .i64 fa]]) ∧ IsEx w'.heap.size w' x cs ∧ Below w.heap.size w w'
def MRes (l : List Mat) (fe fa : Int) (w : World) (e' : Ending) (w' : World) : Prop := ∃ v,e' = .returned (.tuple #[v,.agg #[.int .i64 fe,.int .i64 fa]]) ∧ IsMats w'.heap.size w' v l ∧ Below w.heap.size w w'
theorem noEx_is (w : World) : IsEx w.heap.size w noEx ZX := (noExS (fun _ => True) w).ex
theorem QryR.res {s : ByteArray} {e : Ex} {q : PS} {w : World} {e' : Ending} {w' : World} (h : QryR s e q w e' w') : QRes (if q.err = 0 then EV s else 0) (if q.err = 0 then e else noEx) q.err q.at' w e' w' := by
  obtain ⟨hb,⟨h0,cs,rfl,hx⟩ | ⟨h0,rfl⟩⟩ := h
  · rw [if_pos h0,if_pos h0,h0];exact ⟨cs,rfl,hx,hb⟩
  · rw [if_neg h0,if_neg h0];exact ⟨ZX,rfl,noEx_is w',hb⟩
theorem ExprR.res {e : Ex} {q : PS} {w : World} {e' : Ending} {w' : World} (h : ExprR e q w e' w') : ERes (if q.err = 0 then e else noEx) q.err q.at' w e' w' := by
  obtain ⟨hb,⟨h0,cs,rfl,hx⟩ | ⟨h0,rfl⟩⟩ := h
  · rw [if_pos h0,h0];exact ⟨cs,rfl,hx,hb⟩
  · rw [if_neg h0];exact ⟨ZX,rfl,noEx_is w',hb⟩
theorem MtR.res {ms : List Mat} {q : PS} {w : World} {e' : Ending} {w' : World} (h : MtR ms q w e' w') : MRes (if q.err = 0 then ms else []) q.err q.at' w e' w' := by
  obtain ⟨hb,⟨h0,v,rfl,hx⟩ | ⟨h0,rfl⟩⟩ := h
  · rw [if_pos h0,h0];exact ⟨v,rfl,hx,hb⟩
  · rw [if_neg h0];exact ⟨_,rfl,(noMatsS (fun _ => True) w').mats',hb⟩
end Go.Proofs.YtpmbamfpmmdhcaaGreat
