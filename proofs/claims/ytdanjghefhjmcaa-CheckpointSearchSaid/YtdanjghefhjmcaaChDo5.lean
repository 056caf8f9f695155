/-
  One step of a plan's execution (chapter 28, the reference's side): all actions together.
-/
import Derived.Test.YtdanjghefhjmcaaChDo2
import Derived.Test.YtdanjghefhjmcaaChDo3
namespace Go.Proofs.Ytdanjghefhjmcaa
open Go.ChangeShapes Go.WideShapes Go.ChangeAt Go.RowKit
set_option linter.unusedVariables false

theorem r28_Do (st : PSt) (op at' sl steps : Int) (k : Nat) (sv : Value) (w : World) (hs : SlAt w sv k 1 (rdS st)) (hk : k ≤ 64) (ok : StOk st) (a0 : -9223372036854775808 ≤ at') (a1 : at' ≤ 9223372036854775807) (t1 : steps ≤ 64) :
    Calls Try.prog 28 #[.agg #[.int .i64 st.now, .int .i64 st.left, sv], .int .i64 steps, .agg #[.int .i64 op, .int .i64 at', .int .i64 sl]] w (DoPost w k sv (stepF st op at' sl steps k)) := by
  by_cases o1 : op = 1
  · subst o1; exact do_advance st at' sl steps k sv w hs hk ok a0 a1 t1
  by_cases o2 : op = 2
  · subst o2; exact do_store st at' sl steps k sv w hs hk ok a0 a1 t1
  by_cases o3 : op = 3
  · subst o3; exact do_restore st at' sl steps k sv w hs hk ok a0 a1 t1
  by_cases o4 : op = 4
  · subst o4; exact do_reverse st at' sl steps k sv w hs hk ok a0 a1 t1
  exact do_other st op at' sl steps k sv w hs hk ok a0 a1 t1 o1 o2 o3 o4
end Go.Proofs.Ytdanjghefhjmcaa
