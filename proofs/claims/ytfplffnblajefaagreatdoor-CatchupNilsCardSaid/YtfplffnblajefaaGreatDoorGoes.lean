/-
  Closed facts on the program, each by the kernel: no text that the law comes to starts a goroutine.
-/
import Derived.Test.YtfplffnblajefaaGreatDoorCards
import Derived.Test.YtfplffnblajefaaGreatDoorFacts
import Derived.SevenTiedAt
import Derived.KernelRfl
namespace Go.Proofs.YtfplffnblajefaaGreatDoor
open Go
theorem fa_goesAny : Tryz.prog.funcs.any Func.goes = false := by kernel_rfl
theorem fa_goes : Tryz.prog.goes 3 = false := by
  unfold Program.goes
  rw [cl_all, fa_unfollowed, fa_goesAny, Bool.and_false, Bool.or_false]
  as_aux_lemma => kernel_rfl
theorem fa_goesBy : false = Rows.catchupNilsRow.goesBy Tryz.prog := by
  show false = ((Tryz.prog.funcNamed "conclave/conclavelaw20.CatchupNils").any Tryz.prog.goes || false)
  rw [fa_root, Option.any_some, fa_goes, Bool.or_false]
end Go.Proofs.YtfplffnblajefaaGreatDoor
