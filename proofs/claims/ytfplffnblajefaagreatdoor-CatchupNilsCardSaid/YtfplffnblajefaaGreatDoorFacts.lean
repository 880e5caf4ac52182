/-
  Closed facts on the program, each by the kernel: what the functions that the law comes to name.
-/
import Derived.Test.YtfplffnblajefaaGreatDoorProg
import Derived.JoinedOf
import Derived.Test.YtfplffnblajefaaGreatDoorClos
import Derived.KernelRfl
namespace Go.Proofs.YtfplffnblajefaaGreatDoor
open Go
theorem fa_inPlace : Tryz.prog.inPlace 3 = ["math/bits.Add64", "math/bits.Sub64", "maps.clone", "internal/bytealg.MakeNoZero", "internal/bytealg.Compare"] := by
  unfold Program.inPlace
  rw [cl_all]
  as_aux_lemma => kernel_rfl
theorem fa_unfollowed : Tryz.prog.unfollowed 3 = true := by
  unfold Program.unfollowed
  rw [cl_all]
  as_aux_lemma => kernel_rfl
theorem fa_recurses : Tryz.prog.recurses 3 = true := by
  unfold Program.recurses
  rw [fa_unfollowed, Bool.true_or]
theorem fa_named : Tryz.prog.varsNamed 3 = ["math/bits.divideError", "math/bits.overflowError", "internal/strconv.uint64pow10", "math/bits.deBruijn32tab", "math/bits.deBruijn64tab"] := by
  unfold Program.varsNamed
  rw [cl_all]
  as_aux_lemma => kernel_rfl
theorem fa_mapsRowed : mapsRowed Tryz.prog = true := by kernel_rfl
theorem fa_heard : Tryz.prog.stopsHeard = true := by kernel_rfl
theorem fa_mayEnter : Tryz.prog.mayEnter = true := by kernel_rfl
theorem fa_root : Tryz.prog.funcNamed "conclave/conclavelaw20.CatchupNils" = some 3 := by kernel_rfl
end Go.Proofs.YtfplffnblajefaaGreatDoor
