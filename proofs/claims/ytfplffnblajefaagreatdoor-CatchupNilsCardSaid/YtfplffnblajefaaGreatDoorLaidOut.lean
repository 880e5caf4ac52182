/-
  Closed facts on the program, each by the kernel: its types are laid out.
-/
import Derived.Test.YtfplffnblajefaaGreatDoorProg
import Derived.Carry
import Derived.KernelRfl
namespace Go.Proofs.YtfplffnblajefaaGreatDoor
open Go
theorem lo_s : Tryz.prog.types.size = 719 := by kernel_rfl
theorem lo_0 : ((List.range' 0 120).all (rowFine Tryz.prog)) = true := by kernel_rfl
theorem lo_1 : ((List.range' 120 120).all (rowFine Tryz.prog)) = true := by kernel_rfl
theorem lo_2 : ((List.range' 240 120).all (rowFine Tryz.prog)) = true := by kernel_rfl
theorem lo_3 : ((List.range' 360 120).all (rowFine Tryz.prog)) = true := by kernel_rfl
theorem lo_4 : ((List.range' 480 120).all (rowFine Tryz.prog)) = true := by kernel_rfl
theorem lo_5 : ((List.range' 600 119).all (rowFine Tryz.prog)) = true := by kernel_rfl
theorem lo_g : Tryz.prog.globals.all (fun g => decide (g.type < Tryz.prog.types.size)) = true := by kernel_rfl
theorem lo_f : Tryz.prog.funcs.all (fun f => f.params.all fun t => decide (t < 719)) = true := by kernel_rfl
theorem laidOut : laidOutB Tryz.prog = true := by
  have hr : List.range Tryz.prog.types.size = List.range' 0 120 ++ (List.range' 120 120 ++ (List.range' 240 120 ++ (List.range' 360 120 ++ (List.range' 480 120 ++ List.range' 600 119)))) := by
    rw [lo_s]; decide +kernel
  have hf := lo_f
  rw [← lo_s] at hf
  unfold laidOutB
  rw [hr]
  simp only [List.all_append, lo_0, lo_1, lo_2, lo_3, lo_4, lo_5, lo_g, hf, Bool.and_self]
end Go.Proofs.YtfplffnblajefaaGreatDoor
