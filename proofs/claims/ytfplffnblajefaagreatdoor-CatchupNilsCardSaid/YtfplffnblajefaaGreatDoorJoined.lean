/-
  Closed facts on the row and the program: what the form of the claim asks of the row of conclavelaw20.CatchupNils.
-/
import Derived.Test.YtfplffnblajefaaGreatDoorRows
import Derived.JoinedOf
import Derived.Test.YtfplffnblajefaaGreatDoorFacts
import Derived.Test.YtfplffnblajefaaGreatDoorLaidOut
import Derived.KernelRfl
namespace Go.Proofs.YtfplffnblajefaaGreatDoor
open Go
theorem jf0 : Rows.catchupNilsRow.wf (OpenSpec.ofChange Rows.catchupNilsSpec) = true := by kernel_rfl
theorem jf1 : mapsRowed Tryz.prog = true := fa_mapsRowed
theorem jf2 : Tryz.f3.params.all (Tryz.prog.readableRec ·) = true := by kernel_rfl
theorem jf3 : namedTie Tryz.prog Rows.catchupNilsRow.named Rows.catchupNilsSpec.vars = true := by kernel_rfl
theorem jf4 : (Rows.catchupNilsRow.stops == []) = true := by kernel_rfl
theorem jf5 : (Tryz.prog.stops == []) = true := by kernel_rfl
theorem jf6 : (Rows.catchupNilsRow.knobs == []) = true := by kernel_rfl
theorem jf7 : (Tryz.prog.stopKnobs == []) = true := by kernel_rfl
theorem jf8 : (Rows.catchupNilsRow.inPlace == Tryz.prog.inPlace 3) = true := by rw [fa_inPlace]; decide +kernel
theorem jf9 : (Rows.catchupNilsRow.unfollowed == Tryz.prog.unfollowed 3) = true := by rw [fa_unfollowed]; decide +kernel
theorem jf10 : (Rows.catchupNilsRow.recurses == Tryz.prog.recurses 3) = true := by rw [fa_recurses]; decide +kernel
theorem jf11 : (Rows.catchupNilsRow.named == Tryz.prog.varsNamed 3) = true := by rw [fa_named]; decide +kernel
theorem jf12 : (Rows.catchupNilsRow.maps == (Tryz.f3.params.toList ++ Rows.catchupNilsSpec.plain.varTypes Tryz.prog).any (Tryz.prog.mapsRec ·)) = true := by kernel_rfl
theorem jf13 : (Rows.catchupNilsRow.ifaces == (Tryz.f3.params.toList ++ Rows.catchupNilsSpec.plain.varTypes Tryz.prog).any (Tryz.prog.ifacesRec ·)) = true := by kernel_rfl
theorem jf14 : (Rows.catchupNilsRow.mapsOut == Tryz.prog.mapsAmong Tryz.f3.resultTypes.toList) = true := by kernel_rfl
theorem jf15 : (Rows.catchupNilsRow.loops == (Tryz.f3.params.toList ++ Rows.catchupNilsSpec.plain.varTypes Tryz.prog).any (Tryz.prog.loopsFrom ·)) = true := by kernel_rfl
theorem jf16 : (Rows.catchupNilsRow.wideKeys == (Tryz.f3.params.toList ++ Rows.catchupNilsSpec.plain.varTypes Tryz.prog ++ Tryz.f3.resultTypes.toList).any (Tryz.prog.wideKeysFrom ·)) = true := by kernel_rfl
theorem jf17 : Rows.catchupNilsSpec.vars.all (Tryz.prog.varReadable ·) = true := by kernel_rfl
theorem jf18 : Tryz.f3.resultTypes.all (fun t => Tryz.prog.readableRec t && decide (t < Tryz.prog.types.size)) = true := by kernel_rfl
theorem jf19 : (Rows.catchupNilsRow.ifacesOut == Tryz.f3.resultTypes.toList.any (Tryz.prog.ifacesRec ·)) = true := by kernel_rfl
theorem jf20 : (Rows.catchupNilsRow.loopsOut == Tryz.f3.resultTypes.toList.any (Tryz.prog.loopsFrom ·)) = true := by kernel_rfl
theorem jf21 : (Rows.catchupNilsRow.plainKeys == Tryz.prog.plainKeys) = true := by kernel_rfl
theorem jf22 : Rows.catchupNilsRow.shortTexts.isNone = true := by kernel_rfl
theorem jf23 : Tryz.prog.stopsHeard = true := fa_heard
theorem jf24 : Tryz.prog.mayEnter = true := fa_mayEnter
theorem jf25 : (Rows.catchupNilsRow.lifted == Tryz.prog.liftsFinal) = true := by kernel_rfl
theorem jf26 : (Tryz.prog.make == some Rows.catchupNilsRow.make) = true := by kernel_rfl
theorem jf27 : (Rows.catchupNilsRow.kinds == (if Rows.catchupNilsRow.domain.isEmpty then [] else Tryz.f3.params.toList.map fun t => match Tryz.prog.underlying t with | some (.int k) => some k | _ => none)) = true := by kernel_rfl
theorem jf28 : (Rows.catchupNilsRow.pinned == Rows.catchupNilsRow.pinnedBy) = true := by kernel_rfl
theorem jf29 : (Rows.catchupNilsRow.veiled == (Tryz.f3.params.toList ++ Rows.catchupNilsSpec.plain.varTypes Tryz.prog ++ Tryz.f3.resultTypes.toList).any (Tryz.prog.veiledRec ·)) = true := by kernel_rfl
theorem jf30 : Rows.catchupNilsRow.veiledFits Tryz.prog Tryz.f3.params.toList (Tryz.f3.params.toList ++ Rows.catchupNilsSpec.plain.varTypes Tryz.prog ++ Tryz.f3.resultTypes.toList) = true := by kernel_rfl
set_option maxRecDepth 100000 in
theorem joined : joinedFacts Tryz.prog 3 Tryz.f3 Rows.catchupNilsSpec Rows.catchupNilsRow = true := by
  unfold joinedFacts
  exact Bool.and_eq_true_iff.2 ⟨Bool.and_eq_true_iff.2 ⟨Bool.and_eq_true_iff.2 ⟨Bool.and_eq_true_iff.2 ⟨Bool.and_eq_true_iff.2 ⟨Bool.and_eq_true_iff.2 ⟨Bool.and_eq_true_iff.2 ⟨Bool.and_eq_true_iff.2 ⟨Bool.and_eq_true_iff.2 ⟨Bool.and_eq_true_iff.2 ⟨Bool.and_eq_true_iff.2 ⟨Bool.and_eq_true_iff.2 ⟨Bool.and_eq_true_iff.2 ⟨Bool.and_eq_true_iff.2 ⟨Bool.and_eq_true_iff.2 ⟨Bool.and_eq_true_iff.2 ⟨Bool.and_eq_true_iff.2 ⟨Bool.and_eq_true_iff.2 ⟨Bool.and_eq_true_iff.2 ⟨Bool.and_eq_true_iff.2 ⟨Bool.and_eq_true_iff.2 ⟨Bool.and_eq_true_iff.2 ⟨Bool.and_eq_true_iff.2 ⟨Bool.and_eq_true_iff.2 ⟨Bool.and_eq_true_iff.2 ⟨Bool.and_eq_true_iff.2 ⟨Bool.and_eq_true_iff.2 ⟨Bool.and_eq_true_iff.2 ⟨Bool.and_eq_true_iff.2 ⟨Bool.and_eq_true_iff.2 ⟨Bool.and_eq_true_iff.2 ⟨jf0, laidOut⟩, jf1⟩, jf2⟩, jf3⟩, jf4⟩, jf5⟩, jf6⟩, jf7⟩, jf8⟩, jf9⟩, jf10⟩, jf11⟩, jf12⟩, jf13⟩, jf14⟩, jf15⟩, jf16⟩, jf17⟩, jf18⟩, jf19⟩, jf20⟩, jf21⟩, jf22⟩, jf23⟩, jf24⟩, jf25⟩, jf26⟩, jf27⟩, jf28⟩, jf29⟩, jf30⟩
end Go.Proofs.YtfplffnblajefaaGreatDoor
