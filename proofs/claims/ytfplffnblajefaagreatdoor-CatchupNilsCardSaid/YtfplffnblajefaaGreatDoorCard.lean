/-
  The tied card of conclavelaw20.CatchupNils: for every input the law returns true and the input reads as it did; the three listed variables of Go's library are tied to the program's text.
-/
import Derived.Test.YtfplffnblajefaaGreatDoorRow
import Derived.Test.YtfplffnblajefaaGreatDoorOwnTie
import Derived.Test.YtfplffnblajefaaGreatDoorCards
import Derived.Test.YtfplffnblajefaaGreatDoorGoes
import Derived.SevenTiedAt
namespace Go.Proofs.YtfplffnblajefaaGreatDoor
open Go
theorem nils_card : Rows.CatchupNilsCardSaid :=
  Claim7.holds_tied_plain_at .later [] [.data, .data, .data] true (true, "fb2b5a2c3d6a53c3d6c5784d35c50a359a7964249227cad3a8eb253d44cb56f2") true
    nils_holds (fun _ h => by cases h) (by kernel_rfl) (fun _ h => by cases h) row_tied rfl ⟨rfl, rfl⟩ (by kernel_rfl) rfl
    (fun f fn hf hfn => by
      obtain rfl : f = 3 := Option.some.inj (fa_root.symm.trans hf) |>.symm
      obtain rfl : fn = Tryz.f3 := (Option.some.inj (Tryz.func3.symm.trans hfn)).symm
      exact ⟨by kernel_rfl, fun j t ht => by
        rw [Tryz.params3] at ht
        have hm : t ∈ [22] := by simpa using Array.mem_of_getElem? ht
        have hall : ([22].all fun u => !Tryz.prog.wantsStandIn u) = true := by kernel_rfl
        exact (show Tryz.prog.wantsStandIn t = false by simpa using List.all_eq_true.1 hall t hm)⟩)
    fa_goesBy
#print axioms nils_card
end Go.Proofs.YtfplffnblajefaaGreatDoor
