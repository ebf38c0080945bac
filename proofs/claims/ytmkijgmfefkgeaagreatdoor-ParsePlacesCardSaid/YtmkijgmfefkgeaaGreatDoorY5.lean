/- Whatever text, ParsePlaces returns true, and its text reads as before. No condition beyond the row's own. -/
import Derived.Test.YtmkijgmfefkgeaaGreatDoorY5a
import Derived.Test.YtmkijgmfefkgeaaGreatDoorZ
import Derived.Test.YtmkijgmfefkgeaaGreatDoorCards
import Derived.Test.YtmkijgmfefkgeaaGreatDoorTie
import Derived.SevenTiedAt
set_option autoImplicit false
set_option maxRecDepth 100000
set_option linter.unusedVariables false
namespace Go.Proofs.YtmkijgmfefkgeaaGreatDoor
open Go Go.ChangeShapes Go.WideShapes Go.ChangeAt Go.RowKit
open Go.ChangeMaps (open_string shut_string)
theorem parsePlaces_holds : Rows.ParsePlacesSaid :=
  OpenClaim.holds_of_wide 5 Tryz.f5 rfl rfl rfl rfl rfl rfl rfl ⟨rfl, rfl, rfl, rfl, rfl⟩ rfl rfl rfl rfl rfl (by kernel_rfl) Tryz.func5 (by kernel_rfl)
    (of_decide_eq_true (by kernel_rfl)) (by unfold Func.isWrapper; rw [if_neg (of_decide_eq_false (by kernel_rfl))]; exact ⟨rfl, rfl⟩)
    (fun os started H enc _ => parsePlaces_lifted os started H enc)
theorem parsePlaces_card_holds : Rows.ParsePlacesCardSaid :=
  Claim7.holds_tied_plain_at .later [] [.data, .data, .data, .sentinel, .sentinel] true (true, "0c44d9336d62d5ae794cf13a0f0588704c325501e02f01392c8be9cc8b223f97") true
    parsePlaces_holds (fun _ h => by cases h) (by kernel_rfl) (fun _ h => by cases h) parsePlaces_row_tie rfl ⟨rfl, rfl⟩ (by kernel_rfl) rfl
    (fun f fn hf hfn => by
      obtain rfl : f = 5 := Option.some.inj ((show Tryz.prog.funcNamed "shipwright/shipwrightlaw11.ParsePlaces" = some 5 by kernel_rfl).symm.trans hf) |>.symm
      obtain rfl : fn = Tryz.f5 := (Option.some.inj (Tryz.func5.symm.trans hfn)).symm
      exact ⟨by kernel_rfl, fun j t ht => by
        rw [Tryz.params5] at ht
        have hm : t ∈ [9] := by simpa using Array.mem_of_getElem? ht
        have hall : ([9].all fun u => !Tryz.prog.wantsStandIn u) = true := by kernel_rfl
        exact (show Tryz.prog.wantsStandIn t = false by simpa using List.all_eq_true.1 hall t hm)⟩)
    (by kernel_rfl)
#print axioms parsePlaces_card_holds
end Go.Proofs.YtmkijgmfefkgeaaGreatDoor
