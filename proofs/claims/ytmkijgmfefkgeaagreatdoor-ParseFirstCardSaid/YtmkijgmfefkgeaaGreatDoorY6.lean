/- Whatever text, and whatever tokens behind it, ParseFirst returns true, and its arguments read as before. No condition beyond the row's own. -/
import Derived.Test.YtmkijgmfefkgeaaGreatDoorY6a
import Derived.Test.YtmkijgmfefkgeaaGreatDoorO
import Derived.Test.YtmkijgmfefkgeaaGreatDoorCards
import Derived.Test.YtmkijgmfefkgeaaGreatDoorTie
import Derived.SevenTiedAt
import Derived.SizedLaws
set_option autoImplicit false
set_option maxRecDepth 100000
set_option linter.unusedVariables false
set_option linter.unusedSimpArgs false
namespace Go.Proofs.YtmkijgmfefkgeaaGreatDoor
open Go Go.ChangeShapes Go.WideShapes Go.ChangeAt Go.RowKit
open Go.ChangeMaps (open_string shut_string)
theorem parseFirst_holds : Rows.ParseFirstSaid :=
  OpenClaim.holds_of_wide 6 Tryz.f6 rfl rfl rfl rfl rfl rfl rfl ⟨rfl, rfl, rfl, rfl, rfl⟩ rfl rfl rfl rfl rfl (by kernel_rfl) Tryz.func6 (by kernel_rfl)
    (of_decide_eq_true (by kernel_rfl)) (by unfold Func.isWrapper; rw [if_neg (of_decide_eq_false (by kernel_rfl))]; exact ⟨rfl, rfl⟩)
    (fun os started H enc _ => parseFirst_lifted os started H enc)
theorem parseFirst_card_holds : Rows.ParseFirstCardSaid :=
  Claim7.holds_tied_plain_at .later [] [.data, .data, .data, .sentinel, .sentinel] true (true, "0c44d9336d62d5ae794cf13a0f0588704c325501e02f01392c8be9cc8b223f97") true
    parseFirst_holds (fun _ h => by cases h) (by kernel_rfl) (fun _ h => by cases h) parseFirst_row_tie rfl ⟨rfl, rfl⟩ (by kernel_rfl) rfl
    (fun f fn hf hfn => by
      obtain rfl : f = 6 := Option.some.inj ((show Tryz.prog.funcNamed "shipwright/shipwrightlaw11.ParseFirst" = some 6 by kernel_rfl).symm.trans hf) |>.symm
      obtain rfl : fn = Tryz.f6 := (Option.some.inj (Tryz.func6.symm.trans hfn)).symm
      exact ⟨by kernel_rfl, fun j t ht => by
        rw [Tryz.params6] at ht
        have hm : t ∈ [9, 31] := by simpa using Array.mem_of_getElem? ht
        have hall : ([9, 31].all fun u => !Tryz.prog.wantsStandIn u) = true := by kernel_rfl
        exact (show Tryz.prog.wantsStandIn t = false by simpa using List.all_eq_true.1 hall t hm)⟩)
    (by kernel_rfl)
#print axioms parseFirst_card_holds
end Go.Proofs.YtmkijgmfefkgeaaGreatDoor
