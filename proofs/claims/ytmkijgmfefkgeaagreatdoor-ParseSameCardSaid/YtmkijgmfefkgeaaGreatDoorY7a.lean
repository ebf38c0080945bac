/- Whatever two texts, ParseSame returns true, and its texts read as before. No condition beyond the row's own. -/
import Derived.Test.YtmkijgmfefkgeaaGreatDoorX
import Derived.Test.YtmkijgmfefkgeaaGreatDoorZ
import Derived.Test.YtmkijgmfefkgeaaGreatDoorCards
import Derived.Test.YtmkijgmfefkgeaaGreatDoorTie
import Derived.SevenTiedAt
set_option autoImplicit false
set_option maxRecDepth 100000
set_option linter.unusedVariables false
namespace Go.Proofs.YtmkijgmfefkgeaaGreatDoor
open Go Go.ChangeShapes Go.WideShapes Go.ChangeAt Go.RowKit
open Go.ChangeMaps (open_string shut_string)
theorem parseSame_lifted (os : Os) (started : os.Started) (H : Type) (enc : TypeId × Value → H) :
    ReturnsInHanded {} Tryz.checked os 7 .any (fun w args => (Rows.parseSameSpec.pre enc Tryz.prog Tryz.f7 [] false w args ∧ laidMetH Tryz.prog laidL w) ∧ sizedMet enc Tryz.prog Tryz.f7 (OpenSpec.ofChange Rows.parseSameSpec) false w args)
      (Rows.parseSameSpec.post enc Tryz.prog Tryz.f7 false true false false) := by
  refine law_wrap started (by kernel_rfl) Tryz.func7
    (ChangeSpec.witness_shaped (enc := enc) (C := Tryz.checked) (os := os) (X := fun w _ => laidMetH Tryz.prog laidL w) false (World.doorLaid Tryz.prog 62 os) #[.string ⟨#[]⟩, .string ⟨#[]⟩] 8 rfl (World.shaped_of_RefB (by kernel_rfl) (by kernel_rfl)) (by kernel_rfl) (by kernel_rfl) (by kernel_rfl) (doorZ os _)) ?_
  intro W base args ds gs before hval0 hW _ hG
  have hval : ∀ (j : Nat) t v, Tryz.f7.params[j]? = some t → args[j]? = some v → Value.okWide Tryz.prog W .any base t v := hval0
  have hW' := hW
  obtain ⟨p, q, hA0, hV, rfl, hfz, hnd⟩ := hW
  have hA : DataW.TrodAll enc Tryz.prog W 0 (fun _ => true) true Tryz.f7.params.toList args.toList ds p := hA0
  rw [Tryz.params7] at hA hval
  obtain ⟨v0, v1, d0, d1, p0, p1, rfl, rfl, rfl, h0, h1⟩ := trodAll_two hA
  obtain ⟨rfl, rfl⟩ := trodVars_none hV
  obtain ⟨a0, rfl, rfl, rfl, ws0⟩ := open_string Tryz.underlying9 (hval 0 9 v0 rfl rfl) h0
  obtain ⟨a1, rfl, rfl, rfl, ws1⟩ := open_string Tryz.underlying9 (hval 1 9 v1 rfl rfl) h1
  clear hA0 hval0
  simp only [List.append_nil] at hW'
  refine (parseSame_c a0 a1 (own_start W)).mono fun e W' ⟨he, hw⟩ => ?_
  subst he
  have e1 : Rows.parseSameSpec.fn H ([.lit (.string a0.data.toList), .lit (.string a1.data.toList)] ++ []) = { results := [.lit (.bool true)], args := [.lit (.string a0.data.toList), .lit (.string a1.data.toList)] } := by simp [Rows.parseSameSpec]
  refine ⟨_, rfl, _, _, _, [], [], [], hW', ?_, ?_, ?_, own_kept hw _, fun h => by cases h⟩
  · rw [e1]; exact trodAll_mk1 (shut_bool Tryz.underlying4 true)
  · rw [e1]; exact trodAll_mk2 (shut_string Tryz.underlying9 ws0) (shut_string Tryz.underlying9 ws1)
  · rw [e1]; rfl
end Go.Proofs.YtmkijgmfefkgeaaGreatDoor
