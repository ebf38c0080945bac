/- Whatever text, and whatever tokens behind it, ParseFirst returns true, and its arguments read as before. No condition beyond the row's own. -/
import Derived.Test.YtmkijgmfefkgeaaGreatDoorX6
import Derived.Test.YtmkijgmfefkgeaaGreatDoorO
import Derived.Test.YtmkijgmfefkgeaaGreatDoorCards
import Derived.Test.YtmkijgmfefkgeaaGreatDoorTie
import Derived.SevenTiedAt
import Derived.SizedLaws
set_option autoImplicit false
set_option maxRecDepth 100000
set_option linter.unusedVariables false
set_option linter.unusedSimpArgs false
namespace Go.Proofs.YtmkijgmfefkgeaaGreatDoor
open Go Go.ChangeShapes Go.WideShapes Go.ChangeAt Go.RowKit
open Go.ChangeMaps (open_string shut_string)
theorem parseFirst_lifted (os : Os) (started : os.Started) (H : Type) (enc : TypeId × Value → H) :
    ReturnsInHanded {} Tryz.checked os 6 .any (fun w args => (Rows.parseFirstSpec.pre enc Tryz.prog Tryz.f6 [] false w args ∧ laidMetH Tryz.prog laidL w) ∧ sizedMet enc Tryz.prog Tryz.f6 (OpenSpec.ofChange Rows.parseFirstSpec) false w args)
      (Rows.parseFirstSpec.post enc Tryz.prog Tryz.f6 false true false false) := by
  refine law_wrap started (by kernel_rfl) Tryz.func6
    (ChangeSpec.witness_shaped (enc := enc) (C := Tryz.checked) (os := os) (X := fun w _ => laidMetH Tryz.prog laidL w) false (World.doorLaid Tryz.prog 62 os) #[.string ⟨#[]⟩, .slice none 0 0] 8 rfl (World.shaped_of_RefB (by kernel_rfl) (by kernel_rfl)) (by kernel_rfl) (by kernel_rfl) (by kernel_rfl) (doorZ os _)) ?_
  intro W base args ds gs before hval0 hW hwt0 hG
  have hval : ∀ (j : Nat) t v, Tryz.f6.params[j]? = some t → args[j]? = some v → Value.okWide Tryz.prog W .any base t v := hval0
  have hW' := hW
  obtain ⟨p, q, hA0, hV, rfl, hfz, hnd⟩ := hW
  have hA : DataW.TrodAll enc Tryz.prog W 0 (fun _ => true) true Tryz.f6.params.toList args.toList ds p := hA0
  have hwt : (DataW.weightsEach Tryz.prog (Tryz.f6.params.toList ++ []) (ds ++ gs)).all (· ≤ reachBytes) = true := hwt0
  rw [Tryz.params6] at hA hval hwt
  obtain ⟨v0, v1, d0, d1, p0, p1, rfl, rfl, rfl, h0, h1⟩ := trodAll_two hA
  obtain ⟨rfl, rfl⟩ := trodVars_none hV
  obtain ⟨a0, rfl, rfl, rfl, ws0⟩ := open_string Tryz.underlying9 (hval 0 9 v0 rfl rfl) h0
  obtain ⟨av, ln, cp, rfl⟩ := okWide_slice Tryz.underlying31 (hval 1 31 v1 rfl rfl)
  obtain ⟨A0, c0, l0, hve, hel, hsz, hlen⟩ := open_toks h1 rfl (fun m hm => by
    have h9 := List.all_eq_true.1 hwt m (DataW.weights_mem_each (j := 1) rfl rfl m hm)
    simpa using h9)
  simp only [Value.slice.injEq] at hve
  obtain ⟨rfl, rfl, rfl⟩ := hve
  have HE : Own W (Els W tkc 3 av l0 :: []) W := by
    rcases hel with rfl | ⟨b, off, cur, e, fr, rfl, hb, hc⟩
    · exact (own_start W).els_nil
    · exact (own_start W).els_glo (show gl W b = _ from hb) rfl hc
  clear hA0 hval0
  simp only [List.append_nil] at hW'
  refine (parseFirst_c a0 HE (fun t ht => (hsz t ht).1) hlen).mono fun e W' ⟨he, hw⟩ => ?_
  subst he
  have e1 : Rows.parseFirstSpec.fn H ([.lit (.string a0.data.toList), d1] ++ []) = { results := [.lit (.bool true)], args := [.lit (.string a0.data.toList), d1] } := by simp [Rows.parseFirstSpec]
  refine ⟨_, rfl, _, _, _, [], ([] ++ (p1 ++ [])), [], hW', ?_, ?_, ?_, own_kept hw _, fun h => by cases h⟩
  · rw [e1]; exact trodAll_mk1 (shut_bool Tryz.underlying4 true)
  · rw [e1]; exact ⟨_, _, (shut_string Tryz.underlying9 ws0), ⟨_, _, (Below.trod laidOutZ rd31 szT31 h1 (own_below hw) (fun x hx => hW'.lt x (by simp [hx]))), rfl, rfl⟩, rfl⟩
  · rw [e1]; rfl
end Go.Proofs.YtmkijgmfefkgeaaGreatDoor
