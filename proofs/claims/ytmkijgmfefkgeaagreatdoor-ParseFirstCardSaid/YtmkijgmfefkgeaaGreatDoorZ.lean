/- From what a law's call does to what its row says: the start's variables, the frame, the readings. No condition. -/
import Derived.Test.YtmkijgmfefkgeaaGreatDoorT
import Derived.Test.YtmkijgmfefkgeaaGreatDoorRows
import Derived.ProofKit
import Derived.LaidMore
import Derived.LaidLaws
import Derived.Stop.LaidErr
import Derived.Stop.Joined
import Derived.Shelf.Vars
set_option autoImplicit false
set_option maxRecDepth 100000
set_option linter.unusedVariables false
set_option linter.unusedSimpArgs false
namespace Go.Proofs.YtmkijgmfefkgeaaGreatDoor
open Go Go.ChangeShapes Go.WideShapes Go.ChangeAt Go.RowKit
theorem ownZ : ownKnob Tryz.prog.godebug = none := by kernel_rfl
abbrev laidL : List (String × DataW Unit) := [("math/bits.deBruijn32tab", Rows.laid_math_bits_deBruijn32tab), ("math/bits.deBruijn64tab", Rows.laid_math_bits_deBruijn64tab), ("internal/strconv.uint64pow10", Rows.laid_internal_strconv_uint64pow10), ("strconv.ErrRange", Rows.laid_strconv_ErrRange), ("strconv.ErrSyntax", Rows.laid_strconv_ErrSyntax)]
theorem gES : Tryz.prog.globalNamed "strconv.ErrSyntax" = some 1 := by kernel_rfl
theorem gESt : (Tryz.prog.globals[1]?).map (·.type) = some 98 := by kernel_rfl
theorem gER : Tryz.prog.globalNamed "strconv.ErrRange" = some 2 := by kernel_rfl
theorem gERt : (Tryz.prog.globals[2]?).map (·.type) = some 98 := by kernel_rfl
theorem starES : ("*" ++ "errors.errorString" : String) = "*errors.errorString" := by decide
theorem rowES : ∀ u, Tryz.prog.typeName? 3 u = some "*errors.errorString" → u = 216 := fun u h =>
  typeName_ptr_named (nm := "errors.errorString") (by rw [starES]; kernel_rfl) (by kernel_rfl) (by decide) u (by rw [starES]; exact h)
theorem size0 : Tryz.prog.globals.size = 6 := by kernel_rfl
theorem row0 : ((begin Tryz.prog (fun _ _ => 0) default).world.heap[0]?).bind Obj.row? = some (#[.int .i64 0], 3) := by kernel_rfl
theorem row1 : ((begin Tryz.prog (fun _ _ => 0) default).world.heap[1]?).bind Obj.row? = some (#[.nilIface], 98) := by kernel_rfl
theorem row2 : ((begin Tryz.prog (fun _ _ => 0) default).world.heap[2]?).bind Obj.row? = some (#[.nilIface], 98) := by kernel_rfl
theorem ct3 : Tryz.prog.cellTypes Tryz.prog.depth 3 = some [3] := by kernel_rfl
theorem bld3 : Tryz.prog.buildable 3 = true := by kernel_rfl
theorem c218 : Tryz.prog.cellsOf 218 = 1 := by kernel_rfl
theorem c9 : Tryz.prog.cellsOf 9 = 1 := by kernel_rfl
theorem var_heap {W : World} {n : String} {b : Nat} {cs : Array Value} (hg : Tryz.prog.globalNamed n = some b) (h : W.var? Tryz.prog n = some cs) : ∃ t fr, W.heap[b]? = some (.cells cs t fr) := by
  unfold World.var? at h
  rw [hg, Option.bind_some] at h
  split at h
  · rename_i c t fr e
    cases h
    exact ⟨t, fr, e⟩
  · cases h

theorem glo_of {W : World} (hL : laidMetH Tryz.prog laidL W) (hsh : W.ShapedOpen Tryz.prog) : Glo W := by
  have hL' : laidMet Tryz.prog laidL W := hL
  have h4 := hL'.tail.tail.tail
  obtain ⟨a1, s1, hv1, _, _, _⟩ := laid_sentinel h4 gER gERt Tryz.underlying98 rowES Tryz.underlying216 Tryz.underlying218 rfl rfl Tryz.underlying9 c218 c9
  obtain ⟨a2, s2, hv2, _, _, _⟩ := laid_sentinel h4.tail gES gESt Tryz.underlying98 rowES Tryz.underlying216 Tryz.underlying218 rfl rfl Tryz.underlying9 c218 c9
  refine ⟨?_, ?_, ?_⟩
  · obtain ⟨m, hm⟩ := cell_of_shapedOpen_int hsh (g := 0) (by rw [size0]; decide) row0 rfl bld3 ct3 Tryz.underlying3
    obtain ⟨cs, hh, hs, _⟩ := hsh.1 0 _ _ (by rw [size0]; decide) row0
    rw [cell_at hh] at hm
    have hs : cs.size = 1 := hs
    have : cs = #[.int .i64 m] := by
      apply Array.ext
      · simpa using hs
      · intro i h1 h2
        have : i = 0 := by simp at h2; omega
        subst this
        rw [Array.getElem?_eq_getElem h1] at hm
        simpa using hm
    subst this
    exact ⟨m, 3, (0, 0), hh⟩
  · obtain ⟨t, fr, h⟩ := var_heap gES hv2
    exact ⟨_, _, t, fr, h⟩
  · obtain ⟨t, fr, h⟩ := var_heap gER hv1
    exact ⟨_, _, t, fr, h⟩
theorem own_start (W : World) : Own W [] W := ⟨rfl, rfl, rfl, fun _ => none, fun _ => rfl, ⟨fun k o h => (by cases h), fun k o h => h, fun k => .inl rfl⟩⟩
theorem own_kept {W W' : World} {L : List SP} (H : Own W L W') (may : MemPlace → Prop) : W.keptBut W' may := by
  refine ⟨H.os, H.output, fun i hi => ?_⟩
  have h1 : W.heap[i]? = some W.heap[i] := Array.getElem?_eq_getElem hi
  have h2 : W'.heap[i]? = some W.heap[i] := H.var h1
  rw [h1, h2]
  cases W.heap[i] <;> simp
/-- The wrap of a law's row: with the world's shape, and what is laid. -/

theorem law_wrap {H : Type} {enc : TypeId × Value → H} {os : Os} {f : FuncId} {fn : Func} {s : ChangeSpec} (started : os.Started) (noInit : Tryz.checked.prog.inits.idxOf? f = none) (hfn : Tryz.checked.prog.funcs[f]? = some fn)
    (witness : ∃ (w : World) (tape : Tape) (i : Input), w.os = os ∧ (w.forCall tape i).Shaped Tryz.checked.prog ∧ i.vars = [] ∧ Input.okWide Tryz.checked.prog (w.forCall tape i) .any w.heap.size f i ∧
      ((s.pre enc Tryz.checked.prog fn [] false (w.forCall tape i).memory i.args ∧ laidMetH Tryz.prog laidL (w.forCall tape i).memory) ∧ sizedMet enc Tryz.checked.prog fn (OpenSpec.ofChange s) false (w.forCall tape i).memory i.args) ∧ Assume.holds {} Tryz.checked.prog (lone (Frame.enter Tryz.checked.prog f i.args .normal) [] (w.forCall tape i)))
    (contract : ∀ (W : World) (base : Nat) (args : Array Value) (ds gs : List (DataW H)) (before : List MemPlace),
      (∀ (j : Nat) t v, fn.params[j]? = some t → args[j]? = some v → Value.okWide Tryz.prog W .any base t v) →
      DataW.Whole enc Tryz.prog fn.params.toList s.vars false W args.toList ds gs before →
      (DataW.weightsEach Tryz.prog (fn.params.toList ++ s.plain.varTypes Tryz.prog) (ds ++ gs)).all (· ≤ reachBytes) = true → Glo W →
      Calls Pg f args W fun e W' => ∃ v, e = .returned v ∧ s.post enc Tryz.prog fn false true false false W args v W') :
    ReturnsInHanded {} Tryz.checked os f .any (fun w args => (s.pre enc Tryz.prog fn [] false w args ∧ laidMetH Tryz.prog laidL w) ∧ sizedMet enc Tryz.prog fn (OpenSpec.ofChange s) false w args) (s.post enc Tryz.prog fn false true false false) := by
  refine returnsInHanded_of_calls ownZ started noInit witness ?_
  intro w tape i _ hsh _ hok hpre hholds
  obtain ⟨_, _, _, fn', hfn', _, _, _, _, hval⟩ := hok
  have e : fn' = fn := Option.some.inj (hfn'.symm.trans hfn)
  subst e
  obtain ⟨⟨⟨ds, gs, before, hw, hc⟩, hx⟩, hz⟩ := hpre
  have hw' := DataW.Whole.of_heap (w' := w.forCall tape i) (by rfl) hw
  have hx' : laidMetH Tryz.prog laidL (w.forCall tape i) := hx.of_heap (by rfl)
  refine (contract (w.forCall tape i) w.heap.size i.args ds gs before hval hw' (hz.weights hw) (glo_of hx' hsh)).mono fun e W' ⟨v, he, hp⟩ => ?_
  subst he
  exact ChangeSpec.post_blind hp

theorem doorZ (os : Os) (args : Array Value) : laidMetH Tryz.prog laidL ((World.doorLaid Tryz.prog 62 os).forCall (fun _ _ => 0) ⟨#[], args, []⟩).memory :=
  laidMetH_of_parts3 (fuel := 65) (laidMet_of_run' 65 (by kernel_rfl) (by kernel_rfl)) (by kernel_rfl) (by kernel_rfl)

theorem shapedZ (os : Os) : (World.doorLaid Tryz.prog 62 os).Shaped Tryz.prog := World.shaped_of_RefB (by kernel_rfl) (by kernel_rfl)
end Go.Proofs.YtmkijgmfefkgeaaGreatDoor
