/- Interfaces and spots are compared. -/
import Derived.Test.YtmkijgmfefkgeaaGreatDoorG
import Derived.Laws.StructEq
set_option autoImplicit false
set_option linter.unusedVariables false
set_option linter.unusedSimpArgs false
namespace Go.Proofs.YtmkijgmfefkgeaaGreatDoor
open Go
section
variable {P : Program} {n : Nat} {D : List Deferred} {C : World → Prop} {E : En} {ty : TypeId}
theorem ta {x : Operand} {t u : TypeId} {v : Value} {fs : Array Field} (hu : P.underlying u = some (.struct fs)) (hx : ev E x = some (.iface u v)) : RV P n D C E (.typeAssert x t u true) ty (.tuple #[v, .bool true]) := fun a w ha _ => by
  simp [execOp, ha.ev hx, Instr.typeAssert, run_underlying hu]
theorem nin {x : Operand} {t u : TypeId} {ms : Array (String × TypeId)} (hu : P.underlying t = some (.interface ms)) (hx : ev E x = some .nilIface) : RV P n D C E (.binOp .neq t x (.const .nilIface) u) ty (.bool false) := fun a w ha _ => by
  have h : ∀ d : Nat, (Op.equalIn (d + 1) t .nilIface .nilIface).run P w = .ok true w := fun d => by simp [Op.equalIn, run_underlying hu]
  have e2 : a.eval (.const .nilIface) = .nilIface := rfl
  have h2 : (binOp .neq t .nilIface .nilIface).run P w = .ok (.bool false) w := by
    simp only [binOp]
    simp [Op.equal, Op.maxDepth, h 9999]
  simp only [execOp, ha.ev hx, e2, eqGuard_nil_constR]
  simp [h2]
theorem nii {x : Operand} {t u u' : TypeId} {v : Value} {ms : Array (String × TypeId)} (hu : P.underlying t = some (.interface ms)) (hx : ev E x = some (.iface u' v)) : RV P n D C E (.binOp .neq t x (.const .nilIface) u) ty (.bool true) := fun a w ha _ => by
  have h : ∀ d : Nat, (Op.equalIn (d + 1) t (.iface u' v) .nilIface).run P w = .ok false w := fun d => by simp [Op.equalIn, run_underlying hu]
  have e2 : a.eval (.const .nilIface) = .nilIface := rfl
  have h2 : (binOp .neq t (.iface u' v) .nilIface).run P w = .ok (.bool true) w := by
    simp only [binOp]
    simp [Op.equal, Op.maxDepth, h 9999]
  simp only [execOp, ha.ev hx, e2]
  simp [h2, eqGuard]
end
end Go.Proofs.YtmkijgmfefkgeaaGreatDoor
namespace Go.Proofs.YtmkijgmfefkgeaaGreatDoor
open Go
/-- The fields of a struct: is it a blank one; type; place. -/
def flN (P : Program) (t : TypeId) : List (Bool × Nat × Nat) := (P.fieldsOf t).toList.map fun f => (f.name == "_", f.type, f.offset)
/-- How values of one cell are compared. -/
inductive EqV (P : Program) : Nat → Value → Value → Bool → Prop where
  | int {t : Nat} {k : IntKind} {a b : Int} (h : P.underlying t = some (.int k)) : EqV P t (.int k a) (.int k b) (decide (a = b))
  | str {t : Nat} {a b : ByteArray} (h : P.underlying t = some .string) : EqV P t (.string a) (.string b) (decide (a = b))
inductive EqL (P : Program) (xs ys : List Value) : List (Bool × Nat × Nat) → Bool → Prop where
  | nil : EqL P xs ys [] true
  | cons {t o : Nat} {a b : Value} {r s : Bool} {fs : List (Bool × Nat × Nat)} (hs : scB P t = true) (ha : xs[o]? = some a) (hb : ys[o]? = some b) (h : EqV P t a b r) (ht : EqL P xs ys fs s) : EqL P xs ys ((false, t, o) :: fs) (r && s)
section
variable {P : Program} {xs ys : List Value} {w : World}
theorem part_sc {t : TypeId} {xs : Array Value} {o : Nat} {v : Value} (hs : scB P t = true) (hv : xs[o]? = some v) : (part t xs o).run P w = .ok v w := by
  have h1 := (sc_of hs w).1
  simp [part, h1, hv]
theorem eqV_run {t : Nat} {a b : Value} {r : Bool} (h : EqV P t a b r) (d : Nat) : (Op.equalIn (d + 1) t a b).run P w = .ok r w := by
  cases h with
  | int h => rename_i k a b; simp [Op.equalIn, run_underlying h]; by_cases e : a = b <;> simp [e]
  | str h =>
    rename_i a b
    rw [run_equalIn_string w d t a b h, ba_toList_eq]
theorem eqL_run (d : Nat) : ∀ (fs : List Field) {r : Bool}, EqL P xs ys (fs.map fun f => (f.name == "_", f.type, f.offset)) r → (Op.eqFields (d + 1) xs.toArray ys.toArray fs).run P w = .ok r w
  | [], r, h => by cases h; simp [Op.eqFields]
  | f :: fs, r, h => by
    generalize hm : (f :: fs).map (fun f => (f.name == "_", f.type, f.offset)) = m at h
    cases h with
    | nil => cases hm
    | cons hs ha hb hv ht =>
      simp only [List.map_cons, List.cons.injEq, Prod.mk.injEq] at hm
      obtain ⟨⟨hn, rfl, rfl⟩, rfl⟩ := hm
      have hn' : f.name ≠ "_" := by simpa using hn
      rw [Op.eqFields]
      have pa := part_sc (w := w) (xs := xs.toArray) hs (by simpa using ha)
      have pb := part_sc (w := w) (xs := ys.toArray) hs (by simpa using hb)
      simp only [if_pos hn', Sem.run_bind, pa, pb, eqV_run hv d, Result.andThen_ok]
      have ih := eqL_run d fs ht
      rename_i a b r' s'
      cases r'
      · simp
      · simpa using ih
end
section
variable {P : Program} {n : Nat} {D : List Deferred} {C : World → Prop} {E : En} {ty : TypeId}
theorem eqa {x y : Operand} {t u : Nat} {xs ys : List Value} {fl : List (Bool × Nat × Nat)} {r : Bool} (hu : P.underlying t = some (.struct (P.fieldsOf t))) (hp : P.stoodInHeld t = false) (hm : P.eqGuardType P.depth t = false) (hf : flN P t = fl) (hx : ev E x = some (.agg xs.toArray)) (hy : ev E y = some (.agg ys.toArray)) (h : EqL P xs ys fl r) :
    RV P n D C E (.binOp .eql t x y u) ty (.bool r) := fun a w ha _ => by
  subst hf
  have h1 : (Op.equalIn 10000 t (.agg xs.toArray) (.agg ys.toArray)).run P w = .ok r w := by
    rw [show (10000 : Nat) = 9998 + 1 + 1 from rfl, run_equalIn_agg w _ t _ _ hu hp]
    exact eqL_run 9998 _ h
  simp only [execOp, ha.ev hx, ha.ev hy]
  simp [run_eqGuard_agg (P := P) w .eql t x y xs.toArray ys.toArray hm, run_eql_struct, h1]
end
theorem st28 : Pg.underlying 28 = some (.struct (Pg.fieldsOf 28)) := by kernel_rfl
theorem sh28 : Pg.stoodInHeld 28 = false := by kernel_rfl
theorem eg28 : Pg.eqGuardType Pg.depth 28 = false := by kernel_rfl
theorem fl28 : flN Pg 28 = [(false, 26, 0), (false, 3, 1)] := by kernel_rfl
theorem ui26 : Pg.underlying 26 = some (.int .i64) := by kernel_rfl
theorem ui3 : Pg.underlying 3 = some (.int .i64) := by kernel_rfl
theorem sn26 : scB Pg 26 = true := by kernel_rfl
theorem sn3 : scB Pg 3 = true := by kernel_rfl
theorem eqs28 {n : Nat} {D : List Deferred} {C : World → Prop} {E : En} {ty : TypeId} {x y : Operand} {u : Nat} {a b c d : Int} (hx : ev E x = some (.agg [.int .i64 a, .int .i64 b].toArray)) (hy : ev E y = some (.agg [.int .i64 c, .int .i64 d].toArray)) :
    RV Pg n D C E (.binOp .eql 28 x y u) ty (.bool (decide (a = c) && (decide (b = d) && true))) :=
  eqa st28 sh28 eg28 fl28 hx hy (.cons sn26 rfl rfl (.int ui26) (.cons sn3 rfl rfl (.int ui3) .nil))
theorem us128 : ∃ fs, Pg.underlying 128 = some (.struct fs) := ⟨_, (by kernel_rfl : Pg.underlying 128 = some (.struct (Pg.fieldsOf 128)))⟩
theorem uf20 : Pg.underlying 20 = some (.interface #[]) := by kernel_rfl
theorem uf128 : Pg.underlying 128 = some (.struct (Pg.fieldsOf 128)) := by kernel_rfl
end Go.Proofs.YtmkijgmfefkgeaaGreatDoor
