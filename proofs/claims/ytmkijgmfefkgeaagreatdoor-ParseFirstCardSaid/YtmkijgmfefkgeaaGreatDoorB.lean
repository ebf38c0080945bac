/- The steps of the walk, one for each kind of operation, over what is owned. No condition. -/
import Derived.Test.YtmkijgmfefkgeaaGreatDoorA
import Derived.Laws.Entries
import Derived.Laws.CopyRow
import Derived.Laws.IdiomCopy
import Derived.WideLaws
import Derived.Laws.Strings
set_option autoImplicit false
set_option linter.unusedVariables false
set_option linter.unusedSimpArgs false
namespace Go.Proofs.YtmkijgmfefkgeaaGreatDoor
open Go
/-! ### 1. Facts on types -/
def scB (P : Program) (t : TypeId) : Bool := match P.underlying t, (P.info? t).map (·.size) with
  | some (.struct _), _ => false
  | some (.array _ _), _ => false
  | some _, some 1 => true
  | _, _ => false
def agN (P : Program) (t : TypeId) : Option Nat := match P.underlying t with
  | some (.struct _) => (P.info? t).map (·.size)
  | some (.array _ _) => (P.info? t).map (·.size)
  | _ => none
def foN (P : Program) (s : TypeId) (f : Nat) : Option Nat := match P.underlying s with
  | some (.struct fs) => match fs[f]? with
    | some fd => match (P.info? fd.type).map (·.size) with
      | some 0 => none
      | some _ => some fd.offset
      | none => none
    | none => none
  | _ => none
def zcN (P : Program) (t : TypeId) : Option (List Value) := ((P.info? t).bind (·.zero)).map (·.cells.toList)
def slN (P : Program) (t : TypeId) : Option (TypeId × Nat × Nat) := match P.underlying t with
  | some (.slice e) => (P.info? e).map fun i => (e, i.size, i.bytes)
  | _ => none
def CF (P : Program) (f : FuncId) : Prop := ∀ args w, (callFunc f args).run P w = .ok (.enter f args) w
theorem cf_of {P : Program} {f : FuncId} {fn : Func} (hf : P.funcs[f]? = some fn) (hn : (fn.name == "runtime.NumGoroutine") = false) (hb : fn.body.isNone = false) : CF P f := by
  intro args w
  have hn' : ¬ fn.name = "runtime.NumGoroutine" := by simpa using hn
  have hb' : ¬ fn.body = none := by intro h; simp [h] at hb
  simp [callFunc, program, Sem.run, hf, hn', hb']

abbrev bk (b : Nat) (e : TypeId) (l : List Value) : SP := blk b (.cells l.toArray e (0, 0))
def one (v : Value) : Bool := match v with
  | .agg _ => false
  | .tuple _ => false
  | _ => true
def ones : List Value → Bool
  | [] => true
  | v :: r => match one v with
    | true => ones r
    | false => false
theorem one_oneCell {v : Value} (h : one v = true) : v.oneCell' = true := by cases v <;> simp_all [one, Value.oneCell']
theorem one_cells {v : Value} (h : one v = true) : v.cells = #[v] := by cases v <;> simp_all [one, Value.cells]
theorem ones_mem : ∀ {l : List Value}, ones l = true → ∀ v ∈ l, one v = true
  | [], _, v, hv => by cases hv
  | x :: r, h, v, hv => by
    unfold ones at h
    split at h
    · rename_i hx
      cases hv with
      | head => exact hx
      | tail _ hm => exact ones_mem h v hm
    · cases h

section
variable {P : Program}
theorem agg_of {t sz : Nat} (h : agN P t = some sz) (w : World) : (isAgg t).run P w = .ok true w ∧ (sizeOf t).run P w = .ok sz w := by
  unfold agN at h
  split at h
  · rename_i fs hu
    obtain ⟨i, hi, hs⟩ := Option.map_eq_some_iff.1 h
    subst hs
    simp [isAgg, run_underlying hu, sizeOf, typeInfo, hi, program, Sem.run]
  · rename_i a b hu
    obtain ⟨i, hi, hs⟩ := Option.map_eq_some_iff.1 h
    subst hs
    simp [isAgg, run_underlying hu, sizeOf, typeInfo, hi, program, Sem.run]
  · cases h
theorem sc_of {t : Nat} (h : scB P t = true) (w : World) : (isAgg t).run P w = .ok false w ∧ (sizeOf t).run P w = .ok 1 w := by
  unfold scB at h
  split at h
  · cases h
  · cases h
  · rename_i d hns hna hu hs
    obtain ⟨i, hi, hs⟩ := Option.map_eq_some_iff.1 hs
    refine ⟨?_, by simp [sizeOf, typeInfo, hi, hs, program, Sem.run]⟩
    cases d <;> simp_all [isAgg, run_underlying hu]
  · cases h

theorem cell_at {w : World} {b off : Nat} {c : Array Value} {e : TypeId} {fr : Nat × Nat} (h : w.heap[b]? = some (.cells c e fr)) : w.cell? ⟨b, off, none⟩ = c[off]? := by
  simp [World.cell?, h]
theorem frozen_at {w : World} {b off : Nat} {c : Array Value} {e : TypeId} (h : w.heap[b]? = some (.cells c e (0, 0))) : w.frozen? ⟨b, off, none⟩ = false := by
  simp [World.frozen?, h]

/-- What a load gives. -/
def LD (P : Program) (w : World) (t : TypeId) (p : Addr) (v : Value) : Prop := (loadVar t p).run P w = .ok v w
theorem ld_sc {w : World} {t : TypeId} {p : Addr} {v : Value} (ht : scB P t = true) (hc : w.cell? p = some v) : LD P w t p v := by
  simp [LD, loadVar, sc_of ht, load, Sem.run, hc]
theorem ld_ag {w : World} {t : TypeId} {p : Addr} {vs : List Value} (ht : agN P t = some vs.length) (hc : ∀ j v, vs[j]? = some v → w.cell? (p.add j) = some v) : LD P w t p (.agg vs.toArray) := by
  have h := run_loadCells_list (P := P) (w := w) p vs hc
  simp [LD, loadVar, agg_of ht, h]
theorem add_at (b o j : Nat) : (⟨b, o, none⟩ : Addr).add j = ⟨b, o + j, none⟩ := by unfold Addr.add; split <;> simp_all

section
variable {g w : World} {L : List SP}
theorem own_ld1 (H : Own g L w) (i : Nat) {b off : Nat} {e : TypeId} {l : List Value} {v : Value} {t : TypeId} (hi : L[i]? = some (bk b e l)) (ht : scB P t = true) (hv : l[off]? = some v) : LD P w t ⟨b, off, none⟩ v :=
  ld_sc ht (by rw [cell_at (H.at i hi)]; simpa using hv)
theorem own_lda (H : Own g L w) (i : Nat) {b off : Nat} {e : TypeId} {l vs : List Value} {t : TypeId} (hi : L[i]? = some (bk b e l)) (ht : agN P t = some vs.length) (hv : (l.drop off).take vs.length = vs) : LD P w t ⟨b, off, none⟩ (.agg vs.toArray) := by
  refine ld_ag ht fun j v hj => ?_
  rw [add_at, cell_at (H.at i hi)]
  have hlt : j < vs.length := by
    rcases Nat.lt_or_ge j vs.length with h | h
    · exact h
    · rw [List.getElem?_eq_none h] at hj; cases hj
  have h2 := hj
  rw [← hv, List.getElem?_take, if_pos hlt, List.getElem?_drop] at h2
  simpa using h2
end
end

/-! ### 2. Operations that leave the world as it is -/
section
variable (P : Program) (n : Nat) (D : List Deferred)
def RV (C : World → Prop) (E : En) (op : Op) (ty : TypeId) (v : Value) : Prop := ∀ a w, Fits n D E a → C w → (execOp a.eval ⟨none, op, ty, "", #[], none⟩).run P w = .ok (.value v) w
end
section
variable {P : Program} {n : Nat} {D : List Deferred} {C : World → Prop} {E : En} {ty : TypeId}
theorem RV.weak {C' : World → Prop} {op : Op} {v : Value} (h : RV P n D C' E op ty v) (hc : ∀ w, C w → C' w) : RV P n D C E op ty v := fun a w ha hw => h a w ha (hc w hw)
theorem mv {x : Operand} {v : Value} (hx : ev E x = some v) : RV P n D C E (.move x) ty v := fun a w ha _ => by simp [execOp, ha.ev hx]
theorem asg {x : Operand} {v : Value} (hx : ev E x = some v) : RV P n D C E (.assign x) ty v := fun a w ha _ => by simp [execOp, ha.ev hx]
theorem pk {c x y : Operand} {t : Bool} {u v : Value} (hc : ev E c = some (.bool t)) (hx : ev E x = some u) (hy : ev E y = some v) : RV P n D C E (.pick c x y) ty (if t then u else v) := fun a w ha _ => by
  simp [execOp, ha.ev hc, ha.ev hx, ha.ev hy, asBool]
theorem pk_t {c x y : Operand} {b : Bool} {u : Value} (hc : ev E c = some (.bool b)) (hb : b = true) (hx : ev E x = some u) : RV P n D C E (.pick c x y) ty u := fun a w ha _ => by
  subst hb
  simp [execOp, ha.ev hc, ha.ev hx, asBool]
theorem pk_f {c x y : Operand} {b : Bool} {u : Value} (hc : ev E c = some (.bool b)) (hb : b = false) (hx : ev E y = some u) : RV P n D C E (.pick c x y) ty u := fun a w ha _ => by
  subst hb
  simp [execOp, ha.ev hc, ha.ev hx, asBool]
theorem nck {x : Operand} {p : Addr} (hx : ev E x = some (.pointer (some p))) : RV P n D C E (.nilCheck x) ty (.pointer (some p)) := fun a w ha _ => by simp [execOp, ha.ev hx]
theorem fa {s : TypeId} {f : Nat} {off b o : Nat} {x : Operand} (hf : foN P s f = some off) (hx : ev E x = some (.pointer (some ⟨b, o, none⟩))) :
    RV P n D C E (.fieldAddr s x f) ty (.pointer (some ⟨b, o + off, none⟩)) := fun a w ha _ => by
  unfold foN at hf
  split at hf
  · rename_i fs hu
    split at hf
    · rename_i fd hfd
      split at hf
      · cases hf
      · rename_i k hk hm
        cases hf
        obtain ⟨i, hi, hs⟩ := Option.map_eq_some_iff.1 hm
        have hk0 : i.size ≠ 0 := by rw [hs]; exact fun h0 => hk (h0 ▸ rfl)
        simp [execOp, ha.ev hx, Instr.fieldAt, Instr.sureAddr, run_underlying hu, hfd, fieldPlace, sizeOf, typeInfo, hi, program, Sem.run, hk0, add_at]
      · cases hf
    · cases hf
  · cases hf
theorem ldw {t : TypeId} {x : Operand} {p : Addr} {v : Value} (hx : ev E x = some (.pointer (some p))) (hl : ∀ w, C w → LD P w t p v) : RV P n D C E (.load t x) ty v := fun a w ha hw => by
  have := hl w hw
  unfold LD at this
  simp [execOp, ha.ev hx, Instr.loadAt, Instr.sureAddr, this]
theorem ld {g : World} {L : List SP} {t : TypeId} (ht : scB P t = true) (i : Nat) {x : Operand} {b off : Nat} {e : TypeId} {l : List Value} {v : Value} (hx : ev E x = some (.pointer (some ⟨b, off, none⟩))) (hi : L[i]? = some (bk b e l)) (hv : l[off]? = some v) :
    RV P n D (Own g L) E (.load t x) ty v := ldw hx fun w H => own_ld1 H i hi ht hv
theorem lda {g : World} {L : List SP} {t sz : TypeId} (ht : agN P t = some sz) (i : Nat) {x : Operand} {b off : Nat} {e : TypeId} {l vs : List Value} (hx : ev E x = some (.pointer (some ⟨b, off, none⟩))) (hi : L[i]? = some (bk b e l)) (hv : (l.drop off).take sz = vs) (hl : vs.length = sz) :
    RV P n D (Own g L) E (.load t x) ty (.agg vs.toArray) := ldw hx fun w H => own_lda H i hi (by rw [hl]; exact ht) (by rw [hl]; exact hv)
theorem ext {x : Operand} {vs : List Value} {i : Nat} {v : Value} (hx : ev E x = some (.tuple vs.toArray)) (hv : vs[i]? = some v) : RV P n D C E (.extract x i) ty v := fun a w ha _ => by
  simp [execOp, ha.ev hx, Instr.extract, hv]
theorem notb {t : TypeId} {x : Operand} {b : Bool} (hx : ev E x = some (.bool b)) : RV P n D C E (.unOp .not t x) ty (.bool (!b)) := fun a w ha _ => by
  simp [execOp, ha.ev hx, Op.unary]
theorem mkf {fn : Fn} {first cap : List Operand} {vs us : List Value} (h1 : evs E first = some vs) (h2 : evs E cap = some us) : RV P n D C E (.makeFunc fn first.toArray cap.toArray) ty (.func fn vs.toArray us.toArray) := fun a w ha _ => by
  have e1 := ha.evs h1
  have e2 := ha.evs h2
  simp [execOp, Instr.makeFunc, e1, e2]
theorem lens {t : TypeId} {x : Operand} {s : ByteArray} (ht : P.underlying t = some .string) (hx : ev E x = some (.string s)) :
    RV P n D C E (.call { callee := .builtin .len, args := #[x], argTypes := #[t] }) ty (.int .i64 s.size) := fun a w ha _ => by
  simp [execOp, ha.ev hx, resolve, invoke, builtin, Builtin.len_, run_underlying ht, goInt]
theorem lenl {t e : TypeId} {x : Operand} {A : Option Addr} {m c : Nat} (ht : P.underlying t = some (.slice e)) (hx : ev E x = some (.slice A m c)) :
    RV P n D C E (.call { callee := .builtin .len, args := #[x], argTypes := #[t] }) ty (.int .i64 m) := fun a w ha _ => by
  simp [execOp, ha.ev hx, resolve, invoke, builtin, Builtin.len_, run_underlying ht, goInt]
/-! whole numbers -/
theorem addw {t u : TypeId} {k : IntKind} {x y : Operand} {i j : Int} (hx : ev E x = some (.int k i)) (hy : ev E y = some (.int k j)) : RV P n D C E (.binOp .add t x y u) ty (.int k (k.wrap (i + j))) := fun a w ha _ => by
  simp [execOp, ha.ev hx, ha.ev hy, eqGuard, binOp, Op.intArith]
theorem subw {t u : TypeId} {k : IntKind} {x y : Operand} {i j : Int} (hx : ev E x = some (.int k i)) (hy : ev E y = some (.int k j)) : RV P n D C E (.binOp .sub t x y u) ty (.int k (k.wrap (i - j))) := fun a w ha _ => by
  simp [execOp, ha.ev hx, ha.ev hy, eqGuard, binOp, Op.intArith]
theorem mulw {t u : TypeId} {k : IntKind} {x y : Operand} {i j : Int} (hx : ev E x = some (.int k i)) (hy : ev E y = some (.int k j)) : RV P n D C E (.binOp .mul t x y u) ty (.int k (k.wrap (i * j))) := fun a w ha _ => by
  simp [execOp, ha.ev hx, ha.ev hy, eqGuard, binOp, Op.intArith]
theorem wrap_i64 {i : Int} (h1 : -9223372036854775808 ≤ i) (h2 : i ≤ 9223372036854775807) : IntKind.i64.wrap i = i := by
  simp [IntKind.wrap, IntKind.bits, IntKind.signed] <;> omega
theorem add {t u : TypeId} {x y : Operand} {i j : Int} (hx : ev E x = some (.int .i64 i)) (hy : ev E y = some (.int .i64 j)) (h1 : -9223372036854775808 ≤ i + j) (h2 : i + j ≤ 9223372036854775807) :
    RV P n D C E (.binOp .add t x y u) ty (.int .i64 (i + j)) := by have h := addw (P := P) (n := n) (D := D) (C := C) (ty := ty) (t := t) (u := u) hx hy; rwa [wrap_i64 h1 h2] at h
theorem sub {t u : TypeId} {x y : Operand} {i j : Int} (hx : ev E x = some (.int .i64 i)) (hy : ev E y = some (.int .i64 j)) (h1 : -9223372036854775808 ≤ i - j) (h2 : i - j ≤ 9223372036854775807) :
    RV P n D C E (.binOp .sub t x y u) ty (.int .i64 (i - j)) := by have h := subw (P := P) (n := n) (D := D) (C := C) (ty := ty) (t := t) (u := u) hx hy; rwa [wrap_i64 h1 h2] at h
theorem mul {t u : TypeId} {x y : Operand} {i j : Int} (hx : ev E x = some (.int .i64 i)) (hy : ev E y = some (.int .i64 j)) (h1 : -9223372036854775808 ≤ i * j) (h2 : i * j ≤ 9223372036854775807) :
    RV P n D C E (.binOp .mul t x y u) ty (.int .i64 (i * j)) := by have h := mulw (P := P) (n := n) (D := D) (C := C) (ty := ty) (t := t) (u := u) hx hy; rwa [wrap_i64 h1 h2] at h
theorem eqi {t u : TypeId} {k : IntKind} {x y : Operand} {i j : Int} (hx : ev E x = some (.int k i)) (hy : ev E y = some (.int k j)) : RV P n D C E (.binOp .eql t x y u) ty (.bool (decide (i = j))) := fun a w ha _ => by
  simp [execOp, ha.ev hx, ha.ev hy, eqGuard, binOp, Op.intCmp]
  by_cases h : i = j <;> simp [h]
theorem nei {t u : TypeId} {k : IntKind} {x y : Operand} {i j : Int} (hx : ev E x = some (.int k i)) (hy : ev E y = some (.int k j)) : RV P n D C E (.binOp .neq t x y u) ty (.bool (decide (i ≠ j))) := fun a w ha _ => by
  simp [execOp, ha.ev hx, ha.ev hy, eqGuard, binOp, Op.intCmp]
  by_cases h : i = j <;> simp [h]
theorem lti {t u : TypeId} {k : IntKind} {x y : Operand} {i j : Int} (hx : ev E x = some (.int k i)) (hy : ev E y = some (.int k j)) : RV P n D C E (.binOp .lss t x y u) ty (.bool (decide (i < j))) := fun a w ha _ => by
  simp [execOp, ha.ev hx, ha.ev hy, eqGuard, binOp, Op.intCmp]
theorem lei {t u : TypeId} {k : IntKind} {x y : Operand} {i j : Int} (hx : ev E x = some (.int k i)) (hy : ev E y = some (.int k j)) : RV P n D C E (.binOp .leq t x y u) ty (.bool (decide (i ≤ j))) := fun a w ha _ => by
  simp [execOp, ha.ev hx, ha.ev hy, eqGuard, binOp, Op.intCmp]
theorem gti {t u : TypeId} {k : IntKind} {x y : Operand} {i j : Int} (hx : ev E x = some (.int k i)) (hy : ev E y = some (.int k j)) : RV P n D C E (.binOp .gtr t x y u) ty (.bool (decide (j < i))) := fun a w ha _ => by
  simp [execOp, ha.ev hx, ha.ev hy, eqGuard, binOp, Op.intCmp]
theorem gei {t u : TypeId} {k : IntKind} {x y : Operand} {i j : Int} (hx : ev E x = some (.int k i)) (hy : ev E y = some (.int k j)) : RV P n D C E (.binOp .geq t x y u) ty (.bool (decide (j ≤ i))) := fun a w ha _ => by
  simp [execOp, ha.ev hx, ha.ev hy, eqGuard, binOp, Op.intCmp]
/-! strings -/
theorem ba_toList_eq (s r : ByteArray) : (s.toList == r.toList) = decide (s = r) := by
  by_cases h : s = r
  · simp [h]
  · have : s.toList ≠ r.toList := by
      intro e
      apply h
      have h1 : s.data.toList = r.data.toList := by rw [← Go.ByteArray.toList_eq, ← Go.ByteArray.toList_eq]; exact e
      cases s; cases r; simp_all
    simp [h, this]
theorem eqs {t u : TypeId} {x y : Operand} {s r : ByteArray} (hx : ev E x = some (.string s)) (hy : ev E y = some (.string r)) : RV P n D C E (.binOp .eql t x y u) ty (.bool (decide (s = r))) := fun a w ha _ => by
  simp [execOp, ha.ev hx, ha.ev hy, eqGuard, binOp, Op.stringOp, ← ba_toList_eq]
theorem nes {t u : TypeId} {x y : Operand} {s r : ByteArray} (hx : ev E x = some (.string s)) (hy : ev E y = some (.string r)) : RV P n D C E (.binOp .neq t x y u) ty (.bool (decide (s ≠ r))) := fun a w ha _ => by
  have := ba_toList_eq s r
  simp [execOp, ha.ev hx, ha.ev hy, eqGuard, binOp, Op.stringOp]
  by_cases h : s = r <;> simp_all
end

/-! ### 3. The steps -/
section
variable {P : Program} {n : Nat} {D : List Deferred} {ops : Array Oper} {K : En → World → Prop} {X : List PanicEntry → World → Prop} {E : En} {w : World} {rest : List Oper}
  {d : Option Tmp} {op : Op} {ty : TypeId} {ps : String} {af : Array Edge}

theorem wl_nil (h : K E w) : WL P n D ops K X [] E w := fun _ a ha => ⟨E, ha, h⟩
theorem ok_cons {o : Oper} (h : opsOk n (o :: rest) = true) : dstOk n o.dst = true ∧ opsOk n rest = true := by
  unfold opsOk at h
  split at h
  · rename_i hd; exact ⟨hd, h⟩
  · cases h
theorem st {C : World → Prop} {v : Value} (hC : C w) (hv : RV P n D C E op ty v) (h : WL P n D ops K X rest (pt d v E) w) : WL P n D ops K X (⟨d, op, ty, ps, af, none⟩ :: rest) E w := by
  intro hok a ha
  obtain ⟨hd, hr⟩ := ok_cons hok
  refine wpList_plain rfl fun K' hK => ?_
  have e : (execOp a.eval ⟨d, op, ty, ps, af, none⟩).run P w = .ok (.value v) w := hv a w ha hC
  unfold Oper.wp
  rw [e]
  exact hK _ _ (h hr _ (ha.put v hd))
theorem wanted_of {a : Act} (ha : Fits n D E a) {o : Oper} {j t : Nat} {b b' : Bool} (hg : o.guard = some (j, b)) (hj : (ops[j]?).bind (·.dst) = some t) (ht : look t E = some (.bool b')) :
    Region.wanted o (yielded ops a.tmps) = (b' == b) := by
  have := ha.vals t _ ht
  simp only [Region.wanted, hg, yielded, hj, Option.bind_some, this]
  cases b <;> cases b' <;> rfl
theorem wl_case {l : List Oper} {t : Nat} {x : Bool} (ht : look t E = some (.bool x)) (h1 : x = true → WL P n D ops K X l E w) (h2 : x = false → WL P n D ops K X l E w) : WL P n D ops K X l E w := by cases x <;> simp_all
theorem gon {j t : Nat} {b x : Bool} (hj : (ops[j]?).bind (·.dst) = some t) (ht : look t E = some (.bool x)) (hx : x = b) (h : WL P n D ops K X (⟨d, op, ty, ps, af, none⟩ :: rest) E w) :
    WL P n D ops K X (⟨d, op, ty, ps, af, some (j, b)⟩ :: rest) E w := by
  subst hx
  intro hok a ha
  have h1 := h hok a ha
  unfold wpList at h1 ⊢
  rw [if_pos (by simp [Region.wanted])] at h1
  rw [if_pos (by rw [wanted_of ha rfl hj ht]; simp)]
  exact h1
theorem goff {j t : Nat} {b x : Bool} (hj : (ops[j]?).bind (·.dst) = some t) (ht : look t E = some (.bool x)) (hx : x = !b) (h : WL P n D ops K X rest (pt d undef E) w) :
    WL P n D ops K X (⟨d, op, ty, ps, af, some (j, b)⟩ :: rest) E w := by
  subst hx
  intro hok a ha
  obtain ⟨hd, hr⟩ := ok_cons hok
  unfold wpList
  rw [if_neg (by rw [wanted_of ha rfl hj ht]; cases b <;> simp)]
  exact h hr _ (ha.put undef hd)
theorem wanted_u {a : Act} (ha : Fits n D E a) {o : Oper} {j t : Nat} {b : Bool} (hg : o.guard = some (j, b)) (hj : (ops[j]?).bind (·.dst) = some t) (ht : look t E = some undef) : Region.wanted o (yielded ops a.tmps) = false := by
  have := ha.vals t _ ht
  simp [Region.wanted, hg, yielded, hj, this, undef]
/-- The guard itself was not carried out. -/
theorem goffu {j t : Nat} {b : Bool} (hj : (ops[j]?).bind (·.dst) = some t) (ht : look t E = some undef) (h : WL P n D ops K X rest (pt d undef E) w) :
    WL P n D ops K X (⟨d, op, ty, ps, af, some (j, b)⟩ :: rest) E w := by
  intro hok a ha
  obtain ⟨hd, hr⟩ := ok_cons hok
  unfold wpList
  rw [if_neg (by rw [wanted_u ha rfl hj ht]; simp)]
  exact h hr _ (ha.put undef hd)
/-- A case on a Bool that stands in a slot, anywhere. -/
theorem wl_bool {l : List Oper} (b : Bool) (ht : b = true → WL P n D ops K X l E w) (hf : b = false → WL P n D ops K X l E w) : WL P n D ops K X l E w := by cases b <;> simp_all

def after (n : Nat) (ops : Array Oper) (P : Program) (D : List Deferred) (K : En → World → Prop) (X : List PanicEntry → World → Prop) (rest : List Oper) (d : Option Tmp) (E : En) : Ending → World → Prop
  | .returned v, w => WL P n D ops K X rest (pt d v E) w
  | .panicked c, w => X c w
  | .outgrown, _ => False
theorem call_core {f : FuncId} {args : Array Value} {a : Act} (ha : Fits n D E a) (hok : opsOk n (⟨d, op, ty, ps, af, none⟩ :: rest) = true)
    (he : (execOp a.eval ⟨d, op, ty, ps, af, none⟩).run P w = .ok (.enter f args) w) (h : Calls P f args w (after n ops P D K X rest d E)) :
    wpList P ops (LQ n D K X) (⟨d, op, ty, ps, af, none⟩ :: rest) a w := by
  obtain ⟨hd, hr⟩ := ok_cons hok
  refine wpList_plain rfl fun K' hK => ?_
  unfold Oper.wp
  rw [he, Oper.upon_enter]
  refine h.mono fun e w' hq => ?_
  cases e with
  | returned v => exact hK _ _ (hq hr _ (ha.put v hd))
  | panicked c => exact ⟨ha.nil, hq⟩
  | outgrown => exact hq.elim
theorem st_call {f : FuncId} {args : List Operand} {tys : Array TypeId} {vs : List Value} {R : Ending → World → Prop} (hf : CF P f) (ha : evs E args = some vs) (h : Calls P f vs.toArray w R) (hR : ∀ e w', R e w' → after n ops P D K X rest d E e w') :
    WL P n D ops K X (⟨d, .call { callee := .value (.func f), args := args.toArray, argTypes := tys }, ty, ps, af, none⟩ :: rest) E w := by
  intro hok a hfit
  refine call_core hfit hok ?_ (h.mono hR)
  have e1 := hfit.evs ha
  simp [execOp, resolve, Deferred.ofValue, Act.eval, invoke, e1, hf _ w]
theorem st_callv {f : FuncId} {x : Operand} {first cap : List Value} {args : List Operand} {tys : Array TypeId} {vs us : List Value} {R : Ending → World → Prop} (hx : ev E x = some (.func (.func f) first.toArray cap.toArray)) (hf : CF P f) (ha : evs E args = some vs) (hu : first ++ vs ++ cap = us)
    (h : Calls P f us.toArray w R) (hR : ∀ e w', R e w' → after n ops P D K X rest d E e w') :
    WL P n D ops K X (⟨d, .call { callee := .value x, args := args.toArray, argTypes := tys }, ty, ps, af, none⟩ :: rest) E w := by
  intro hok a hfit
  refine call_core (f := f) (args := us.toArray) hfit hok ?_ (h.mono hR)
  have e1 := hfit.evs ha
  subst hu
  simp [execOp, resolve, Deferred.ofValue, hfit.ev hx, invoke, e1, hf _ w]

/-! memory -/
variable {g : World} {L : List SP}
theorem st_al {t : TypeId} {z : List Value} (H : Own g L w) (hz : zcN P t = some z) (h : ∀ b w', Own g (bk b t z :: L) w' → WL P n D ops K X rest (pt d (.pointer (some ⟨b, 0, none⟩)) E) w') :
    WL P n D ops K X (⟨d, .alloc t, ty, ps, af, none⟩ :: rest) E w := by
  intro hok a ha
  obtain ⟨hd, hr⟩ := ok_cons hok
  refine wpList_plain rfl fun K' hK => ?_
  obtain ⟨v, hv, hvz⟩ := Option.map_eq_some_iff.1 hz
  obtain ⟨i, hi, hiz⟩ := Option.bind_eq_some_iff.1 hv
  have e : (execOp a.eval ⟨d, .alloc t, ty, ps, af, none⟩).run P w = .ok (.value (.pointer (some ⟨w.heap.size, 0, none⟩))) (w.alloc (.cells z.toArray t)) := by
    subst hvz
    simp [execOp, Instr.alloc, zeroValue, typeInfo, hi, hiz, newVar, newRow, newObj, program, Sem.run]
  unfold Oper.wp
  rw [e]
  exact hK _ _ (h w.heap.size _ (H.al _) hr _ (ha.put _ hd))
theorem st_box {t : TypeId} {x : Operand} {v : Value} {z : List Value} (H : Own g L w) (hx : ev E x = some v) (hz : v.cells.toList = z) (h : ∀ b w', Own g (bk b t z :: L) w' → WL P n D ops K X rest (pt d (.pointer (some ⟨b, 0, none⟩)) E) w') :
    WL P n D ops K X (⟨d, .box t x, ty, ps, af, none⟩ :: rest) E w := by
  intro hok a ha
  obtain ⟨hd, hr⟩ := ok_cons hok
  refine wpList_plain rfl fun K' hK => ?_
  have e : (execOp a.eval ⟨d, .box t x, ty, ps, af, none⟩).run P w = .ok (.value (.pointer (some ⟨w.heap.size, 0, none⟩))) (w.alloc (.cells z.toArray t)) := by
    subst hz
    simp [execOp, Instr.box, ha.ev hx, newVar, newRow, newObj, program, Sem.run]
  unfold Oper.wp
  rw [e]
  exact hK _ _ (h w.heap.size _ (H.al _) hr _ (ha.put _ hd))
/-- Cells written one behind the other into a block that is owned. -/
def spl (l : List Value) (off : Nat) : List Value → List Value
  | [] => l
  | v :: r => spl (l.set off v) (off + 1) r
theorem storeCells_own {A : List SP} {b : Nat} {e : TypeId} : ∀ (vs : List Value) (off i : Nat) (l : List Value) (w : World), Own g (bk b e l :: A) w → off + i + vs.length ≤ l.length → ones vs = true →
    ∃ w', (storeCells ⟨b, off, none⟩ vs i).run P w = .ok () w' ∧ Own g (bk b e (spl l (off + i) vs) :: A) w'
  | [], off, i, l, w, H, _, _ => ⟨w, by simp [storeCells, Sem.run], H⟩
  | v :: r, off, i, l, w, H, hlen, hone => by
    unfold ones at hone
    split at hone
    case h_2 => cases hone
    rename_i hv
    simp only [List.length_cons] at hlen
    have hc : w.cell? ⟨b, off + i, none⟩ = some (l[off + i]'(by omega)) := by
      rw [cell_at H.get]; simp [show off + i < l.length by omega]
    have hf : w.frozen? ⟨b, off + i, none⟩ = false := frozen_at H.get
    have H' := H.set (off := off + i) v
    obtain ⟨w', h1, h2⟩ := storeCells_own r off (i + 1) (l.set (off + i) v) (w.setCell ⟨b, off + i, none⟩ v) (by simpa [bk] using H') (by rw [List.length_set]; omega) hone
    refine ⟨w', ?_, by simpa [spl, Nat.add_assoc] using h2⟩
    have hs : (store ((⟨b, off, none⟩ : Addr).add i) v).run P w = .ok () (w.setCell ⟨b, off + i, none⟩ v) := by
      rw [add_at]
      cases v <;> simp_all [store, Sem.run, one]
    simp [storeCells, hs, h1]
theorem st_st {t sz : TypeId} {x y : Operand} (i : Nat) {b off : Nat} {e : TypeId} {l vs : List Value} {v : Value} (H : Own g L w) (hx : ev E x = some (.pointer (some ⟨b, off, none⟩))) (hy : ev E y = some v) (hi : L[i]? = some (bk b e l))
    (hsz : ((P.info? t).map (·.size)) = some sz) (hv : v.cells.toList = vs) (hl : vs.length = sz) (h1 : ones vs = true) (hle : Nat.ble (off + sz) l.length = true)
    (h : ∀ w', Own g (bk b e (spl l off vs) :: L.eraseIdx i) w' → WL P n D ops K X rest (pt d undef E) w') : WL P n D ops K X (⟨d, .store t x y, ty, ps, af, none⟩ :: rest) E w := by
  intro hok a ha
  obtain ⟨hd, hr⟩ := ok_cons hok
  refine wpList_plain rfl fun K' hK => ?_
  obtain ⟨inf, hin, hs⟩ := Option.map_eq_some_iff.1 hsz
  obtain ⟨w', hw', H'⟩ := storeCells_own (P := P) vs off 0 l w (H.fr i hi) (by have := Nat.le_of_ble_eq_true hle; omega) h1
  have hc : v.cells.size = sz := by rw [← hl, ← hv]; simp
  have e : (execOp a.eval ⟨d, .store t x y, ty, ps, af, none⟩).run P w = .ok .skip w' := by
    subst hv
    simp [execOp, Instr.storeAt, Instr.sureAddr, ha.ev hx, ha.ev hy, storeVar, sizeOf, typeInfo, hin, hs, hc, program, Sem.run, hw']
  unfold Oper.wp
  rw [e, Oper.upon_skip]
  exact hK _ _ (h _ H' hr _ (ha.put _ hd))
end

/-! ### 4. A function's begin and end -/
def FQ (P : Program) (fn : Func) (n : Nat) (R : Ending → World → Prop) : Exit → En → World → Prop := fun e E w => match e with
  | .normal => ∃ v, (∀ a, Fits n [] E a → (results fn a.tmps).run P w = .ok v w) ∧ R (.returned v) w
  | .ret => ∃ v, (∀ a, Fits n [] E a → (results fn a.tmps).run P w = .ok v w) ∧ R (.returned v) w
  | .panic c => R (.panicked c) w
  | _ => False
def enum (k : Nat) : List Value → En
  | [] => []
  | v :: r => (k, v) :: enum (k + 1) r
theorem look_enum (vs : List Value) : ∀ k t v, look t (enum k vs) = some v → k ≤ t ∧ vs[t - k]? = some v := by
  induction vs with
  | nil => intro k t v h; cases h
  | cons x r ih =>
    intro k t v h
    by_cases e : t = k
    · subst e
      rw [enum, look_cons_self] at h
      cases h
      simp
    · rw [enum, look_cons_ne e] at h
      obtain ⟨h1, h2⟩ := ih (k + 1) t v h
      refine ⟨by omega, ?_⟩
      rw [show t - k = (t - (k + 1)) + 1 by omega]
      simpa using h2
theorem calls_cw {P : Program} {f : FuncId} {fn : Func} {c : Code} {n : Nat} {vs : List Value} {w : World} {R : Ending → World → Prop} (hf : P.funcs[f]? = some fn) (hb : fn.body = some c) (hn : fn.ntmps = n) (hle : Nat.ble vs.length n = true)
    (h : CW P n [] (FQ P fn n R) c (enum 0 vs) w) : Calls P f vs.toArray w R := by
  have hle := Nat.le_of_ble_eq_true hle
  refine calls_of_wp hf hb (wp_mono (h _ ⟨?_, rfl, fun t v ht => ?_⟩) fun e a w hq => ?_)
  · simp [hn]; omega
  · obtain ⟨_, h2⟩ := look_enum vs 0 t v ht
    simp only [Nat.sub_zero] at h2
    have hlt : t < vs.length := (List.getElem?_eq_some_iff.1 h2).1
    rw [List.getElem?_eq_getElem hlt] at h2
    simp [Array.getElem?_append, hlt]
    simpa using h2
  · obtain ⟨E, hfit, hq⟩ := hq
    cases e with
    | normal => obtain ⟨v, h1, h2⟩ := hq; exact ⟨hfit.dfr, v, h1 a hfit, h2⟩
    | ret => obtain ⟨v, h1, h2⟩ := hq; exact ⟨hfit.dfr, v, h1 a hfit, h2⟩
    | panic ch => exact ⟨hfit.dfr, hq⟩
    | exit id => exact hq.elim
    | goto l => exact hq.elim
    | outgrown => exact hq.elim
section
variable {P : Program} {fn : Func} {n : Nat} {R : Ending → World → Prop} {E : En} {w : World}
/-- One result in slots or cells: its value. -/
def resV (P : Program) (E : En) (w : World) : ResultVar → Value → Prop
  | .tmp t, v => look t E = some v
  | .cell a t, v => ∃ p, look a E = some (.pointer (some p)) ∧ LD P w t p v
theorem tmp_run {a : Act} (ha : Fits n [] E a) {t : Tmp} {v : Value} (h : resV P E w (.tmp t) v) : a.tmps[t]? = some v := ha.vals t v h
theorem cell_run {a : Act} (ha : Fits n [] E a) {x : Tmp} {t : TypeId} {v : Value} (h : resV P E w (.cell x t) v) : ∃ p, a.tmps[x]? = some (.pointer (some p)) ∧ (loadVar t p).run P w = .ok v w :=
  let ⟨p, h1, h2⟩ := h
  ⟨p, ha.vals x _ h1, h2⟩
theorem ret0 (hr : fn.results = #[]) (h : R (.returned (.tuple #[])) w) : FQ P fn n R .ret E w := ⟨_, fun a ha => results_none hr _ _ _, h⟩
theorem end0 (hr : fn.results = #[]) (h : R (.returned (.tuple #[])) w) : FQ P fn n R .normal E w := ⟨_, fun a ha => results_none hr _ _ _, h⟩
theorem run1 {r : ResultVar} {v : Value} (hr : fn.results = #[r]) (hv : resV P E w r v) (a : Act) (ha : Fits n [] E a) : (results fn a.tmps).run P w = .ok v w := by
  cases r with
  | tmp t => simp [results, hr, tmp_run ha hv]
  | cell x t => obtain ⟨p, e, l⟩ := cell_run ha hv; simp [results, hr, e, asAddr, l]
theorem run2 {r s : ResultVar} {v u : Value} (hr : fn.results = #[r, s]) (hv : resV P E w r v) (hu : resV P E w s u) (a : Act) (ha : Fits n [] E a) : (results fn a.tmps).run P w = .ok (.tuple #[v, u]) w := by
  cases r with
  | tmp t => cases s with
    | tmp t' => simp [results, hr, tmp_run ha hv, tmp_run ha hu]
    | cell x t' => obtain ⟨p, e, l⟩ := cell_run ha hu; simp [results, hr, tmp_run ha hv, e, asAddr, l]
  | cell x t => obtain ⟨p, e, l⟩ := cell_run ha hv; cases s with
    | tmp t' => simp [results, hr, tmp_run ha hu, e, asAddr, l]
    | cell x' t' => obtain ⟨p', e', l'⟩ := cell_run ha hu; simp [results, hr, e, e', asAddr, l, l']
theorem run3 {r s q : ResultVar} {v u y : Value} (hr : fn.results = #[r, s, q]) (hv : resV P E w r v) (hu : resV P E w s u) (hy : resV P E w q y) (a : Act) (ha : Fits n [] E a) : (results fn a.tmps).run P w = .ok (.tuple #[v, u, y]) w := by
  cases r with
  | tmp t => cases s with
    | tmp t' => cases q with
      | tmp t'' => simp [results, hr, tmp_run ha hv, tmp_run ha hu, tmp_run ha hy]
      | cell x'' t'' => obtain ⟨p, e, l⟩ := cell_run ha hy; simp [results, hr, tmp_run ha hv, tmp_run ha hu, e, asAddr, l]
    | cell x t' => obtain ⟨p, e, l⟩ := cell_run ha hu; cases q with
      | tmp t'' => simp [results, hr, tmp_run ha hv, tmp_run ha hy, e, asAddr, l]
      | cell x'' t'' => obtain ⟨p', e', l'⟩ := cell_run ha hy; simp [results, hr, tmp_run ha hv, e, e', asAddr, l, l']
  | cell x t => obtain ⟨p, e, l⟩ := cell_run ha hv; cases s with
    | tmp t' => cases q with
      | tmp t'' => simp [results, hr, tmp_run ha hu, tmp_run ha hy, e, asAddr, l]
      | cell x'' t'' => obtain ⟨p', e', l'⟩ := cell_run ha hy; simp [results, hr, tmp_run ha hu, e, e', asAddr, l, l']
    | cell x' t' => obtain ⟨p', e', l'⟩ := cell_run ha hu; cases q with
      | tmp t'' => simp [results, hr, tmp_run ha hy, e, e', asAddr, l, l']
      | cell x'' t'' => obtain ⟨p'', e'', l''⟩ := cell_run ha hy; simp [results, hr, e, e', e'', asAddr, l, l', l'']
theorem ret1 {r : ResultVar} {v : Value} (hr : fn.results = #[r]) (hv : resV P E w r v) (h : R (.returned v) w) : FQ P fn n R .ret E w := ⟨v, run1 hr hv, h⟩
theorem ret2 {r s : ResultVar} {v u : Value} (hr : fn.results = #[r, s]) (hv : resV P E w r v) (hu : resV P E w s u) (h : R (.returned (.tuple #[v, u])) w) : FQ P fn n R .ret E w := ⟨_, run2 hr hv hu, h⟩
theorem ret3 {r s q : ResultVar} {v u x : Value} (hr : fn.results = #[r, s, q]) (hv : resV P E w r v) (hu : resV P E w s u) (hx : resV P E w q x) (h : R (.returned (.tuple #[v, u, x])) w) : FQ P fn n R .ret E w := ⟨_, run3 hr hv hu hx, h⟩
end
end Go.Proofs.YtmkijgmfefkgeaaGreatDoor
