/- Functions that defer one call; calls that are deferred, and recover. -/
import Derived.Test.YtmkijgmfefkgeaaGreatDoorF
import Derived.Recover
set_option autoImplicit false
set_option linter.unusedVariables false
set_option linter.unusedSimpArgs false
namespace Go.Proofs.YtmkijgmfefkgeaaGreatDoor
open Go
def WR (P : Program) (n : Nat) (D : List Deferred) (ops : Array Oper) (Q : Exit → Act → World → Prop) (l : List Oper) (E : En) (w : World) : Prop := opsOk n l = true → ∀ a, Fits n D E a → wpList P ops Q l a w
def WD (P : Program) (n : Nat) (D : List Deferred) (Q : Exit → Act → World → Prop) (c : Code) (E : En) (w : World) : Prop := ∀ a, Fits n D E a → c.wp P Q a w
section
variable {P : Program} {n : Nat} {D : List Deferred} {ops : Array Oper} {Q : Exit → Act → World → Prop} {E : En} {w : World} {rest : List Oper} {d : Option Tmp} {op : Op} {ty : TypeId} {ps : String} {af : Array Edge}
theorem wr {C : World → Prop} {v : Value} (hC : C w) (hv : RV P n D C E op ty v) (h : WR P n D ops Q rest (pt d v E) w) : WR P n D ops Q (⟨d, op, ty, ps, af, none⟩ :: rest) E w := by
  intro hok a ha
  obtain ⟨hd, hr⟩ := ok_cons hok
  refine wpList_plain rfl fun K' hK => ?_
  have e : (execOp a.eval ⟨d, op, ty, ps, af, none⟩).run P w = .ok (.value v) w := hv a w ha hC
  unfold Oper.wp
  rw [e]
  exact hK _ _ (h hr _ (ha.put v hd))
theorem wr_call {f : FuncId} {args : List Operand} {tys : Array TypeId} {vs : List Value} {R : Ending → World → Prop} (hf : CF P f) (ha : evs E args = some vs) (h : Calls P f vs.toArray w R)
    (hR : ∀ e w', R e w' → match e with
      | .returned v => WR P n D ops Q rest (pt d v E) w'
      | .panicked c => ∀ a, Fits n D E a → Q (.panic c) a w'
      | .outgrown => False) : WR P n D ops Q (⟨d, .call { callee := .value (.func f), args := args.toArray, argTypes := tys }, ty, ps, af, none⟩ :: rest) E w := by
  intro hok a hfit
  obtain ⟨hd, hr⟩ := ok_cons hok
  refine wpList_plain rfl fun K' hK => ?_
  have e1 := hfit.evs ha
  have he : (execOp a.eval ⟨d, .call { callee := .value (.func f), args := args.toArray, argTypes := tys }, ty, ps, af, none⟩).run P w = .ok (.enter f vs.toArray) w := by
    simp [execOp, resolve, Deferred.ofValue, Act.eval, invoke, e1, hf _ w]
  unfold Oper.wp
  rw [he, Oper.upon_enter]
  refine h.mono fun e w' hq => ?_
  have h2 := hR e w' hq
  cases e with
  | returned v => exact hK _ _ (h2 hr _ (hfit.put v hd))
  | panicked c => exact h2 a hfit
  | outgrown => exact h2.elim
theorem wpList_mono' {Q' : Exit → Act → World → Prop} (hq : ∀ e a w, Q e a w → Q' e a w) : ∀ (l : List Oper) (a : Act) (w : World), wpList P ops Q l a w → wpList P ops Q' l a w
  | [], a, w, h => hq _ _ _ h
  | o :: r, a, w, h => by
    unfold wpList at h ⊢
    split
    · rename_i hw
      rw [if_pos hw] at h
      rcases h with h | ⟨h1, a', w', h2⟩
      · refine .inl ?_
        have h3 := Oper.wp_mono (fun a w h => wpList_mono' hq r a w h) h
        unfold Oper.wp at h3 ⊢
        generalize (execOp a.eval o).run P w = res at h3 ⊢
        match res with
        | .ok (.value v) w' => exact h3
        | .ok .skip w' => exact h3
        | .ok (.defer d) w' => exact h3
        | .ok (.enter f args) w' =>
          rw [Oper.upon_enter] at h3 ⊢
          refine h3.mono fun e w'' hh => ?_
          cases e with
          | returned v => exact hh
          | panicked c => exact hq _ _ _ hh
          | outgrown => obtain ⟨a', w3, h3⟩ := hh; exact ⟨a', w3, hq _ _ _ h3⟩
        | .ok (.row row args) w' => exact h3
        | .halt (.panic v) w' => exact hq _ _ _ h3
        | .ok (.spawn _) _ | .ok (.comm ..) _ | .ok .recover _ | .ok (.sleep _) _ | .ok (.alone ..) _ | .ok (.timer _) _ | .ok .collect _ | .ok (.watch _) _ | .ok (.coroswitch ..) _ | .ok (.newcoro ..) _ | .ok (.stack ..) _ | .ok .numGoroutine _ | .ok (.round ..) _ | .ok (.callThen ..) _ => exact h3.elim
        | .halt (.exit _) _ | .halt (.fatal _) _ | .halt (.throw _) _ | .halt (.unsupported _) _ | .halt (.stuck _) _ | .halt .goexit _ | .halt .blocked _ | .halt .waiting _ => exact h3.elim
      · exact .inr ⟨h1, a', w', hq _ _ _ h2⟩
    · rename_i hw
      rw [if_neg hw] at h
      exact wpList_mono' hq r _ _ h
theorem wr_wl {K : En → World → Prop} {l : List Oper} (h : WL P n D ops K (fun _ _ => False) l E w) (hK : ∀ E w, K E w → ∀ a, Fits n D E a → Q .normal a w) : WR P n D ops Q l E w := fun hok a ha =>
  wpList_mono' (fun e a w h => by
    cases e with
    | normal => obtain ⟨E', h1, h2⟩ := h; exact hK E' w h2 a h1
    | panic c => exact h.2.elim
    | _ => exact h.elim) _ _ _ (h hok a ha)
theorem wr_defer {x : Operand} {f : FuncId} {cap : List Value} (hx : ev E x = some (.func (.func f) [].toArray cap.toArray)) (h : WR P n ({ target := .fn (.func f) cap.toArray, args := #[] } :: D) ops Q rest (pt d undef E) w) :
    WR P n D ops Q (⟨d, .defer { callee := .value x, args := #[], argTypes := #[] }, ty, ps, af, none⟩ :: rest) E w := by
  intro hok a ha
  obtain ⟨hd, hr⟩ := ok_cons hok
  refine wpList_plain rfl fun K' hK => ?_
  have e : (execOp a.eval ⟨d, .defer { callee := .value x, args := #[], argTypes := #[] }, ty, ps, af, none⟩).run P w = .ok (.defer { target := .fn (.func f) cap.toArray, args := #[] }) w := by
    simp [execOp, resolve, Deferred.ofValue, ha.ev hx]
  unfold Oper.wp
  rw [e]
  refine hK _ _ (h hr _ ?_)
  have h0 : Fits n ({ target := .fn (.func f) cap.toArray, args := #[] } :: D) E { a with defers := { target := .fn (.func f) cap.toArray, args := #[] } :: a.defers } := ⟨ha.size, by simp [ha.dfr], ha.vals⟩
  exact h0.put _ hd
theorem wd_region {id : Nat} {l : List Oper} (hd : opsOk n l = true) (h : WR P n D l.toArray Q l E w) : WD P n D Q (.region id l.toArray false) E w := fun a ha => wp_region_lit (h hd a ha)
theorem wd_seq_r {id : Nat} {l : List Oper} {y : Code} (hd : opsOk n l = true) (h : WR P n D l.toArray (Exit.then (y.wp P Q) Q) l E w) : WD P n D Q (.seq (.region id l.toArray false) y) E w := fun a ha => wp_seq (wp_region_lit (h hd a ha))
theorem wd_seq {x y : Code} (h : CW P n D (thn (fun E w => WD P n D Q y E w) fun e E w => False) x E w) : WD P n D Q (.seq x y) E w := fun a ha =>
  wp_seq (wp_mono (h a ha) fun e a' w' ⟨E', h1, h2⟩ => by
    cases e with
    | normal => exact h2 a' h1
    | _ => exact h2.elim)
theorem wr_nil {y : Code} (h : WD P n D Q y E w) : WR P n D ops (Exit.then (y.wp P Q) Q) [] E w := fun _ a ha => h a ha
theorem wd_ret (h : ∀ a, Fits n D E a → Q .ret a w) : WD P n D Q .ret E w := fun a ha => wp_ret (h a ha)
end
theorem calls_wd {P : Program} {f : FuncId} {fn : Func} {c : Code} {n : Nat} {vs : List Value} {w : World} {R : Ending → World → Prop} (hf : P.funcs[f]? = some fn) (hb : fn.body = some c) (hn : fn.ntmps = n) (hle : Nat.ble vs.length n = true)
    (h : WD P n [] (bodyPostD P fn R) c (enum 0 vs) w) : Calls P f vs.toArray w R := by
  have hle := Nat.le_of_ble_eq_true hle
  refine calls_of_wp_defers hf hb (h _ ⟨?_, rfl, fun t v ht => ?_⟩)
  · simp [hn]; omega
  · obtain ⟨_, h2⟩ := look_enum vs 0 t v ht
    simp only [Nat.sub_zero] at h2
    have hlt : t < vs.length := (List.getElem?_eq_some_iff.1 h2).1
    rw [List.getElem?_eq_getElem hlt] at h2
    simp [Array.getElem?_append, hlt]
    simpa using h2
/-- What recover gives, and how the one that panics then stands. -/
def rcv : FrameMode → Value × FrameMode
  | .panicking ({ v, recovered := false, goexit := false } :: older) => (v, .panicking ({ v, recovered := true } :: older))
  | m => (.nilIface, m)
theorem recoverD_rcv {c : Frame} {cs : List Frame} {m : FrameMode} (h : c.mode = m) : recoverD (c :: cs) = some ((rcv m).1, { c with mode := (rcv m).2 } :: cs) ∨ (recoverD (c :: cs) = none ∧ rcv m = (.nilIface, m)) := by
  subst h
  cases c with
  | mk f1 t1 td df md kd ro =>
    match md with
    | .run => exact .inr ⟨rfl, rfl⟩
    | .returning => exact .inr ⟨rfl, rfl⟩
    | .panicking [] => exact .inr ⟨rfl, rfl⟩
    | .panicking ({ v := v, recovered := false, goexit := false } :: older) => exact .inl rfl
    | .panicking ({ v := v, recovered := true, goexit := g } :: older) => exact .inr ⟨rfl, rfl⟩
    | .panicking ({ v := v, recovered := false, goexit := true } :: older) => exact .inr ⟨rfl, rfl⟩
theorem callsD_cw {P : Program} {f : FuncId} {fn : Func} {id n t6 t3 : Nat} {y : Code} {ty : TypeId} {ps ps' : String} {af af' : Array Edge} {vs : List Value} {u : FrameMode} {w : World} {R : Ending → World → Prop} (hf : P.funcs[f]? = some fn)
    (hb : fn.body = some (.seq (.region id [⟨some t6, .call { callee := .builtin .recover, args := #[], argTypes := #[] }, ty, ps, af, none⟩, ⟨some t3, .assign (.tmp t6), ty, ps', af', none⟩].toArray false) y)) (hn : fn.ntmps = n) (hle : Nat.ble vs.length n = true) (h6 : Nat.blt t6 n = true) (h3 : Nat.blt t3 n = true)
    (h : CW P n [] (FQ P fn n R) y (pt (some t3) (rcv u).1 (pt (some t6) (rcv u).1 (enum 0 vs))) w) : CallsD P f vs.toArray u w fun e u' w' => u' = (rcv u).2 ∧ R e w' := by
  refine callsD_of_wpS hf hb fun c₀ cs hu => wpS_seq (wpS_region ?_)
  have hle := Nat.le_of_ble_eq_true hle
  have h6 := Nat.lt_of_lt_of_le (Nat.lt_succ_self t6) (Nat.le_of_ble_eq_true h6)
  have h3 := Nat.lt_of_lt_of_le (Nat.lt_succ_self t3) (Nat.le_of_ble_eq_true h3)
  have hfit : Fits n [] (enum 0 vs) { tmps := vs.toArray ++ Array.replicate (fn.ntmps - vs.toArray.size) undef, defers := [] } := by
    refine ⟨?_, rfl, fun t v ht => ?_⟩
    · simp [hn]; omega
    · obtain ⟨_, h2⟩ := look_enum vs 0 t v ht
      simp only [Nat.sub_zero] at h2
      have hlt : t < vs.length := (List.getElem?_eq_some_iff.1 h2).1
      rw [List.getElem?_eq_getElem hlt] at h2
      simp [Array.getElem?_append, hlt]
      simpa using h2
  generalize ({ tmps := vs.toArray ++ Array.replicate (fn.ntmps - vs.toArray.size) undef, defers := [] } : Act) = a at hfit ⊢
  have hf1 : Fits n [] (pt (some t6) (rcv u).1 (enum 0 vs)) (a.put (some t6) (rcv u).1) := hfit.put _ (by simp [dstOk]; omega)
  have hf2 := hf1.put (d := some t3) (rcv u).1 (by simp [dstOk]; omega)
  have key : ∀ cs', cs' = { c₀ with mode := (rcv u).2 } :: cs → y.wpS P (bodyPostS P fn c₀ cs fun e u' w' => u' = (rcv u).2 ∧ R e w') ((a.put (some t6) (rcv u).1).put (some t3) (rcv u).1) cs' w := by
    intro cs' hcs
    subst hcs
    refine wpS_of_wp (wp_mono (h _ hf2) fun e a' w' ⟨E', g1, g2⟩ => ?_)
    cases e with
    | normal => obtain ⟨v, k1, k2⟩ := g2; exact ⟨g1.dfr, _, rfl, v, k1 _ g1, rfl, k2⟩
    | ret => obtain ⟨v, k1, k2⟩ := g2; exact ⟨g1.dfr, _, rfl, v, k1 _ g1, rfl, k2⟩
    | panic ch => exact ⟨g1.dfr, _, rfl, rfl, g2⟩
    | _ => exact g2.elim
  have hl6 : look t6 (pt (some t6) (rcv u).1 (enum 0 vs)) = some (rcv u).1 := look_cons_self _ _ _
  have e2 : ∀ w, (execOp (a.put (some t6) (rcv u).1).eval ⟨some t3, .assign (.tmp t6), ty, ps', af', none⟩).run P w = .ok (.value (rcv u).1) w := by
    intro w
    have := hf1.ev (x := .tmp t6) hl6
    simp [execOp, this]
  have e1 : ∀ w, (execOp a.eval ⟨some t6, .call { callee := .builtin .recover, args := #[], argTypes := #[] }, ty, ps, af, none⟩).run P w = .ok .recover w := by
    intro w
    simp [execOp, resolve, invoke, builtin]
  show wpOpsS P _ _ [0, 1] a (c₀ :: cs) w
  simp only [wpOpsS, List.getElem?_toArray, List.getElem?_cons_zero, List.getElem?_cons_succ, Region.wanted, if_true, e1]
  rcases recoverD_rcv (cs := cs) hu with hr | ⟨hr, hr2⟩
  · simp only [hr, e2, Oper.upon]
    exact key _ rfl
  · have hcs : c₀ :: cs = { c₀ with mode := (rcv u).2 } :: cs := by rw [hr2]; subst hu; rfl
    have k := key _ hcs
    have hv : (rcv u).1 = .nilIface := by rw [hr2]
    rw [hv] at k e2
    simp only [hr, e2, Oper.upon]
    exact k
theorem Fits.undfr {n : Nat} {D : List Deferred} {E : En} {a : Act} (h : Fits n D E a) : Fits n [] E { a with defers := [] } := ⟨h.size, rfl, h.vals⟩
end Go.Proofs.YtmkijgmfefkgeaaGreatDoor
