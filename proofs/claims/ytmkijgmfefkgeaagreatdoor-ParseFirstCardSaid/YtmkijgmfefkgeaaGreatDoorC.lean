/- Regions that draw their order: those that only read; and those whose operations come up in one order that is told, the reading ones first. No condition. -/
import Derived.Test.YtmkijgmfefkgeaaGreatDoorB
import Derived.OrdersHeld
import Derived.Still
set_option autoImplicit false
set_option linter.unusedVariables false
set_option linter.unusedSimpArgs false
namespace Go.Proofs.YtmkijgmfefkgeaaGreatDoor
open Go
/-! ### 1. Regions that only read -/
def WQ (P : Program) (n : Nat) (D : List Deferred) (ops : Array Oper) (C : World → Prop) (K : En → Prop) (l : List Oper) (E : En) : Prop :=
  opsOk n l = true → ∀ a, Fits n D E a → wpQuiet P ops C (fun a' => ∃ E', Fits n D E' a' ∧ K E') l a
section
variable {P : Program} {n : Nat} {D : List Deferred} {ops : Array Oper} {C : World → Prop} {K : En → Prop} {E : En} {rest : List Oper} {d : Option Tmp} {op : Op} {ty : TypeId} {ps : String} {af : Array Edge}
theorem wq_nil (h : K E) : WQ P n D ops C K [] E := fun _ a ha => ⟨E, ha, h⟩
theorem sq {v : Value} (hv : RV P n D C E op ty v) (h : WQ P n D ops C K rest (pt d v E)) : WQ P n D ops C K (⟨d, op, ty, ps, af, none⟩ :: rest) E := by
  intro hok a ha
  obtain ⟨hd, hr⟩ := ok_cons hok
  unfold wpQuiet
  rw [if_pos (by simp [Region.wanted])]
  refine ⟨v, fun w hw => ?_, h hr _ (ha.put v hd)⟩
  have e : (execOp a.eval ⟨d, op, ty, ps, af, none⟩).run P w = .ok (.value v) w := hv a w ha hw
  unfold Oper.quietAt
  rw [e]
  exact ⟨rfl, rfl⟩
theorem sq_call {f : FuncId} {args : List Operand} {tys : Array TypeId} {vs : List Value} {v : Value} (hf : CF P f) (hx : evs E args = some vs) (hc : ∀ w, C w → Calls P f vs.toArray w (fun e w' => e = .returned v ∧ C w'))
    (h : WQ P n D ops C K rest (pt d v E)) : WQ P n D ops C K (⟨d, .call { callee := .value (.func f), args := args.toArray, argTypes := tys }, ty, ps, af, none⟩ :: rest) E := by
  intro hok a ha
  obtain ⟨hd, hr⟩ := ok_cons hok
  unfold wpQuiet
  rw [if_pos (by simp [Region.wanted])]
  refine ⟨v, fun w hw => ?_, h hr _ (ha.put v hd)⟩
  have e1 := ha.evs hx
  have e : (execOp a.eval ⟨d, .call { callee := .value (.func f), args := args.toArray, argTypes := tys }, ty, ps, af, none⟩).run P w = .ok (.enter f vs.toArray) w := by
    simp [execOp, resolve, Deferred.ofValue, Act.eval, invoke, e1, hf _ w]
  unfold Oper.quietAt
  rw [e]
  exact ⟨rfl, hc w hw⟩
theorem wq_case {l : List Oper} {t : Nat} {x : Bool} (ht : look t E = some (.bool x)) (h1 : x = true → WQ P n D ops C K l E) (h2 : x = false → WQ P n D ops C K l E) : WQ P n D ops C K l E := by cases x <;> simp_all
theorem qgon {j t : Nat} {b x : Bool} (hj : (ops[j]?).bind (·.dst) = some t) (ht : look t E = some (.bool x)) (hx : x = b) (h : WQ P n D ops C K (⟨d, op, ty, ps, af, none⟩ :: rest) E) :
    WQ P n D ops C K (⟨d, op, ty, ps, af, some (j, b)⟩ :: rest) E := by
  subst hx
  intro hok a ha
  have h1 := h hok a ha
  unfold wpQuiet at h1 ⊢
  rw [if_pos (by simp [Region.wanted])] at h1
  rw [if_pos (by rw [wanted_of ha rfl hj ht]; simp)]
  exact h1
theorem qgoffu {j t : Nat} {b : Bool} (hj : (ops[j]?).bind (·.dst) = some t) (ht : look t E = some undef) (h : WQ P n D ops C K rest (pt d undef E)) :
    WQ P n D ops C K (⟨d, op, ty, ps, af, some (j, b)⟩ :: rest) E := by
  intro hok a ha
  obtain ⟨hd, hr⟩ := ok_cons hok
  unfold wpQuiet
  rw [if_neg (by rw [wanted_u ha rfl hj ht]; simp)]
  exact h hr _ (ha.put undef hd)
theorem qgoff {j t : Nat} {b x : Bool} (hj : (ops[j]?).bind (·.dst) = some t) (ht : look t E = some (.bool x)) (hx : x = !b) (h : WQ P n D ops C K rest (pt d undef E)) :
    WQ P n D ops C K (⟨d, op, ty, ps, af, some (j, b)⟩ :: rest) E := by
  subst hx
  intro hok a ha
  obtain ⟨hd, hr⟩ := ok_cons hok
  unfold wpQuiet
  rw [if_neg (by rw [wanted_of ha rfl hj ht]; cases b <;> simp)]
  exact h hr _ (ha.put undef hd)
end
section
variable {P : Program} {n : Nat} {D : List Deferred} {Q : Exit → En → World → Prop} {E : En} {w : World}
theorem cw_quiet {id : Nat} {l : List Oper} {g : World} {L : List SP} (hm : P.follows .mixedOrders = true) (H : Own g L w) (hB : Region.lexB .any l.toArray = true) (hd : opsOk n l = true)
    (h : WQ P n D l.toArray (Own g L) (fun E' => ∀ w', Own g L w' → Q .normal E' w') l E) : CW P n D Q (.region id l.toArray true) E w := by
  intro a ha
  refine wp_mono (wp_region_quiet (Q := fun e a w => match e with | .normal => ∃ E', Fits n D E' a ∧ Q .normal E' w | _ => False) hm hB (C := Own g L) H.drew ?_) fun e a w hq => ?_
  · have h1 := h hd a ha
    have key : ∀ (l' : List Oper) (a : Act), wpQuiet P l.toArray (Own g L) (fun a' => ∃ E', Fits n D E' a' ∧ ∀ w', Own g L w' → Q .normal E' w') l' a →
        wpQuiet P l.toArray (Own g L) (fun a' => ∀ w', Own g L w' → ∃ E', Fits n D E' a' ∧ Q .normal E' w') l' a := by
      intro l'
      induction l' with
      | nil => exact fun a ⟨E', h1, h2⟩ w' hw' => ⟨E', h1, h2 w' hw'⟩
      | cons o r ih =>
        intro a h
        unfold wpQuiet at h ⊢
        by_cases hw : Region.wanted o (yielded l.toArray a.tmps) = true
        · rw [if_pos hw] at h ⊢
          obtain ⟨v, h1, h2⟩ := h
          exact ⟨v, h1, ih _ h2⟩
        · rw [if_neg hw] at h ⊢
          exact ih _ h
    simpa using key l a h1
  · cases e with
    | normal => exact hq
    | _ => exact hq.elim
end

/-! ### 2. Regions that come up in one order that is told; or, at some places, in one of two -/
inductive Sch where
  | e
  | q (i : Nat) (r : Sch)
  | a (i : Nat) (r : Sch)
  | b (i : Nat) (r : Sch) (j : Nat) (s : Sch)
section
variable (P : Program) (ops : Array Oper) (Q : Exit → Act → World → Prop) (S : World → Prop) (last : Nat)
/-- Whatever order is picked; S holds behind each operation but the last one. -/
def wpL : Nat → Array Bool → Act → World → Prop
  | 0, listed, a, w => Region.ready .any ops listed = [] ∧ Q .normal a w
  | k + 1, listed, a, w => (Region.ready .any ops listed = [] → Q .normal a w) ∧
    ∀ i ∈ Region.ready .any ops listed, wpOp P ops Q i (fun a' w' => (i = last ∨ S w') ∧ wpL k (listed.setIfInBounds i true) a' w') a w
def wpS : Sch → Act → World → Prop
  | .e, a, w => Q .normal a w
  | .q i r, a, w => ∃ o v, ops[i]? = some o ∧ YieldsIf P ops S o v a ∧ wpS r (a.put o.dst v) w
  | .a i r, a, w => wpOp P ops Q i (fun a' w' => (i = last ∨ S w') ∧ wpS r a' w') a w
  | .b i r j s, a, w => wpOp P ops Q i (fun a' w' => (i = last ∨ S w') ∧ wpS r a' w') a w ∧ wpOp P ops Q j (fun a' w' => (j = last ∨ S w') ∧ wpS s a' w') a w
end
def Sch.size : Sch → Nat
  | .e => 0
  | .q _ r => r.size + 1
  | .a _ r => r.size + 1
  | .b _ r _ _ => r.size + 1
def Sch.end : Sch → Bool
  | .e => true
  | _ => false
def schedB (ops : Array Oper) (last : Nat) : Sch → Array Bool → Bool
  | .e, listed => (Region.ready .any ops listed).isEmpty
  | .q i r, listed => i != last && (Region.ready .any ops listed).contains i && Region.free .any ops listed i &&
      (match ops[last]? with | some o => o.after.any fun e => Region.binds .any e && e.on == i | none => true) && schedB ops last r (listed.setIfInBounds i true)
  | .a i r, listed => (Region.ready .any ops listed == [i]) && (i != last || r.end) && schedB ops last r (listed.setIfInBounds i true)
  | .b i r j s, listed => (Region.ready .any ops listed == [i, j]) && (i != last || r.end) && (j != last || s.end) && (r.size == s.size) && schedB ops last r (listed.setIfInBounds i true) && schedB ops last s (listed.setIfInBounds j true)
section
variable {P : Program} {ops : Array Oper} {Q : Exit → Act → World → Prop} {S : World → Prop} {last : Nat}
theorem wpAny_of_L : ∀ (k : Nat) (listed : Array Bool) (a : Act) (w : World), wpL P ops Q S last k listed a w → wpAny P .any ops Q k listed a w
  | 0, _, _, _, h => h
  | k + 1, _, _, _, h => ⟨h.1, fun i hi => wpOp_mono (fun a' w' h' => wpAny_of_L k _ a' w' h'.2) (h.2 i hi)⟩
theorem wpL_first {i : Nat} {oi : Oper} {v : Value} (hi : ops[i]? = some oi) (hs : Region.noSelect ops = true) (hQ : ∀ c a w, Q (.panic c) (a.put oi.dst v) w → Q (.panic c) a w)
    (hw : ∀ o, ops[last]? = some o → ∃ e ∈ o.after, Region.binds .any e = true ∧ e.on = i) (hil : i ≠ last) :
    ∀ (k : Nat) (listed : Array Bool) (a : Act) (w : World),
      (∀ j oj, ops[j]? = some oj → j ≠ i → listed.getD j true = false → (∀ e ∈ oj.after, Region.binds .any e = true → e.on ≠ i) → oi.apart ops oj = true) →
      i ∈ Region.ready .any ops listed → YieldsIf P ops S oi v a → S w → wpL P ops Q S last k (listed.setIfInBounds i true) (a.put oi.dst v) w → wpL P ops Q S last (k + 1) listed a w := by
  intro k
  induction k with
  | zero =>
    intro listed a w hfree hr hy hS H
    constructor
    · intro h0; rw [h0] at hr; cases hr
    · intro j hj
      by_cases e : j = i
      · subst e; exact hy.wpOp hi hS ⟨.inr hS, H⟩
      · have h0 := ready_mono hj e
        rw [H.1] at h0; cases h0
  | succ k ih =>
    intro listed a w hfree hr hy hS H
    constructor
    · intro h0; rw [h0] at hr; cases hr
    · intro j hj
      by_cases e : j = i
      · subst e; exact hy.wpOp hi hS ⟨.inr hS, H⟩
      · obtain ⟨hun, oj, hoj, hall⟩ := mem_ready.1 hj
        have hilst : listed.getD i false = false := by
          have h0 := (mem_ready.1 hr).1
          rcases Nat.lt_or_ge i listed.size with h' | h'
          · simp [h'] at h0 ⊢; exact h0
          · simp [Array.getElem?_eq_none h'] at h0
        have hno : ∀ x ∈ oj.after, Region.binds .any x = true → x.on ≠ i := by
          intro x hx hb heq
          have h1 := hall x hx hb
          rw [heq, hilst] at h1; cases h1
        have hjl : j ≠ last := by
          rintro rfl
          obtain ⟨x, hx, hb, heq⟩ := hw oj hoj
          exact hno x hx hb heq
        have step := wpOp_putIf hoj (hfree j oj hoj e hun hno) (fun cs b => Region.noSelect_spec hs i oi cs b hi) (fun cs b => Region.noSelect_spec hs j oj cs b hoj) hQ hy (H.2 j (ready_mono hj e))
        refine wpOp_mono (fun a' w' ⟨hy', hS', H'⟩ => ?_) step
        have hS'' := hS'.resolve_left hjl
        refine ⟨.inr hS'', ih _ a' w' (fun m om hm hmi hmu hmn => hfree m om hm hmi ?_ hmn) (ready_mono hr (Ne.symm e)) hy' hS'' ?_⟩
        · by_cases hjm : j = m
          · subst hjm; exact hun
          · rwa [getD_set_ne true hjm] at hmu
        · rw [Array.setIfInBounds_comm _ _ e]; exact H'
theorem Sch.end_size {r : Sch} (h : r.end = true) : r = .e := by cases r <;> simp_all [Sch.end]
theorem wpL_of_S (hs : Region.noSelect ops = true) (hQ : ∀ c a w d v, Q (.panic c) (a.put d v) w → Q (.panic c) a w) : ∀ (sch : Sch) (listed : Array Bool) (a : Act) (w : World),
    schedB ops last sch listed = true → (S w ∨ sch = .e) → wpS P ops Q S last sch a w → wpL P ops Q S last sch.size listed a w
  | .e, listed, a, w, hB, _, h => ⟨by simpa [schedB] using hB, h⟩
  | .q i r, listed, a, w, hB, hS, h => by
    have hS : S w := hS.resolve_right (by simp)
    obtain ⟨o, v, ho, hy, hk⟩ := h
    simp only [schedB, Bool.and_eq_true, bne_iff_ne, ne_eq] at hB
    obtain ⟨⟨⟨⟨h1, h2⟩, h3⟩, h4⟩, h5⟩ := hB
    refine wpL_first ho hs (fun c a w => hQ c a w _ _) (fun ol hol => ?_) h1 r.size listed a w (Region.free_spec ho h3) (by simpa using h2) hy hS (wpL_of_S hs hQ r _ _ w h5 (.inl hS) hk)
    rw [hol] at h4
    obtain ⟨e, he, hb⟩ := Array.any_eq_true'.1 h4
    simp only [Bool.and_eq_true, beq_iff_eq] at hb
    exact ⟨e, he, hb.1, hb.2⟩
  | .a i r, listed, a, w, hB, _, h => by
    simp only [schedB, Bool.and_eq_true] at hB
    obtain ⟨⟨h1, h2⟩, h3⟩ := hB
    have h1 : Region.ready .any ops listed = [i] := by simpa using h1
    show wpL P ops Q S last (r.size + 1) listed a w
    refine ⟨fun h0 => absurd (h1.symm.trans h0) (by simp), fun j hj => ?_⟩
    rw [h1] at hj
    have hj : j = i := by simpa using hj
    subst hj
    refine wpOp_mono (fun a' w' ⟨hS', hk⟩ => ⟨hS', wpL_of_S hs hQ r _ a' w' h3 ?_ hk⟩) h
    rcases hS' with hl | hS'
    · subst hl
      exact .inr (Sch.end_size (by simpa using h2))
    · exact .inl hS'
  | .b i r j s, listed, a, w, hB, _, h => by
    simp only [schedB, Bool.and_eq_true, beq_iff_eq] at hB
    obtain ⟨⟨⟨⟨⟨h1, h2⟩, h2'⟩, hz⟩, h3⟩, h3'⟩ := hB
    show wpL P ops Q S last (r.size + 1) listed a w
    refine ⟨fun h0 => absurd (h1.symm.trans h0) (by simp), fun k hk => ?_⟩
    rw [h1] at hk
    have hk : k = i ∨ k = j := by simpa using hk
    rcases hk with rfl | rfl
    · refine wpOp_mono (fun a' w' ⟨hS', hk⟩ => ⟨hS', wpL_of_S hs hQ r _ a' w' h3 ?_ hk⟩) h.1
      rcases hS' with hl | hS'
      · subst hl
        exact .inr (Sch.end_size (by simpa using h2))
      · exact .inl hS'
    · rw [hz]
      refine wpOp_mono (fun a' w' ⟨hS', hk⟩ => ⟨hS', wpL_of_S hs hQ s _ a' w' h3' ?_ hk⟩) h.2
      rcases hS' with hl | hS'
      · subst hl
        exact .inr (Sch.end_size (by simpa using h2'))
      · exact .inl hS'
end

def WS (P : Program) (n : Nat) (D : List Deferred) (ops : Array Oper) (K : En → World → Prop) (X : List PanicEntry → World → Prop) (S : World → Prop) (last : Nat) (sch : Sch) (E : En) (w : World) : Prop :=
  ∀ a, Fits n D E a → wpS P ops (LQ n D K X) S last sch a w
def Keep (g : World) (As : List SP) (w : World) : Prop := ∃ L, Own g (As ++ L) w
section
variable {P : Program} {n : Nat} {D : List Deferred} {ops : Array Oper} {K : En → World → Prop} {X : List PanicEntry → World → Prop} {S : World → Prop} {last : Nat} {r s : Sch} {E : En} {w : World}
theorem Fits.put_nil {a : Act} {d : Option Tmp} {v : Value} (h : Fits n D [] (a.put d v)) : Fits n D [] a := by
  cases d with
  | none => exact h
  | some d => exact ⟨by have := h.size; simpa [Act.put] using this, h.dfr, fun t v ht => by cases ht⟩
theorem cw_sched {Q : Exit → En → World → Prop} {id : Nat} {l : List Oper} {g : World} {L : List SP} (S : World → Prop) (last : Nat) (sch : Sch) (hm : P.follows .mixedOrders = true) (H : Own g L w) (hS : ∀ w, Own g L w → S w)
    (hs : Region.noSelect l.toArray = true) (hB : schedB l.toArray last sch (Array.replicate l.toArray.size false) = true) (hn : sch.size = l.toArray.size)
    (h : ∀ w', Own g L w' → WS P n D l.toArray (fun E w => Q .normal E w) (fun c w => Q (.panic c) [] w) S last sch E w') : CW P n D Q (.region id l.toArray true) E w := by
  intro a ha
  have h1 := wpL_of_S (P := P) (ops := l.toArray) (Q := LQ n D (fun E w => Q .normal E w) (fun c w => Q (.panic c) [] w)) (S := S) (last := last) hs (fun c a w d v hq => ⟨hq.1.put_nil, hq.2⟩)
    sch _ a _ hB (.inl (hS _ H.drew)) (h _ H.drew a ha)
  rw [hn] at h1
  refine wp_mono (wp_region_any hm (wpAny_of_L _ _ _ _ h1)) fun e a' w' hq => ?_
  cases e with
  | normal => exact hq
  | panic c => exact ⟨[], hq.1, hq.2⟩
  | _ => exact hq.elim
theorem ws_nil (h : K E w) : WS P n D ops K X S last .e E w := fun a ha => ⟨E, ha, h⟩
variable {i : Nat} {d : Option Tmp} {op : Op} {ty : TypeId} {ps : String} {af : Array Edge}
/-- A reading one. -/
theorem sw {v : Value} (ho : ops[i]? = some ⟨d, op, ty, ps, af, none⟩) (hd : dstOk n d = true) (hv : RV P n D S E op ty v) (h : WS P n D ops K X S last r (pt d v E) w) : WS P n D ops K X S last (.q i r) E w := fun a ha =>
  ⟨_, v, ho, .inl ⟨by simp [Region.wanted], fun w hw => hv a w ha hw⟩, h _ (ha.put v hd)⟩
theorem ws_case {t : Nat} {x : Bool} (ht : look t E = some (.bool x)) (h1 : x = true → WS P n D ops K X S last r E w) (h2 : x = false → WS P n D ops K X S last r E w) : WS P n D ops K X S last r E w := by cases x <;> simp_all
theorem swon {j t : Nat} {b x : Bool} {v : Value} (ho : ops[i]? = some ⟨d, op, ty, ps, af, some (j, b)⟩) (hd : dstOk n d = true) (hj : (ops[j]?).bind (·.dst) = some t) (ht : look t E = some (.bool x)) (hx : x = b) (hv : RV P n D S E op ty v)
    (h : WS P n D ops K X S last r (pt d v E) w) : WS P n D ops K X S last (.q i r) E w := fun a ha => by
  subst hx
  exact ⟨_, v, ho, .inl ⟨by rw [wanted_of ha rfl hj ht]; simp, fun w hw => hv a w ha hw⟩, h _ (ha.put v hd)⟩
theorem swoffu {j t : Nat} {b : Bool} (ho : ops[i]? = some ⟨d, op, ty, ps, af, some (j, b)⟩) (hd : dstOk n d = true) (hj : (ops[j]?).bind (·.dst) = some t) (ht : look t E = some undef)
    (h : WS P n D ops K X S last r (pt d undef E) w) : WS P n D ops K X S last (.q i r) E w := fun a ha =>
  ⟨_, undef, ho, .inr ⟨wanted_u ha rfl hj ht, rfl⟩, h _ (ha.put undef hd)⟩
theorem swoff {j t : Nat} {b x : Bool} (ho : ops[i]? = some ⟨d, op, ty, ps, af, some (j, b)⟩) (hd : dstOk n d = true) (hj : (ops[j]?).bind (·.dst) = some t) (ht : look t E = some (.bool x)) (hx : x = !b)
    (h : WS P n D ops K X S last r (pt d undef E) w) : WS P n D ops K X S last (.q i r) E w := fun a ha => by
  subst hx
  exact ⟨_, undef, ho, .inr ⟨by rw [wanted_of ha rfl hj ht]; cases b <;> simp, rfl⟩, h _ (ha.put undef hd)⟩
theorem wp_Q {o : Oper} {a : Act} {w : World} {K1 : Act → World → Prop} {Q Q' : Exit → Act → World → Prop} (hq : ∀ c a w, Q (.panic c) a w → Q' (.panic c) a w) (hout : ∀ a w, ¬ Q .outgrown a w) (h : o.wp P a w K1 Q) : o.wp P a w K1 Q' := by
  unfold Oper.wp at *
  generalize (execOp a.eval o).run P w = res at *
  match res with
  | .ok (.value v) w' => exact h
  | .ok .skip w' => exact h
  | .ok (.defer d) w' => exact h
  | .ok (.enter f args) w' =>
    rw [Oper.upon_enter] at *
    refine h.mono fun e w'' hh => ?_
    cases e with
    | returned v => exact hh
    | panicked c => exact hq _ _ _ hh
    | outgrown => obtain ⟨a', w3, h3⟩ := hh; exact absurd h3 (hout _ _)
  | .ok (.row row args) w' => exact h
  | .halt (.panic v) w' => exact hq _ _ _ h
  | .ok (.spawn _) _ | .ok (.comm ..) _ | .ok .recover _ | .ok (.sleep _) _ | .ok (.alone ..) _ | .ok (.timer _) _ | .ok .collect _ | .ok (.watch _) _ | .ok (.coroswitch ..) _ | .ok (.newcoro ..) _ | .ok (.stack ..) _ | .ok .numGoroutine _ | .ok (.round ..) _ | .ok (.callThen ..) _ => exact h.elim
  | .halt (.exit _) _ | .halt (.fatal _) _ | .halt (.throw _) _ | .halt (.unsupported _) _ | .halt (.stuck _) _ | .halt .goexit _ | .halt .blocked _ | .halt .waiting _ => exact h.elim
/-- One that acts: it is walked as one of a list of one. -/
theorem sa (ho : ops[i]? = some ⟨d, op, ty, ps, af, none⟩) (hd : dstOk n d = true) (h : WL P n D ops (fun E' w' => (i = last ∨ S w') ∧ WS P n D ops K X S last r E' w') X [⟨d, op, ty, ps, af, none⟩] E w) :
    WS P n D ops K X S last (.a i r) E w := by
  intro a ha
  have h1 := h (by simp [opsOk, hd]) a ha
  unfold wpList at h1
  rw [if_pos (by simp [Region.wanted])] at h1
  unfold wpS wpOp
  simp only [ho]
  rw [if_pos (by simp [Region.wanted])]
  rcases h1 with h1 | ⟨_, a0, w0, h1⟩
  · refine .inl (wp_Q (fun c a w hq => hq) (fun a w h => h) (Oper.wp_mono (fun a' w' hk => ?_) h1))
    obtain ⟨E', hf, hS, hw⟩ := hk
    exact ⟨hS, hw a' hf⟩
  · exact h1.elim
theorem saon {j t : Nat} {b x : Bool} (ho : ops[i]? = some ⟨d, op, ty, ps, af, some (j, b)⟩) (hd : dstOk n d = true) (hj : (ops[j]?).bind (·.dst) = some t) (ht : look t E = some (.bool x)) (hx : x = b)
    (h : WL P n D ops (fun E' w' => (i = last ∨ S w') ∧ WS P n D ops K X S last r E' w') X [⟨d, op, ty, ps, af, none⟩] E w) : WS P n D ops K X S last (.a i r) E w := by
  subst hx
  intro a ha
  have h1 := h (by simp [opsOk, hd]) a ha
  unfold wpList at h1
  rw [if_pos (by simp [Region.wanted])] at h1
  unfold wpS wpOp
  simp only [ho]
  rw [if_pos (by rw [wanted_of ha rfl hj ht]; simp)]
  rcases h1 with h1 | ⟨_, a0, w0, h1⟩
  · refine .inl (wp_Q (fun c a w hq => hq) (fun a w h => h) (Oper.wp_mono (fun a' w' hk => ?_) h1))
    obtain ⟨E', hf, hS, hw⟩ := hk
    exact ⟨hS, hw a' hf⟩
  · exact h1.elim
theorem saoff {j t : Nat} {b x : Bool} (ho : ops[i]? = some ⟨d, op, ty, ps, af, some (j, b)⟩) (hd : dstOk n d = true) (hj : (ops[j]?).bind (·.dst) = some t) (ht : look t E = some (.bool x)) (hx : x = !b)
    (hS : i = last ∨ S w) (h : WS P n D ops K X S last r (pt d undef E) w) : WS P n D ops K X S last (.a i r) E w := by
  subst hx
  intro a ha
  unfold wpS wpOp
  simp only [ho]
  rw [if_neg (by rw [wanted_of ha rfl hj ht]; cases b <;> simp)]
  exact ⟨hS, h _ (ha.put undef hd)⟩
theorem saoffu {j t : Nat} {b : Bool} (ho : ops[i]? = some ⟨d, op, ty, ps, af, some (j, b)⟩) (hd : dstOk n d = true) (hj : (ops[j]?).bind (·.dst) = some t) (ht : look t E = some undef)
    (hS : i = last ∨ S w) (h : WS P n D ops K X S last r (pt d undef E) w) : WS P n D ops K X S last (.a i r) E w := by
  intro a ha
  unfold wpS wpOp
  simp only [ho]
  rw [if_neg (by rw [wanted_u ha rfl hj ht]; simp)]
  exact ⟨hS, h _ (ha.put undef hd)⟩
theorem sb {j : Nat} (h1 : WS P n D ops K X S last (.a i r) E w) (h2 : WS P n D ops K X S last (.a j s) E w) : WS P n D ops K X S last (.b i r j s) E w := fun a ha => ⟨h1 a ha, h2 a ha⟩
theorem ks {g : World} {As : List SP} {v : Value} (h : ∀ L', RV P n D (Own g (As ++ L')) E op ty v) : RV P n D (Keep g As) E op ty v := fun a w ha ⟨L', hw⟩ => h L' a w ha hw
end
end Go.Proofs.YtmkijgmfefkgeaaGreatDoor
