/- Rows whose elements are changed in place; rows of rows; how the nodes are laid. -/
import Derived.Test.YtmkijgmfefkgeaaGreatDoorT
import Derived.Laws.Small
set_option autoImplicit false
set_option linter.unusedVariables false
set_option linter.unusedSimpArgs false
namespace Go.Proofs.YtmkijgmfefkgeaaGreatDoor
open Go
section
variable {P : Program} {n : Nat} {D : List Deferred} {E : En} {ty : TypeId} {g w : World} {L : List SP} {α : Type} {e : TypeId} {f : α → List Value} {sz : Nat} {A : Option Addr} {c : Nat} {l : List α}
theorem mx {C : World → Prop} {t u : TypeId} {x y : Operand} {i j : Int} (hx : ev E x = some (.int .i64 i)) (hy : ev E y = some (.int .i64 j)) : RV P n D C E (.call { callee := .builtin .max, args := #[x, y], argTypes := #[t, u] }) ty (.int .i64 (max i j)) := fun a w ha _ => by
  have h := run_max_int2 (P := P) (w := w) #[t, u] ty .i64 .i64 i j
  have e : (if j > i then j else i) = max i j := by rw [Int.max_def]; split <;> split <;> omega
  rw [e] at h
  simp [execOp, ha.ev hx, ha.ev hy, resolve, invoke, builtin, h]
theorem ixR {t e' bytes : Nat} {x y : Operand} {k : IntKind} {i : Int} (j : Nat) (ht : slN P t = some (e', sz, bytes)) (i0 : Nat) (hi : L[i0]? = some (Rw e f sz A c l)) (hx : ev E x = some (.slice A l.length c)) (hy : ev E y = some (.int k i)) (hj : i = (j : Int)) (h1 : j < l.length) :
    RV P n D (Own g L) E (.indexAddr t x y) ty (.pointer (some (elAddr A sz j))) := fun a w ha H => ix j ht 0 rfl hx hy hj h1 a w ha (H.fr i0 hi).rw_els
theorem ldRf {t : TypeId} {x : Operand} {j off : Nat} {z : α} {v : Value} (ht : scB P t = true) (i0 : Nat) (hi : L[i0]? = some (Rw e f sz A c l)) (hx : ev E x = some (.pointer (some (elFld A sz j off)))) (hz : l[j]? = some z) (hv : (f z)[off]? = some v) :
    RV P n D (Own g L) E (.load t x) ty v := fun a w ha H => ldEf ht 0 rfl hx hz hv a w ha (H.fr i0 hi).rw_els
theorem ldR1 {t : TypeId} {x : Operand} {j : Nat} {z : α} {v : Value} (ht : scB P t = true) (i0 : Nat) (hi : L[i0]? = some (Rw e f sz A c l)) (hx : ev E x = some (.pointer (some (elAddr A sz j)))) (hz : l[j]? = some z) (hv : (f z)[0]? = some v) :
    RV P n D (Own g L) E (.load t x) ty v := fun a w ha H => ldE1 ht 0 rfl hx hz hv a w ha (H.fr i0 hi).rw_els
theorem ldR {t : TypeId} {x : Operand} {j : Nat} {z : α} (ht : agN P t = some sz) (i0 : Nat) (hi : L[i0]? = some (Rw e f sz A c l)) (hx : ev E x = some (.pointer (some (elAddr A sz j)))) (hz : l[j]? = some z) :
    RV P n D (Own g L) E (.load t x) ty (.agg (f z).toArray) := fun a w ha H => ldE ht 0 rfl hx hz a w ha (H.fr i0 hi).rw_els
theorem Own.rw_cells (H : Own g (Rw e f sz A c l :: L) w) : (∀ x ∈ l, (f x).length = sz ∧ ones (f x) = true) ∧ (l = [] ∨ ∃ b cur, A = some ⟨b, 0, none⟩ ∧ l.length ≤ c ∧ c ≤ maxLen ∧ cur.length = c * sz ∧ cur.take (l.length * sz) = l.flatMap f ∧ Own g (bk b e cur :: L) w) := by
  obtain ⟨k, ⟨h, r, hd, hj, ⟨h1, h2⟩, hr⟩, hs⟩ := H.heap
  refine ⟨h1, ?_⟩
  rcases h2 with ⟨_, _, h2⟩ | ⟨b, cur, hA, hb, h3, h4, h5, h6⟩
  · exact .inl h2
  · refine .inr ⟨b, cur.toList, hA, h3, h4, by simpa using h5, h6, H.os, H.tape, H.output, fun q => if q = b then some (.cells cur e (0, 0)) else r q, ⟨fun q => if q = b then some (.cells cur e (0, 0)) else none, r, fun q => ?_, fun q => ?_, fun q => by simp, hr⟩, hs.le fun q o hq => ?_⟩
    · by_cases e : q = b
      · right; subst e; rcases hd q with h | h
        · rw [h] at hb; cases hb
        · exact h
      · left; simp [e]
    · by_cases e : q = b <;> simp [e]
    · by_cases e : q = b
      · subst e
        simp only [if_true] at hq
        cases hq
        rw [hj, hb]; rfl
      · simp only [e, if_false] at hq
        rw [hj]
        rcases hd q with h | h
        · simp [h, hq]
        · rw [h] at hq; cases hq
theorem flat_set {o : Nat} {v : Value} {z' : α} : ∀ {l : List α}, (∀ x ∈ l, (f x).length = sz) → ∀ {j : Nat} {z : α}, l[j]? = some z → f z' = (f z).set o v → o < sz → (l.set j z').flatMap f = (l.flatMap f).set (j * sz + o) v
  | [], _, j, z, hz, _, _ => by simp at hz
  | y :: r, h, 0, z, hz, hf, ho => by
    simp only [List.getElem?_cons_zero, Option.some.injEq] at hz
    subst hz
    rw [List.set_cons_zero, List.flatMap_cons, List.flatMap_cons, hf, Nat.zero_mul, Nat.zero_add, List.set_append_left _ _ (by rw [h y (by simp)]; exact ho)]
  | y :: r, h, j + 1, z, hz, hf, ho => by
    have hy := h y (by simp)
    rw [List.set_cons_succ, List.flatMap_cons, List.flatMap_cons, flat_set (l := r) (fun x hx => h x (by simp [hx])) (by simpa using hz) hf ho, List.set_append_right _ _ (by rw [hy, Nat.add_mul]; omega)]
    congr 2
    rw [hy, Nat.add_mul]
    omega
end
section
variable {P : Program} {n : Nat} {D : List Deferred} {ops : Array Oper} {K : En → World → Prop} {X : List PanicEntry → World → Prop} {E : En} {w : World} {rest : List Oper} {d : Option Tmp} {op : Op} {ty : TypeId} {ps : String} {af : Array Edge} {g : World} {L : List SP}
theorem st_ste {α : Type} {f : α → List Value} {e t sz j o c : Nat} {x y : Operand} {A : Option Addr} {l : List α} {z z' : α} {v : Value} (i : Nat) (H : Own g L w) (hx : ev E x = some (.pointer (some (elFld A sz j o)))) (hy : ev E y = some v) (hi : L[i]? = some (Rw e f sz A c l))
    (hsz : ((P.info? t).map (·.size)) = some 1) (hv : v.cells.toList = [v]) (h1 : ones [v] = true) (hz : l[j]? = some z) (hz' : f z' = (f z).set o v) (ho : o < sz)
    (h : ∀ w', Own g (Rw e f sz A c (l.set j z') :: L.eraseIdx i) w' → WL P n D ops K X rest (pt d undef E) w') : WL P n D ops K X (⟨d, .store t x y, ty, ps, af, none⟩ :: rest) E w := by
  obtain ⟨hf, hc⟩ := (H.fr i hi).rw_cells
  rcases hc with rfl | ⟨b, cur, rfl, h3, h4, h5, h6, H'⟩
  · simp at hz
  · have hj : j < l.length := (List.getElem?_eq_some_iff.1 hz).1
    have hjs : (j + 1) * sz ≤ l.length * sz := Nat.mul_le_mul_right _ hj
    have hls : l.length * sz ≤ c * sz := Nat.mul_le_mul_right _ h3
    rw [Nat.add_mul] at hjs
    have hx' : ev E x = some (.pointer (some ⟨b, 0 + j * sz + o, none⟩)) := by rw [hx, elFld, elAddr, add_at, add_at]
    refine st_st 0 H' hx' hy rfl hsz hv rfl h1 (Nat.ble_eq_true_of_le (by omega)) fun w' H'' => h w' (H''.mono fun hh hb => ?_)
    refine ⟨fun q hq => ?_, .inr ⟨b, (cur.set (0 + j * sz + o) v).toArray, rfl, ?_, by simpa using h3, h4, by simpa using h5, ?_⟩⟩
    · rcases List.mem_or_eq_of_mem_set hq with hq | rfl
      · exact hf q hq
      · have := hf z (List.mem_of_getElem? hz)
        rw [hz']
        refine ⟨by simpa using this.1, ?_⟩
        have hm := ones_mem this.2
        have ho1 := ones_mem h1 v (by simp)
        have : ∀ (m : List Value), (∀ u ∈ m, one u = true) → ones m = true := by
          intro m
          induction m with
          | nil => intro _; rfl
          | cons u r ih =>
            intro hu
            unfold ones
            rw [hu u (by simp)]
            exact ih fun y hy => hu y (by simp [hy])
        refine this _ fun u hu => ?_
        rcases List.mem_or_eq_of_mem_set hu with hu | rfl
        · exact hm u hu
        · exact ho1
    · rw [hb b]; simp [spl]
    · simp only [List.length_set]
      rw [List.take_set, h6, flat_set (fun x hx => (hf x hx).1) hz hz' ho, Nat.zero_add]
end
/-! rows of what each element owns -/
theorem Own.spread {g w : World} : ∀ {As L : List SP}, Own g (all As :: L) w → Own g (As ++ L) w
  | [], L, H => H.drop
  | A :: r, L, H => by
    have H1 := H.split
    have H2 := (Own.spread (As := r) (H1.fr 1 rfl))
    refine H2.perm ?_
    simp only [List.eraseIdx_cons_succ, List.eraseIdx_cons_zero, List.cons_append]
    exact List.perm_middle
theorem Own.gather {g w : World} : ∀ {As L : List SP}, Own g (As ++ L) w → Own g (all As :: L) w
  | [], L, H => H.emp_intro
  | A :: r, L, H => by
    have H1 : Own g (r ++ (A :: L)) w := H.perm (by
      rw [List.cons_append]
      exact List.perm_middle.symm)
    exact (((Own.gather H1).fr 1 rfl).join)
def PK {α : Type} (F : α → SP) (l : List α) : SP := all (l.map F)
section
variable {α : Type} {F : α → SP} {l : List α} {g w : World} {L : List SP}
theorem Own.pk_get {i : Nat} {m : α} (H : Own g (PK F l :: L) w) (h : l[i]? = some m) : Own g (F m :: PK F (l.eraseIdx i) :: L) w := by
  have H1 := Own.spread H
  have hi : i < l.length := (List.getElem?_eq_some_iff.1 h).1
  have H2 := H1.fr i (A := F m) (by rw [List.getElem?_append_left (by simpa using hi)]; simp [h])
  rw [List.eraseIdx_append_of_lt_length (by simpa using hi), show (l.map F).eraseIdx i = (l.eraseIdx i).map F by rw [List.eraseIdx_eq_take_drop_succ, List.eraseIdx_eq_take_drop_succ]; simp [List.map_take, List.map_drop]] at H2
  refine ((Own.gather (As := (l.eraseIdx i).map F) (L := F m :: L) ?_).fr 1 rfl)
  refine H2.perm ?_
  exact List.perm_middle.symm
theorem Own.pk_put {i : Nat} {m : α} (H : Own g (F m :: PK F (l.eraseIdx i) :: L) w) (hi : i < l.length) : Own g (PK F (l.set i m) :: L) w := by
  have H1 := Own.spread (H.fr 1 rfl)
  refine Own.gather (H1.perm ?_)
  have e : (l.set i m) = l.take i ++ m :: l.drop (i + 1) := List.set_eq_take_append_cons_drop.trans (by simp [hi])
  have e2 : l.eraseIdx i = l.take i ++ l.drop (i + 1) := List.eraseIdx_eq_take_drop_succ ..
  rw [e, e2]
  simp only [List.eraseIdx_cons_zero, List.map_append, List.map_cons, List.append_assoc, List.cons_append]
  refine List.Perm.append_left _ ?_
  exact List.perm_middle
theorem Own.pk_push {m : α} (H : Own g (F m :: PK F l :: L) w) : Own g (PK F (l ++ [m]) :: L) w := by
  have H1 := Own.spread (H.fr 1 rfl)
  refine Own.gather (H1.perm ?_)
  simp
theorem Own.pk_nil (H : Own g L w) : Own g (PK F [] :: L) w := H.emp_intro
end
theorem Own.pfo_cons {g w : World} {L : List SP} {d : Nd} {k r : Fo} {qs : List Nat} (H : Own g (PFo (.cons d k r) qs :: L) w) : ∃ b ps', qs = b :: ps' ∧ Own g (PFo (.one ⟨d, k⟩) [b] :: PFo r ps' :: L) w := by
  obtain ⟨b, H⟩ := H.ex
  obtain ⟨ps', H⟩ := H.ex
  obtain ⟨A, H⟩ := H.ex
  obtain ⟨c, H⟩ := H.ex
  obtain ⟨us, H⟩ := H.ex
  obtain ⟨he, H⟩ := H.split.pr
  have H1 := H.split
  have H2 := (H1.fr 1 rfl).split
  have H3 := (H2.fr 1 rfl).split
  have H4 : Own g (bk b 151 (ndc d A us.length c) :: Rw 131 ptrc 1 A c us :: PFo k us :: PFo r ps' :: L) w := ((H3.fr 2 rfl).fr 3 rfl)
  exact ⟨b, ps', he, Own.tr d k H4 rfl⟩
theorem Own.pfo_end {g w : World} {L : List SP} {qs : List Nat} (H : Own g (PFo .nil qs :: L) w) : qs = [] := H.pr.1
end Go.Proofs.YtmkijgmfefkgeaaGreatDoor
