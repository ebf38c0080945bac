/- More steps: values that are built, rows that are appended to, cuts of strings, arrays that are read. No condition. -/
import Derived.Test.YtmkijgmfefkgeaaGreatDoorC
import Derived.Test.YtmkijgmfefkgeaaGreatDoorS
import Derived.Great.BuildSlice
import Derived.Laws.StructEq
import Derived.Laws.DeepStrings4
import Derived.Laws.Slices
import Derived.Maps.AppendAt
import Derived.Laws.Pointers
set_option autoImplicit false
set_option linter.unusedVariables false
set_option linter.unusedSimpArgs false
namespace Go.Proofs.YtmkijgmfefkgeaaGreatDoor
open Go
/-! ### 1. Values that are built -/
def plL (P : Program) : List Field → Option (List (Nat × Nat))
  | [] => some []
  | f :: r => match P.info? f.type, plL P r with
    | some i, some l => some ((f.offset, i.size) :: l)
    | _, _ => none
def plN (P : Program) (t : TypeId) : Option (List (Nat × Nat)) := match P.underlying t with
  | some (.struct fs) => plL P fs.toList
  | _ => none
def evp (E : En) : List (Nat × Operand) → Option (List (Nat × Value))
  | [] => some []
  | (i, x) :: r => match ev E x with
    | some v => match evp E r with
      | some l => some ((i, v) :: l)
      | none => none
    | none => none
def fillL (pl : Nat → Option (Nat × Nat)) (z : List Value) : List (Nat × Value) → Option (List Value)
  | [] => some z
  | (i, v) :: r => match pl i with
    | some (off, size) => match Nat.beq v.cells.toList.length size with
      | true => match Nat.ble (off + size) z.length with
        | true => fillL pl (spl z off v.cells.toList) r
        | false => none
      | false => none
    | none => none
theorem spl_length : ∀ (vs : List Value) (l : List Value) (off : Nat), (spl l off vs).length = l.length
  | [], l, off => rfl
  | v :: r, l, off => by rw [spl, spl_length r]; simp
theorem spl_fold : ∀ (vs : List Value) (k : Nat) (l : List Value) (off : Nat), ((vs.zipIdx k).foldl (fun cs (c, j) => cs.setIfInBounds (off + j) c) l.toArray) = (spl l (off + k) vs).toArray
  | [], k, l, off => by simp [spl]
  | v :: r, k, l, off => by
    simp only [List.zipIdx_cons, List.foldl_cons, List.setIfInBounds_toArray]
    rw [spl_fold r (k + 1)]
    simp [spl, Nat.add_assoc]
theorem fill_L (pl : Nat → Option (Nat × Nat)) : ∀ (ps : List (Nat × Value)) (z cs : List Value), fillL pl z ps = some cs → Instr.fill pl z.toArray ps = some cs.toArray
  | [], z, cs, h => by simp only [fillL, Option.some.injEq] at h; subst h; rfl
  | (i, v) :: r, z, cs, h => by
    unfold fillL at h
    split at h
    · rename_i off size hp
      split at h
      · rename_i h1
        split at h
        · rename_i h2
          have e1 : v.cells.size = size := by have := Nat.eq_of_beq_eq_true h1; simpa using this
          have e2 : off + size ≤ z.length := Nat.le_of_ble_eq_true h2
          have h3 : ¬ (v.cells.size ≠ size || decide (off + v.cells.size > z.toArray.size)) = true := by simp [e1]; omega
          unfold Instr.fill
          simp only [hp]
          rw [if_neg h3, ← fill_L pl r _ _ h]
          congr 1
          rw [← Array.foldl_toList, Array.toList_zipIdx, spl_fold]
          simp
        · cases h
      · cases h
    · cases h
theorem evp_map {n : Nat} {D : List Deferred} {E : En} {a : Act} (ha : Fits n D E a) : ∀ {ps : List (Nat × Operand)} {vs : List (Nat × Value)}, evp E ps = some vs → ps.map (fun (i, x) => (i, a.eval x)) = vs
  | [], vs, h => by simp only [evp, Option.some.injEq] at h; subst h; rfl
  | (i, x) :: r, vs, h => by
    unfold evp at h
    split at h
    · rename_i v hv
      split at h
      · rename_i l hl
        cases h
        simp only [List.map_cons, ha.ev hv]
        rw [evp_map ha hl]
      · cases h
    · cases h
theorem plL_mapM {P : Program} : ∀ {fs : List Field} {l : List (Nat × Nat)}, plL P fs = some l → fs.mapM (fun f => (P.info? f.type).map fun i => (f.offset, i.size)) = some l
  | [], l, h => by simp only [plL, Option.some.injEq] at h; subst h; rfl
  | f :: r, l, h => by
    unfold plL at h
    split at h
    · rename_i i l' hi hl
      cases h
      simp [List.mapM_cons, hi, plL_mapM hl]
    · cases h
section
variable {P : Program} {n : Nat} {D : List Deferred} {C : World → Prop} {E : En} {ty : TypeId}
theorem bld {t : TypeId} {z : List Value} {pl : List (Nat × Nat)} {parts : List (Nat × Operand)} {pv : List (Nat × Value)} {cs : List Value} (hz : zcN P t = some z) (hp : plN P t = some pl) (he : evp E parts = some pv) (hf : fillL (fun i => pl[i]?) z pv = some cs) :
    RV P n D C E (.build t parts.toArray) ty (.agg cs.toArray) := fun a w ha _ => by
  have e := evp_map ha he
  have h : P.built t pv = some cs.toArray := by
    obtain ⟨v, hv, hvz⟩ := Option.map_eq_some_iff.1 hz
    obtain ⟨i, hi, hiz⟩ := Option.bind_eq_some_iff.1 hv
    unfold plN at hp
    split at hp
    · rename_i fs hu
      have h1 := fill_L (fun i => pl[i]?) pv z cs hf
      subst hvz
      simp only [Program.built, hi, hu, hiz, plL_mapM hp]
      simpa using h1
    · cases hp
  have h2 := run_build (P := P) w t pv.toArray cs.toArray (by simpa using h)
  simp only [execOp, List.map_toArray, e]
  simp [h2]
theorem bla {t e m sz : TypeId} {z : List Value} {parts : List (Nat × Operand)} {pv : List (Nat × Value)} {cs : List Value} (hu : P.underlying t = some (.array m e)) (hz : zcN P t = some z) (hs : (P.info? e).map (·.size) = some sz) (he : evp E parts = some pv) (hf : fillL (fun i => some (i * sz, sz)) z pv = some cs) :
    RV P n D C E (.build t parts.toArray) ty (.agg cs.toArray) := fun a w ha _ => by
  have e1 := evp_map ha he
  have h : P.built t pv = some cs.toArray := by
    obtain ⟨v, hv, hvz⟩ := Option.map_eq_some_iff.1 hz
    obtain ⟨i, hi, hiz⟩ := Option.bind_eq_some_iff.1 hv
    obtain ⟨ie, hie, hsz⟩ := Option.map_eq_some_iff.1 hs
    have h1 := fill_L (fun i => some (i * sz, sz)) pv z cs hf
    subst hvz hsz
    simp only [Program.built, hi, hu, hiz, hie]
    simpa using h1
  have h2 := run_build (P := P) w t pv.toArray cs.toArray (by simpa using h)
  simp only [execOp, List.map_toArray, e1]
  simp [h2]
end
/-! ### 2. Elements that are read -/
/-- Elements that are read: element j's cells stand behind those of the ones before it. -/
def Els {α : Type} (g : World) (f : α → List Value) (sz : Nat) (A : Option Addr) (l : List α) : SP := fun h => l = [] ∨
  ∃ b off cur e fr, A = some ⟨b, off, none⟩ ∧ (h b = some (.cells cur e fr) ∨ gl g b = some (.cells cur e fr)) ∧ ∀ j x, l[j]? = some x → (f x).length = sz ∧ ∀ i v, (f x)[i]? = some v → cur[off + j * sz + i]? = some v
section
variable {P : Program} {n : Nat} {D : List Deferred} {E : En} {ty : TypeId} {g w : World} {L : List SP} {α : Type} {f : α → List Value} {sz : Nat} {A : Option Addr} {l : List α}
theorem Own.els_head (H : Own g (Els g f sz A l :: L) w) : l = [] ∨ ∃ b off, A = some ⟨b, off, none⟩ ∧ ∀ j x, l[j]? = some x → (f x).length = sz ∧ ∀ i v, (f x)[i]? = some v → w.cell? ⟨b, off + j * sz + i, none⟩ = some v := by
  obtain ⟨h, ⟨a, r, h1, h2, h3, h4⟩, h5⟩ := H.heap
  rcases h3 with h3 | ⟨b, off, cur, e, fr, hA, hb, hc⟩
  · exact .inl h3
  · refine .inr ⟨b, off, hA, fun j x hx => ⟨(hc j x hx).1, fun i v hv => ?_⟩⟩
    rw [cell_at (show w.heap[b]? = _ from hb.elim (fun hb => h5 b _ (by rw [h2 b, hb]; rfl)) (fun hb => h5.glo b _ hb))]
    exact (hc j x hx).2 i v hv
/-- What g holds may be read as elements. -/
theorem Own.els_glo {b off : Nat} {cur : Array Value} {e : TypeId} {fr : Nat × Nat} (H : Own g L w) (hb : gl g b = some (.cells cur e fr)) (hA : A = some ⟨b, off, none⟩) (hc : ∀ j x, l[j]? = some x → (f x).length = sz ∧ ∀ i v, (f x)[i]? = some v → cur[off + j * sz + i]? = some v) : Own g (Els g f sz A l :: L) w := by
  refine ⟨H.os, H.tape, H.output, ?_⟩
  obtain ⟨k, h1, h2⟩ := H.heap
  exact ⟨k, ⟨fun _ => none, k, fun _ => .inl rfl, fun _ => by simp, .inr ⟨b, off, cur, e, fr, hA, .inr hb, hc⟩, h1⟩, h2⟩
theorem Own.els_nil (H : Own g L w) : Own g (Els g f sz A ([] : List α) :: L) w := by
  refine ⟨H.os, H.tape, H.output, ?_⟩
  obtain ⟨k, h1, h2⟩ := H.heap
  exact ⟨k, ⟨fun _ => none, k, fun _ => .inl rfl, fun _ => by simp, .inl rfl, h1⟩, h2⟩
theorem Own.els (H : Own g L w) (i : Nat) (hi : L[i]? = some (Els g f sz A l)) : l = [] ∨ ∃ b off, A = some ⟨b, off, none⟩ ∧ ∀ j x, l[j]? = some x → (f x).length = sz ∧ ∀ i v, (f x)[i]? = some v → w.cell? ⟨b, off + j * sz + i, none⟩ = some v := (H.fr i hi).els_head
/-- The address of element j: letters of one's own, so that what is loaded there is told by a fact. -/
def elAddr (A : Option Addr) (sz j : Nat) : Addr := match A with
  | some a => a.add (j * sz)
  | none => ⟨0, 0, none⟩
theorem ix {t e bytes : Nat} {x y : Operand} {c : Nat} {k : IntKind} {i : Int} (j : Nat) (ht : slN P t = some (e, sz, bytes)) (i0 : Nat) (hi : L[i0]? = some (Els g f sz A l)) (hx : ev E x = some (.slice A l.length c)) (hy : ev E y = some (.int k i)) (hj : i = (j : Int)) (h1 : j < l.length) :
    RV P n D (Own g L) E (.indexAddr t x y) ty (.pointer (some (elAddr A sz j))) := fun a w ha H => by
  subst hj
  unfold slN at ht
  split at ht
  · rename_i e' hu
    obtain ⟨inf, hin, hs⟩ := Option.map_eq_some_iff.1 ht
    simp only [Prod.mk.injEq] at hs
    obtain ⟨rfl, hsz, _⟩ := hs
    rcases H.els i0 hi with h | ⟨b, off, hA, _⟩
    · subst h; simp at h1
    · subst hA
      have h2 : (j : Int) < (l.length : Int) := by omega
      have h3 : ¬ l.length ≤ j := by omega
      simp [execOp, h3, ha.ev hx, ha.ev hy, Instr.indexAt, asIntOf, run_underlying hu, h2, sizeOf, typeInfo, hin, hsz, program, Sem.run, elAddr]
  · cases ht
theorem ldE {t : TypeId} {x : Operand} {j : Nat} {z : α} (ht : agN P t = some sz) (i0 : Nat) (hi : L[i0]? = some (Els g f sz A l)) (hx : ev E x = some (.pointer (some (elAddr A sz j)))) (hz : l[j]? = some z) :
    RV P n D (Own g L) E (.load t x) ty (.agg (f z).toArray) := ldw hx fun w H => by
  rcases H.els i0 hi with h | ⟨b, off, hA, hc⟩
  · subst h; simp at hz
  · subst hA
    obtain ⟨h1, h2⟩ := hc j z hz
    rw [← h1] at ht
    refine ld_ag ht fun i v hv => ?_
    rw [elAddr, add_at, add_at]
    exact h2 i v hv
end

/-! ### 3. Rows of one's own -/
/-- The row of a slice that is one's own: it may be appended to. -/
def Rw {α : Type} (e : TypeId) (f : α → List Value) (sz : Nat) (A : Option Addr) (c : Nat) (l : List α) : SP := fun h => (∀ x ∈ l, (f x).length = sz ∧ ones (f x) = true) ∧
  ((A = none ∧ c = 0 ∧ l = []) ∨ ∃ b cur, A = some ⟨b, 0, none⟩ ∧ h b = some (.cells cur e (0, 0)) ∧ l.length ≤ c ∧ c ≤ maxLen ∧ cur.size = c * sz ∧ cur.toList.take (l.length * sz) = l.flatMap f)
theorem flat_len {α : Type} {f : α → List Value} {sz : Nat} : ∀ {l : List α}, (∀ x ∈ l, (f x).length = sz) → (l.flatMap f).length = l.length * sz
  | [], _ => by simp
  | x :: r, h => by
    rw [List.flatMap_cons, List.length_append, h x (by simp), flat_len (fun y hy => h y (by simp [hy])), List.length_cons, Nat.add_mul]
    omega
theorem flat_at {α : Type} {f : α → List Value} {sz : Nat} : ∀ {l : List α}, (∀ x ∈ l, (f x).length = sz) → ∀ {j : Nat} {x : α}, l[j]? = some x → ∀ {i : Nat} {v : Value}, (f x)[i]? = some v → (l.flatMap f)[j * sz + i]? = some v
  | [], _, j, x, hx, i, v, hv => by simp at hx
  | y :: r, h, 0, x, hx, i, v, hv => by
    simp only [List.getElem?_cons_zero, Option.some.injEq] at hx
    subst hx
    rw [List.flatMap_cons, List.getElem?_append_left (by have := (List.getElem?_eq_some_iff.1 hv).1; omega)]
    simpa using hv
  | y :: r, h, j + 1, x, hx, i, v, hv => by
    have hy := h y (by simp)
    rw [List.flatMap_cons, List.getElem?_append_right (by rw [hy, Nat.add_mul]; omega)]
    have := flat_at (l := r) (fun z hz => h z (by simp [hz])) (j := j) (x := x) (by simpa using hx) hv
    rw [hy, show (j + 1) * sz + i - sz = j * sz + i by rw [Nat.add_mul]; omega]
    exact this
theorem ones_app : ∀ {l m : List Value}, ones l = true → ones m = true → ones (l ++ m) = true
  | [], m, _, h => h
  | v :: r, m, h, h' => by
    unfold ones at h
    split at h
    · rename_i hv
      show ones (v :: (r ++ m)) = true
      unfold ones
      rw [hv]
      exact ones_app h h'
    · cases h
theorem ones_flat {α : Type} {f : α → List Value} : ∀ {l : List α}, (∀ x ∈ l, ones (f x) = true) → ones (l.flatMap f) = true
  | [], _ => rfl
  | x :: r, h => by
    rw [List.flatMap_cons]
    exact ones_app (h x (by simp)) (ones_flat fun y hy => h y (by simp [hy]))
section
variable {α : Type} {e : TypeId} {f : α → List Value} {sz : Nat} {A : Option Addr} {c : Nat} {l : List α}
theorem Rw.nil {h : PH} : Rw e f sz none 0 ([] : List α) h := ⟨by simp, .inl ⟨rfl, rfl, rfl⟩⟩
theorem Own.rw_nil {g w : World} {L : List SP} (H : Own g L w) : Own g (Rw e f sz none 0 ([] : List α) :: L) w := by
  refine ⟨H.os, H.tape, H.output, ?_⟩
  obtain ⟨k, h1, h2⟩ := H.heap
  exact ⟨k, ⟨fun _ => none, k, fun _ => .inl rfl, fun _ => by simp, Rw.nil, h1⟩, h2⟩
/-- A block whose cells are elements is a row of one's own. -/
theorem Own.rw_of {g w : World} {L : List SP} {b : Nat} {cs : List Value} (H : Own g (bk b e cs :: L) w) (l : List α) (h0 : 0 < sz) (hcs : cs = l.flatMap f) (hf : ∀ x ∈ l, (f x).length = sz ∧ ones (f x) = true) (hm : l.length ≤ maxLen) :
    Own g (Rw e f sz (some ⟨b, 0, none⟩) l.length l :: L) w := H.mono fun h hb => by
  subst hcs
  have hlen := flat_len (f := f) (fun x hx => (hf x hx).1)
  refine ⟨hf, .inr ⟨b, (l.flatMap f).toArray, rfl, ?_, Nat.le_refl _, hm, ?_, ?_⟩⟩
  · rw [hb b]; simp
  · simpa using hlen
  · rw [← hlen]; exact List.take_length
/-- A row that is owned is read as elements. -/
theorem rw_els {g : World} {h : PH} (H : Rw e f sz A c l h) : Els g f sz A l h := by
  obtain ⟨h1, ⟨rfl, rfl, rfl⟩ | ⟨b, cur, rfl, hb, hc, hm, hs, ht⟩⟩ := H
  · exact .inl rfl
  · refine .inr ⟨b, 0, cur, e, (0, 0), rfl, .inl hb, fun j x hx => ⟨(h1 x (List.mem_of_getElem? hx)).1, fun i v hv => ?_⟩⟩
    have := flat_at (fun x hx => (h1 x hx).1) hx hv
    rw [← ht, List.getElem?_take] at this
    split at this
    · simpa using this
    · cases this
theorem Own.rw_els {g w : World} {L : List SP} (H : Own g (Rw e f sz A c l :: L) w) : Own g (Els g f sz A l :: L) w := H.mono fun _ => Go.Proofs.YtmkijgmfefkgeaaGreatDoor.rw_els
end
section
variable {P : Program} {n : Nat} {D : List Deferred} {ops : Array Oper} {K : En → World → Prop} {X : List PanicEntry → World → Prop} {E : En} {w : World} {rest : List Oper} {d : Option Tmp} {op : Op} {ty : TypeId} {ps : String} {af : Array Edge} {g : World} {L : List SP}
theorem st_bs {t e sz bytes len : Nat} {z : List Value} {parts : List (Nat × Operand)} {pv : List (Nat × Value)} {cs : List Value} (H : Own g L w) (ht : slN P t = some (e, sz, bytes)) (hz : zcN P e = some z) (he : evp E parts = some pv)
    (hs : z.length = sz) (h0 : Nat.ble 1 (len * sz) = true) (h1 : Nat.ble (len * sz) 16777216 = true) (hf : fillL (fun i => some (i * sz, sz)) ((List.replicate len z).flatten) pv = some cs)
    (h : ∀ b w', Own g (bk b e cs :: L) w' → WL P n D ops K X rest (pt d (.slice (some ⟨b, 0, none⟩) len len) E) w') : WL P n D ops K X (⟨d, .buildSlice t len parts.toArray, ty, ps, af, none⟩ :: rest) E w := by
  intro hok a ha
  obtain ⟨hd, hr⟩ := ok_cons hok
  refine wpList_plain rfl fun K' hK => ?_
  have h0 := Nat.le_of_ble_eq_true h0
  have h1 := Nat.le_of_ble_eq_true h1
  unfold slN at ht
  split at ht
  case h_2 => cases ht
  rename_i e' hu
  obtain ⟨inf, hin, hsz⟩ := Option.map_eq_some_iff.1 ht
  simp only [Prod.mk.injEq] at hsz
  obtain ⟨rfl, hsz, _⟩ := hsz
  obtain ⟨v, hv, hvz⟩ := Option.map_eq_some_iff.1 hz
  obtain ⟨i, hi, hiz⟩ := Option.bind_eq_some_iff.1 hv
  rw [hin] at hi
  cases hi
  have e1 := evp_map ha he
  have hcells : (Array.range (len * inf.size)).map (v.cells[· % v.cells.size]!) = ((List.replicate len z).flatten).toArray := by
    subst hvz
    have hs' : v.cells.size = sz := by simpa using hs
    apply Array.ext
    · simp [hs', hsz]
    · intro k hk1 hk2
      have hk : k < len * sz := by simpa [hsz] using hk1
      have hsp : 0 < sz := by
        rcases Nat.eq_zero_or_pos sz with h | h
        · subst h; simp at h0
        · exact h
      have key : ∀ (m k : Nat), k < m * sz → ((List.replicate m v.cells.toList).flatten)[k]? = v.cells.toList[k % sz]? := by
        intro m
        induction m with
        | zero => intro k hk; simp at hk
        | succ m ih =>
          intro k hk
          rw [List.replicate_succ, List.flatten_cons]
          rcases Nat.lt_or_ge k sz with h | h
          · rw [List.getElem?_append_left (by simpa [hs'] using h), Nat.mod_eq_of_lt h]
          · rw [List.getElem?_append_right (by simpa [hs'] using h)]
            have e2 : v.cells.toList.length = sz := by simpa using hs'
            rw [e2, ih (k - sz) (by rw [Nat.add_mul] at hk; omega), ← Nat.mod_eq_sub_mod h]
      have hkk := key len k hk
      simp only [Array.getElem_map, Array.getElem_range, List.getElem_toArray]
      have hlt : k % sz < v.cells.size := by rw [hs']; exact Nat.mod_lt _ hsp
      rw [List.getElem?_eq_getElem (by simpa [hs'] using hk)] at hkk
      rw [List.getElem?_eq_getElem (by simpa using hlt)] at hkk
      have hkk := Option.some.inj hkk
      rw [hkk, hs']
      simp [hlt]
  have hrun := run_buildSlice (P := P) w t e' len pv.toArray cs.toArray inf v hu hin hiz (by rw [hsz]; omega) (by rw [hsz]; omega) (by rw [hcells]; exact fill_L _ pv _ cs (by rw [← hf, hsz]))
  have e : (execOp a.eval ⟨d, .buildSlice t len parts.toArray, ty, ps, af, none⟩).run P w = .ok (.value (.slice (some ⟨w.heap.size, 0, none⟩) len len)) (w.alloc (.cells cs.toArray e')) := by
    simp only [execOp, List.map_toArray, e1]
    simp [hrun]
  unfold Oper.wp
  rw [e]
  exact hK _ _ (h w.heap.size _ (H.al _) hr _ (ha.put _ hd))
theorem rw_owns {α : Type} {e sz c : Nat} {f : α → List Value} {A : Option Addr} {l : List α} {h : PH} {w : World} (H : Rw e f sz A c l h) (hs : ∀ k o, h k = some o → w.heap[k]? = some o) : w.ownsRow 0 e sz (.slice A l.length c) l.length (l.flatMap f) := by
  obtain ⟨h1, ⟨rfl, rfl, rfl⟩ | ⟨b, cur, rfl, hb, hc, hm, hsz, ht⟩⟩ := H
  · exact ⟨by simp, .inl ⟨rfl, rfl⟩⟩
  · exact ⟨flat_len fun x hx => (h1 x hx).1, .inr ⟨b, c, cur, rfl, Nat.zero_le _, hs _ _ hb, hc, hm, hsz, ht⟩⟩
theorem st_app {α : Type} {f : α → List Value} {t e e' sz bytes m m' : Nat} {z cs : List Value} {s x : Operand} {A : Option Addr} {c bb : Nat} {l : List α} (i j : Nat) (ys : List α) (H : Own g L w) (ht : slN P t = some (e, sz, bytes)) (hz : zcN P e = some z) (hzl : z.length = sz) (h0 : Nat.ble 1 sz = true)
    (hs : ev E s = some (.slice A l.length c)) (hx : ev E x = some (.slice (some ⟨bb, 0, none⟩) m m')) (hi : L[i]? = some (Rw e f sz A c l)) (hj : L[j]? = some (bk bb e' cs)) (hcs : cs = ys.flatMap f) (hm : ys.length = m) (hf : ∀ y ∈ ys, (f y).length = sz ∧ ones (f y) = true)
    (hb : (l.length + m) * bytes ≤ 140737488355328) (hl : l.length + m ≤ 140737488355328)
    (h : ∀ A' c' w', Own g (Rw e f sz A' c' (l ++ ys) :: L.eraseIdx i) w' → WL P n D ops K X rest (pt d (.slice A' (l ++ ys).length c') E) w') :
    WL P n D ops K X (⟨d, .call { callee := .builtin .append, args := #[s, x], argTypes := #[t, t] }, ty, ps, af, none⟩ :: rest) E w := by
  intro hok a ha
  obtain ⟨hd, hr⟩ := ok_cons hok
  refine wpList_plain rfl fun K' hK => ?_
  have h0 := Nat.le_of_ble_eq_true h0
  unfold slN at ht
  split at ht
  case h_2 => cases ht
  rename_i el hu
  obtain ⟨inf, hin, hsz⟩ := Option.map_eq_some_iff.1 ht
  simp only [Prod.mk.injEq] at hsz
  obtain ⟨rfl, hsz, hby⟩ := hsz
  obtain ⟨v, hv, hvz⟩ := Option.map_eq_some_iff.1 hz
  obtain ⟨i', hi', hiz⟩ := Option.bind_eq_some_iff.1 hv
  rw [hin] at hi'
  cases hi'
  obtain ⟨k, ⟨a1, r, hdis, hjoin, hRw, hrest⟩, hsub⟩ := (H.fr i hi).heap
  have hRw' := hRw
  have hown := rw_owns (w := w) hRw (fun q o hq => hsub q o (by rw [hjoin q, hq]; rfl))
  have hcell : ∀ q u, cs[q]? = some u → w.cell? ((⟨bb, 0, none⟩ : Addr).add q) = some u := by
    intro q u hq
    rw [add_at, cell_at (H.at j hj)]
    simpa using hq
  have hcl : cs.length = m * sz := by rw [hcs, flat_len (fun y hy => (hf y hy).1), hm]
  have hone : ∀ u ∈ cs, u.oneCell' = true := fun u hu => one_oneCell (ones_mem (by rw [hcs]; exact ones_flat fun y hy => (hf y hy).2) u hu)
  obtain ⟨v', w', hrun, hown', hg, hnil, hat⟩ := run_append_own_at (P := P) (w := w) 0 t ty el inf v sz bytes hu hin hiz hsz hby (by rw [← hzl, ← hvz]; simp) h0 (.slice A l.length c) l.length (l.flatMap f) hown ⟨bb, 0, none⟩ m m' cs hcl hcell hone
    (by simp only [maxLen]; omega) hb (Nat.zero_le _)
  have hlen : (l ++ ys).length = l.length + m := by simp [hm]
  have hfl : l.flatMap f ++ cs = (l ++ ys).flatMap f := by rw [List.flatMap_append, hcs]
  have hall : ∀ y ∈ l ++ ys, (f y).length = sz ∧ ones (f y) = true := by
    intro y hy
    rcases List.mem_append.1 hy with hy | hy
    · exact hRw'.1 y hy
    · exact hf y hy
  have hrk : ∀ q o, r q = some o → w.heap[q]? = some o := by
    intro q o hq
    refine hsub q o ?_
    rw [hjoin q]
    rcases hdis q with e | e
    · simp [e, hq]
    · rw [e] at hq; cases hq
  have hrb : ∀ b0, (Value.slice A l.length c).ownBlock = some b0 → r b0 = none := by
    intro b0 hb0
    obtain ⟨_, ⟨rfl, _⟩ | ⟨b, cur, rfl, hb1, _⟩⟩ := hRw'
    · cases hb0
    · simp only [Value.ownBlock, Option.some.injEq] at hb0
      subst hb0
      rcases hdis b with e | e
      · rw [e] at hb1; cases hb1
      · exact e
  have hkeep : ∀ q o, r q = some o → w'.heap[q]? = some o := by
    intro q o hq
    have h1 := hrk q o hq
    rw [hg.block q (Array.getElem?_eq_some_iff.1 h1).1 (fun e => by rw [hrb q e.symm] at hq; cases hq)]
    exact h1
  have hglb : ∀ b0, (Value.slice A l.length c).ownBlock = some b0 → gl g b0 = none := by
    intro b0 hb0
    obtain ⟨_, ⟨rfl, _⟩ | ⟨b, cur, rfl, hb1, _⟩⟩ := hRw'
    · cases hb0
    · simp only [Value.ownBlock, Option.some.injEq] at hb0
      subst hb0
      rcases hsub.dis b with e | e
      · rw [hjoin b, hb1] at e; cases e
      · exact e
  have hglk : ∀ q o, gl g q = some o → w'.heap[q]? = some o := by
    intro q o hq
    have h1 := hsub.glo q o hq
    rw [hg.block q (Array.getElem?_eq_some_iff.1 h1).1 (fun e => by rw [hglb q e.symm] at hq; cases hq)]
    exact h1
  have hdis : ∀ q, r q = none ∨ gl g q = none := by
    intro q
    rcases hsub.dis q with e | e
    · left
      rw [hjoin q] at e
      rcases hdis q with d | d
      · simpa [d] using e
      · exact d
    · exact .inr e
  obtain ⟨A', c', hv', hR⟩ : ∃ A' c', v' = .slice A' (l ++ ys).length c' ∧ Own g (Rw el f sz A' c' (l ++ ys) :: L.eraseIdx i) w' := by
    rcases hown'.2 with ⟨rfl, hn⟩ | ⟨b', cap, cur, rfl, _, hh, hnc, hcm, hcs', htk⟩
    · have hl0 : l ++ ys = [] := List.eq_nil_of_length_eq_zero (by omega)
      refine ⟨none, 0, by rw [hl0]; rfl, hg.os.trans H.os, hg.tape.trans H.tape, hg.output.trans H.output, r, ⟨fun _ => none, r, fun _ => .inl rfl, fun _ => by simp, ?_, hrest⟩, hkeep, hglk, hdis⟩
      rw [hl0]
      exact Rw.nil
    · have hb' : r b' = none := by
        rcases hat with hat | hat
        · exact hrb b' (by rw [← hat]; rfl)
        · simp only [Value.ownBlock, Option.some.injEq] at hat
          cases hq : r b' with
          | none => rfl
          | some o =>
            have := (Array.getElem?_eq_some_iff.1 (hrk _ _ hq)).1
            omega
      refine ⟨some ⟨b', 0, none⟩, cap, by rw [hlen], hg.os.trans H.os, hg.tape.trans H.tape, hg.output.trans H.output, fun q => if q = b' then some (.cells cur el (0, 0)) else r q, ⟨fun q => if q = b' then some (.cells cur el (0, 0)) else none, r, fun q => ?_, fun q => ?_, ⟨hall, .inr ⟨b', cur, rfl, by simp, by rw [hlen]; exact hnc, hcm, hcs', ?_⟩⟩, hrest⟩, fun q o hq => ?_, hglk, fun q => ?_⟩
      · by_cases e : q = b'
        · right; rw [e]; exact hb'
        · left; simp [e]
      · by_cases e : q = b' <;> simp [e]
      · rw [hlen, htk, hfl]
      · by_cases e : q = b'
        · simp only [e, if_true] at hq; cases hq; rw [e]; exact hh
        · simp only [e, if_false] at hq; exact hkeep q o hq
      · by_cases e : q = b'
        · right
          subst e
          rcases hat with hat | hat
          · exact hglb q (by rw [← hat]; rfl)
          · simp only [Value.ownBlock, Option.some.injEq] at hat
            cases hq : gl g q with
            | none => rfl
            | some o =>
              have := (Array.getElem?_eq_some_iff.1 (hsub.glo _ _ hq)).1
              omega
        · simp only [e, if_false]; exact hdis q
  have e : (execOp a.eval ⟨d, .call { callee := .builtin .append, args := #[s, x], argTypes := #[t, t] }, ty, ps, af, none⟩).run P w = .ok (.value v') w' := by
    simp [execOp, resolve, invoke, builtin, ha.ev hs, ha.ev hx, hrun]
  unfold Oper.wp
  rw [e]
  subst hv'
  exact hK _ _ (h A' c' w' hR hr _ (ha.put _ hd))
end
/-! ### 4. Strings; pointers against nil; fields of elements -/
section
variable {P : Program} {n : Nat} {D : List Deferred} {C : World → Prop} {E : En} {ty : TypeId}
theorem byteAt_range (s : ByteArray) (i : Nat) : 0 ≤ byteAt s i ∧ byteAt s i ≤ 255 := by
  unfold byteAt
  split
  · rename_i b _
    have := b.toNat_lt
    omega
  · omega
theorem ixs {t : TypeId} {x y : Operand} {s : ByteArray} {k : IntKind} {i : Int} (ht : P.underlying t = some .string) (hx : ev E x = some (.string s)) (hy : ev E y = some (.int k i)) (j : Nat) (hj : i = (j : Int)) (h1 : j < s.size) :
    RV P n D C E (.index t x y) ty (.int .u8 (byteAt s j)) := fun a w ha _ => by
  subst hj
  have h := ByteArray.getElem?_lt' s j h1
  simp [execOp, ha.ev hx, ha.ev hy, Instr.index, asIntOf, run_underlying ht, h, byteAt]
theorem sls {t : TypeId} {x y z : Operand} {s : ByteArray} {k k' : IntKind} {i j : Int} (ht : P.underlying t = some .string) (hx : ev E x = some (.string s)) (hy : ev E y = some (.int k i)) (hz : ev E z = some (.int k' j)) (a b : Nat) (hi : i = (a : Int)) (hj : j = (b : Int)) (h1 : a ≤ b) (h2 : b ≤ s.size) :
    RV P n D C E (.slice t x (some y) (some z) none) ty (.string (s.extract a b)) := fun ac w ha _ => by
  subst hi hj
  have h := run_slice_string_if (P := P) w t s k k' (a : Int) (b : Int) ht
  rw [if_pos (by omega), if_pos (by omega)] at h
  simp [execOp, ha.ev hx, ha.ev hy, ha.ev hz, run_sliceAt_string w t _ _ _ _ ht, h]
theorem slsf {t : TypeId} {x y : Operand} {s : ByteArray} {k : IntKind} {i : Int} (ht : P.underlying t = some .string) (hx : ev E x = some (.string s)) (hy : ev E y = some (.int k i)) (a : Nat) (hi : i = (a : Int)) (h1 : a ≤ s.size) :
    RV P n D C E (.slice t x (some y) none none) ty (.string (s.extract a s.size)) := fun ac w ha _ => by
  subst hi
  have h2 : (Instr.slice t (.string s) (some (.int k (a : Int))) none none).run P w = .ok (.string (s.extract a s.size)) w := by
    have h3 : ((a : Int) ≤ (s.size : Int)) := by omega
    simp [Instr.slice, Instr.sliceBounds, Instr.sliceBound, asIntOf, run_underlying ht, h3]
    omega
  simp [execOp, ha.ev hx, ha.ev hy, run_sliceAt_string w t _ _ _ _ ht, h2]
theorem slst {t : TypeId} {x z : Operand} {s : ByteArray} {k' : IntKind} {j : Int} (ht : P.underlying t = some .string) (hx : ev E x = some (.string s)) (hz : ev E z = some (.int k' j)) (b : Nat) (hj : j = (b : Int)) (h2 : b ≤ s.size) :
    RV P n D C E (.slice t x none (some z) none) ty (.string (s.extract 0 b)) := fun ac w ha _ => by
  subst hj
  have h2 : (Instr.slice t (.string s) none (some (.int k' (b : Int))) none).run P w = .ok (.string (s.extract 0 b)) w := by
    have h3 : ((b : Int) ≤ (s.size : Int)) := by omega
    simp [Instr.slice, Instr.sliceBounds, Instr.sliceBound, asIntOf, run_underlying ht, h3]
    omega
  simp [execOp, ha.ev hx, ha.ev hz, run_sliceAt_string w t _ _ _ _ ht, h2]
theorem ixa {t e m : TypeId} {x y : Operand} {cs : List Value} {v : Value} {k : IntKind} {i : Int} (ht : P.underlying t = some (.array m e)) (he : scB P e = true) (hx : ev E x = some (.agg cs.toArray)) (hy : ev E y = some (.int k i)) (j : Nat) (hj : i = (j : Int)) (hm : j < m) (hv : cs[j]? = some v) :
    RV P n D C E (.index t x y) ty v := fun a w ha _ => by
  subst hj
  have h1 := sc_of he w
  have h2 : (j : Int) < (m : Int) := by omega
  have h3 : cs.toArray[j * 1]? = some v := by simpa using hv
  simp [execOp, ha.ev hx, ha.ev hy, Instr.index, asIntOf, run_underlying ht, h2, part, h1, hv]
  intro hc
  omega
theorem cat {t u : TypeId} {x y : Operand} {s r : ByteArray} (hx : ev E x = some (.string s)) (hy : ev E y = some (.string r)) (hb : s.size + r.size ≤ 9223372036854775807) : RV P n D C E (.binOp .add t x y u) ty (.string (s ++ r)) := fun a w ha _ => by
  have h : ¬ ((s.size + r.size : Nat) : Int) > IntKind.i64.max := by simp [IntKind.max, IntKind.signed, IntKind.bits]; omega
  simp only [execOp, ha.ev hx, ha.ev hy]
  have h' : ¬ 9223372036854775807 < (s.size : Int) + (r.size : Int) := by omega
  simp [eqGuard, binOp, Op.stringOp, h, IntKind.max, IntKind.signed, IntKind.bits, h']
theorem pnn {t u : TypeId} {x y : Operand} {p : Option Addr} (ht : P.underlying t = some (.pointer (P.pointee t))) (hx : ev E x = some (.pointer p)) (hy : ev E y = some (.pointer none)) : RV P n D C E (.binOp .neq t x y u) ty (.bool (!p.isNone)) := fun a w ha _ => by
  have h := run_neq_pointer_nil (P := P) w t p ht
  simp only [execOp, ha.ev hx, ha.ev hy]
  simp [eqGuard, h]
end
section
variable {P : Program} {n : Nat} {D : List Deferred} {E : En} {ty : TypeId} {g w : World} {L : List SP} {α : Type} {f : α → List Value} {sz : Nat} {A : Option Addr} {l : List α}
/-- The address of a part of element j. -/
def elFld (A : Option Addr) (sz j off : Nat) : Addr := (elAddr A sz j).add off
theorem faE {C : World → Prop} {s : TypeId} {fi off j : Nat} {x : Operand} (hf : foN P s fi = some off) (hx : ev E x = some (.pointer (some (elAddr A sz j)))) : RV P n D C E (.fieldAddr s x fi) ty (.pointer (some (elFld A sz j off))) := fun a w ha _ => by
  unfold foN at hf
  split at hf
  · rename_i fs hu
    split at hf
    · rename_i fd hfd
      split at hf
      · cases hf
      · rename_i k hk hm
        cases hf
        obtain ⟨i, hi, hs⟩ := Option.map_eq_some_iff.1 hm
        have hk0 : i.size ≠ 0 := by rw [hs]; exact fun h0 => hk (h0 ▸ rfl)
        simp [execOp, ha.ev hx, Instr.fieldAt, Instr.sureAddr, run_underlying hu, hfd, fieldPlace, sizeOf, typeInfo, hi, program, Sem.run, hk0, elFld]
      · cases hf
    · cases hf
  · cases hf
theorem ldEf {t : TypeId} {x : Operand} {j off : Nat} {z : α} {v : Value} (ht : scB P t = true) (i0 : Nat) (hi : L[i0]? = some (Els g f sz A l)) (hx : ev E x = some (.pointer (some (elFld A sz j off)))) (hz : l[j]? = some z) (hv : (f z)[off]? = some v) :
    RV P n D (Own g L) E (.load t x) ty v := ldw hx fun w H => by
  rcases H.els i0 hi with h | ⟨b, o, hA, hc⟩
  · subst h; simp at hz
  · subst hA
    refine ld_sc ht ?_
    rw [elFld, elAddr, add_at, add_at]
    exact (hc j z hz).2 off v hv
/-- A scalar element. -/
theorem ldE1 {t : TypeId} {x : Operand} {j : Nat} {z : α} {v : Value} (ht : scB P t = true) (i0 : Nat) (hi : L[i0]? = some (Els g f sz A l)) (hx : ev E x = some (.pointer (some (elAddr A sz j)))) (hz : l[j]? = some z) (hv : (f z)[0]? = some v) :
    RV P n D (Own g L) E (.load t x) ty v := ldw hx fun w H => by
  rcases H.els i0 hi with h | ⟨b, o, hA, hc⟩
  · subst h; simp at hz
  · subst hA
    refine ld_sc ht ?_
    rw [elAddr, add_at]
    exact (hc j z hz).2 0 v hv
end
/-! ### 5. Fields of values, interface values, panics -/
def fsN (P : Program) (s : TypeId) (f : Nat) : Option Nat := match P.underlying s with
  | some (.struct fs) => match fs[f]? with
    | some fd => match scB P fd.type with
      | true => some fd.offset
      | false => none
    | none => none
  | _ => none
def nifB (P : Program) (t : TypeId) : Bool := match P.underlying t with
  | some (.interface _) => false
  | some _ => true
  | none => false
section
variable {P : Program} {n : Nat} {D : List Deferred} {C : World → Prop} {E : En} {ty : TypeId}
theorem fld {t f off : Nat} {x : Operand} {cs : List Value} {v : Value} (hf : fsN P t f = some off) (hx : ev E x = some (.agg cs.toArray)) (hv : cs[off]? = some v) : RV P n D C E (.field t x f) ty v := fun a w ha _ => by
  unfold fsN at hf
  split at hf
  · rename_i fs hu
    split at hf
    · rename_i fd hfd
      split at hf
      · rename_i hsc
        cases hf
        have h1 := (sc_of hsc w).1
        simp [execOp, ha.ev hx, Instr.field, run_underlying hu, hfd, part, asAgg, h1, hv]
      · cases hf
    · cases hf
  · cases hf
theorem mki {t : TypeId} {x : Operand} {v : Value} (ht : nifB P t = true) (hx : ev E x = some v) : RV P n D C E (.makeInterface t x) ty (.iface t v) := fun a w ha _ => by
  unfold nifB at ht
  split at ht
  · cases ht
  · rename_i d hd hu
    simp only [execOp, ha.ev hx]
    cases d <;> simp_all [Instr.makeInterface, run_underlying hu]
  · cases ht
end
section
variable {P : Program} {n : Nat} {D : List Deferred} {ops : Array Oper} {K : En → World → Prop} {X : List PanicEntry → World → Prop} {E : En} {w : World} {rest : List Oper} {d : Option Tmp} {ty : TypeId} {ps : String} {af : Array Edge}
theorem st_panic {x : Operand} {t : TypeId} {v : Value} (hx : ev E x = some (.iface t v)) (h : X [{ v := .iface t v, recovered := false }] w) : WL P n D ops K X (⟨d, .panic x, ty, ps, af, none⟩ :: rest) E w := by
  intro hok a ha
  refine wpList_plain rfl fun K' hK => ?_
  have e : (execOp a.eval ⟨d, .panic x, ty, ps, af, none⟩).run P w = .halt (.panic (.iface t v)) w := by
    simp [execOp, ha.ev hx, Instr.panic, goPanic]
  unfold Oper.wp
  rw [e, Oper.upon_panic]
  exact ⟨ha.nil, h⟩
end
end Go.Proofs.YtmkijgmfefkgeaaGreatDoor
