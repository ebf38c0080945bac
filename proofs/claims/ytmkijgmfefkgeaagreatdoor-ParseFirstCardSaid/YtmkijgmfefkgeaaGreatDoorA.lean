/- A small separation logic over the model's heap (blocks), and steps of the walk over environments that are told as lists: the library of this seat's proofs. No condition. -/
import Derived.Below
import Derived.Laws.AppendOwn
import Derived.Tactics
import Derived.Orders
import Derived.Deep.Quiet
import Derived.KernelRfl
set_option autoImplicit false
set_option linter.unusedVariables false
set_option linter.unusedSimpArgs false
namespace Go.Proofs.YtmkijgmfefkgeaaGreatDoor
open Go
/-! ### 1. Assertions over parts of the heap -/
abbrev PH := Nat → Option Obj
abbrev SP := PH → Prop
def emp : SP := fun h => ∀ k, h k = none
def sep (A B : SP) : SP := fun h => ∃ a b : PH, (∀ k, a k = none ∨ b k = none) ∧ (∀ k, h k = (a k).or (b k)) ∧ A a ∧ B b
def all : List SP → SP
  | [] => emp
  | A :: L => sep A (all L)
def blk (b : Nat) (o : Obj) : SP := fun h => ∀ k, h k = if k = b then some o else none
def ex {α : Type} (A : α → SP) : SP := fun h => ∃ x, A x h
def pr (p : Prop) : SP := fun h => p ∧ emp h

theorem sep_ext {A B : SP} {h h' : PH} (e : ∀ k, h' k = h k) (H : sep A B h) : sep A B h' := by
  obtain ⟨a, b, h1, h2, h3, h4⟩ := H
  exact ⟨a, b, h1, fun k => (e k).trans (h2 k), h3, h4⟩

theorem sep_comm {A B : SP} {h : PH} (H : sep A B h) : sep B A h := by
  obtain ⟨a, b, h1, h2, h3, h4⟩ := H
  refine ⟨b, a, fun k => (h1 k).symm, fun k => ?_, h4, h3⟩
  rw [h2 k]
  rcases h1 k with h | h <;> simp [h]

theorem or_facts (x y z u : Option Obj) (h1 : x = none ∨ u = none) (h2 : y = none ∨ z = none) (h3 : u = y.or z) :
    (x.or y = none ∨ z = none) ∧ (x = none ∨ y = none) ∧ x.or u = (x.or y).or z := by
  subst h3
  cases x <;> cases y <;> cases z <;> simp_all
theorem or_facts' (x y z u : Option Obj) (h1 : u = none ∨ z = none) (h2 : x = none ∨ y = none) (h3 : u = x.or y) :
    (x = none ∨ y.or z = none) ∧ (y = none ∨ z = none) ∧ u.or z = x.or (y.or z) := by
  subst h3
  cases x <;> cases y <;> cases z <;> simp_all

theorem sep_assoc {A B C : SP} {h : PH} (H : sep A (sep B C) h) : sep (sep A B) C h := by
  obtain ⟨a, bc, h1, h2, h3, b, c, h4, h5, h6, h7⟩ := H
  exact ⟨fun k => (a k).or (b k), c, fun k => (or_facts _ _ _ _ (h1 k) (h4 k) (h5 k)).1, fun k => (h2 k).trans (or_facts _ _ _ _ (h1 k) (h4 k) (h5 k)).2.2,
    ⟨a, b, fun k => (or_facts _ _ _ _ (h1 k) (h4 k) (h5 k)).2.1, fun _ => rfl, h3, h6⟩, h7⟩

theorem sep_assoc' {A B C : SP} {h : PH} (H : sep (sep A B) C h) : sep A (sep B C) h := by
  obtain ⟨ab, c, h1, h2, ⟨a, b, h4, h5, h6, h7⟩, h8⟩ := H
  exact ⟨a, fun k => (b k).or (c k), fun k => (or_facts' _ _ _ _ (h1 k) (h4 k) (h5 k)).1, fun k => (h2 k).trans (or_facts' _ _ _ _ (h1 k) (h4 k) (h5 k)).2.2,
    h6, b, c, fun k => (or_facts' _ _ _ _ (h1 k) (h4 k) (h5 k)).2.1, fun _ => rfl, h7, h8⟩

theorem sep_mono {A A' B B' : SP} (hA : ∀ h, A h → A' h) (hB : ∀ h, B h → B' h) {h : PH} (H : sep A B h) : sep A' B' h := by
  obtain ⟨a, b, h1, h2, h3, h4⟩ := H
  exact ⟨a, b, h1, h2, hA _ h3, hB _ h4⟩

theorem sep_left_comm {A B C : SP} {h : PH} (H : sep A (sep B C) h) : sep B (sep A C) h :=
  sep_assoc' (sep_mono (fun _ => sep_comm) (fun _ => id) (sep_assoc H))

theorem all_perm {L L' : List SP} (p : L.Perm L') : ∀ {h : PH}, all L h → all L' h := by
  induction p with
  | nil => exact id
  | cons x _ ih => intro h H; exact sep_mono (fun _ => id) (fun _ => ih) H
  | swap x y l => intro h H; exact sep_left_comm H
  | trans _ _ ih1 ih2 => intro h H; exact ih2 (ih1 H)

/-! ### 2. What is owned of a world; g: the world that the streams are held against -/
/-- What stood in memory at g: nobody turns it. -/
def gl (g : World) : PH := fun k => g.heap[k]?
structure Hd (g : World) (h : PH) (w : World) : Prop where
  sub : ∀ k o, h k = some o → w.heap[k]? = some o
  glo : ∀ k o, gl g k = some o → w.heap[k]? = some o
  dis : ∀ k, h k = none ∨ gl g k = none
instance {g : World} {h : PH} {w : World} : CoeFun (Hd g h w) fun _ => ∀ k o, h k = some o → w.heap[k]? = some o := ⟨Hd.sub⟩
theorem Hd.le {g w : World} {h h' : PH} (H : Hd g h w) (hs : ∀ k o, h' k = some o → h k = some o) : Hd g h' w :=
  ⟨fun k o e => H.sub k o (hs k o e), H.glo, fun k => by
    cases e : h' k with
    | none => exact .inl rfl
    | some o =>
      right
      rcases H.dis k with d | d
      · rw [hs k o e] at d; cases d
      · exact d⟩
structure Own (g : World) (L : List SP) (w : World) : Prop where
  os : w.os = g.os
  tape : w.tape = g.tape
  output : w.output = g.output
  heap : ∃ h, all L h ∧ Hd g h w

section
variable {g w : World} {L L' : List SP} {A B : SP}

theorem Own.conv (h : Own g L w) (hc : ∀ k, all L k → all L' k) : Own g L' w :=
  ⟨h.os, h.tape, h.output, let ⟨k, h1, h2⟩ := h.heap; ⟨k, hc _ h1, h2⟩⟩
theorem Own.perm (h : Own g L w) (p : L.Perm L') : Own g L' w := h.conv fun _ => all_perm p
theorem Own.mono (h : Own g (A :: L) w) (hc : ∀ k, A k → B k) : Own g (B :: L) w := h.conv fun _ => sep_mono hc fun _ => id
theorem Own.drop (h : Own g (A :: L) w) : Own g L w := by
  refine ⟨h.os, h.tape, h.output, ?_⟩
  obtain ⟨k, ⟨a, b, h1, h2, h3, h4⟩, h5⟩ := h.heap
  refine ⟨b, h4, h5.le fun i o hb => ?_⟩
  rw [h2 i]
  rcases h1 i with e | e
  · simp [e, hb]
  · rw [e] at hb; cases hb
theorem Own.split (h : Own g (sep A B :: L) w) : Own g (A :: B :: L) w := h.conv fun _ H => sep_assoc' H
theorem Own.join (h : Own g (A :: B :: L) w) : Own g (sep A B :: L) w := h.conv fun _ H => sep_assoc H
theorem Own.ex {α : Type} {A : α → SP} (h : Own g (ex A :: L) w) : ∃ x, Own g (A x :: L) w := by
  obtain ⟨k, ⟨a, b, h1, h2, ⟨x, h3⟩, h4⟩, h5⟩ := h.heap
  exact ⟨x, h.os, h.tape, h.output, k, ⟨a, b, h1, h2, h3, h4⟩, h5⟩
theorem Own.intro {α : Type} {A : α → SP} {x : α} (h : Own g (A x :: L) w) : Own g (Go.Proofs.YtmkijgmfefkgeaaGreatDoor.ex A :: L) w := h.mono fun _ hx => ⟨x, hx⟩
theorem Own.pr {p : Prop} (h : Own g (pr p :: L) w) : p ∧ Own g L w := by
  refine ⟨?_, h.drop⟩
  obtain ⟨k, ⟨a, b, h1, h2, h3, h4⟩, h5⟩ := h.heap
  exact h3.1
theorem Own.pr_intro {p : Prop} (hp : p) (h : Own g L w) : Own g (Go.Proofs.YtmkijgmfefkgeaaGreatDoor.pr p :: L) w := by
  refine ⟨h.os, h.tape, h.output, ?_⟩
  obtain ⟨k, h1, h2⟩ := h.heap
  exact ⟨k, ⟨fun _ => none, k, fun _ => .inl rfl, fun _ => by simp, ⟨hp, fun _ => rfl⟩, h1⟩, h2⟩
theorem Own.emp_intro (h : Own g L w) : Own g (emp :: L) w := by
  refine ⟨h.os, h.tape, h.output, ?_⟩
  obtain ⟨k, h1, h2⟩ := h.heap
  exact ⟨k, ⟨fun _ => none, k, fun _ => .inl rfl, fun _ => by simp, fun _ => rfl, h1⟩, h2⟩

/-- Number i to the front. -/
theorem perm_front (i : Nat) (A : SP) : ∀ (L : List SP), L[i]? = some A → L.Perm (A :: L.eraseIdx i) := by
  induction i with
  | zero =>
    intro L h
    cases L with
    | nil => cases h
    | cons B L => simp at h; subst h; simp
  | succ i ih =>
    intro L h
    cases L with
    | nil => cases h
    | cons B L =>
      simp at h
      exact ((ih L h).cons B).trans (List.Perm.swap _ _ _)
theorem Own.fr (h : Own g L w) (i : Nat) {A : SP} (hi : L[i]? = some A) : Own g (A :: L.eraseIdx i) w := h.perm (perm_front i A L hi)

/-- One to go. -/
theorem Own.er (h : Own g L w) (i : Nat) : Own g (L.eraseIdx i) w := by
  cases hi : L[i]? with
  | none => rw [List.eraseIdx_of_length_le (by simpa using hi)]; exact h
  | some A => exact (h.fr i hi).drop
theorem Own.get {b : Nat} {o : Obj} (h : Own g (blk b o :: L) w) : w.heap[b]? = some o := by
  obtain ⟨k, ⟨a, r, h1, h2, h3, h4⟩, h5⟩ := h.heap
  exact h5 b o (by rw [h2 b, h3 b]; simp)
theorem Own.at (h : Own g L w) (i : Nat) {b : Nat} {o : Obj} (hi : L[i]? = some (blk b o)) : w.heap[b]? = some o := (h.fr i hi).get

/-- The heap turned at one block that is owned. -/
theorem Own.upd {b : Nat} {o o' : Obj} {w' : World} (h : Own g (blk b o :: L) w) (hos : w'.os = w.os) (ht : w'.tape = w.tape) (ho : w'.output = w.output)
    (hb : w'.heap[b]? = some o') (hk : ∀ k, k ≠ b → w'.heap[k]? = w.heap[k]?) : Own g (blk b o' :: L) w' := by
  refine ⟨hos.trans h.os, ht.trans h.tape, ho.trans h.output, ?_⟩
  obtain ⟨k, ⟨a, r, h1, h2, h3, h4⟩, h5⟩ := h.heap
  have hr : r b = none := by
    rcases h1 b with e | e
    · rw [h3 b] at e; simp at e
    · exact e
  refine ⟨fun i => if i = b then some o' else r i, ⟨fun i => if i = b then some o' else none, r, fun i => ?_, fun i => ?_, fun i => rfl, h4⟩, ⟨fun i u hu => ?_, fun i u hu => ?_, fun i => ?_⟩⟩
  · by_cases e : i = b
    · right; rw [e]; exact hr
    · left; simp [e]
  · by_cases e : i = b <;> simp [e]
  · by_cases e : i = b
    · simp only [e, if_true] at hu
      cases hu
      rw [e]; exact hb
    · simp only [e, if_false] at hu
      rw [hk i e]
      exact h5 i u (by rw [h2 i, h3 i]; simp [e, hu])
  · by_cases e : i = b
    · subst e
      rcases h5.dis i with d | d
      · rw [h2 i, h3 i] at d; simp at d
      · rw [d] at hu; cases hu
    · rw [hk i e]; exact h5.glo i u hu
  · by_cases e : i = b
    · subst e
      rcases h5.dis i with d | d
      · rw [h2 i, h3 i] at d; simp at d
      · exact .inr d
    · rcases h5.dis i with d | d
      · left
        simp only [e, if_false]
        rw [h2 i, h3 i] at d
        simpa [e] using d
      · exact .inr d

theorem setCell_self (w : World) (b off : Nat) (v : Value) {c : Array Value} {e : TypeId} {fr : Nat × Nat} (h : w.heap[b]? = some (.cells c e fr)) :
    (w.setCell ⟨b, off, none⟩ v).heap[b]? = some (.cells (c.setIfInBounds off v) e fr) := by
  simp [World.setCell, Array.getElem?_modify, h]
theorem setCell_ne (w : World) (b off k : Nat) (v : Value) (h : k ≠ b) : (w.setCell ⟨b, off, none⟩ v).heap[k]? = w.heap[k]? := by
  simp only [World.setCell, Array.getElem?_modify]
  rw [if_neg (by omega)]
theorem Own.set {b off : Nat} {c : Array Value} {e : TypeId} {fr : Nat × Nat} (h : Own g (blk b (.cells c e fr) :: L) w) (v : Value) :
    Own g (blk b (.cells (c.setIfInBounds off v) e fr) :: L) (w.setCell ⟨b, off, none⟩ v) :=
  h.upd rfl rfl rfl (setCell_self w b off v h.get) (fun k hk => setCell_ne w b off k v hk)

theorem Own.al (h : Own g L w) (o : Obj) : Own g (blk w.heap.size o :: L) (w.alloc o) := by
  refine ⟨h.os, h.tape, h.output, ?_⟩
  obtain ⟨r, h1, h2⟩ := h.heap
  have hr : r w.heap.size = none := by
    cases e : r w.heap.size with
    | none => rfl
    | some u =>
      have := (Array.getElem?_eq_some_iff.1 (h2 _ _ e)).1
      omega
  refine ⟨fun i => if i = w.heap.size then some o else r i, ⟨fun i => if i = w.heap.size then some o else none, r, fun i => ?_, fun i => ?_, fun i => rfl, h1⟩, ⟨fun i u hu => ?_, fun i u hu => ?_, fun i => ?_⟩⟩
  · by_cases e : i = w.heap.size
    · right; rw [e]; exact hr
    · left; simp [e]
  · by_cases e : i = w.heap.size <;> simp [e]
  · by_cases e : i = w.heap.size
    · simp only [e, if_true] at hu
      cases hu
      rw [e]; exact heap_alloc_new w o
    · simp only [e, if_false] at hu
      have := (Array.getElem?_eq_some_iff.1 (h2 _ _ hu)).1
      rw [heap_alloc_old w o i this]
      exact h2 _ _ hu
  · have := (Array.getElem?_eq_some_iff.1 (h2.glo _ _ hu)).1
    rw [heap_alloc_old w o i this]
    exact h2.glo _ _ hu
  · by_cases e : i = w.heap.size
    · right
      cases hg : gl g i with
      | none => rfl
      | some u =>
        have := (Array.getElem?_eq_some_iff.1 (h2.glo _ _ hg)).1
        omega
    · simp only [e, if_false]
      exact h2.dis i
theorem Own.drew (h : Own g L w) : Own g L { w with drawn := w.drawn + 1 } := ⟨h.os, h.tape, h.output, let ⟨k, h1, h2⟩ := h.heap; ⟨k, h1, h2.sub, h2.glo, h2.dis⟩⟩
/-- What turned only above what was there turned nothing that is owned. -/
theorem Own.keep {w' : World} (h : Own g L w) (hos : w'.os = w.os) (ht : w'.tape = w.tape) (ho : w'.output = w.output) (hk : ∀ (k : Nat) (o : Obj), w.heap[k]? = some o → w'.heap[k]? = some o) : Own g L w' :=
  ⟨hos.trans h.os, ht.trans h.tape, ho.trans h.output, let ⟨k, h1, h2⟩ := h.heap; ⟨k, h1, fun i o e => hk _ _ (h2.sub i o e), fun i o e => hk _ _ (h2.glo i o e), h2.dis⟩⟩
theorem Own.var (h : Own g L w) {k : Nat} {o : Obj} (hk : gl g k = some o) : w.heap[k]? = some o := let ⟨_, _, h2⟩ := h.heap; h2.glo k o hk
/-- Owned blocks at two places are two blocks. -/
theorem Own.ne {b b' : Nat} {o o' : Obj} (h : Own g (blk b o :: blk b' o' :: L) w) : b ≠ b' := by
  rintro rfl
  obtain ⟨k, ⟨a, r, h1, h2, h3, ⟨a', r', h1', h2', h3', h4'⟩⟩, h5⟩ := h.heap
  rcases h1 b with e | e
  · rw [h3 b] at e; simp at e
  · rw [h2' b, h3' b] at e; simp at e
end

/-! ### 3. Environments: what some slots hold -/
abbrev En := List (Nat × Value)
def look (t : Nat) : En → Option Value
  | [] => none
  | (u, v) :: E => match Nat.beq t u with
    | true => some v
    | false => look t E
def ev (E : En) : Operand → Option Value
  | .tmp t => look t E
  | .const v => some v
  | .global g => some (.pointer (some ⟨g, 0, none⟩))
  | .func f => some (.func (.func f) #[] #[])
def evs (E : En) : List Operand → Option (List Value)
  | [] => some []
  | x :: r => match ev E x with
    | some v => match evs E r with
      | some l => some (v :: l)
      | none => none
    | none => none
def pt (d : Option Tmp) (v : Value) (E : En) : En := match d with
  | some d => (d, v) :: E
  | none => E
def dstOk (n : Nat) (d : Option Tmp) : Bool := match d with
  | some d => Nat.ble (d + 1) n
  | none => true
def opsOk (n : Nat) : List Oper → Bool
  | [] => true
  | o :: r => match dstOk n o.dst with
    | true => opsOk n r
    | false => false

structure Fits (n : Nat) (D : List Deferred) (E : En) (a : Act) : Prop where
  size : a.tmps.size = n
  dfr : a.defers = D
  vals : ∀ t v, look t E = some v → a.tmps[t]? = some v

theorem look_cons_self (t : Nat) (v : Value) (E : En) : look t ((t, v) :: E) = some v := by
  simp [look]
theorem look_cons_ne {t u : Nat} (h : t ≠ u) (v : Value) (E : En) : look t ((u, v) :: E) = look t E := by
  have : Nat.beq t u = false := by
    cases e : Nat.beq t u with
    | false => rfl
    | true => exact absurd (Nat.eq_of_beq_eq_true e) h
  simp [look, this]

section
variable {n : Nat} {D : List Deferred} {E : En} {a : Act}
theorem Fits.ev (h : Fits n D E a) {x : Operand} {v : Value} (hx : ev E x = some v) : a.eval x = v := by
  cases x with
  | tmp t =>
    have := h.vals t v hx
    simp [Act.eval, Array.getD_eq_getD_getElem?, this]
  | const u => simpa [Go.Proofs.YtmkijgmfefkgeaaGreatDoor.ev, Act.eval] using hx
  | global g => simpa [Go.Proofs.YtmkijgmfefkgeaaGreatDoor.ev, Act.eval] using hx
  | func f => simpa [Go.Proofs.YtmkijgmfefkgeaaGreatDoor.ev, Act.eval] using hx
theorem Fits.evs (h : Fits n D E a) : ∀ {xs : List Operand} {vs : List Value}, evs E xs = some vs → xs.map a.eval = vs
  | [], vs, hx => by simpa [Go.Proofs.YtmkijgmfefkgeaaGreatDoor.evs] using hx
  | x :: r, vs, hx => by
    unfold Go.Proofs.YtmkijgmfefkgeaaGreatDoor.evs at hx
    split at hx
    · rename_i v hv
      split at hx
      · rename_i l hl
        cases hx
        simp [h.ev hv, h.evs hl]
      · cases hx
    · cases hx
theorem Fits.put (h : Fits n D E a) {d : Option Tmp} (v : Value) (hd : dstOk n d = true) : Fits n D (pt d v E) (a.put d v) := by
  cases d with
  | none => exact h
  | some d =>
    have hd : d < n := Nat.le_of_ble_eq_true hd
    refine ⟨by simp [Act.put, h.size], by simpa [Act.put] using h.dfr, fun t u hu => ?_⟩
    by_cases e : t = d
    · subst e
      rw [pt, look_cons_self] at hu
      cases hu
      simp [Act.put, h.size, hd]
    · rw [pt, look_cons_ne e] at hu
      simp only [Act.put]
      rw [Array.getElem?_setIfInBounds_ne (Ne.symm e)]
      exact h.vals t u hu
/-- A smaller environment. -/
def Sub : En → En → Prop
  | [], _ => True
  | (t, v) :: r, E => look t E = some v ∧ Sub r E
theorem Sub.look : ∀ {E0 E : En}, Sub E0 E → ∀ t v, look t E0 = some v → look t E = some v
  | [], _, _, t, v, h => by cases h
  | (u, x) :: r, E, hs, t, v, h => by
    by_cases e : t = u
    · subst e
      rw [look_cons_self] at h
      cases h
      exact hs.1
    · rw [look_cons_ne e] at h
      exact hs.2.look t v h
theorem Fits.sub (h : Fits n D E a) {E0 : En} (hs : Sub E0 E) : Fits n D E0 a := ⟨h.size, h.dfr, fun t v ht => h.vals t v (hs.look t v ht)⟩
end

/-! ### 4. Code over environments -/
section
variable (P : Program) (n : Nat) (D : List Deferred)
def CQ (Q : Exit → En → World → Prop) : Exit → Act → World → Prop := fun e a w => ∃ E, Fits n D E a ∧ Q e E w
def CW (Q : Exit → En → World → Prop) (c : Code) (E : En) (w : World) : Prop := ∀ a, Fits n D E a → c.wp P (CQ n D Q) a w
@[reducible] def thn (K : En → World → Prop) (Q : Exit → En → World → Prop) : Exit → En → World → Prop := fun e E w => match e with
  | .normal => K E w
  | e => Q e E w
@[reducible] def inb (id : Nat) (Q : Exit → En → World → Prop) : Exit → En → World → Prop := fun e E w => match e with
  | .exit id' => match Nat.beq id' id with
    | true => Q .normal E w
    | false => Q (.exit id') E w
  | e => Q e E w
def LQ (K : En → World → Prop) (X : List PanicEntry → World → Prop) : Exit → Act → World → Prop := fun e a w => match e with
  | .normal => ∃ E, Fits n D E a ∧ K E w
  | .panic c => Fits n D [] a ∧ X c w
  | _ => False
def WL (ops : Array Oper) (K : En → World → Prop) (X : List PanicEntry → World → Prop) (l : List Oper) (E : En) (w : World) : Prop :=
  opsOk n l = true → ∀ a, Fits n D E a → wpList P ops (LQ n D K X) l a w
end

section
variable {P : Program} {n : Nat} {D : List Deferred} {Q : Exit → En → World → Prop} {E : En} {w : World}

theorem Fits.nil {a : Act} (h : Fits n D E a) : Fits n D [] a := ⟨h.size, h.dfr, fun t v ht => by cases ht⟩

theorem cw_sub {c : Code} {E0 : En} (hs : Sub E0 E) (h : CW P n D Q c E0 w) : CW P n D Q c E w := fun a ha => h a (ha.sub hs)
theorem cw_mono {c : Code} {Q' : Exit → En → World → Prop} (h : CW P n D Q c E w) (hq : ∀ e E w, Q e E w → Q' e E w) : CW P n D Q' c E w :=
  fun a ha => wp_mono (h a ha) fun e a w ⟨E, h1, h2⟩ => ⟨E, h1, hq _ _ _ h2⟩
theorem cw_skip (h : Q .normal E w) : CW P n D Q .skip E w := fun a ha => wp_skip ⟨E, ha, h⟩
theorem cw_label {l : Nat} (h : Q .normal E w) : CW P n D Q (.label l) E w := fun a ha => wp_label ⟨E, ha, h⟩
theorem cw_exit {id : Nat} (h : Q (.exit id) E w) : CW P n D Q (.exit id) E w := fun a ha => wp_exit ⟨E, ha, h⟩
theorem cw_goto {l : Nat} (h : Q (.goto l) E w) : CW P n D Q (.goto l) E w := fun a ha => wp_goto ⟨E, ha, h⟩
theorem cw_ret (h : Q .ret E w) : CW P n D Q .ret E w := fun a ha => wp_ret ⟨E, ha, h⟩
theorem cw_seq {x y : Code} (h : CW P n D (thn (fun E w => CW P n D Q y E w) Q) x E w) : CW P n D Q (.seq x y) E w := by
  intro a ha
  refine wp_seq (wp_mono (h a ha) fun e a' w' ⟨E', h1, h2⟩ => ?_)
  cases e with
  | normal => exact h2 a' h1
  | _ => exact ⟨E', h1, h2⟩
theorem cw_cond {c : Operand} {x y : Code} {t : Bool} (hc : ev E c = some (.bool t)) (ht : t = true → CW P n D Q x E w) (hf : t = false → CW P n D Q y E w) :
    CW P n D Q (.cond c x y) E w := fun a ha => wp_cond_split (ha.ev hc) (fun h => ht h a ha) (fun h => hf h a ha)
theorem cw_cond_t {c : Operand} {x y : Code} {b : Bool} (hc : ev E c = some (.bool b)) (hb : b = true) (h : CW P n D Q x E w) : CW P n D Q (.cond c x y) E w :=
  fun a ha => wp_cond_true (by rw [← hb]; exact ha.ev hc) (h a ha)
theorem cw_cond_f {c : Operand} {x y : Code} {b : Bool} (hc : ev E c = some (.bool b)) (hb : b = false) (h : CW P n D Q y E w) : CW P n D Q (.cond c x y) E w :=
  fun a ha => wp_cond_false (by rw [← hb]; exact ha.ev hc) (h a ha)
theorem cw_block {id : Nat} {c : Code} (h : CW P n D (inb id Q) c E w) : CW P n D Q (.block id c) E w := by
  intro a ha
  refine wp_block (wp_mono (h a ha) fun e a' w' ⟨E', h1, h2⟩ => ?_)
  cases e with
  | exit id' =>
    by_cases hid : id' = id
    · subst hid
      simp only [Exit.inBlock, if_true]
      simp only [inb, Nat.beq_refl] at h2
      exact ⟨E', h1, h2⟩
    · have hb : Nat.beq id' id = false := by
        cases e : Nat.beq id' id with
        | false => rfl
        | true => exact absurd (Nat.eq_of_beq_eq_true e) hid
      simp only [Exit.inBlock, hid, if_false]
      simp only [inb, hb] at h2
      exact ⟨E', h1, h2⟩
  | _ => exact ⟨E', h1, h2⟩
theorem cw_region {id : Nat} {l : List Oper} (hd : opsOk n l = true) (h : WL P n D l.toArray (fun E w => Q .normal E w) (fun c w => Q (.panic c) [] w) l E w) :
    CW P n D Q (.region id l.toArray false) E w := by
  intro a ha
  refine wp_mono (wp_region_lit (h hd a ha)) fun e a' w' hq => ?_
  cases e with
  | normal => exact hq
  | panic c => exact ⟨[], hq.1, hq.2⟩
  | _ => exact hq.elim
/-- A loop: s are letters of one's own; EI tells the slots at its head, I what is known of the world. -/
theorem cw_loop {σ : Type} {c : Code} (EI : σ → En) (I : σ → World → Prop) (μ : σ → Nat) (s : σ) (h0 : Sub (EI s) E) (hI : I s w)
    (round : ∀ s w, I s w → CW P n D (thn (fun E' w' => ∃ s', Sub (EI s') E' ∧ I s' w' ∧ μ s' < μ s) Q) c (EI s) w) : CW P n D Q (.loop c) E w := by
  intro a ha b k cs
  have key : ∀ m s a w, μ s = m → I s w → Fits n D (EI s) a →
      ∃ e a' w', CQ n D Q e a' w' ∧ Arrives P (lone (b.at a (.code c :: .inLoop c :: k)) cs w) b k cs e a' w' := by
    intro m
    induction m using Nat.strongRecOn with
    | _ m ih =>
      intro s a w hm hI ha
      obtain ⟨e, a1, w1, ⟨E1, hf, hq⟩, harr⟩ := round s w hI a ha b (.inLoop c :: k) cs
      cases e with
      | normal =>
        obtain ⟨s', hs', hI', hlt⟩ := hq
        obtain ⟨e2, a2, w2, hq2, harr2⟩ := ih (μ s') (hm ▸ hlt) s' a1 w1 rfl hI' (hf.sub hs')
        exact ⟨e2, a2, w2, hq2, .of_steps (Steps.trans harr (.one step_inLoop)) harr2⟩
      | exit id => exact ⟨_, a1, w1, ⟨E1, hf, hq⟩, .pass (x := .inLoop c) rfl (fun _ _ => .inl (by simp)) harr⟩
      | goto l => exact ⟨_, a1, w1, ⟨E1, hf, hq⟩, .pass (x := .inLoop c) rfl (fun _ _ => .inl (by simp)) harr⟩
      | ret => exact ⟨_, a1, w1, ⟨E1, hf, hq⟩, .pass (x := .inLoop c) rfl (fun _ _ => .inl (by simp)) harr⟩
      | panic ch => exact ⟨_, a1, w1, ⟨E1, hf, hq⟩, .pass (x := .inLoop c) rfl (fun _ _ => .inl (by simp)) harr⟩
      | outgrown => exact ⟨_, a1, w1, ⟨E1, hf, hq⟩, .pass (x := .inLoop c) rfl (fun _ _ => .inl (by simp)) harr⟩
  obtain ⟨e, a', w', hq, harr⟩ := key _ s a w rfl hI (ha.sub h0)
  exact ⟨e, a', w', hq, .of_steps (.one step_loop) harr⟩
end
end Go.Proofs.YtmkijgmfefkgeaaGreatDoor
