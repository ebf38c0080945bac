/- What the parser does up to a token hangs on the tokens up to it. No condition. -/
import Derived.Test.YtmkijgmfefkgeaaGreatDoorP4
set_option autoImplicit false
set_option linter.unusedVariables false
set_option linter.unusedSimpArgs false
namespace Go.Proofs.YtmkijgmfefkgeaaGreatDoor
open Go
def PR.bind {α β : Type} (r : PR α) (f : α → Nat → PR β) : PR β := match r with
  | .ok x k => f x k
  | .er q => .er q
  | .fu => .fu
/-- Two rows of tokens that are alike up to number i; places rise; the first row's end is behind token i. -/
structure Lk (i : Nat) (l l' : List Tk) : Prop where
  up : Up l
  lt : i < l.length
  lt' : i < l'.length
  eq : ∀ k, k ≤ i → l'[k]? = l[k]?
  fin : (nxt l i).a < endAt l l.length
section
variable {i : Nat} {l l' : List Tk}
theorem Lk.nx (h : Lk i l l') {k : Nat} (hk : k ≤ i) : nxt l' k = nxt l k := by
  have h1 := h.eq k hk
  have h2 : l[k]? = some (l[k]'(by have := h.lt; omega)) := List.getElem?_eq_getElem _
  simp [Go.Proofs.YtmkijgmfefkgeaaGreatDoor.nxt, h1, h2]
theorem Lk.fend (h : Lk i l l') {k : Nat} (hk : k ≤ i + 1) : endAt l' k = endAt l k := by
  cases k with
  | zero => rfl
  | succ j => simp only [endAt, h.eq j (by omega)]
theorem Lk.gt (h : Lk i l l') {k : Nat} (hk : i < k) (hl : k ≤ l.length) : (nxt l i).a < (nxt l k).a := by
  rcases Nat.lt_or_ge k l.length with h' | h'
  · have hi := List.getElem?_eq_getElem h.lt
    have hz := List.getElem?_eq_getElem h'
    have := List.pairwise_iff_getElem.1 h.up.fol i k h.lt h' hk
    simp only [Go.Proofs.YtmkijgmfefkgeaaGreatDoor.nxt, hi, hz]
    exact this.1
  · have e : k = l.length := by omega
    subst e
    have hz : l[l.length]? = none := List.getElem?_eq_none h'
    have := h.fin
    simp only [Go.Proofs.YtmkijgmfefkgeaaGreatDoor.nxt, hz] at this ⊢
    exact this
theorem Up.nmono {l : List Tk} (U : Up l) {k k' : Nat} (h : k ≤ k') (h' : k' ≤ l.length) : (nxt l k).a ≤ (nxt l k').a := by
  rcases Nat.lt_or_ge k k' with h1 | h1
  · have a1 := U.step (k := k) (by omega)
    have a2 := U.mono (k := k + 1) (k' := k') (by omega) h'
    have a3 := U.ord h'
    omega
  · have : k = k' := by omega
    subst this
    exact Int.le_refl _
/-- r is what the first row gives from k on, r' the second. -/
def Qq {α : Type} (i : Nat) (l : List Tk) (k : Nat) (r r' : PR α) : Prop :=
  (∀ x k', r = .ok x k' → k ≤ k' ∧ k' ≤ l.length ∧ (k' ≤ i → r' = .ok x k')) ∧ (∀ q, r = .er q → (nxt l k).a ≤ q ∧ (q ≤ (nxt l i).a → r' = .er q))
theorem qbind {α β : Type} (h : Lk i l l') {k : Nat} {r r' : PR α} {G G' : PR β} {f f' : α → Nat → PR β} (hG : G = r.bind f) (hG' : G' = r'.bind f') (hq : Qq i l k r r') (hf : ∀ x k1, r = .ok x k1 → k ≤ k1 → k1 ≤ l.length → Qq i l k1 (f x k1) (f' x k1)) : Qq i l k G G' := by
  subst hG hG'
  cases r with
  | fu => exact ⟨fun x k' e => (by cases e), fun q e => (by cases e)⟩
  | er q =>
    refine ⟨fun x k' e => (by cases e), fun q' e => ?_⟩
    have e : PR.er (α := β) q = .er q' := e
    cases e
    obtain ⟨h1, h2⟩ := hq.2 q rfl
    exact ⟨h1, fun h3 => by rw [h2 h3]; rfl⟩
  | ok x k1 =>
    obtain ⟨h1, h2, h3⟩ := hq.1 x k1 rfl
    obtain ⟨g1, g2⟩ := hf x k1 rfl h1 h2
    have hm := h.up.nmono h1 h2
    refine ⟨fun y k' e => ?_, fun q e => ?_⟩
    · obtain ⟨a1, a2, a3⟩ := g1 y k' e
      exact ⟨by omega, a2, fun h4 => by rw [h3 (by omega)]; exact a3 h4⟩
    · obtain ⟨a1, a2⟩ := g2 q e
      refine ⟨by omega, fun h4 => ?_⟩
      have : k1 ≤ i := by
        rcases Nat.lt_or_ge i k1 with h5 | h5
        · have := h.gt h5 h2; omega
        · exact h5
      rw [h3 this]
      exact a2 h4
theorem qfar {α : Type} (h : Lk i l l') {k : Nat} {r r' r'' : PR α} (hk : i < k) (hl : k ≤ l.length) (hq : Qq i l k r r') : Qq i l k r r'' := by
  have hg := h.gt hk hl
  refine ⟨fun x k' e => ?_, fun q e => ?_⟩
  · obtain ⟨a1, a2, a3⟩ := hq.1 x k' e; exact ⟨a1, a2, fun h4 => by omega⟩
  · obtain ⟨a1, a2⟩ := hq.2 q e; exact ⟨a1, fun h4 => by omega⟩
theorem qite {α : Type} (h : Lk i l l') {k : Nat} (hl : k ≤ l.length) {c c' : Prop} [Decidable c] [Decidable c'] {A A' B B' : PR α} (hc : k ≤ i → (c ↔ c')) (hA : c → Qq i l k A A') (hB : ¬ c → Qq i l k B B') : Qq i l k (if c then A else B) (if c' then A' else B') := by
  rcases Nat.lt_or_ge i k with hk | hk
  · split
    · exact qfar h hk hl (hA (by assumption))
    · exact qfar h hk hl (hB (by assumption))
  · have hc := hc hk
    by_cases hh : c
    · rw [if_pos hh, if_pos (hc.1 hh)]; exact hA hh
    · rw [if_neg hh, if_neg (fun x => hh (hc.2 x))]; exact hB hh
theorem qok {α : Type} {k k' : Nat} {x x' : α} (h : k ≤ k') (hl : k' ≤ l.length) (hx : k' ≤ i → x' = x) : Qq i l k (.ok x k') (.ok x' k') := ⟨fun y k2 e => by cases e; exact ⟨h, hl, fun h2 => by rw [hx h2]⟩, fun q e => (by cases e)⟩
theorem qer {α : Type} {k k0 : Nat} (h : Lk i l l') (hl : k ≤ l.length) : Qq (α := α) i l k (.er (nxt l k).a) (.er (nxt l' k).a) := ⟨fun y k2 e => (by cases e), fun q e => by
  cases e
  refine ⟨Int.le_refl _, fun h4 => ?_⟩
  rcases Nat.lt_or_ge i k with hk | hk
  · have := h.gt hk hl; omega
  · rw [h.nx hk]⟩
theorem qfu {α : Type} {k : Nat} {r : PR α} : Qq (α := α) i l k .fu r := ⟨fun y k2 e => (by cases e), fun q e => (by cases e)⟩
theorem Qq.down {α : Type} (h : Lk i l l') {k k0 : Nat} {r r' : PR α} (hq : Qq i l k r r') (hk : k0 ≤ k) (hl : k ≤ l.length) : Qq i l k0 r r' := ⟨fun x k' e => by obtain ⟨a1, a2, a3⟩ := hq.1 x k' e; exact ⟨by omega, a2, a3⟩, fun q e => by obtain ⟨a1, a2⟩ := hq.2 q e; have := h.up.nmono hk hl; exact ⟨by omega, a2⟩⟩
variable (h : Lk i l l')
include h
theorem Lk.isBx {k : Nat} {s : ByteArray} (hk : k ≤ i) : isB l' k s = isB l k s := by simp only [Go.Proofs.YtmkijgmfefkgeaaGreatDoor.isB, h.nx hk]
theorem Lk.namedBx {k : Nat} (hk : k ≤ i) : namedB l' k = namedB l k := by simp only [Go.Proofs.YtmkijgmfefkgeaaGreatDoor.namedB, h.nx hk]
theorem isB_iff {k : Nat} {s : ByteArray} : k ≤ i → (isB l k s = true ↔ isB l' k s = true) := fun hk => by rw [h.isBx hk]
theorem need_q {k : Nat} (hk : k ≤ l.length) (s : ByteArray) : Qq i l k (needS l k s) (needS l' k s) := by
  unfold needS
  exact qite h hk (isB_iff h) (fun hc => qok (by omega) (isB_lt' hc) fun h2 => h.nx (by omega)) fun _ => qer (k0 := 0) h hk
theorem name_q {k : Nat} (hk : k ≤ l.length) : Qq i l k (nameS l k) (nameS l' k) := by
  unfold nameS
  exact qite h hk (fun h1 => by rw [h.namedBx h1]) (fun hc => qok (by omega) (namedB_lt' hc) fun h2 => h.nx (by omega)) fun _ => qer (k0 := 0) h hk
theorem kind_q {k : Nat} (hk : k ≤ l.length) {n : Int} (hn : n ≠ 0) : Qq i l k (kindS l k n) (kindS l' k n) := by
  unfold kindS
  exact qite h hk (fun h1 => by rw [h.nx h1]) (fun hc => qok (by omega) (kind_lt' hc hn) fun h2 => h.nx (by omega)) fun _ => qer (k0 := 0) h hk
theorem Lk.firstBx {k : Nat} (hk : k ≤ i) : ∀ (m : List ByteArray), firstB l' k m = firstB l k m
  | [] => rfl
  | s :: r => by simp only [Go.Proofs.YtmkijgmfefkgeaaGreatDoor.firstB, h.isBx hk, Lk.firstBx hk r]
omit h in
theorem Lk.self (h : Lk i l l') : Lk i l l := ⟨h.up, h.lt, h.lt, fun _ _ => rfl, h.fin⟩
theorem kindOf_q0 {k : Nat} (hk : k ≤ l.length) (hfb : firstB l' k [kInt, kBool, kString] = firstB l k [kInt, kBool, kString]) : Qq i l k (kindOfS l k) (kindOfS l' k) := by
  unfold kindOfS
  rw [hfb]
  cases hf : firstB l k [kInt, kBool, kString] with
  | some s =>
    have hlt := firstB_lt hf
    exact qok (by omega) (by omega) fun hi => by simp only [doneN, begN, h.nx (k := k) (by omega), h.fend (k := (k + 1)) (by omega)]
  | none =>
    dsimp only
    refine qbind h (r := nameS l k) (r' := nameS l' k) (by cases nameS l k <;> rfl) (by cases nameS l' k <;> rfl) (name_q h (by omega)) fun n k1 ek1 hk11 hk12 => ?_
    refine qite h (by omega) (isB_iff h) (fun hc => ?_) (fun hc => ?_)
    · skip
      have hlt := isB_lt' hc
      refine Qq.down h (k := (k1 + 1)) ?_ (by omega) (by omega)
      refine qbind h (r := nameS l (k1 + 1)) (r' := nameS l' (k1 + 1)) (by cases nameS l (k1 + 1) <;> rfl) (by cases nameS l' (k1 + 1) <;> rfl) (name_q h (by omega)) fun m k2 ek2 hk21 hk22 => ?_
      exact qok (by omega) (by omega) fun hi => by simp only [doneN, begN, h.fend (k := k1) (by omega), h.fend (k := k2) (by omega)]
    · skip
      exact qok (by omega) (by omega) fun hi => by simp only [doneN, begN, h.fend (k := k1) (by omega)]
theorem kindOf_q {k : Nat} (hk : k ≤ l.length) : Qq i l k (kindOfS l k) (kindOfS l' k) := by
  rcases Nat.lt_or_ge i k with hki | hki
  · exact qfar h hki hk (kindOf_q0 h.self hk rfl)
  · exact kindOf_q0 h hk (h.firstBx hki _)
theorem number_q {k : Nat} (hk : k ≤ l.length) : Qq i l k (numberS l k) (numberS l' k) := by
  unfold numberS
  refine qbind h (r := kindS l k 2) (r' := kindS l' k 2) (by cases kindS l k 2 <;> rfl) (by cases kindS l' k 2 <;> rfl) (kind_q h (by omega) (by decide)) fun t k1 ek1 hk11 hk12 => ?_
  exact qok (by omega) (by omega) fun hi => by simp only [doneN, begN, h.fend (k := k1) (by omega)]
theorem typed_q (n : Int) {k : Nat} (hk : k ≤ l.length) : Qq i l k (typedS l n k) (typedS l' n k) := by
  unfold typedS
  refine qbind h (r := nameS l k) (r' := nameS l' k) (by cases nameS l k <;> rfl) (by cases nameS l' k <;> rfl) (name_q h (by omega)) fun n1 k1 ek1 hk11 hk12 => ?_
  refine qbind h (r := kindOfS l k1) (r' := kindOfS l' k1) (by cases kindOfS l k1 <;> rfl) (by cases kindOfS l' k1 <;> rfl) (kindOf_q h (by omega)) fun t k2 ek2 hk21 hk22 => ?_
  exact qok (by omega) (by omega) fun hi => by simp only [doneN, begN, h.fend (k := k2) (by omega)]
theorem literal_q {k : Nat} (hk : k ≤ l.length) : Qq i l k (literalS l k) (literalS l' k) := by
  unfold literalS
  refine qite h (by omega) (fun hi => by rw [h.nx hi]) (fun hc => ?_) (fun hc => ?_)
  · skip
    have hlt := kind_lt' hc (by decide)
    refine qbind h (r := numberS l k) (r' := numberS l' k) (by cases numberS l k <;> rfl) (by cases numberS l' k <;> rfl) (number_q h (by omega)) fun t k1 ek1 hk11 hk12 => ?_
    exact qok (by omega) (by omega) fun _ => rfl
  · skip
    refine qite h (by omega) (fun hi => by rw [h.nx hi]) (fun hc => ?_) (fun hc => ?_)
    · skip
      have hlt := kind_lt' hc (by decide)
      exact qok (by omega) (by omega) fun hi => by simp only [doneN, begN, h.nx (k := k) (by omega), h.fend (k := (k + 1)) (by omega)]
    · skip
      refine qite h (by omega) (fun hi => by rw [h.isBx hi, h.isBx hi]) (fun hc => ?_) (fun hc => ?_)
      · skip
        have hlt := (by rcases Bool.or_eq_true_iff.1 hc with h | h <;> exact isB_lt' h : k < l.length)
        exact qok (by omega) (by omega) fun hi => by simp only [doneN, begN, h.nx (k := k) (by omega), h.fend (k := (k + 1)) (by omega)]
      · skip
        exact qok (by omega) (by omega) fun _ => rfl
theorem value_q {k : Nat} (hk : k ≤ l.length) : Qq i l k (valueS l k) (valueS l' k) := by
  unfold valueS
  refine qite h (by omega) (isB_iff h) (fun hc => ?_) (fun hc => ?_)
  · skip
    have hlt := isB_lt' hc
    refine Qq.down h (k := (k + 1)) ?_ (by omega) (by omega)
    refine qbind h (r := numberS l (k + 1)) (r' := numberS l' (k + 1)) (by cases numberS l (k + 1) <;> rfl) (by cases numberS l' (k + 1) <;> rfl) (number_q h (by omega)) fun t k1 ek1 hk11 hk12 => ?_
    exact qok (by omega) (by omega) fun hi => by simp only [doneN, begN, h.nx (k := k) (by omega), h.fend (k := k1) (by omega)]
  · skip
    refine qbind h (r := literalS l k) (r' := literalS l' k) (f := fun o k1 => match o with | some t => PR.ok t k1 | none => PR.er (nxt l k1).a) (f' := fun o k1 => match o with | some t => PR.ok t k1 | none => PR.er (nxt l' k1).a) (by cases hl : literalS l k with | ok o k1 => cases o <;> rfl | er q => rfl | fu => rfl) (by cases hl : literalS l' k with | ok o k1 => cases o <;> rfl | er q => rfl | fu => rfl) (literal_q h (by omega)) fun o k1 _ hk11 hk12 => ?_
    cases o with
    | some t => exact qok (by omega) (by omega) fun _ => rfl
    | none => exact qer (k0 := 0) h (by omega)
theorem list_q {one one' : Nat → PR Tr} : ∀ (f f' k : Nat) (x x' : Fo), (∀ k1, k ≤ k1 → k1 ≤ l.length → Qq i l k1 (one k1) (one' k1)) → k ≤ l.length → (k ≤ i → x' = x) → i + 1 ≤ k + f' → Qq i l k (listS l one f k x) (listS l' one' f' k x')
  | 0, f', k, x, x', _, _, _, _ => qfu
  | f + 1, f', k, x, x', ho, hk, hx, hf => by
    have key : ∀ f2, i + 1 ≤ k + (f2 + 1) → Qq i l k (listS l one (f + 1) k x) (listS l' one' (f2 + 1) k x') := by
      intro f2 hf2
      unfold listS
      refine qite h (by omega) (isB_iff h) (fun hc => ?_) (fun hc => ?_)
      · skip
        refine qbind h (r := needS l k gRb) (r' := needS l' k gRb) (by cases needS l k gRb <;> rfl) (by cases needS l' k gRb <;> rfl) (need_q h (by omega) gRb) fun u k1 ek1 hk11 hk12 => ?_
        exact qok (by omega) (by omega) fun hi => by rw [hx (by omega)]
      · skip
        refine qbind h (r := one k) (r' := one' k) (by cases one k <;> rfl) (by cases one' k <;> rfl) (ho k (by omega) (by omega)) fun t k1 ek1 hk11 hk12 => ?_
        refine qite h (by omega) (isB_iff h) (fun hc => ?_) (fun hc => ?_)
        · skip
          refine qbind h (r := needS l k1 gRb) (r' := needS l' k1 gRb) (by cases needS l k1 gRb <;> rfl) (by cases needS l' k1 gRb <;> rfl) (need_q h (by omega) gRb) fun u k2 ek2 hk21 hk22 => ?_
          exact qok (by omega) (by omega) fun hi => by rw [hx (by omega)]
        · skip
          refine qbind h (r := kindS l k1 5) (r' := kindS l' k1 5) (by cases kindS l k1 5 <;> rfl) (by cases kindS l' k1 5 <;> rfl) (kind_q h (by omega) (by decide)) fun u k2 ek2 hk21 hk22 => ?_
          have hp := (Up.kind h.up (by decide) ek2).2.1
          exact list_q f f2 k2 _ _ (fun k3 h3 h4 => ho k3 (by omega) h4) (by omega) (fun hi => by rw [hx (by omega)]) (by omega)
    match f', hf with
    | 0, hf => exact qfar h (by omega) hk (key 0 (by omega))
    | f2 + 1, hf => exact key f2 hf
theorem commasF_q {one one' : Nat → PR Tr} : ∀ (f f' k : Nat) (x x' : Fo), (∀ k1, k ≤ k1 → k1 ≤ l.length → Qq i l k1 (one k1) (one' k1)) → k ≤ l.length → (k ≤ i → x' = x) → i + 1 ≤ k + f' → Qq i l k (commasF l one f k x) (commasF l' one' f' k x')
  | 0, f', k, x, x', _, _, _, _ => qfu
  | f + 1, f', k, x, x', ho, hk, hx, hf => by
    have key : ∀ f2, i + 1 ≤ k + (f2 + 1) → Qq i l k (commasF l one (f + 1) k x) (commasF l' one' (f2 + 1) k x') := by
      intro f2 hf2
      unfold commasF
      refine qite h (by omega) (isB_iff h) (fun hc => ?_) (fun hc => ?_)
      · skip
        have hlt := isB_lt' hc
        refine Qq.down h (k := k + 1) ?_ (by omega) (by omega)
        refine qbind h (r := one (k + 1)) (r' := one' (k + 1)) (by cases one (k + 1) <;> rfl) (by cases one' (k + 1) <;> rfl) (ho (k + 1) (by omega) (by omega)) fun t k1 ek1 hk11 hk12 => ?_
        exact commasF_q f f2 k1 _ _ (fun k3 h3 h4 => ho k3 (by omega) h4) (by omega) (fun hi => by rw [hx (by omega)]) (by omega)
      · skip
        refine qbind h (r := needS l k gR) (r' := needS l' k gR) (by cases needS l k gR <;> rfl) (by cases needS l' k gR <;> rfl) (need_q h (by omega) gR) fun u k1 ek1 hk11 hk12 => ?_
        exact qok (by omega) (by omega) fun hi => by rw [hx (by omega)]
    match f', hf with
    | 0, hf => exact qfar h (by omega) hk (key 0 (by omega))
    | f2 + 1, hf => exact key f2 hf
theorem commas_q {one one' : Nat → PR Tr} (k : Nat) (x x' : Fo) (ho : ∀ k1, k ≤ k1 → k1 ≤ l.length → Qq i l k1 (one k1) (one' k1)) (hk : k ≤ l.length) (hx : k ≤ i → x' = x) : Qq i l k (commasS l one (l.length + 1) k x) (commasS l' one' (l'.length + 1) k x') := by
  unfold commasS
  have hlt' := h.lt'
  refine qite h (by omega) (isB_iff h) (fun hc => ?_) (fun hc => ?_)
  · skip
    refine qbind h (r := needS l k gR) (r' := needS l' k gR) (by cases needS l k gR <;> rfl) (by cases needS l' k gR <;> rfl) (need_q h (by omega) gR) fun u k1 ek1 hk11 hk12 => ?_
    exact qok (by omega) (by omega) fun hi => by rw [hx (by omega)]
  · skip
    refine qbind h (r := one k) (r' := one' k) (by cases one k <;> rfl) (by cases one' k <;> rfl) (ho k (by omega) (by omega)) fun t k1 ek1 hk11 hk12 => ?_
    exact commasF_q h (l.length + 1) (l'.length + 1) k1 _ _ (fun k3 h3 h4 => ho k3 (by omega) h4) (by omega) (fun hi => by rw [hx (by omega)]) (by omega)
theorem rowF_q {up up' : Nat → PR Tr} (r : Nat) : ∀ (f f' k : Nat) (x x' : Tr), (∀ k1, k ≤ k1 → k1 ≤ l.length → Qq i l k1 (up k1) (up' k1)) → k ≤ l.length → (k ≤ i → x' = x) → i + 1 ≤ k + f' → Qq i l k (rowF l up r f k x) (rowF l' up' r f' k x')
  | 0, f', k, x, x', _, _, _, _ => qfu
  | f + 1, f', k, x, x', ho, hk, hx, hf => by
    have key : ∀ f2, i + 1 ≤ k + (f2 + 1) → Qq i l k (rowF l up r (f + 1) k x) (rowF l' up' r (f2 + 1) k x') := by
      intro f2 hf2
      unfold rowF
      refine qite h (by omega) (fun hi => by rw [h.nx hi]) (fun hc => ?_) (fun hc => ?_)
      · skip
        have hlt := kind_lt' hc.1 (by decide)
        refine Qq.down h (k := k + 1) ?_ (by omega) (by omega)
        refine qbind h (r := up (k + 1)) (r' := up' (k + 1)) (by cases up (k + 1) <;> rfl) (by cases up' (k + 1) <;> rfl) (ho (k + 1) (by omega) (by omega)) fun t k1 ek1 hk11 hk12 => ?_
        refine qite h (by omega) (fun _ => Iff.rfl) (fun hc => ?_) (fun hc => ?_)
        · exact qok (by omega) (by omega) fun hi => by rw [hx (by omega)]; simp only [doneN, begN, h.nx (k := k) (by omega), h.fend (k := k1) (by omega)]
        · exact rowF_q r f f2 k1 _ _ (fun k3 h3 h4 => ho k3 (by omega) h4) (by omega) (fun hi => by rw [hx (by omega)]; simp only [doneN, begN, h.nx (k := k) (by omega), h.fend (k := k1) (by omega)]) (by omega)
      · exact qok (by omega) (by omega) hx
    match f', hf with
    | 0, hf => exact qfar h (by omega) hk (key 0 (by omega))
    | f2 + 1, hf => exact key f2 hf
theorem postF_q {ex ex' : Nat → PR Tr} : ∀ (f f' k : Nat) (x x' : Tr), (∀ k1, k ≤ k1 → k1 ≤ l.length → Qq i l k1 (ex k1) (ex' k1)) → k ≤ l.length → (k ≤ i → x' = x) → i + 1 ≤ k + f' → Qq i l k (postF l ex f k x) (postF l' ex' f' k x')
  | 0, f', k, x, x', _, _, _, _ => qfu
  | f + 1, f', k, x, x', ho, hk, hx, hf => by
    have key : ∀ f2, i + 1 ≤ k + (f2 + 1) → Qq i l k (postF l ex (f + 1) k x) (postF l' ex' (f2 + 1) k x') := by
      intro f2 hf2
      unfold postF
      refine qite h (by omega) (isB_iff h) (fun hc => ?_) (fun hc => ?_)
      · skip
        have hlt := isB_lt' hc
        refine Qq.down h (k := k + 1) ?_ (by omega) (by omega)
        refine Qq.down h (k := (k + 1)) ?_ (by omega) (by omega)
        refine qbind h (r := nameS l (k + 1)) (r' := nameS l' (k + 1)) (by cases nameS l (k + 1) <;> rfl) (by cases nameS l' (k + 1) <;> rfl) (name_q h (by omega)) fun n1 k1 ek1 hk11 hk12 => ?_
        exact postF_q f f2 k1 _ _ (fun k3 h3 h4 => ho k3 (by omega) h4) (by omega) (fun hi => by rw [hx (by omega)]; simp only [doneN, begN, h.fend (k := k1) (by omega)]) (by omega)
      · skip
        refine qite h (by omega) (isB_iff h) (fun hc => ?_) (fun hc => ?_)
        · skip
          have hlt := isB_lt' hc
          refine Qq.down h (k := k + 1) ?_ (by omega) (by omega)
          refine qbind h (r := commasS l ex (l.length + 1) (k + 1) (.one x)) (r' := commasS l' ex' (l'.length + 1) (k + 1) (.one x')) (by cases commasS l ex (l.length + 1) (k + 1) (.one x) <;> rfl) (by cases commasS l' ex' (l'.length + 1) (k + 1) (.one x') <;> rfl) (commas_q h (k + 1) _ _ (fun k3 h3 h4 => ho k3 (by omega) h4) (by omega) (fun hi => by rw [hx (by omega)])) fun ks k1 ek1 hk11 hk12 => ?_
          exact postF_q f f2 k1 _ _ (fun k3 h3 h4 => ho k3 (by omega) h4) (by omega) (fun hi => by rw [hx (by omega)]; simp only [doneN, begN, h.fend (k := k1) (by omega)]) (by omega)
        · skip
          exact qok (by omega) (by omega) hx
    match f', hf with
    | 0, hf => exact qfar h (by omega) hk (key 0 (by omega))
    | f2 + 1, hf => exact key f2 hf
theorem worded_q {k : Nat} (n : Int) (hk : k < l.length) : Qq i l k (wordedS l k n) (wordedS l' k n) := by
  unfold wordedS
  refine Qq.down h (k := k + 1) ?_ (by omega) (by omega)
  refine Qq.down h (k := (k + 1)) ?_ (by omega) (by omega)
  refine qbind h (r := nameS l (k + 1)) (r' := nameS l' (k + 1)) (by cases nameS l (k + 1) <;> rfl) (by cases nameS l' (k + 1) <;> rfl) (name_q h (by omega)) fun n1 k1 ek1 hk11 hk12 => ?_
  exact qok (by omega) (by omega) fun hi => by simp only [doneN, begN, h.nx (k := k) (by omega)]
theorem variable_q {ex ex' : Nat → PR Tr} (k : Nat) (ho : ∀ k1, k ≤ k1 → k1 ≤ l.length → Qq i l k1 (ex k1) (ex' k1)) (hk : k < l.length) : Qq i l k (variableS l ex k) (variableS l' ex' k) := by
  unfold variableS
  refine qbind h (r := wordedS l k 4) (r' := wordedS l' k 4) (by cases wordedS l k 4 <;> rfl) (by cases wordedS l' k 4 <;> rfl) (worded_q h 4 (by omega)) fun d k1 ek1 hk11 hk12 => ?_
  refine qbind h (r := kindOfS l k1) (r' := kindOfS l' k1) (by cases kindOfS l k1 <;> rfl) (by cases kindOfS l' k1 <;> rfl) (kindOf_q h (by omega)) fun t k2 ek2 hk21 hk22 => ?_
  refine qite h (by omega) (isB_iff h) (fun hc => ?_) (fun hc => ?_)
  · skip
    have hlt := isB_lt' hc
    refine Qq.down h (k := k2 + 1) ?_ (by omega) (by omega)
    refine qbind h (r := ex (k2 + 1)) (r' := ex' (k2 + 1)) (by cases ex (k2 + 1) <;> rfl) (by cases ex' (k2 + 1) <;> rfl) (ho (k2 + 1) (by omega) (by omega)) fun u k3 ek3 hk31 hk32 => ?_
    exact qok (by omega) (by omega) fun hi => by simp only [doneN, begN, h.fend (k := k3) (by omega)]
  · skip
    exact qok (by omega) (by omega) fun hi => by simp only [doneN, begN, h.fend (k := k2) (by omega)]
/-- What stands behind token i is no matter, or it is not reached. -/
def Vac {α : Type} (i : Nat) (l : List Tk) (R : PR α) : Prop := (∀ x k', R = .ok x k' → i < k' ∧ k' ≤ l.length) ∧ (∀ q, R = .er q → (nxt l i).a < q)
theorem vac_q {α : Type} {k : Nat} {R R' : PR α} (hq : Qq i l k R R') (hk : i < k) (hl : k ≤ l.length) : Vac i l R := ⟨fun x k' e => by obtain ⟨a, b, _⟩ := hq.1 x k' e; exact ⟨by omega, b⟩, fun q e => by have := (hq.2 q e).1; have := h.gt hk hl; omega⟩
omit h in
theorem q_vac {α : Type} {k : Nat} {R R' : PR α} (h : Lk i l l') (hv : Vac i l R) (hk : k ≤ i) : Qq i l k R R' := ⟨fun x k' e => by obtain ⟨a, b⟩ := hv.1 x k' e; exact ⟨by omega, b, fun _ => by omega⟩, fun q e => by have := hv.2 q e; have := h.up.nmono hk (Nat.le_of_lt h.lt); exact ⟨by omega, fun _ => by omega⟩⟩
theorem vac_bind {α β : Type} {r : PR α} {G : PR β} {f : α → Nat → PR β} (hG : G = r.bind f) (hv : Vac i l r) (hf : ∀ x k1, i < k1 → k1 ≤ l.length → Qq i l k1 (f x k1) (f x k1)) : Vac i l G := by
  subst hG
  cases r with
  | fu => exact ⟨fun x k' e => (by cases e), fun q e => (by cases e)⟩
  | er q => exact ⟨fun x k' e => (by cases e), fun q' e => by
      have e : PR.er (α := β) q = .er q' := e
      cases e
      exact hv.2 q rfl⟩
  | ok x k1 =>
    obtain ⟨a, b⟩ := hv.1 x k1 rfl
    exact vac_q h (hf x k1 a b) a b
theorem step_q {rec rec' : NT → Nat → PR Tr} (hr : ∀ t k, k ≤ l.length → Qq i l k (rec t k) (rec' t k)) (hs : ∀ t k, k ≤ l.length → Qq i l k (rec t k) (rec t k)) (hv : namedB l i = true → Vac i l (rec (.row 0) i)) (t : NT) (k : Nat) (hk : k ≤ l.length) : Qq i l k (stepS l rec t k) (stepS l' rec' t k) := by
  have hlt' := h.lt'
  cases t with
  | row r =>
    simp only [stepS]
    refine qite h (by omega) (fun _ => Iff.rfl) (fun hc => hr .unary k hk) (fun hc => ?_)
    refine qbind h (r := rec (.row (r + 1)) k) (r' := rec' (.row (r + 1)) k) (by cases rec (.row (r + 1)) k <;> rfl) (by cases rec' (.row (r + 1)) k <;> rfl) (hr (.row (r + 1)) k (by omega)) fun x k1 ek1 hk11 hk12 => ?_
    exact rowF_q h r (l.length + 1) (l'.length + 1) k1 _ _ (fun k3 h3 h4 => hr _ k3 h4) (by omega) (fun _ => rfl) (by omega)
  | unary =>
    simp only [stepS]
    refine qite h (by omega) (fun hi => by rw [h.isBx hi, h.isBx hi]) (fun hc => ?_) (fun hc => hr .post k hk)
    have hlt : k < l.length := by rcases Bool.or_eq_true_iff.1 hc with h | h <;> exact isB_lt' h
    refine Qq.down h (k := (k + 1)) ?_ (by omega) (by omega)
    refine qbind h (r := rec .unary (k + 1)) (r' := rec' .unary (k + 1)) (by cases rec .unary (k + 1) <;> rfl) (by cases rec' .unary (k + 1) <;> rfl) (hr .unary (k + 1) (by omega)) fun x k1 ek1 hk11 hk12 => ?_
    exact qok (by omega) (by omega) fun hi => by simp only [doneN, begN, h.nx (k := k) (by omega), h.fend (k := k1) (by omega)]
  | post =>
    simp only [stepS]
    refine qbind h (r := rec .prim k) (r' := rec' .prim k) (by cases rec .prim k <;> rfl) (by cases rec' .prim k <;> rfl) (hr .prim k (by omega)) fun x k1 ek1 hk11 hk12 => ?_
    exact postF_q h (l.length + 1) (l'.length + 1) k1 _ _ (fun k3 h3 h4 => hr _ k3 h4) (by omega) (fun _ => rfl) (by omega)
  | prim =>
    simp only [stepS]
    refine qbind h (r := literalS l k) (r' := literalS l' k) (f := (fun o k1 => match o with | some t => PR.ok t k1 | none => if isB l k1 gL then (match rec (.row 0) (k1 + 1) with | .ok x k2 => (match needS l k2 gR with | .ok _ k3 => .ok ⟨{ x.d with beg := (nxt l k1).a }, x.kids⟩ k3 | .er q => .er q | .fu => .fu) | .er q => .er q | .fu => .fu) else (match nameS l k1 with | .ok n k2 => .ok ⟨doneN l k2 (begN 23 n n.s), .nil⟩ k2 | .er q => .er q | .fu => .fu))) (f' := (fun o k1 => match o with | some t => PR.ok t k1 | none => if isB l' k1 gL then (match rec' (.row 0) (k1 + 1) with | .ok x k2 => (match needS l' k2 gR with | .ok _ k3 => .ok ⟨{ x.d with beg := (nxt l' k1).a }, x.kids⟩ k3 | .er q => .er q | .fu => .fu) | .er q => .er q | .fu => .fu) else (match nameS l' k1 with | .ok n k2 => .ok ⟨doneN l' k2 (begN 23 n n.s), .nil⟩ k2 | .er q => .er q | .fu => .fu))) (by cases hl : literalS l k with | ok o k1 => cases o <;> rfl | er q => rfl | fu => rfl) (by cases hl : literalS l' k with | ok o k1 => cases o <;> rfl | er q => rfl | fu => rfl) (literal_q h (by omega)) fun o k1 _ hk11 hk12 => ?_
    cases o with
    | some t => exact qok (by omega) (by omega) fun _ => rfl
    | none =>
      dsimp only
      refine qite h (by omega) (isB_iff h) (fun hc => ?_) (fun hc => ?_)
      · skip
        have hlt := isB_lt' hc
        refine Qq.down h (k := (k1 + 1)) ?_ (by omega) (by omega)
        refine qbind h (r := rec (.row 0) (k1 + 1)) (r' := rec' (.row 0) (k1 + 1)) (by cases rec (.row 0) (k1 + 1) <;> rfl) (by cases rec' (.row 0) (k1 + 1) <;> rfl) (hr (.row 0) (k1 + 1) (by omega)) fun x k2 ek2 hk21 hk22 => ?_
        refine qbind h (r := needS l k2 gR) (r' := needS l' k2 gR) (by cases needS l k2 gR <;> rfl) (by cases needS l' k2 gR <;> rfl) (need_q h (by omega) gR) fun u k3 ek3 hk31 hk32 => ?_
        exact qok (by omega) (by omega) fun hi => by simp only [doneN, begN, h.nx (k := k1) (by omega)]
      · skip
        refine qbind h (r := nameS l k1) (r' := nameS l' k1) (by cases nameS l k1 <;> rfl) (by cases nameS l' k1 <;> rfl) (name_q h (by omega)) fun n k2 ek2 hk21 hk22 => ?_
        exact qok (by omega) (by omega) fun hi => by simp only [doneN, begN, h.fend (k := k2) (by omega)]
  | block =>
    simp only [stepS]
    refine qbind h (r := needS l k gLb) (r' := needS l' k gLb) (by cases needS l k gLb <;> rfl) (by cases needS l' k gLb <;> rfl) (need_q h (by omega) gLb) fun t k1 ek1 hk11 hk12 => ?_
    refine qbind h (r := listS l (rec .stmt) (l.length + 1) k1 .nil) (r' := listS l' (rec' .stmt) (l'.length + 1) k1 .nil) (by cases listS l (rec .stmt) (l.length + 1) k1 .nil <;> rfl) (by cases listS l' (rec' .stmt) (l'.length + 1) k1 .nil <;> rfl) (list_q h (l.length + 1) (l'.length + 1) k1 _ _ (fun k3 h3 h4 => hr _ k3 h4) (by omega) (fun _ => rfl) (by omega)) fun ks k2 ek2 hk21 hk22 => ?_
    exact qok (by omega) (by omega) fun hi => by simp only [doneN, begN, h.fend (k := k2) (by omega)]
  | stmt =>
    simp only [stepS]
    refine qite h (by omega) (isB_iff h) (fun hc => hr .block k hk) (fun hc => ?_)
    refine qite h (by omega) (isB_iff h) (fun hc => variable_q h k (fun k3 h3 h4 => hr _ k3 h4) (isB_lt' hc)) (fun hc => ?_)
    refine qite h (by omega) (isB_iff h) (fun hc => hr .branch k hk) (fun hc => ?_)
    refine qite h (by omega) (isB_iff h) (fun hc => ?_) (fun hc => ?_)
    · skip
      have hlt := isB_lt' hc
      refine Qq.down h (k := (k + 1)) ?_ (by omega) (by omega)
      refine qbind h (r := rec (.row 0) (k + 1)) (r' := rec' (.row 0) (k + 1)) (by cases rec (.row 0) (k + 1) <;> rfl) (by cases rec' (.row 0) (k + 1) <;> rfl) (hr (.row 0) (k + 1) (by omega)) fun u k1 ek1 hk11 hk12 => ?_
      refine qbind h (r := rec .block k1) (r' := rec' .block k1) (by cases rec .block k1 <;> rfl) (by cases rec' .block k1 <;> rfl) (hr .block k1 (by omega)) fun v k2 ek2 hk21 hk22 => ?_
      exact qok (by omega) (by omega) fun hi => by simp only [doneN, begN, h.nx (k := k) (by omega), h.fend (k := k2) (by omega)]
    refine qite h (by omega) (isB_iff h) (fun hc => ?_) (fun hc => ?_)
    · skip
      have hlt := isB_lt' hc
      refine Qq.down h (k := k + 1) ?_ (by omega) (by omega)
      refine qite h (by omega) (fun hi => by rw [h.nx hi, h.isBx hi]) (fun hc => ?_) (fun hc => ?_)
      · skip
        refine Qq.down h (k := (k + 1)) ?_ (by omega) (by omega)
        refine qbind h (r := rec (.row 0) (k + 1)) (r' := rec' (.row 0) (k + 1)) (by cases rec (.row 0) (k + 1) <;> rfl) (by cases rec' (.row 0) (k + 1) <;> rfl) (hr (.row 0) (k + 1) (by omega)) fun u k1 ek1 hk11 hk12 => ?_
        exact qok (by omega) (by omega) fun hi => by simp only [doneN, begN, h.nx (k := k) (by omega), h.fend (k := k1) (by omega)]
      · skip
        exact qok (by omega) (by omega) fun hi => by simp only [doneN, begN, h.nx (k := k) (by omega), h.fend (k := (k + 1)) (by omega)]
    by_cases hki : k = i ∧ namedB l k = true
    · obtain ⟨rfl, hnm⟩ := hki
      refine q_vac h ?_ (Nat.le_refl _)
      have hlt := h.lt
      split
      · rename_i hc2
        have hlt2 := hc2.2.1
        have hq : Qq k l (k + 2) (match rec (.row 0) (k + 2) with | .ok e k1 => PR.ok (Tr.mk (doneN l k1 (begN 17 (nxt l k) (nxt l k).s)) (Fo.one e)) k1 | .er q => PR.er q | .fu => PR.fu) (match rec (.row 0) (k + 2) with | .ok e k1 => PR.ok (Tr.mk (doneN l k1 (begN 17 (nxt l k) (nxt l k).s)) (Fo.one e)) k1 | .er q => PR.er q | .fu => PR.fu) := by
          refine qbind h.self (r := rec (.row 0) (k + 2)) (r' := rec (.row 0) (k + 2)) (by cases rec (.row 0) (k + 2) <;> rfl) (by cases rec (.row 0) (k + 2) <;> rfl) (hs _ _ (by omega)) fun u k1 ek1 hk11 hk12 => ?_
          exact qok (by omega) (by omega) fun _ => rfl
        exact vac_q h hq (by omega) (by omega)
      · skip
        refine vac_bind h (r := rec (.row 0) k) (by cases rec (.row 0) k <;> rfl) (hv hnm) fun u k1 hk11 hk12 => ?_
        refine qite h.self (by omega) (fun _ => Iff.rfl) (fun hc => ?_) (fun hc => ?_)
        · skip
          have hlt := isB_lt' hc
          refine Qq.down h.self (k := k1 + 1) ?_ (by omega) (by omega)
          refine qbind h.self (r := rec (.row 0) (k1 + 1)) (r' := rec (.row 0) (k1 + 1)) (by cases rec (.row 0) (k1 + 1) <;> rfl) (by cases rec (.row 0) (k1 + 1) <;> rfl) (hs _ _ (by omega)) fun v k2 ek2 hk21 hk22 => ?_
          exact qok (by omega) (by omega) fun _ => rfl
        · exact qok (by omega) (by omega) fun _ => rfl
    · refine qite h (by omega) (fun hi => ?_) (fun hc => ?_) (fun hc => ?_)
      · rw [h.namedBx hi]
        rcases Nat.lt_or_ge k i with h1 | h1
        · rw [h.nx (k := k + 1) (by omega)]
          have hlt := h.lt
          constructor
          · exact fun x => ⟨x.1, by omega, x.2.2⟩
          · exact fun x => ⟨x.1, by omega, x.2.2⟩
        · have e : k = i := by omega
          constructor
          · exact fun x => absurd ⟨e, x.1⟩ hki
          · exact fun x => absurd ⟨e, x.1⟩ hki
      · have hlt2 := hc.2.1
        refine Qq.down h (k := (k + 2)) ?_ (by omega) (by omega)
        refine qbind h (r := rec (.row 0) (k + 2)) (r' := rec' (.row 0) (k + 2)) (by cases rec (.row 0) (k + 2) <;> rfl) (by cases rec' (.row 0) (k + 2) <;> rfl) (hr (.row 0) (k + 2) (by omega)) fun u k1 ek1 hk11 hk12 => ?_
        exact qok (by omega) (by omega) fun hi => by simp only [doneN, begN, h.nx (k := k) (by omega), h.fend (k := k1) (by omega)]
      · skip
        refine qbind h (r := rec (.row 0) k) (r' := rec' (.row 0) k) (by cases rec (.row 0) k <;> rfl) (by cases rec' (.row 0) k <;> rfl) (hr (.row 0) k (by omega)) fun u k1 ek1 hk11 hk12 => ?_
        refine qite h (by omega) (isB_iff h) (fun hc => ?_) (fun hc => ?_)
        · skip
          have hlt := isB_lt' hc
          refine Qq.down h (k := (k1 + 1)) ?_ (by omega) (by omega)
          refine qbind h (r := rec (.row 0) (k1 + 1)) (r' := rec' (.row 0) (k1 + 1)) (by cases rec (.row 0) (k1 + 1) <;> rfl) (by cases rec' (.row 0) (k1 + 1) <;> rfl) (hr (.row 0) (k1 + 1) (by omega)) fun v k2 ek2 hk21 hk22 => ?_
          exact qok (by omega) (by omega) fun hi => by simp only [doneN, begN, h.nx (k := k) (by omega), h.fend (k := k2) (by omega)]
        · skip
          exact qok (by omega) (by omega) fun hi => by simp only [doneN, begN, h.nx (k := k) (by omega), h.fend (k := k1) (by omega)]
  | branch =>
    simp only [stepS]
    refine qbind h (r := needS l k kIf) (r' := needS l' k kIf) (by cases needS l k kIf <;> rfl) (by cases needS l' k kIf <;> rfl) (need_q h (by omega) kIf) fun t k1 ek1 hk11 hk12 => ?_
    refine qbind h (r := rec (.row 0) k1) (r' := rec' (.row 0) k1) (by cases rec (.row 0) k1 <;> rfl) (by cases rec' (.row 0) k1 <;> rfl) (hr (.row 0) k1 (by omega)) fun u k2 ek2 hk21 hk22 => ?_
    refine qbind h (r := rec .block k2) (r' := rec' .block k2) (by cases rec .block k2 <;> rfl) (by cases rec' .block k2 <;> rfl) (hr .block k2 (by omega)) fun v k3 ek3 hk31 hk32 => ?_
    refine qite h (by omega) (isB_iff h) (fun hc => ?_) (fun hc => ?_)
    · skip
      have hlt := isB_lt' hc
      refine Qq.down h (k := k3 + 1) ?_ (by omega) (by omega)
      refine qite h (by omega) (isB_iff h) (fun hc => ?_) (fun hc => ?_)
      · skip
        refine Qq.down h (k := (k3 + 1)) ?_ (by omega) (by omega)
        refine qbind h (r := rec .branch (k3 + 1)) (r' := rec' .branch (k3 + 1)) (by cases rec .branch (k3 + 1) <;> rfl) (by cases rec' .branch (k3 + 1) <;> rfl) (hr .branch (k3 + 1) (by omega)) fun x k4 ek4 hk41 hk42 => ?_
        exact qok (by omega) (by omega) fun hi => by simp only [doneN, begN, h.fend (k := k4) (by omega)]
      · skip
        refine Qq.down h (k := (k3 + 1)) ?_ (by omega) (by omega)
        refine qbind h (r := rec .block (k3 + 1)) (r' := rec' .block (k3 + 1)) (by cases rec .block (k3 + 1) <;> rfl) (by cases rec' .block (k3 + 1) <;> rfl) (hr .block (k3 + 1) (by omega)) fun x k4 ek4 hk41 hk42 => ?_
        exact qok (by omega) (by omega) fun hi => by simp only [doneN, begN, h.fend (k := k4) (by omega)]
    · skip
      exact qok (by omega) (by omega) fun hi => by simp only [doneN, begN, h.fend (k := k3) (by omega)]
/-- A name begins an expression: it is taken. -/
theorem named_v (hnm : namedB l i = true) : ∀ (n : Nat) (hs : ∀ m, m < n → ∀ t k, k ≤ l.length → Qq i l k (parS l m t k) (parS l m t k)) (t : NT), (t = .unary ∨ t = .post ∨ t = .prim ∨ ∃ r, t = .row r) → Vac i l (parS l n t i)
  | 0, _, _, _ => ⟨fun x k' e => (by cases e), fun q e => (by cases e)⟩
  | n + 1, hs, t, ht => by
    have ih := named_v hnm n fun m hm => hs m (by omega)
    have hlt := h.lt
    have hk : (nxt l i).k = 1 ∧ kept (nxt l i).s = false := by simpa [namedB] using hnm
    have nb : ∀ s, isB l i s = false := by
      intro s
      simp only [isB, Bool.and_eq_false_iff, Bool.or_eq_false_iff, decide_eq_false_iff_not]
      by_cases e : (nxt l i).s = s
      · right
        subst e
        exact ⟨by omega, .inr hk.2⟩
      · exact .inl e
    show Vac i l (stepS l (parS l n) t i)
    rcases ht with rfl | rfl | rfl | ⟨r, rfl⟩
    · simp only [stepS, nb, Bool.or_false, Bool.false_eq_true, if_false]
      exact ih .post (by simp)
    · simp only [stepS]
      refine vac_bind h (r := parS l n .prim i) (by cases parS l n .prim i <;> rfl) (ih .prim (by simp)) ?_
      intro x k1 h1 h2
      exact postF_q h.self (l.length + 1) (l.length + 1) k1 _ _ (fun k3 _ h4 => hs n (by omega) _ k3 h4) h2 (fun _ => rfl) (by omega)
    · have hl : literalS l i = .ok none i := by
        unfold literalS
        rw [if_neg (by omega), if_neg (by omega), if_neg (by rw [nb, nb]; decide)]
      have hn : nameS l i = .ok (nxt l i) (i + 1) := by unfold nameS; rw [if_pos hnm]
      simp only [stepS, hl, nb, Bool.false_eq_true, if_false, hn]
      exact ⟨fun x k' e => by cases e; exact ⟨by omega, hlt⟩, fun q e => (by cases e)⟩
    · simp only [stepS]
      split
      · exact ih .unary (by simp)
      · refine vac_bind h (r := parS l n (.row (r + 1)) i) (by cases parS l n (.row (r + 1)) i <;> rfl) (ih (.row (r + 1)) (by simp)) ?_
        intro x k1 h1 h2
        exact rowF_q h.self r (l.length + 1) (l.length + 1) k1 _ _ (fun k3 _ h4 => hs n (by omega) _ k3 h4) h2 (fun _ => rfl) (by omega)
theorem parS_qs : ∀ n t k, k ≤ l.length → Qq i l k (parS l n t k) (parS l n t k) := by
  intro n
  induction n using Nat.strongRecOn with
  | _ n ih =>
    intro t k hk
    match n with
    | 0 => exact qfu
    | n + 1 => exact step_q h.self (rec := parS l n) (rec' := parS l n) (fun t k hk => ih n (by omega) t k hk) (fun t k hk => ih n (by omega) t k hk) (fun hnm => named_v h hnm n (fun m hm => ih m (by omega)) (.row 0) (by simp)) t k hk
theorem parS_q : ∀ n t k, k ≤ l.length → Qq i l k (parS l n t k) (parS l' n t k)
  | 0, t, k, _ => qfu
  | n + 1, t, k, hk => step_q h (rec := parS l n) (rec' := parS l' n) (fun t k hk => parS_q n t k hk) (fun t k hk => parS_qs h n t k hk) (fun hnm => named_v h hnm n (fun m _ => parS_qs h m) (.row 0) (by simp)) t k hk
theorem function_q (n : Nat) {k : Nat} (hk : k < l.length) : Qq i l k (functionS l n k) (functionS l' n k) := by
  rw [functionS_eq, functionS_eq]
  have hlt' := h.lt'
  refine Qq.down h (k := k + 1) ?_ (by omega) (by omega)
  have hrv : Qq i l (k + 1) (recvS l k) (recvS l' k) := by
    unfold recvS
    refine qite h (by omega) (isB_iff h) (fun hc => ?_) (fun hc => ?_)
    · skip
      have hlt := isB_lt' hc
      refine Qq.down h (k := k + 2) ?_ (by omega) (by omega)
      refine Qq.down h (k := (k + 2)) ?_ (by omega) (by omega)
      refine qbind h (r := nameS l (k + 2)) (r' := nameS l' (k + 2)) (by cases nameS l (k + 2) <;> rfl) (by cases nameS l' (k + 2) <;> rfl) (name_q h (by omega)) fun m k1 ek1 hk11 hk12 => ?_
      refine qbind h (r := nameS l k1) (r' := nameS l' k1) (by cases nameS l k1 <;> rfl) (by cases nameS l' k1 <;> rfl) (name_q h (by omega)) fun t k2 ek2 hk21 hk22 => ?_
      refine qbind h (r := needS l k2 gR) (r' := needS l' k2 gR) (by cases needS l k2 gR <;> rfl) (by cases needS l' k2 gR <;> rfl) (need_q h (by omega) gR) fun u k3 ek3 hk31 hk32 => ?_
      exact qok (by omega) (by omega) fun hi => by simp only [doneN, begN, h.fend (k := k2) (by omega)]
    · skip
      exact qok (by omega) (by omega) fun _ => rfl
  refine qbind h (r := recvS l k) (r' := recvS l' k) (by cases recvS l k <;> rfl) (by cases recvS l' k <;> rfl) hrv fun ks k1 ek1 hk11 hk12 => ?_
  refine qbind h (r := nameS l k1) (r' := nameS l' k1) (by cases nameS l k1 <;> rfl) (by cases nameS l' k1 <;> rfl) (name_q h (by omega)) fun m k2 ek2 hk21 hk22 => ?_
  refine qbind h (r := needS l k2 gL) (r' := needS l' k2 gL) (by cases needS l k2 gL <;> rfl) (by cases needS l' k2 gL <;> rfl) (need_q h (by omega) gL) fun t3 k3 ek3 hk31 hk32 => ?_
  refine qbind h (r := commasS l (typedS l 9) (l.length + 1) k3 ks) (r' := commasS l' (typedS l' 9) (l'.length + 1) k3 ks) (by cases commasS l (typedS l 9) (l.length + 1) k3 ks <;> rfl) (by cases commasS l' (typedS l' 9) (l'.length + 1) k3 ks <;> rfl) (commas_q h k3 _ _ (fun k7 _ h7 => typed_q h 9 h7) (by omega) (fun _ => rfl)) fun ks4 k4 ek4 hk41 hk42 => ?_
  have hrs : Qq i l k4 (resS l k4 ks4) (resS l' k4 ks4) := by
    unfold resS
    refine qite h (by omega) (isB_iff h) (fun hc => ?_) (fun hc => ?_)
    · skip
      exact qok (by omega) (by omega) fun _ => rfl
    · skip
      refine qbind h (r := kindOfS l k4) (r' := kindOfS l' k4) (by cases kindOfS l k4 <;> rfl) (by cases kindOfS l' k4 <;> rfl) (kindOf_q h (by omega)) fun t k5 ek5 hk51 hk52 => ?_
      exact qok (by omega) (by omega) fun _ => rfl
  refine qbind h (r := resS l k4 ks4) (r' := resS l' k4 ks4) (by cases resS l k4 ks4 <;> rfl) (by cases resS l' k4 ks4 <;> rfl) hrs fun ks5 k5 ek5 hk51 hk52 => ?_
  refine qbind h (r := parS l n .block k5) (r' := parS l' n .block k5) (by cases parS l n .block k5 <;> rfl) (by cases parS l' n .block k5 <;> rfl) (parS_q h n _ _ (by omega)) fun bb k6 ek6 hk61 hk62 => ?_
  exact qok (by omega) (by omega) fun hi => by simp only [doneN, begN, h.nx (k := k) (by omega), h.fend (k := k6) (by omega)]
theorem decl_q (n : Nat) {k : Nat} (hk : k ≤ l.length) : Qq i l k (declS l n k) (declS l' n k) := by
  unfold declS
  have hlt' := h.lt'
  refine qite h (by omega) (isB_iff h) (fun hc => ?_) (fun hc => ?_)
  · skip
    have hlt := isB_lt' hc
    refine qbind h (r := wordedS l k 3) (r' := wordedS l' k 3) (by cases wordedS l k 3 <;> rfl) (by cases wordedS l' k 3 <;> rfl) (worded_q h 3 (by omega)) fun d k1 ek1 hk11 hk12 => ?_
    refine qbind h (r := needS l k1 gSet) (r' := needS l' k1 gSet) (by cases needS l k1 gSet <;> rfl) (by cases needS l' k1 gSet <;> rfl) (need_q h (by omega) gSet) fun t k2 ek2 hk21 hk22 => ?_
    refine qbind h (r := valueS l k2) (r' := valueS l' k2) (by cases valueS l k2 <;> rfl) (by cases valueS l' k2 <;> rfl) (value_q h (by omega)) fun v k3 ek3 hk31 hk32 => ?_
    exact qok (by omega) (by omega) fun hi => by simp only [doneN, begN, h.fend (k := k3) (by omega)]
  refine qite h (by omega) (isB_iff h) (fun hc => variable_q h k (fun k3 h3 h4 => parS_q h n _ k3 h4) (isB_lt' hc)) (fun hc => ?_)
  refine qite h (by omega) (isB_iff h) (fun hc => ?_) (fun hc => ?_)
  · skip
    have hlt := isB_lt' hc
    refine qbind h (r := wordedS l k 5) (r' := wordedS l' k 5) (by cases wordedS l k 5 <;> rfl) (by cases wordedS l' k 5 <;> rfl) (worded_q h 5 (by omega)) fun d k1 ek1 hk11 hk12 => ?_
    refine qbind h (r := needS l k1 kStruct) (r' := needS l' k1 kStruct) (by cases needS l k1 kStruct <;> rfl) (by cases needS l' k1 kStruct <;> rfl) (need_q h (by omega) kStruct) fun t k2 ek2 hk21 hk22 => ?_
    refine qbind h (r := needS l k2 gLb) (r' := needS l' k2 gLb) (by cases needS l k2 gLb <;> rfl) (by cases needS l' k2 gLb <;> rfl) (need_q h (by omega) gLb) fun t3 k3 ek3 hk31 hk32 => ?_
    refine qbind h (r := listS l (typedS l 6) (l.length + 1) k3 .nil) (r' := listS l' (typedS l' 6) (l'.length + 1) k3 .nil) (by cases listS l (typedS l 6) (l.length + 1) k3 .nil <;> rfl) (by cases listS l' (typedS l' 6) (l'.length + 1) k3 .nil <;> rfl) (list_q h (l.length + 1) (l'.length + 1) k3 _ _ (fun k7 _ h7 => typed_q h 6 h7) (by omega) (fun _ => rfl) (by omega)) fun ks k4 ek4 hk41 hk42 => ?_
    exact qok (by omega) (by omega) fun hi => by simp only [doneN, begN, h.fend (k := k4) (by omega)]
  refine qite h (by omega) (isB_iff h) (fun hc => function_q h n (isB_lt' hc)) (fun hc => qer (k0 := 0) h hk)
theorem imports_q : ∀ (f f' k : Nat) (x x' : Fo), k ≤ l.length → (k ≤ i → x' = x) → i + 1 ≤ k + f' → Qq i l k (importsS l f k x) (importsS l' f' k x')
  | 0, f', k, x, x', _, _, _ => qfu
  | f + 1, f', k, x, x', hk, hx, hf => by
    have key : ∀ f2, i + 1 ≤ k + (f2 + 1) → Qq i l k (importsS l (f + 1) k x) (importsS l' (f2 + 1) k x') := by
      intro f2 hf2
      unfold importsS
      refine qite h (by omega) (isB_iff h) (fun hc => ?_) (fun hc => ?_)
      · skip
        have hlt := isB_lt' hc
        refine Qq.down h (k := k + 1) ?_ (by omega) (by omega)
        refine Qq.down h (k := (k + 1)) ?_ (by omega) (by omega)
        refine qbind h (r := kindS l (k + 1) 3) (r' := kindS l' (k + 1) 3) (by cases kindS l (k + 1) 3 <;> rfl) (by cases kindS l' (k + 1) 3 <;> rfl) (kind_q h (by omega) (by decide)) fun t k1 ek1 hk11 hk12 => ?_
        refine qbind h (r := kindS l k1 5) (r' := kindS l' k1 5) (by cases kindS l k1 5 <;> rfl) (by cases kindS l' k1 5 <;> rfl) (kind_q h (by omega) (by decide)) fun u k2 ek2 hk21 hk22 => ?_
        exact imports_q f f2 k2 _ _ (by omega) (fun hi => by rw [hx (by omega)]; simp only [doneN, begN, h.nx (k := k) (by omega), h.fend (k := k1) (by omega)]) (by omega)
      · skip
        exact qok (by omega) (by omega) hx
    match f', hf with
    | 0, hf => exact qfar h (by omega) hk (key 0 (by omega))
    | f2 + 1, hf => exact key f2 hf
theorem decls_q (n : Nat) : ∀ (f f' k : Nat) (x x' : Fo), k ≤ l.length → (k ≤ i → x' = x) → i + 1 ≤ k + f' → Qq i l k (declsS l n f k x) (declsS l' n f' k x')
  | 0, f', k, x, x', _, _, _ => qfu
  | f + 1, f', k, x, x', hk, hx, hf => by
    have key : ∀ f2, i + 1 ≤ k + (f2 + 1) → Qq i l k (declsS l n (f + 1) k x) (declsS l' n (f2 + 1) k x') := by
      intro f2 hf2
      unfold declsS
      have hlt := h.lt
      have hlt' := h.lt'
      refine qite h (by omega) (fun hi => by constructor <;> (intro _; omega)) (fun hc => ?_) (fun hc => ?_)
      · skip
        refine qbind h (r := declS l n k) (r' := declS l' n k) (by cases declS l n k <;> rfl) (by cases declS l' n k <;> rfl) (decl_q h n (by omega)) fun t k1 ek1 hk11 hk12 => ?_
        refine qbind h (r := kindS l k1 5) (r' := kindS l' k1 5) (by cases kindS l k1 5 <;> rfl) (by cases kindS l' k1 5 <;> rfl) (kind_q h (by omega) (by decide)) fun u k2 ek2 hk21 hk22 => ?_
        have hp := (Up.kind h.up (by decide) ek2).2.1
        exact decls_q n f f2 k2 _ _ (by omega) (fun hi => by rw [hx (by omega)]) (by omega)
      · skip
        exact qok (by omega) (by omega) hx
    match f', hf with
    | 0, hf => exact qfar h (by omega) hk (key 0 (by omega))
    | f2 + 1, hf => exact key f2 hf
theorem file_q (n : Nat) : Qq i l 0 (fileS l n) (fileS l' n) := by
  unfold fileS
  have hlt' := h.lt'
  refine qbind h (r := needS l 0 kPackage) (r' := needS l' 0 kPackage) (by cases needS l 0 kPackage <;> rfl) (by cases needS l' 0 kPackage <;> rfl) (need_q h (by omega) kPackage) fun t k1 ek1 hk11 hk12 => ?_
  refine qbind h (r := nameS l k1) (r' := nameS l' k1) (by cases nameS l k1 <;> rfl) (by cases nameS l' k1 <;> rfl) (name_q h (by omega)) fun m k2 ek2 hk21 hk22 => ?_
  refine qbind h (r := kindS l k2 5) (r' := kindS l' k2 5) (by cases kindS l k2 5 <;> rfl) (by cases kindS l' k2 5 <;> rfl) (kind_q h (by omega) (by decide)) fun t3 k3 ek3 hk31 hk32 => ?_
  refine qbind h (r := importsS l (l.length + 1) k3 .nil) (r' := importsS l' (l'.length + 1) k3 .nil) (by cases importsS l (l.length + 1) k3 .nil <;> rfl) (by cases importsS l' (l'.length + 1) k3 .nil <;> rfl) (imports_q h (l.length + 1) (l'.length + 1) k3 _ _ (by omega) (fun _ => rfl) (by omega)) fun x k4 ek4 hk41 hk42 => ?_
  refine qbind h (r := declsS l n (l.length + 1) k4 x) (r' := declsS l' n (l'.length + 1) k4 x) (by cases declsS l n (l.length + 1) k4 x <;> rfl) (by cases declsS l' n (l'.length + 1) k4 x <;> rfl) (decls_q h n (l.length + 1) (l'.length + 1) k4 _ _ (by omega) (fun _ => rfl) (by omega)) fun y k5 ek5 hk51 hk52 => ?_
  exact qok (by omega) (by omega) fun hi => by simp only [doneN, begN, h.fend (k := k5) (by omega)]
end
end Go.Proofs.YtmkijgmfefkgeaaGreatDoor
