/- What the parser's rules give: they come to an end, they take tokens, their trees are small. No condition. -/
import Derived.Test.YtmkijgmfefkgeaaGreatDoorE5
set_option autoImplicit false
set_option linter.unusedVariables false
set_option linter.unusedSimpArgs false
namespace Go.Proofs.YtmkijgmfefkgeaaGreatDoor
open Go
theorem Fo.size_app : ∀ (a b : Fo), (a.app b).size = a.size + b.size
  | .nil, b => by simp [Fo.app, Fo.size]
  | .cons d k r, b => by
    simp only [Fo.app, Fo.size, Fo.size_app r b]
    omega
theorem Fo.size_one (t : Tr) : (Fo.one t).size = t.kids.size + 1 := by
  simp [Fo.one, Fo.size]
/-- A tree of tokens from k on. -/
def Gd (l : List Tk) (k : Nat) : PR Tr → Prop
  | .ok x k' => k < k' ∧ k' ≤ l.length ∧ x.kids.size + 2 ≤ 2 * (k' - k)
  | .er _ => True
  | .fu => False
/-- The same, for a statement: it may be one node more. -/
def GdW (l : List Tk) (k : Nat) : PR Tr → Prop
  | .ok x k' => k < k' ∧ k' ≤ l.length ∧ x.kids.size + 1 ≤ 2 * (k' - k)
  | .er _ => True
  | .fu => False
theorem Gd.weak {l : List Tk} {k : Nat} {r : PR Tr} (h : Gd l k r) : GdW l k r := by
  cases r with
  | ok x k' => obtain ⟨h1, h2, h3⟩ := h; exact ⟨h1, h2, by omega⟩
  | er q => trivial
  | fu => exact h
def GdN (l : List Tk) (k : Nat) (r : PR Tr) : NT → Prop
  | .stmt => GdW l k r
  | _ => Gd l k r
def GdK {α : Type} (l : List Tk) (k : Nat) : PR α → Prop
  | .ok _ k' => k < k' ∧ k' ≤ l.length
  | .er _ => True
  | .fu => False
def GdF (l : List Tk) (k m : Nat) : PR Fo → Prop
  | .ok x k' => k < k' ∧ k' ≤ l.length ∧ x.size ≤ m + 2 * (k' - k)
  | .er _ => True
  | .fu => False
def GdO (l : List Tk) (k : Nat) : PR (Option Tr) → Prop
  | .ok (some x) k' => k < k' ∧ k' ≤ l.length ∧ x.kids.size + 2 ≤ 2 * (k' - k)
  | .ok none k' => k' = k
  | .er _ => True
  | .fu => False
/-- Trees that go on behind m nodes, from k on. -/
def GdM (l : List Tk) (k m : Nat) : PR Fo → Prop
  | .ok x k' => k ≤ k' ∧ k' ≤ l.length ∧ x.size ≤ m + 2 * (k' - k)
  | .er _ => True
  | .fu => False
def recvS (l : List Tk) (k : Nat) : PR Fo := if isB l (k + 1) gL then (match nameS l (k + 2) with
      | .ok m k1 => (match nameS l k1 with
        | .ok t k2 => (match needS l k2 gR with
          | .ok _ k3 => .ok (.one ⟨doneN l k2 (begN 8 m m.s), .one ⟨doneN l k2 (begN 11 t t.s), .nil⟩⟩) k3
          | .er q => .er q
          | .fu => .fu)
        | .er q => .er q
        | .fu => .fu)
      | .er q => .er q
      | .fu => .fu)
    else .ok .nil (k + 1)
def resS (l : List Tk) (k4 : Nat) (ks : Fo) : PR Fo := if isB l k4 gLb then .ok ks k4 else (match kindOfS l k4 with
            | .ok t k5 => .ok (ks.app (.one t)) k5
            | .er q => .er q
            | .fu => .fu)
theorem functionS_eq (l : List Tk) (n k : Nat) : functionS l n k = (match recvS l k with
  | .ok ks k1 => (match nameS l k1 with
    | .ok m k2 => (match needS l k2 gL with
      | .ok _ k3 => (match commasS l (typedS l 9) (l.length + 1) k3 ks with
        | .ok ks k4 => (match resS l k4 ks with
           | .ok ks k5 => (match parS l n .block k5 with
             | .ok b k6 => .ok ⟨doneN l k6 { begN 7 (nxt l k) m.s with pos := m.a }, ks.app (.one b)⟩ k6
             | .er q => .er q
             | .fu => .fu)
           | .er q => .er q
           | .fu => .fu)
        | .er q => .er q
        | .fu => .fu)
      | .er q => .er q
      | .fu => .fu)
    | .er q => .er q
    | .fu => .fu)
  | .er q => .er q
  | .fu => .fu) := rfl
section
variable {l : List Tk} {k : Nat}
theorem kind_lt' {n : Int} (h : (nxt l k).k = n) (hn : n ≠ 0) : k < l.length := by
  rcases Nat.lt_or_ge k l.length with h' | h'
  · exact h'
  · exact absurd (h.symm.trans (nxt_end h')) hn
theorem isB_lt' {s : ByteArray} (h : isB l k s = true) : k < l.length := by
  simp only [isB, Bool.and_eq_true, Bool.or_eq_true, decide_eq_true_eq] at h
  rcases h.2 with h | h
  · exact kind_lt' h (by decide)
  · exact kind_lt' h.1 (by decide)
theorem namedB_lt' (h : namedB l k = true) : k < l.length := by
  simp only [namedB, Bool.and_eq_true, decide_eq_true_eq] at h
  exact kind_lt' h.1 (by decide)
theorem need_g (s : ByteArray) : GdK l k (needS l k s) := by
  unfold needS
  split
  · exact ⟨by omega, isB_lt' (by assumption)⟩
  · trivial
theorem name_g : GdK l k (nameS l k) := by
  unfold nameS
  split
  · exact ⟨by omega, namedB_lt' (by assumption)⟩
  · trivial
theorem kind_g {n : Int} (hn : n ≠ 0) : GdK l k (kindS l k n) := by
  unfold kindS
  split
  · exact ⟨by omega, kind_lt' (by assumption) hn⟩
  · trivial
theorem worded_g (n : Int) (hk : k < l.length) : GdK l k (wordedS l k n) := by
  unfold wordedS
  have h := name_g (l := l) (k := k + 1)
  cases e : nameS l (k + 1) with
  | ok x k1 => rw [e] at h; exact ⟨by have := h.1; omega, h.2⟩
  | er q => trivial
  | fu => rw [e] at h; exact h
theorem firstB_lt {s : ByteArray} : ∀ {m : List ByteArray}, firstB l k m = some s → k < l.length
  | [], h => by cases h
  | x :: r, h => by
    unfold firstB at h
    split at h
    · exact isB_lt' (by assumption)
    · exact firstB_lt h
theorem kindOf_g : Gd l k (kindOfS l k) := by
  unfold kindOfS
  split
  · rename_i s hs
    exact ⟨by omega, firstB_lt hs, by simp [Fo.size]⟩
  · have h := name_g (l := l) (k := k)
    cases e : nameS l k with
    | er q => trivial
    | fu => rw [e] at h; exact h
    | ok x k1 =>
      rw [e] at h
      dsimp only
      split
      · have h2 := name_g (l := l) (k := k1 + 1)
        cases e2 : nameS l (k1 + 1) with
        | er q => trivial
        | fu => rw [e2] at h2; exact h2
        | ok y k2 =>
          rw [e2] at h2
          have := h.1
          have := h2.1
          exact ⟨by omega, h2.2, by simp [Fo.size_one, Fo.size]; omega⟩
      · have := h.1
        exact ⟨h.1, h.2, by simp [Fo.size]; omega⟩
theorem number_g : Gd l k (numberS l k) := by
  unfold numberS
  have h := kind_g (l := l) (k := k) (n := 2) (by decide)
  cases e : kindS l k 2 with
  | er q => trivial
  | fu => rw [e] at h; exact h
  | ok x k1 =>
    rw [e] at h
    have := h.1
    exact ⟨h.1, h.2, by simp [Fo.size]; omega⟩
theorem typed_g (n : Int) : Gd l k (typedS l n k) := by
  unfold typedS
  have h := name_g (l := l) (k := k)
  cases e : nameS l k with
  | er q => trivial
  | fu => rw [e] at h; exact h
  | ok x k1 =>
    rw [e] at h
    have h2 := kindOf_g (l := l) (k := k1)
    dsimp only
    cases e2 : kindOfS l k1 with
    | er q => trivial
    | fu => rw [e2] at h2; exact h2
    | ok y k2 =>
      rw [e2] at h2
      have := h.1
      obtain ⟨h3, h4, h5⟩ := h2
      exact ⟨by omega, h4, by simp [Fo.size_one]; omega⟩
/-- A literal: a tree, or nothing taken. -/
theorem literal_g : GdO l k (literalS l k) := by
  unfold literalS
  split
  · have h := number_g (l := l) (k := k)
    cases e : numberS l k with
    | er q => trivial
    | fu => rw [e] at h; exact h
    | ok x k1 => rw [e] at h; exact h
  · split
    · rename_i h0
      exact ⟨by omega, kind_lt' h0 (by decide), by simp [Fo.size]⟩
    · split
      · rename_i h0
        refine ⟨by omega, ?_, by simp [Fo.size]⟩
        rcases Bool.or_eq_true_iff.1 h0 with h | h <;> exact isB_lt' h
      · rfl
theorem value_g : Gd l k (valueS l k) := by
  unfold valueS
  split
  · have h := number_g (l := l) (k := k + 1)
    cases e : numberS l (k + 1) with
    | er q => trivial
    | fu => rw [e] at h; exact h
    | ok x k1 =>
      rw [e] at h
      obtain ⟨h1, h2, h3⟩ := h
      exact ⟨by omega, h2, by simp [Fo.size_one]; omega⟩
  · have h := literal_g (l := l) (k := k)
    cases e : literalS l k with
    | er q => trivial
    | fu => rw [e] at h; exact h
    | ok x k1 =>
      rw [e] at h
      cases x with
      | none => trivial
      | some x => exact h
theorem list_g {one : Nat → PR Tr} : ∀ (f k : Nat) (x : Fo), (∀ k1, k ≤ k1 → k1 ≤ l.length → GdW l k1 (one k1)) → k ≤ l.length → l.length + 1 ≤ k + f → GdF l k x.size (listS l one f k x)
  | 0, k, x, _, h1, h2 => by omega
  | f + 1, k, x, ho, hk, hf => by
    unfold listS
    split
    · have h := need_g (l := l) (k := k) gRb
      cases e : needS l k gRb with
      | er q => trivial
      | fu => rw [e] at h; exact h
      | ok t k1 => rw [e] at h; exact ⟨h.1, h.2, by omega⟩
    · have h := ho k (Nat.le_refl _) hk
      cases e : one k with
      | er q => trivial
      | fu => rw [e] at h; exact h
      | ok t k1 =>
        rw [e] at h
        obtain ⟨a1, a2, a3⟩ := h
        dsimp only
        split
        · have h := need_g (l := l) (k := k1) gRb
          cases e : needS l k1 gRb with
          | er q => trivial
          | fu => rw [e] at h; exact h
          | ok t2 k2 =>
            rw [e] at h
            have := h.1
            exact ⟨by omega, h.2, by rw [Fo.size_app, Fo.size_one]; omega⟩
        · have h := kind_g (l := l) (k := k1) (n := 5) (by decide)
          cases e : kindS l k1 5 with
          | er q => trivial
          | fu => rw [e] at h; exact h
          | ok t2 k2 =>
            rw [e] at h
            have hb := h.1
            have ih := list_g f k2 (x.app (.one t)) (fun k3 h3 h4 => ho k3 (by omega) h4) h.2 (by omega)
            dsimp only
            cases e3 : listS l one f k2 (x.app (.one t)) with
            | er q => trivial
            | fu => rw [e3] at ih; exact ih
            | ok y k3 =>
              rw [e3] at ih
              obtain ⟨b1, b2, b3⟩ := ih
              rw [Fo.size_app, Fo.size_one] at b3
              exact ⟨by omega, b2, by omega⟩
theorem commasF_g {one : Nat → PR Tr} : ∀ (f k : Nat) (x : Fo), (∀ k1, k ≤ k1 → k1 ≤ l.length → GdW l k1 (one k1)) → k ≤ l.length → l.length + 1 ≤ k + f → GdF l k x.size (commasF l one f k x)
  | 0, k, x, _, h1, h2 => by omega
  | f + 1, k, x, ho, hk, hf => by
    unfold commasF
    split
    · rename_i hc
      have hlt := isB_lt' hc
      have h := ho (k + 1) (by omega) (by omega)
      cases e : one (k + 1) with
      | er q => trivial
      | fu => rw [e] at h; exact h
      | ok t k1 =>
        rw [e] at h
        obtain ⟨a1, a2, a3⟩ := h
        have ih := commasF_g f k1 (x.app (.one t)) (fun k3 h3 h4 => ho k3 (by omega) h4) a2 (by omega)
        dsimp only
        cases e3 : commasF l one f k1 (x.app (.one t)) with
        | er q => trivial
        | fu => rw [e3] at ih; exact ih
        | ok y k3 =>
          rw [e3] at ih
          obtain ⟨b1, b2, b3⟩ := ih
          rw [Fo.size_app, Fo.size_one] at b3
          exact ⟨by omega, b2, by omega⟩
    · have h := need_g (l := l) (k := k) gR
      cases e : needS l k gR with
      | er q => trivial
      | fu => rw [e] at h; exact h
      | ok t k1 => rw [e] at h; exact ⟨h.1, h.2, by omega⟩
theorem commas_g {one : Nat → PR Tr} (k : Nat) (x : Fo) (ho : ∀ k1, k ≤ k1 → k1 ≤ l.length → GdW l k1 (one k1)) (hk : k ≤ l.length) : GdF l k x.size (commasS l one (l.length + 1) k x) := by
  unfold commasS
  split
  · have h := need_g (l := l) (k := k) gR
    cases e : needS l k gR with
    | er q => trivial
    | fu => rw [e] at h; exact h
    | ok t k1 => rw [e] at h; exact ⟨h.1, h.2, by omega⟩
  · have h := ho k (Nat.le_refl _) hk
    cases e : one k with
    | er q => trivial
    | fu => rw [e] at h; exact h
    | ok t k1 =>
      rw [e] at h
      obtain ⟨a1, a2, a3⟩ := h
      have ih := commasF_g (one := one) (l.length + 1) k1 (x.app (.one t)) (fun k3 h3 h4 => ho k3 (by omega) h4) a2 (by omega)
      dsimp only
      cases e3 : commasF l one (l.length + 1) k1 (x.app (.one t)) with
      | er q => trivial
      | fu => rw [e3] at ih; exact ih
      | ok y k3 =>
        rw [e3] at ih
        obtain ⟨b1, b2, b3⟩ := ih
        rw [Fo.size_app, Fo.size_one] at b3
        exact ⟨by omega, b2, by omega⟩
/-- A tree that goes on behind one of m nodes. -/
def GdT (l : List Tk) (k m : Nat) : PR Tr → Prop
  | .ok x k' => k ≤ k' ∧ k' ≤ l.length ∧ x.kids.size + 1 ≤ m + 2 * (k' - k)
  | .er _ => True
  | .fu => False
theorem rowF_g {up : Nat → PR Tr} (r : Nat) : ∀ (f k : Nat) (x : Tr), (∀ k1, k < k1 → k1 ≤ l.length → Gd l k1 (up k1)) → k ≤ l.length → l.length + 1 ≤ k + f → GdT l k (x.kids.size + 1) (rowF l up r f k x)
  | 0, k, x, _, h1, h2 => by omega
  | f + 1, k, x, ho, hk, hf => by
    unfold rowF
    split
    · rename_i hc
      have hlt := kind_lt' hc.1 (by decide)
      have h := ho (k + 1) (by omega) (by omega)
      cases e : up (k + 1) with
      | er q => trivial
      | fu => rw [e] at h; exact h
      | ok t k1 =>
        rw [e] at h
        obtain ⟨a1, a2, a3⟩ := h
        dsimp only
        split
        · exact ⟨by omega, a2, by simp only [Fo.size_app, Fo.size_one]; omega⟩
        · have ih := rowF_g (up := up) r f k1 ⟨doneN l k1 { begN 27 (nxt l k) (nxt l k).s with frm := x.d.beg, beg := x.d.beg }, (Fo.one x).app (.one t)⟩ (fun k3 h3 h4 => ho k3 (by omega) h4) a2 (by omega)
          simp only [Fo.size_app, Fo.size_one] at ih
          cases e3 : rowF l up r f k1 ⟨doneN l k1 { begN 27 (nxt l k) (nxt l k).s with frm := x.d.beg, beg := x.d.beg }, (Fo.one x).app (.one t)⟩ with
          | er q => trivial
          | fu => rw [e3] at ih; exact ih
          | ok y k3 =>
            rw [e3] at ih
            obtain ⟨b1, b2, b3⟩ := ih
            exact ⟨by omega, b2, by omega⟩
    · exact ⟨Nat.le_refl _, hk, by omega⟩
theorem postF_g {ex : Nat → PR Tr} : ∀ (f k : Nat) (x : Tr), (∀ k1, k < k1 → k1 ≤ l.length → Gd l k1 (ex k1)) → k ≤ l.length → l.length + 1 ≤ k + f → GdT l k (x.kids.size + 1) (postF l ex f k x)
  | 0, k, x, _, h1, h2 => by omega
  | f + 1, k, x, ho, hk, hf => by
    unfold postF
    split
    · rename_i hc
      have hlt := isB_lt' hc
      have h := name_g (l := l) (k := k + 1)
      cases e : nameS l (k + 1) with
      | er q => trivial
      | fu => rw [e] at h; exact h
      | ok m k1 =>
        rw [e] at h
        obtain ⟨a1, a2⟩ := h
        have ih := postF_g (ex := ex) f k1 ⟨doneN l k1 { begN 24 m m.s with frm := x.d.beg, beg := x.d.beg }, .one x⟩ (fun k3 h3 h4 => ho k3 (by omega) h4) a2 (by omega)
        simp only [Fo.size_one] at ih
        dsimp only
        cases e3 : postF l ex f k1 ⟨doneN l k1 { begN 24 m m.s with frm := x.d.beg, beg := x.d.beg }, .one x⟩ with
        | er q => trivial
        | fu => rw [e3] at ih; exact ih
        | ok y k3 =>
          rw [e3] at ih
          obtain ⟨b1, b2, b3⟩ := ih
          exact ⟨by omega, b2, by omega⟩
    · split
      · rename_i hc
        have hlt := isB_lt' hc
        have h := commas_g (l := l) (one := ex) (k + 1) (.one x) (fun k1 h3 h4 => (ho k1 (by omega) h4).weak) (by omega)
        rw [Fo.size_one] at h
        cases e : commasS l ex (l.length + 1) (k + 1) (.one x) with
        | er q => trivial
        | fu => rw [e] at h; exact h
        | ok ks k1 =>
          rw [e] at h
          obtain ⟨a1, a2, a3⟩ := h
          have ih := postF_g (ex := ex) f k1 ⟨doneN l k1 ⟨25, ⟨#[]⟩, 0, x.d.beg, x.d.beg, 0, x.d.beg⟩, ks⟩ (fun k3 h3 h4 => ho k3 (by omega) h4) a2 (by omega)
          dsimp only at ih ⊢
          cases e3 : postF l ex f k1 ⟨doneN l k1 ⟨25, ⟨#[]⟩, 0, x.d.beg, x.d.beg, 0, x.d.beg⟩, ks⟩ with
          | er q => trivial
          | fu => rw [e3] at ih; exact ih
          | ok y k3 =>
            rw [e3] at ih
            obtain ⟨b1, b2, b3⟩ := ih
            exact ⟨by omega, b2, by omega⟩
      · exact ⟨Nat.le_refl _, hk, by omega⟩
theorem variable_g {ex : Nat → PR Tr} (k : Nat) (ho : ∀ k1, k < k1 → k1 ≤ l.length → Gd l k1 (ex k1)) (hk : k < l.length) : Gd l k (variableS l ex k) := by
  unfold variableS
  have h := worded_g (l := l) (k := k) 4 hk
  cases e : wordedS l k 4 with
  | er q => trivial
  | fu => rw [e] at h; exact h
  | ok d k1 =>
    rw [e] at h
    obtain ⟨a1, a2⟩ := h
    have h2 := kindOf_g (l := l) (k := k1)
    dsimp only
    cases e2 : kindOfS l k1 with
    | er q => trivial
    | fu => rw [e2] at h2; exact h2
    | ok t k2 =>
      rw [e2] at h2
      obtain ⟨b1, b2, b3⟩ := h2
      dsimp only
      split
      · rename_i hc
        have hlt := isB_lt' hc
        have h3 := ho (k2 + 1) (by omega) (by omega)
        cases e3 : ex (k2 + 1) with
        | er q => trivial
        | fu => rw [e3] at h3; exact h3
        | ok u k3 =>
          rw [e3] at h3
          obtain ⟨c1, c2, c3⟩ := h3
          exact ⟨by omega, c2, by simp only [Fo.size_app, Fo.size_one]; omega⟩
      · exact ⟨by omega, b2, by simp only [Fo.size_one]; omega⟩
def rankN : NT → Nat
  | .row r => 8 - r
  | .unary => 2
  | .post => 1
  | .prim => 0
  | .block => 0
  | .branch => 0
  | .stmt => 9
theorem GdT.gd {k k' m : Nat} {r : PR Tr} (h : GdT l k' m r) (h1 : k < k') (h2 : m + 1 ≤ 2 * (k' - k)) : Gd l k r := by
  cases r with
  | ok x k3 => obtain ⟨a, b, c⟩ := h; exact ⟨by omega, b, by omega⟩
  | er q => trivial
  | fu => exact h
theorem step_g {rec : NT → Nat → PR Tr} {n : Nat} (hr : ∀ t k, NOk t → k ≤ l.length → 10 * (l.length - k) + rankN t + 1 ≤ n → GdN l k (rec t k) t) (t : NT) (k : Nat) (ht : NOk t) (hk : k ≤ l.length) (hn : 10 * (l.length - k) + rankN t ≤ n) : GdN l k (stepS l rec t k) t := by
  have hl : ∀ t k1, NOk t → k < k1 → k1 ≤ l.length → GdN l k1 (rec t k1) t := fun t k1 h1 h2 h3 => hr t k1 h1 h3 (by cases t <;> simp only [rankN] at * <;> omega)
  cases t with
  | row r =>
    simp only [stepS]
    have ht : r ≤ 5 := ht
    simp only [rankN] at hn
    split
    · exact hr .unary k trivial hk (by simp only [rankN]; omega)
    · have h := hr (.row (r + 1)) k (show r + 1 ≤ 5 by omega) hk (by simp only [rankN]; omega)
      cases e : rec (.row (r + 1)) k with
      | er q => trivial
      | fu => rw [e] at h; exact h
      | ok x k1 =>
        rw [e] at h
        obtain ⟨a1, a2, a3⟩ := h
        exact (rowF_g (up := rec (.row (r + 1))) r (l.length + 1) k1 x (fun k2 h1 h2 => hl (.row (r + 1)) k2 (show r + 1 ≤ 5 by omega) (by omega) h2) a2 (by omega)).gd a1 a3
  | unary =>
    simp only [stepS]
    simp only [rankN] at hn
    split
    · rename_i hc
      have hlt : k < l.length := by rcases Bool.or_eq_true_iff.1 hc with h | h <;> exact isB_lt' h
      have h := hl .unary (k + 1) trivial (by omega) (by omega)
      cases e : rec .unary (k + 1) with
      | er q => trivial
      | fu => rw [e] at h; exact h
      | ok x k1 =>
        rw [e] at h
        obtain ⟨a1, a2, a3⟩ := h
        exact ⟨by omega, a2, by simp only [Fo.size_one]; omega⟩
    · exact hr .post k trivial hk (by simp only [rankN]; omega)
  | post =>
    simp only [stepS]
    simp only [rankN] at hn
    have h := hr .prim k trivial hk (by simp only [rankN]; omega)
    cases e : rec .prim k with
    | er q => trivial
    | fu => rw [e] at h; exact h
    | ok x k1 =>
      rw [e] at h
      obtain ⟨a1, a2, a3⟩ := h
      exact (postF_g (ex := rec (.row 0)) (l.length + 1) k1 x (fun k2 h1 h2 => hl (.row 0) k2 (show 0 ≤ 5 by omega) (by omega) h2) a2 (by omega)).gd a1 a3
  | prim =>
    simp only [stepS]
    have h := literal_g (l := l) (k := k)
    cases e : literalS l k with
    | er q => trivial
    | fu => rw [e] at h; exact h
    | ok o k1 =>
      rw [e] at h
      cases o with
      | some x => exact h
      | none =>
        have h : k1 = k := h
        subst h
        dsimp only
        split
        · rename_i hc
          have hlt := isB_lt' hc
          have h := hl (.row 0) (k1 + 1) (show 0 ≤ 5 by omega) (by omega) (by omega)
          cases e : rec (.row 0) (k1 + 1) with
          | er q => trivial
          | fu => rw [e] at h; exact h
          | ok x k2 =>
            rw [e] at h
            obtain ⟨a1, a2, a3⟩ := h
            have h2 := need_g (l := l) (k := k2) gR
            dsimp only
            cases e2 : needS l k2 gR with
            | er q => trivial
            | fu => rw [e2] at h2; exact h2
            | ok y k3 =>
              rw [e2] at h2
              have := h2.1
              exact ⟨by omega, h2.2, by dsimp only; omega⟩
        · have h2 := name_g (l := l) (k := k1)
          cases e2 : nameS l k1 with
          | er q => trivial
          | fu => rw [e2] at h2; exact h2
          | ok y k3 =>
            rw [e2] at h2
            have := h2.1
            exact ⟨by omega, h2.2, by simp only [Fo.size]; omega⟩
  | block =>
    simp only [stepS]
    have h2 := need_g (l := l) (k := k) gLb
    cases e2 : needS l k gLb with
    | er q => trivial
    | fu => rw [e2] at h2; exact h2
    | ok y k1 =>
      rw [e2] at h2
      obtain ⟨a1, a2⟩ := h2
      have h3 := list_g (one := rec .stmt) (l.length + 1) k1 .nil (fun k2 h1 h2 => hl .stmt k2 trivial (by omega) h2) a2 (by omega)
      dsimp only
      cases e3 : listS l (rec .stmt) (l.length + 1) k1 .nil with
      | er q => trivial
      | fu => rw [e3] at h3; exact h3
      | ok ks k2 =>
        rw [e3] at h3
        obtain ⟨b1, b2, b3⟩ := h3
        simp only [Fo.size] at b3
        exact ⟨by omega, b2, by dsimp only; omega⟩
  | stmt =>
    simp only [stepS]
    simp only [rankN] at hn
    split
    · exact Gd.weak (hr .block k trivial hk (by simp only [rankN]; omega))
    split
    · rename_i hc
      exact Gd.weak (variable_g (ex := rec (.row 0)) k (fun k1 h1 h2 => hl (.row 0) k1 (show 0 ≤ 5 by omega) h1 h2) (isB_lt' hc))
    split
    · exact Gd.weak (hr .branch k trivial hk (by simp only [rankN]; omega))
    split
    · rename_i hc
      have hlt := isB_lt' hc
      have h1 := hl (.row 0) ((k + 1)) (show 0 ≤ 5 by omega) (by omega) (by omega)
      try dsimp only
      cases e1 : rec (.row 0) (k + 1) with
      | er q => trivial
      | fu => rw [e1] at h1; exact h1.elim
      | ok ee k1 =>
        rw [e1] at h1
        obtain ⟨a1, a2, a3⟩ := h1
        try dsimp only
        have h2 := hl .block (k1) trivial (by omega) (by omega)
        try dsimp only
        cases e2 : rec .block k1 with
        | er q => trivial
        | fu => rw [e2] at h2; exact h2.elim
        | ok bb k2 =>
          rw [e2] at h2
          obtain ⟨b1, b2, b3⟩ := h2
          try dsimp only
          exact ⟨by omega, by omega, by (try simp only [Fo.size_app, Fo.size_one, Fo.size]); omega⟩
    split
    · rename_i hc
      have hlt := isB_lt' hc
      split
      · rename_i hc3
        have h4 := hl (.row 0) ((k + 1)) (show 0 ≤ 5 by omega) (by omega) (by omega)
        try dsimp only
        cases e4 : rec (.row 0) (k + 1) with
        | er q => trivial
        | fu => rw [e4] at h4; exact h4.elim
        | ok ee k1 =>
          rw [e4] at h4
          obtain ⟨a1, a2, a3⟩ := h4
          try dsimp only
          exact ⟨by omega, by omega, by (try simp only [Fo.size_app, Fo.size_one, Fo.size]); omega⟩
      · skip
        exact ⟨by omega, by omega, by (try simp only [Fo.size_app, Fo.size_one, Fo.size]); omega⟩
    split
    · rename_i hc
      have hlt := hc.2.1
      have h5 := hl (.row 0) ((k + 2)) (show 0 ≤ 5 by omega) (by omega) (by omega)
      try dsimp only
      cases e5 : rec (.row 0) (k + 2) with
      | er q => trivial
      | fu => rw [e5] at h5; exact h5.elim
      | ok ee k1 =>
        rw [e5] at h5
        obtain ⟨a1, a2, a3⟩ := h5
        try dsimp only
        exact ⟨by omega, by omega, by (try simp only [Fo.size_app, Fo.size_one, Fo.size]); omega⟩
    have hq := hr (.row 0) k (show 0 ≤ 5 by omega) hk (by simp only [rankN]; omega)
    cases eq : rec (.row 0) k with
    | er q => trivial
    | fu => rw [eq] at hq; exact hq.elim
    | ok ee k1 =>
      rw [eq] at hq
      obtain ⟨a1, a2, a3⟩ := hq
      dsimp only
      split
      · rename_i hc6
        have hlt6 := isB_lt' hc6
        have h7 := hl (.row 0) ((k1 + 1)) (show 0 ≤ 5 by omega) (by omega) (by omega)
        try dsimp only
        cases e7 : rec (.row 0) (k1 + 1) with
        | er q => trivial
        | fu => rw [e7] at h7; exact h7.elim
        | ok ee2 k2 =>
          rw [e7] at h7
          obtain ⟨b1, b2, b3⟩ := h7
          try dsimp only
          exact ⟨by omega, by omega, by (try simp only [Fo.size_app, Fo.size_one, Fo.size]); omega⟩
      · skip
        exact ⟨by omega, by omega, by (try simp only [Fo.size_app, Fo.size_one, Fo.size]); omega⟩
  | branch =>
    simp only [stepS]
    simp only [rankN] at hn
    have h8 := need_g (l := l) (k := k) kIf
    try dsimp only
    cases e8 : needS l k kIf with
    | er q => trivial
    | fu => rw [e8] at h8; exact h8.elim
    | ok y k1 =>
      rw [e8] at h8
      obtain ⟨a1, a2⟩ := h8
      try dsimp only
      have h9 := hl (.row 0) (k1) (show 0 ≤ 5 by omega) (by omega) (by omega)
      try dsimp only
      cases e9 : rec (.row 0) k1 with
      | er q => trivial
      | fu => rw [e9] at h9; exact h9.elim
      | ok ee k2 =>
        rw [e9] at h9
        obtain ⟨b1, b2, b3⟩ := h9
        try dsimp only
        have h10 := hl .block (k2) trivial (by omega) (by omega)
        try dsimp only
        cases e10 : rec .block k2 with
        | er q => trivial
        | fu => rw [e10] at h10; exact h10.elim
        | ok bb k3 =>
          rw [e10] at h10
          obtain ⟨c1, c2, c3⟩ := h10
          try dsimp only
          split
          · rename_i hc11
            have hlt11 := isB_lt' hc11
            split
            · rename_i hc12
              have h13 := hl .branch ((k3 + 1)) trivial (by omega) (by omega)
              try dsimp only
              cases e13 : rec .branch (k3 + 1) with
              | er q => trivial
              | fu => rw [e13] at h13; exact h13.elim
              | ok c k4 =>
                rw [e13] at h13
                obtain ⟨d1, d2, d3⟩ := h13
                try dsimp only
                exact ⟨by omega, by omega, by (try simp only [Fo.size_app, Fo.size_one, Fo.size]); omega⟩
            · skip
              have h14 := hl .block ((k3 + 1)) trivial (by omega) (by omega)
              try dsimp only
              cases e14 : rec .block (k3 + 1) with
              | er q => trivial
              | fu => rw [e14] at h14; exact h14.elim
              | ok c k4 =>
                rw [e14] at h14
                obtain ⟨d1, d2, d3⟩ := h14
                try dsimp only
                exact ⟨by omega, by omega, by (try simp only [Fo.size_app, Fo.size_one, Fo.size]); omega⟩
          · skip
            exact ⟨by omega, by omega, by (try simp only [Fo.size_app, Fo.size_one, Fo.size]); omega⟩
theorem parS_g : ∀ n t k, NOk t → k ≤ l.length → 10 * (l.length - k) + rankN t + 1 ≤ n → GdN l k (parS l n t k) t
  | 0, t, k, _, _, h => by omega
  | n + 1, t, k, ht, hk, h => step_g (n := n) (fun t k h1 h2 h3 => parS_g n t k h1 h2 h3) t k ht hk (by omega)
theorem function_g (n : Nat) (hk : k < l.length) (hn : 10 * l.length + 10 ≤ n) : Gd l k (functionS l n k) := by
  rw [functionS_eq]
  have hrecv : ∃ r : PR Fo, r = recvS l k ∧ GdF l k 0 r := by
    refine ⟨_, rfl, ?_⟩
    unfold recvS
    split
    · rename_i hc15
      have h16 := name_g (l := l) (k := (k + 2))
      try dsimp only
      cases e16 : nameS l (k + 2) with
      | er q => trivial
      | fu => rw [e16] at h16; exact h16.elim
      | ok m k1 =>
        rw [e16] at h16
        obtain ⟨a1, a2⟩ := h16
        try dsimp only
        have h17 := name_g (l := l) (k := k1)
        try dsimp only
        cases e17 : nameS l k1 with
        | er q => trivial
        | fu => rw [e17] at h17; exact h17.elim
        | ok t k2 =>
          rw [e17] at h17
          obtain ⟨b1, b2⟩ := h17
          try dsimp only
          have h18 := need_g (l := l) (k := k2) gR
          try dsimp only
          cases e18 : needS l k2 gR with
          | er q => trivial
          | fu => rw [e18] at h18; exact h18.elim
          | ok t3 k3 =>
            rw [e18] at h18
            obtain ⟨c1, c2⟩ := h18
            try dsimp only
            exact ⟨by omega, by omega, by (try simp only [Fo.size_app, Fo.size_one, Fo.size]); omega⟩
    · skip
      exact ⟨by omega, by omega, by simp only [Fo.size]; omega⟩
  obtain ⟨r, hr, hg⟩ := hrecv
  rw [← hr]
  clear hr
  cases r with
  | er q => trivial
  | fu => exact hg.elim
  | ok ks k1 =>
    obtain ⟨a1, a2, a3⟩ := hg
    dsimp only
    have h19 := name_g (l := l) (k := k1)
    try dsimp only
    cases e19 : nameS l k1 with
    | er q => trivial
    | fu => rw [e19] at h19; exact h19.elim
    | ok m k2 =>
      rw [e19] at h19
      obtain ⟨b1, b2⟩ := h19
      try dsimp only
      have h20 := need_g (l := l) (k := k2) gL
      try dsimp only
      cases e20 : needS l k2 gL with
      | er q => trivial
      | fu => rw [e20] at h20; exact h20.elim
      | ok t3 k3 =>
        rw [e20] at h20
        obtain ⟨x1, x2⟩ := h20
        try dsimp only
        try dsimp only
        have h21 := commas_g (one := typedS l 9) k3 ks (fun k7 _ _ => (typed_g 9).weak) (by omega)
        try dsimp only
        cases e21 : commasS l (typedS l 9) (l.length + 1) k3 ks with
        | er q => trivial
        | fu => rw [e21] at h21; exact h21.elim
        | ok ks4 k4 =>
          rw [e21] at h21
          obtain ⟨c1, c2, c3⟩ := h21
          try dsimp only
          have hres : ∃ r : PR Fo, r = resS l k4 ks4 ∧ GdM l k4 ks4.size r := by
            refine ⟨_, rfl, ?_⟩
            unfold resS
            split
            · rename_i hc22
              exact ⟨Nat.le_refl _, by omega, by omega⟩
            · skip
              have h23 := kindOf_g (l := l) (k := k4)
              try dsimp only
              cases e23 : kindOfS l k4 with
              | er q => trivial
              | fu => rw [e23] at h23; exact h23.elim
              | ok t k5 =>
                rw [e23] at h23
                obtain ⟨d1, d2, d3⟩ := h23
                try dsimp only
                exact ⟨by omega, by omega, by (try simp only [Fo.size_app, Fo.size_one, Fo.size]); omega⟩
          obtain ⟨r, hr, hg⟩ := hres
          rw [← hr]
          clear hr
          cases r with
          | er q => trivial
          | fu => exact hg.elim
          | ok ks5 k5 =>
            obtain ⟨d1, d2, d3⟩ := hg
            dsimp only
            have h24 := parS_g n .block k5 trivial (by omega) (by simp only [rankN]; omega)
            try dsimp only
            cases e24 : parS l n .block k5 with
            | er q => trivial
            | fu => rw [e24] at h24; exact h24.elim
            | ok bb k6 =>
              rw [e24] at h24
              obtain ⟨f1, f2, f3⟩ := h24
              try dsimp only
              exact ⟨by omega, by omega, by (try simp only [Fo.size_app, Fo.size_one, Fo.size]); omega⟩
theorem decl_g (n : Nat) (hk : k ≤ l.length) (hn : 10 * l.length + 10 ≤ n) : Gd l k (declS l n k) := by
  unfold declS
  split
  · rename_i hc
    have hlt := isB_lt' hc
    have h25 := worded_g (l := l) (k := k) 3 hlt
    try dsimp only
    cases e25 : wordedS l k 3 with
    | er q => trivial
    | fu => rw [e25] at h25; exact h25.elim
    | ok d k1 =>
      rw [e25] at h25
      obtain ⟨a1, a2⟩ := h25
      try dsimp only
      have h26 := need_g (l := l) (k := k1) gSet
      try dsimp only
      cases e26 : needS l k1 gSet with
      | er q => trivial
      | fu => rw [e26] at h26; exact h26.elim
      | ok t k2 =>
        rw [e26] at h26
        obtain ⟨b1, b2⟩ := h26
        try dsimp only
        have h27 := value_g (l := l) (k := k2)
        try dsimp only
        cases e27 : valueS l k2 with
        | er q => trivial
        | fu => rw [e27] at h27; exact h27.elim
        | ok v k3 =>
          rw [e27] at h27
          obtain ⟨c1, c2, c3⟩ := h27
          try dsimp only
          exact ⟨by omega, by omega, by (try simp only [Fo.size_app, Fo.size_one, Fo.size]); omega⟩
  split
  · rename_i hc
    exact variable_g (ex := parS l n (.row 0)) k (fun k1 h1 h2 => parS_g n (.row 0) k1 (show 0 ≤ 5 by omega) h2 (by simp only [rankN]; omega)) (isB_lt' hc)
  split
  · rename_i hc
    have hlt := isB_lt' hc
    have h28 := worded_g (l := l) (k := k) 5 hlt
    try dsimp only
    cases e28 : wordedS l k 5 with
    | er q => trivial
    | fu => rw [e28] at h28; exact h28.elim
    | ok d k1 =>
      rw [e28] at h28
      obtain ⟨a1, a2⟩ := h28
      try dsimp only
      have h29 := need_g (l := l) (k := k1) kStruct
      try dsimp only
      cases e29 : needS l k1 kStruct with
      | er q => trivial
      | fu => rw [e29] at h29; exact h29.elim
      | ok t k2 =>
        rw [e29] at h29
        obtain ⟨b1, b2⟩ := h29
        try dsimp only
        have h30 := need_g (l := l) (k := k2) gLb
        try dsimp only
        cases e30 : needS l k2 gLb with
        | er q => trivial
        | fu => rw [e30] at h30; exact h30.elim
        | ok t3 k3 =>
          rw [e30] at h30
          obtain ⟨x1, x2⟩ := h30
          try dsimp only
          have h31 := list_g (one := typedS l 6) (l.length + 1) k3 .nil (fun k7 _ _ => (typed_g 6).weak) (by omega) (by omega)
          try dsimp only
          cases e31 : listS l (typedS l 6) (l.length + 1) k3 .nil with
          | er q => trivial
          | fu => rw [e31] at h31; exact h31.elim
          | ok ks k4 =>
            rw [e31] at h31
            obtain ⟨c1, c2, c3⟩ := h31
            try dsimp only
            exact ⟨by omega, by omega, by simp only [Fo.size] at *; omega⟩
  split
  · rename_i hc
    exact function_g n (isB_lt' hc) hn
  trivial
theorem imports_g : ∀ (f k : Nat) (x : Fo), k ≤ l.length → l.length + 1 ≤ k + f → GdM l k x.size (importsS l f k x)
  | 0, k, x, h1, h2 => by omega
  | f + 1, k, x, hk, hf => by
    unfold importsS
    split
    · rename_i hc32
      have hlt32 := isB_lt' hc32
      have h33 := kind_g (l := l) (k := (k + 1)) (n := 3) (by decide)
      try dsimp only
      cases e33 : kindS l (k + 1) 3 with
      | er q => trivial
      | fu => rw [e33] at h33; exact h33.elim
      | ok t k1 =>
        rw [e33] at h33
        obtain ⟨a1, a2⟩ := h33
        try dsimp only
        have h34 := kind_g (l := l) (k := k1) (n := 5) (by decide)
        try dsimp only
        cases e34 : kindS l k1 5 with
        | er q => trivial
        | fu => rw [e34] at h34; exact h34.elim
        | ok t2 k2 =>
          rw [e34] at h34
          obtain ⟨b1, b2⟩ := h34
          try dsimp only
          refine (?_ : ∀ r, GdM l _ _ r → GdM l k x.size r) _ (imports_g f k2 _ (by omega) (by omega))
          intro r hr
          rw [Fo.size_app, Fo.size_one] at hr
          simp only [Fo.size] at hr
          cases r with
          | er q => trivial
          | fu => exact hr
          | ok y k3 => obtain ⟨g1, g2, g3⟩ := hr; exact ⟨by omega, g2, by omega⟩
    · skip
      exact ⟨Nat.le_refl _, hk, by omega⟩
theorem decls_g (n : Nat) (hn : 10 * l.length + 10 ≤ n) : ∀ (f k : Nat) (x : Fo), k ≤ l.length → l.length + 1 ≤ k + f → GdM l k x.size (declsS l n f k x)
  | 0, k, x, h1, h2 => by omega
  | f + 1, k, x, hk, hf => by
    unfold declsS
    split
    · rename_i hc35
      have h36 := decl_g (l := l) (k := k) n hk hn
      try dsimp only
      cases e36 : declS l n k with
      | er q => trivial
      | fu => rw [e36] at h36; exact h36.elim
      | ok t k1 =>
        rw [e36] at h36
        obtain ⟨a1, a2, a3⟩ := h36
        try dsimp only
        have h37 := kind_g (l := l) (k := k1) (n := 5) (by decide)
        try dsimp only
        cases e37 : kindS l k1 5 with
        | er q => trivial
        | fu => rw [e37] at h37; exact h37.elim
        | ok t2 k2 =>
          rw [e37] at h37
          obtain ⟨b1, b2⟩ := h37
          try dsimp only
          refine (?_ : ∀ r, GdM l _ _ r → GdM l k x.size r) _ (decls_g n hn f k2 _ (by omega) (by omega))
          intro r hr
          rw [Fo.size_app, Fo.size_one] at hr
          cases r with
          | er q => trivial
          | fu => exact hr
          | ok y k3 => obtain ⟨g1, g2, g3⟩ := hr; exact ⟨by omega, g2, by omega⟩
    · skip
      exact ⟨Nat.le_refl _, hk, by omega⟩
theorem file_g (n : Nat) (hn : 10 * l.length + 10 ≤ n) : match fileS l n with | .ok x k' => k' ≤ l.length ∧ x.kids.size + 1 ≤ 2 * l.length | .er _ => True | .fu => False := by
  unfold fileS
  have h38 := need_g (l := l) (k := 0) kPackage
  try dsimp only
  cases e38 : needS l 0 kPackage with
  | er q => trivial
  | fu => rw [e38] at h38; exact h38.elim
  | ok t k1 =>
    rw [e38] at h38
    obtain ⟨a1, a2⟩ := h38
    try dsimp only
    have h39 := name_g (l := l) (k := k1)
    try dsimp only
    cases e39 : nameS l k1 with
    | er q => trivial
    | fu => rw [e39] at h39; exact h39.elim
    | ok m k2 =>
      rw [e39] at h39
      obtain ⟨b1, b2⟩ := h39
      try dsimp only
      have h40 := kind_g (l := l) (k := k2) (n := 5) (by decide)
      try dsimp only
      cases e40 : kindS l k2 5 with
      | er q => trivial
      | fu => rw [e40] at h40; exact h40.elim
      | ok t3 k3 =>
        rw [e40] at h40
        obtain ⟨c1, c2⟩ := h40
        try dsimp only
        have h41 := imports_g (l := l) (l.length + 1) k3 .nil (by omega) (by omega)
        try dsimp only
        cases e41 : importsS l (l.length + 1) k3 .nil with
        | er q => trivial
        | fu => rw [e41] at h41; exact h41.elim
        | ok x k4 =>
          rw [e41] at h41
          obtain ⟨d1, d2, d3⟩ := h41
          try dsimp only
          have h42 := decls_g (l := l) n hn (l.length + 1) k4 x (by omega) (by omega)
          try dsimp only
          cases e42 : declsS l n (l.length + 1) k4 x with
          | er q => trivial
          | fu => rw [e42] at h42; exact h42.elim
          | ok y k5 =>
            rw [e42] at h42
            obtain ⟨f1, f2, f3⟩ := h42
            try dsimp only
            simp only [Fo.size] at *; exact ⟨by omega, by omega⟩
theorem file_ok (n : Nat) (hn : 10 * l.length + 10 ≤ n) : fileS l n ≠ .fu := by
  have h := file_g (l := l) n hn
  intro e
  rw [e] at h
  exact h
theorem file_size (n : Nat) (hn : 10 * l.length + 10 ≤ n) : ∀ x k, fileS l n = .ok x k → x.kids.size + 1 ≤ 2 * l.length := by
  intro x k e
  have h := file_g (l := l) n hn
  rw [e] at h
  exact h.2
end
end Go.Proofs.YtmkijgmfefkgeaaGreatDoor
