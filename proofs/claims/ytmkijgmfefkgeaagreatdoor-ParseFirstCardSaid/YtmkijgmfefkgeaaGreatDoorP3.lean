/- Where no expression and no part of a row begins. No condition. -/
import Derived.Test.YtmkijgmfefkgeaaGreatDoorP
set_option autoImplicit false
set_option linter.unusedVariables false
set_option linter.unusedSimpArgs false
namespace Go.Proofs.YtmkijgmfefkgeaaGreatDoor
open Go
section
variable {l : List Tk} {k : Nat}
theorem isB_s {s : ByteArray} (h : isB l k s = true) : (nxt l k).s = s := by
  simp only [isB, Bool.and_eq_true, decide_eq_true_eq] at h
  exact h.1
theorem isB_ne {s s' : ByteArray} (h : isB l k s = true) (hne : s ≠ s') : isB l k s' = false := by
  have h1 := isB_s h
  simp only [isB, Bool.and_eq_false_iff, decide_eq_false_iff_not]
  left
  intro e
  exact hne (h1.symm.trans e)
theorem isB_4 {s : ByteArray} (h : isB l k s = true) (hs : kept s = false) : (nxt l k).k = 4 := by
  simp only [isB, Bool.and_eq_true, Bool.or_eq_true, decide_eq_true_eq] at h
  rcases h.2 with h | h
  · exact h
  · rw [hs] at h; exact absurd h.2 (by decide)
theorem lit_none (h4 : (nxt l k).k = 4) (h1 : (nxt l k).s ≠ kTrue) (h2 : (nxt l k).s ≠ kFalse) : literalS l k = .ok none k := by
  unfold literalS
  rw [if_neg (by omega), if_neg (by omega), if_neg]
  simp [isB, h1, h2]
theorem prim_er {rec : NT → Nat → PR Tr} (h4 : (nxt l k).k = 4) (h1 : (nxt l k).s ≠ kTrue) (h2 : (nxt l k).s ≠ kFalse) (h3 : (nxt l k).s ≠ gL) : stepS l rec .prim k = .er (nxt l k).a := by
  simp only [stepS, lit_none h4 h1 h2]
  rw [if_neg (by simp [isB, h3])]
  have : nameS l k = .er (nxt l k).a := by
    unfold nameS
    rw [if_neg]
    simp [namedB, h4]
  rw [this]
theorem un_er {n : Nat} (h4 : (nxt l k).k = 4) (h1 : (nxt l k).s ≠ kTrue) (h2 : (nxt l k).s ≠ kFalse) (h3 : (nxt l k).s ≠ gL) (h5 : (nxt l k).s ≠ gMinus) (h6 : (nxt l k).s ≠ gNot) (hn : parS l n .unary k ≠ .fu) : parS l n .unary k = .er (nxt l k).a := by
  match n with
  | 0 => exact absurd rfl hn
  | 1 => exact absurd (by simp [parS, stepS, isB, h5, h6]) hn
  | 2 => exact absurd (by simp [parS, stepS, isB, h5, h6]) hn
  | n + 3 =>
    have e : parS l (n + 1) .prim k = .er (nxt l k).a := prim_er (rec := parS l n) h4 h1 h2 h3
    show stepS l (parS l (n + 2)) .unary k = _
    have e1 : (isB l k gMinus || isB l k gNot) = false := by simp [isB, h5, h6]
    simp only [stepS, e1, Bool.false_eq_true, if_false]
    show stepS l (parS l (n + 1)) .post k = _
    simp only [stepS, e]
theorem row_er {n r : Nat} (h4 : (nxt l k).k = 4) (h1 : (nxt l k).s ≠ kTrue) (h2 : (nxt l k).s ≠ kFalse) (h3 : (nxt l k).s ≠ gL) (h5 : (nxt l k).s ≠ gMinus) (h6 : (nxt l k).s ≠ gNot) : ∀ (m r n : Nat), r + m = 5 → parS l n (.row r) k ≠ .fu → parS l n (.row r) k = .er (nxt l k).a := by
  intro m
  induction m with
  | zero =>
    intro r n hr hn
    have hr : r = 5 := by omega
    subst hr
    match n with
    | 0 => exact absurd rfl hn
    | n + 1 =>
      have e : parS l (n + 1) (.row 5) k = parS l n .unary k := by
        show stepS l (parS l n) (.row 5) k = _
        simp [stepS]
      rw [e] at hn ⊢
      exact un_er h4 h1 h2 h3 h5 h6 hn
  | succ m ih =>
    intro r n hr hn
    match n with
    | 0 => exact absurd rfl hn
    | n + 1 =>
      have hr5 : r ≠ 5 := by omega
      have e : parS l (n + 1) (.row r) k = stepS l (parS l n) (.row r) k := rfl
      rw [e] at hn ⊢
      simp only [stepS, hr5, if_false] at hn ⊢
      have h := ih (r + 1) n (by omega) (by intro h0; rw [h0] at hn; exact hn rfl)
      rw [h]
theorem expr_er_R {n : Nat} (h : isB l k gR = true) (hn : parS l n (.row 0) k ≠ .fu) : parS l n (.row 0) k = .er (nxt l k).a := by
  have hs := isB_s h
  have h4 := isB_4 h (by decide)
  exact row_er (r := 0) (n := n) h4 (by rw [hs]; decide) (by rw [hs]; decide) (by rw [hs]; decide) (by rw [hs]; decide) (by rw [hs]; decide) 5 0 n rfl hn
theorem typed_er_R {kd : Int} (h : isB l k gR = true) : typedS l kd k = .er (nxt l k).a := by
  have h4 := isB_4 h (by decide)
  have : nameS l k = .er (nxt l k).a := by
    unfold nameS
    rw [if_neg]
    simp [namedB, h4]
  unfold typedS
  rw [this]
end
end Go.Proofs.YtmkijgmfefkgeaaGreatDoor
