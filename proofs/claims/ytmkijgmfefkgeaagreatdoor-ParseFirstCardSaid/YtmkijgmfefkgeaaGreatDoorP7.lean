/- What stands behind the first token that can't stand there is no matter. No condition. -/
import Derived.Test.YtmkijgmfefkgeaaGreatDoorP6
set_option autoImplicit false
set_option linter.unusedVariables false
set_option linter.unusedSimpArgs false
namespace Go.Proofs.YtmkijgmfefkgeaaGreatDoor
open Go
theorem topS_er {l : List Tk} {n : Nat} {q : Int} (h : (topS l n).2 = (210, q)) : fileS l n = .er q := by
  unfold topS at h
  split at h
  · simp at h
  · split at h
    · simp at h
    · split at h
      · simp at h
      · unfold parseS at h
        cases hf : fileS l n with
        | ok x k => rw [hf] at h; simp at h
        | fu => rw [hf] at h; simp at h
        | er q' => rw [hf] at h; simp at h; rw [h]
theorem topS_of_er {l : List Tk} {n : Nat} {q : Int} (h : fileS l n = .er q) (hc : checkS l = 0) (hr : risesF (-1) l = true) : topS l n = ([], (210, q)) := by
  have hp : parseS l n = (([], 0), (210, q)) := by simp [parseS, h]
  unfold topS
  rw [if_neg (by simp [hc]), if_neg (by simp [hr]), hp, if_neg (by simp)]
theorem first_law {l more : List Tk} {n i : Nat} {t : Tk} (U : Up l) (ht : l[i]? = some t) (htop : (topS l n).2 = (210, t.a)) (hlast : ¬ (i = l.length - 1 ∧ t.s.size = 0)) (heq : ∀ k, k ≤ i → more[k]? = l[k]?) (hck : checkS more = 0) (hr : risesF (-1) more = true) : topS more n = ([], (210, t.a)) := by
  have hlt : i < l.length := (List.getElem?_eq_some_iff.1 ht).1
  have hlt' : i < more.length := by
    have := heq i (Nat.le_refl _)
    rw [ht] at this
    exact (List.getElem?_eq_some_iff.1 this).1
  have hn : nxt l i = t := by simp [nxt, ht]
  have hfin : (nxt l i).a < endAt l l.length := by
    have h1 := U.step hlt
    have h2 := U.mono (k := i + 1) (k' := l.length) (by omega) (Nat.le_refl _)
    by_cases hi : i = l.length - 1
    · have : t.s.size ≠ 0 := fun h => hlast ⟨hi, h⟩
      rw [hn] at h1 ⊢
      omega
    · have h3 := U.step (k := i + 1) (by omega)
      have h4 := U.mono (k := i + 1 + 1) (k' := l.length) (by omega) (Nat.le_refl _)
      have h5 := List.pairwise_iff_getElem.1 U.fol i (i + 1) hlt (by omega) (by omega)
      have e1 : nxt l i = l[i] := by simp [nxt, List.getElem?_eq_getElem hlt]
      have e2 : nxt l (i + 1) = l[i + 1]'(by omega) := by simp [nxt, List.getElem?_eq_getElem (show i + 1 < l.length by omega)]
      have h6 := h5.1
      rw [e1]
      rw [e2] at h3
      omega
  have h : Lk i l more := ⟨U, hlt, hlt', heq, hfin⟩
  have hq := file_q h n
  have he := topS_er htop
  have := (hq.2 _ he).2 (by rw [hn]; exact Int.le_refl _)
  exact topS_of_er this hck hr
end Go.Proofs.YtmkijgmfefkgeaaGreatDoor
