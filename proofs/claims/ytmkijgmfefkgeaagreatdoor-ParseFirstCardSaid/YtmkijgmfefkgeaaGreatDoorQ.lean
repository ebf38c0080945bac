/- How many nodes and kids a text's tree has. No condition. -/
import Derived.Test.YtmkijgmfefkgeaaGreatDoorP2
set_option autoImplicit false
set_option linter.unusedVariables false
set_option linter.unusedSimpArgs false
namespace Go.Proofs.YtmkijgmfefkgeaaGreatDoor
open Go
def totK : List Ln → Nat
  | [] => 0
  | x :: r => x.2.length + totK r
theorem totK_mem : ∀ {ns : List Ln} {y : Ln}, y ∈ ns → y.2.length ≤ totK ns
  | x :: r, y, h => by
    rcases List.mem_cons.1 h with rfl | h
    · simp only [totK]; omega
    · have := totK_mem h; simp only [totK]; omega
theorem totK_snoc : ∀ (ns : List Ln) (x : Ln), totK (ns ++ [x]) = totK ns + x.2.length
  | [], x => by simp [totK]
  | y :: r, x => by simp only [List.cons_append, totK, totK_snoc r x]; omega
theorem totK_set : ∀ (ns : List Ln) (i : Nat) (m : Ln) (idx : Nat), ns[i]? = some m → totK (ns.set i (m.1, m.2 ++ [idx])) = totK ns + 1
  | [], i, m, idx, h => by simp at h
  | y :: r, 0, m, idx, h => by
    simp only [List.getElem?_cons_zero, Option.some.injEq] at h
    subst h
    simp [totK]; omega
  | y :: r, i + 1, m, idx, h => by
    simp only [List.set_cons_succ, totK, totK_set r i m idx (by simpa using h)]; omega
theorem totK_add (at_ idx : Nat) (ns : List Ln) : totK (addKid at_ idx ns) ≤ totK ns + 1 := by
  unfold addKid
  split
  · rename_i m hm
    rw [totK_set ns at_ m idx hm]
    exact Nat.le_refl _
  · omega
theorem layF_tot : ∀ (f : Fo) (dep : Int) (at_ : Nat) (s : List Ln × Int), totK (layF f dep at_ s).1 ≤ totK s.1 + f.size
  | .nil, _, _, s => Nat.le_refl _
  | .cons d k r, dep, at_, s => by
    simp only [layF, Fo.size]
    have h1 := layF_tot k (dep + 1) s.1.length (s.1 ++ [(d, [])], max s.2 dep)
    generalize layF k (dep + 1) s.1.length (s.1 ++ [(d, [])], max s.2 dep) = s1 at h1 ⊢
    have h2 := layF_tot r dep at_ (addKid at_ s.1.length s1.1, s1.2)
    have h3 := totK_add at_ s.1.length s1.1
    have h4 := totK_snoc s.1 (d, [])
    simp only [List.length_nil] at h4
    simp only at h1 h2
    omega
theorem topS_small {l : List Tk} {n : Nat} (hn : 10 * l.length + 10 ≤ n) : (topS l n).1.length ≤ 2048 ∧ totK (topS l n).1 ≤ 2 * l.length := by
  unfold topS
  split
  · simp [totK]
  · split
    · simp [totK]
    · split
      · simp [totK]
      · rename_i h
        dsimp only
        revert h
        unfold parseS
        cases hf : fileS l n with
        | er q => simp [totK]
        | fu => simp [totK]
        | ok x k =>
          intro h
          have hs := file_size (l := l) n hn x k hf
          have ht := layF_tot x.kids 2 0 ([(x.d, [])], max 0 1)
          have e : (layT x 1 ([], 0)) = layF x.kids 2 0 ([(x.d, [])], max 0 1) := rfl
          rw [← e] at ht
          simp only [totK, List.length_nil, Nat.add_zero] at ht
          simp only [true_and, not_or, and_self] at h
          refine ⟨?_, ?_⟩
          · show (layT x 1 ([], 0)).1.length ≤ 2048
            omega
          · show totK (layT x 1 ([], 0)).1 ≤ 2 * l.length
            omega
theorem txt_small (s : ByteArray) : (txtS s 10250).1.length ≤ 2048 ∧ ∀ y ∈ (txtS s 10250).1, y.2.length ≤ 2048 := by
  unfold txtS
  cases hl : lexS s with
  | er e a => simp
  | ok l =>
    have h1 := (lexS_ok hl).1.len
    have h := topS_small (l := l) (n := 10250) (by omega)
    exact ⟨h.1, fun y hy => by have h2 : y ∈ (topS l 10250).1 := hy; have := totK_mem h2; omega⟩
/-- The same of what stands in memory. -/
theorem ln_small {ms : List Lm} {s : ByteArray} (h : lnS ms = (txtS s 10250).1) : ms.length ≤ 8589934592 ∧ ∀ m ∈ ms, m.ks.length ≤ 8589934592 := by
  obtain ⟨h1, h2⟩ := txt_small s
  rw [← h] at h1 h2
  rw [lnS_len] at h1
  refine ⟨by omega, fun m hm => ?_⟩
  have := h2 (m.d, m.ks) (List.mem_map.2 ⟨m, hm, rfl⟩)
  simp only at this
  omega
end Go.Proofs.YtmkijgmfefkgeaaGreatDoor
