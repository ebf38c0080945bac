/- What the lexer's rules give: tokens stand in the text, one behind the other. No condition. -/
import Derived.Test.YtmkijgmfefkgeaaGreatDoorE8
import Derived.Test.YtmkijgmfefkgeaaGreatDoorP
set_option autoImplicit false
set_option linter.unusedVariables false
set_option linter.unusedSimpArgs false
namespace Go.Proofs.YtmkijgmfefkgeaaGreatDoor
open Go
theorem tokS_le {s : ByteArray} {k : Int} {n : Nat} (hne : s.size ≠ 0) (h : tokS s = .tok k n) : 1 ≤ n ∧ n ≤ s.size := by
  unfold tokS at h
  dsimp only at h
  have hw := runS_le (fun c => letterB c || digitB c) s 0 (Nat.zero_le _)
  have hd := runS_le digitB s 0 (Nat.zero_le _)
  split at h
  · rename_i hl
    split at h
    · cases h
    · cases h
      exact ⟨runS_pos (p := fun c => letterB c || digitB c) hne (by simp [hl]), by omega⟩
  · split at h
    · rename_i hg
      split at h
      · cases h
      · split at h
        · cases h
        · cases h
          exact ⟨runS_pos hne hg, by omega⟩
    · split at h
      · split at h
        · cases h
        · cases h
          have := textF_le s s.size 1
          rename_i h0
          exact ⟨Nat.one_le_iff_ne_zero.2 h0, this⟩
      · split at h
        · cases h; omega
        · split at h
          · cases h
          · cases h
            rename_i h0
            exact ⟨Nat.one_le_iff_ne_zero.2 h0, signS_le hne⟩
/-- A token stands in the text where it says. -/
def Sp (s : ByteArray) (t : Tk) : Prop := ∃ a : Nat, t.a = (a : Int) ∧ a + t.s.size ≤ s.size ∧ s.extract a (a + t.s.size) = t.s
def Fol (t u : Tk) : Prop := t.a < u.a ∧ t.a + (t.s.size : Int) ≤ u.a
structure LxI (s : ByteArray) (l : List Tk) : Prop where
  sp : ∀ t ∈ l, Sp s t
  fol : l.Pairwise Fol
  len : l.length ≤ 1024
theorem ext_ext {s : ByteArray} {i n : Nat} (hi : i ≤ s.size) (hn : n ≤ s.size - i) : (s.extract i s.size).extract 0 n = s.extract i (i + n) := by
  rw [ByteArray.extract_extract]
  congr 1
  omega
theorem LxI.snoc {s : ByteArray} {l : List Tk} {t : Tk} (h : LxI s l) (ht : Sp s t) (hl : l.length ≠ 1024) (hf : ∀ u ∈ l, Fol u t) : LxI s (l ++ [t]) :=
  ⟨fun u hu => by
    rcases List.mem_append.1 hu with hu | hu
    · exact h.sp u hu
    · simp at hu; subst hu; exact ht, List.pairwise_append.2 ⟨h.fol, by simp, fun a ha b hb => by simp at hb; subst hb; exact hf a ha⟩, by
    have := h.len
    simp; omega⟩
def LxR (s : ByteArray) : LR → Prop
  | .ok l' => LxI s l'
  | .er e a => 0 ≤ a ∧ a ≤ s.size
theorem lexF_inv {s : ByteArray} : ∀ (f : Nat) (b : Bool) (i : Nat) (l : List Tk), i ≤ s.size → LxI s l → (∀ t ∈ l, t.a + (t.s.size : Int) ≤ i ∧ t.a ≤ i ∧ (b = false → t.a < i)) → LxR s (lexF s f b i l)
  | 0, b, i, l, hi, h, hl => by
    show (0 : Int) ≤ 0 ∧ (0 : Int) ≤ s.size
    omega
  | f + 1, true, i, l, hi, h, hl => by
    by_cases hlt : i < s.size
    · rw [lexF_on hlt]
      exact lexF_inv f false (i + 1) l (by omega) h fun t ht => by have := hl t ht; exact ⟨by omega, by omega, fun _ => by omega⟩
    · rw [lexF_ok hlt]; exact h
  | f + 1, false, i, l, hi, h, hl => by
    obtain ⟨hs1, hs2⟩ := skip_le hi
    cases he : endsB s (skipS s i) with
    | true =>
      cases hb : lastB l with
      | false =>
        rw [lexF_stop he hb]
        exact lexF_inv f true _ l hs2 h fun t ht => by have := hl t ht; exact ⟨by omega, by omega, fun h => by cases h⟩
      | true =>
        by_cases hlen : l.length = 1024
        · rw [lexF_long1 he hb hlen]; simp only [LxR]; omega
        · rw [lexF_end he hb hlen]
          refine lexF_inv f true _ _ hs2 (h.snoc ⟨skipS s i, rfl, by show skipS s i + 0 ≤ s.size; omega, by show s.extract (skipS s i) (skipS s i + 0) = ⟨#[]⟩; apply ByteArray.ext; simp [ByteArray.data_extract]⟩ hlen fun u hu => ?_) fun t ht => ?_
          · have := hl u hu
            exact ⟨by have := this.2.2 rfl; dsimp only; omega, by dsimp only; omega⟩
          · rcases List.mem_append.1 ht with ht | ht
            · have := hl t ht; exact ⟨by omega, by omega, fun h => by cases h⟩
            · simp at ht; subst ht; exact ⟨by show ((skipS s i : Nat) : Int) + (0 : Nat) ≤ _; omega, by simp, fun h => by cases h⟩
    | false =>
      cases ht : tokS (s.extract (skipS s i) s.size) with
      | er e => rw [lexF_er he ht]; simp only [LxR]; omega
      | tok k n =>
        by_cases hlen : l.length = 1024
        · rw [lexF_long2 he ht hlen]; simp only [LxR]; omega
        · have hne : (s.extract (skipS s i) s.size).size ≠ 0 := by
            rw [ext_from hs2]
            intro h0
            have : skipS s i = s.size := by omega
            simp [endsB, this] at he
          obtain ⟨hn1, hn2⟩ := tokS_le hne ht
          rw [ext_from hs2] at hn2
          rw [lexF_tok he ht hlen, ext_ext hs2 hn2]
          have hsz : (s.extract (skipS s i) (skipS s i + n)).size = n := by simp; omega
          refine lexF_inv f false _ _ (by omega) (h.snoc ⟨skipS s i, rfl, by dsimp only; omega, by dsimp only; rw [hsz]⟩ hlen fun u hu => ?_) fun t ht => ?_
          · have := hl u hu
            exact ⟨by have := this.2.2 rfl; dsimp only; omega, by dsimp only; omega⟩
          · rcases List.mem_append.1 ht with ht | ht
            · have := hl t ht; exact ⟨by omega, by omega, fun h => by omega⟩
            · simp only [List.mem_singleton] at ht; subst ht; exact ⟨by dsimp only; omega, by dsimp only; omega, fun h => by dsimp only; omega⟩
def LxR2 (s : ByteArray) : LR → Prop
  | .ok l => LxI s l ∧ s.size ≤ 4096
  | .er e a => 0 ≤ a ∧ a ≤ s.size
theorem lexS_inv (s : ByteArray) : LxR2 s (lexS s) := by
  unfold lexS
  split
  · show (0 : Int) ≤ 0 ∧ (0 : Int) ≤ s.size
    omega
  · rename_i hs
    have h := lexF_inv (s := s) (2 * s.size + 4) false 0 [] (Nat.zero_le _) ⟨by simp, by simp, by simp⟩ (by simp)
    generalize lexF s (2 * s.size + 4) false 0 [] = r at h ⊢
    cases r with
    | ok l => exact ⟨h, by omega⟩
    | er e a => exact h
theorem lexS_ok {s : ByteArray} {l : List Tk} (h : lexS s = .ok l) : LxI s l ∧ s.size ≤ 4096 := by
  have := lexS_inv s
  rw [h] at this
  exact this
theorem LxI.tksz {s : ByteArray} {l : List Tk} (h : LxI s l) (hs : s.size ≤ 4096) : TkSz l := ⟨by have := h.len; omega, fun t ht => by
  obtain ⟨a, _, h2, _⟩ := h.sp t ht
  omega⟩
theorem LxI.pos {s : ByteArray} {l : List Tk} (h : LxI s l) : ∀ t ∈ l, 0 ≤ t.a ∧ t.a ≤ s.size := fun t ht => by
  obtain ⟨a, h1, h2, _⟩ := h.sp t ht
  omega
theorem rises_of {l : List Tk} : ∀ (p : Int), (∀ t ∈ l, 0 ≤ t.a ∧ p < t.a) → l.Pairwise Fol → risesF p l = true := by
  induction l with
  | nil => intros; rfl
  | cons t r ih =>
    intro p h1 h2
    have ht := h1 t (by simp)
    obtain ⟨h3, h4⟩ := List.pairwise_cons.1 h2
    simp only [risesF, Bool.and_eq_true, decide_eq_true_eq]
    exact ⟨⟨ht.1, ht.2⟩, ih t.a (fun u hu => ⟨(h1 u (by simp [hu])).1, (h3 u hu).1⟩) h4⟩
theorem LxI.rises {s : ByteArray} {l : List Tk} (h : LxI s l) : risesF (-1) l = true := rises_of (-1) (fun t ht => by have := h.pos t ht; omega) h.fol
section
variable {g w : World} {L : List SP} [Glo g]
/-- Text, with the number that serves every text. -/
theorem text_tree_c (s : ByteArray) (H : Own g L w) (hsz : s.size ≤ 140737488355327) : Calls Pg 14 #[.string s] w fun e w' => ∃ ms A' c', e = .returned (.tuple #[.agg #[.slice A' ms.length c'], .agg #[.int .i64 (txtS s 10250).2.1, .int .i64 (txtS s 10250).2.2]]) ∧ lnS ms = (txtS s 10250).1 ∧ Own g (Rw 43 lnc 7 A' c' ms :: PK msF ms :: L) w' := by
  refine txt_c s 10250 H hsz (fun l h => (lexS_ok h).1.tksz (lexS_ok h).2) (fun l h t ht => ?_) (fun l h _ => file_ok 10250 ?_) fun l h _ x k hx => ?_
  · have := (lexS_ok h).1.pos t ht
    have := (lexS_ok h).2
    omega
  · have := (lexS_ok h).1.len
    omega
  · have h1 := (lexS_ok h).1.len
    have := file_size (l := l) 10250 (by omega) x k hx
    omega
end
end Go.Proofs.YtmkijgmfefkgeaaGreatDoor
