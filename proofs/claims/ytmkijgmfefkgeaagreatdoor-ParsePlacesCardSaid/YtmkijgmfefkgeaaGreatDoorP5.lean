/- How nodes that are laid stand to one another. No condition. -/
import Derived.Test.YtmkijgmfefkgeaaGreatDoorP4
set_option autoImplicit false
set_option linter.unusedVariables false
set_option linter.unusedSimpArgs false
namespace Go.Proofs.YtmkijgmfefkgeaaGreatDoor
open Go
/-- Kids, one behind the other, between two places. -/
def ChO (ns : List Ln) : Int → Int → List Nat → Prop
  | _, _, [] => True
  | lo, hi, k :: r => ∃ y, ns[k]? = some y ∧ lo ≤ y.1.frm ∧ y.1.to ≤ hi ∧ ChO ns y.1.to hi r
def LnOk (l : List Tk) (ns : List Ln) (x : Ln) : Prop := x.1.frm ≤ x.1.pos ∧ x.1.pos ≤ x.1.to ∧ NdT l x.1 ∧ ChO ns x.1.frm x.1.to x.2
/-- The same nodes stand there, and perhaps more. -/
def Pre (ns ns' : List Ln) : Prop := ∀ (i : Nat) (y : Ln), ns[i]? = some y → ∃ y' : Ln, ns'[i]? = some y' ∧ y'.1 = y.1
theorem Pre.refl (ns : List Ln) : Pre ns ns := fun i y h => ⟨y, h, rfl⟩
theorem Pre.trans {a b c : List Ln} (h : Pre a b) (h' : Pre b c) : Pre a c := fun i y hy => by
  obtain ⟨y1, h1, e1⟩ := h i y hy
  obtain ⟨y2, h2, e2⟩ := h' i y1 h1
  exact ⟨y2, h2, e2.trans e1⟩
theorem Pre.len {a b : List Ln} (h : Pre a b) : a.length ≤ b.length := by
  rcases Nat.lt_or_ge b.length a.length with hlt | hge
  · obtain ⟨y, hy, _⟩ := h b.length a[b.length] (List.getElem?_eq_getElem hlt)
    have := (List.getElem?_eq_some_iff.1 hy).1
    omega
  · exact hge
theorem ChO.mono {a b : List Ln} (h : Pre a b) : ∀ {ks : List Nat} {lo hi : Int}, ChO a lo hi ks → ChO b lo hi ks
  | [], _, _, _ => trivial
  | k :: r, lo, hi, ⟨y, h1, h2, h3, h4⟩ => by
    obtain ⟨y', h5, h6⟩ := h k y h1
    refine ⟨y', h5, by rw [h6]; exact h2, by rw [h6]; exact h3, ?_⟩
    rw [h6]
    exact ChO.mono h h4
theorem LnOk.mono {l : List Tk} {a b : List Ln} {x : Ln} (h : LnOk l a x) (hp : Pre a b) : LnOk l b x := ⟨h.1, h.2.1, h.2.2.1, h.2.2.2.mono hp⟩
theorem Pre.snoc (ns : List Ln) (x : Ln) : Pre ns (ns ++ [x]) := fun i y h => ⟨y, by rw [List.getElem?_append_left (List.getElem?_eq_some_iff.1 h).1]; exact h, rfl⟩
theorem addKid_pre (at_ idx : Nat) (ns : List Ln) : Pre ns (addKid at_ idx ns) := by
  unfold addKid
  split
  · rename_i m hm
    intro i y hy
    by_cases e : i = at_
    · subst e
      rw [hm] at hy
      cases hy
      have hlt := (List.getElem?_eq_some_iff.1 hm).1
      exact ⟨(m.1, m.2 ++ [idx]), List.getElem?_set_self hlt, rfl⟩
    · exact ⟨y, by rw [List.getElem?_set_ne (Ne.symm e)]; exact hy, rfl⟩
  · exact Pre.refl _
theorem addKid_ne {at_ idx i : Nat} {ns : List Ln} (h : i ≠ at_) : (addKid at_ idx ns)[i]? = ns[i]? := by
  unfold addKid
  split
  · rw [List.getElem?_set_ne (Ne.symm h)]
  · rfl
theorem addKid_at {at_ idx : Nat} {ns : List Ln} {m : Ln} (h : ns[at_]? = some m) : (addKid at_ idx ns)[at_]? = some (m.1, m.2 ++ [idx]) := by
  unfold addKid
  rw [h]
  exact List.getElem?_set_self (List.getElem?_eq_some_iff.1 h).1
theorem layF_p {l : List Tk} : ∀ (f : Fo) (lo hi dep : Int) (at_ : Nat) (s : List Ln × Int), FoOk l lo hi f → at_ < s.1.length →
    Pre s.1 (layF f dep at_ s).1 ∧ (∀ i, i < s.1.length → i ≠ at_ → (layF f dep at_ s).1[i]? = s.1[i]?) ∧ (∀ m : Ln, s.1[at_]? = some m → ∃ new, (layF f dep at_ s).1[at_]? = some (m.1, m.2 ++ new) ∧ ChO (layF f dep at_ s).1 lo hi new) ∧
    (∀ (i : Nat) (x : Ln), s.1.length ≤ i → (layF f dep at_ s).1[i]? = some x → LnOk l (layF f dep at_ s).1 x ∧ lo ≤ x.1.frm ∧ x.1.to ≤ hi)
  | .nil, lo, hi, dep, at_, s, _, hat => by
    refine ⟨Pre.refl _, fun _ _ _ => rfl, fun m hm => ⟨[], by simpa [layF] using hm, trivial⟩, fun i x hi hx => ?_⟩
    have := (List.getElem?_eq_some_iff.1 hx).1
    simp only [layF] at this
    omega
  | .cons d k r, lo, hi, dep, at_, s, ⟨h1, h2, h3, h4, h5, h6, h7⟩, hat => by
    have hle := h7.le
    simp only [layF]
    generalize hs1 : layF k (dep + 1) s.1.length (s.1 ++ [(d, [])], max s.2 dep) = s1
    have ih1 := layF_p k d.frm d.to (dep + 1) s.1.length (s.1 ++ [(d, [])], max s.2 dep) h6 (by simp)
    rw [hs1] at ih1
    obtain ⟨a1, a2, a3, a4⟩ := ih1
    have hlen1 := a1.len
    simp only [List.length_append, List.length_singleton] at hlen1 a2 a4
    obtain ⟨newk, a5, a6⟩ := a3 (d, []) (by simp)
    simp only [List.nil_append] at a5
    generalize hs2 : addKid at_ s.1.length s1.1 = n2
    have b1 : Pre s1.1 n2 := hs2 ▸ addKid_pre at_ s.1.length s1.1
    have b2 : ∀ i, i ≠ at_ → n2[i]? = s1.1[i]? := fun i hi => hs2 ▸ addKid_ne hi
    have hlen2 := b1.len
    have ih2 := layF_p r d.to hi dep at_ (n2, s1.2) h7 (by show at_ < n2.length; omega)
    obtain ⟨c1, c2, c3, c4⟩ := ih2
    generalize (layF r dep at_ (n2, s1.2)).1 = n3 at c1 c2 c3 c4 ⊢
    simp only at c1 c2 c3 c4
    have p13 : Pre s1.1 n3 := b1.trans c1
    have hsame : ∀ i, i < n2.length → i ≠ at_ → n3[i]? = s1.1[i]? := fun i h h' => (c2 i h h').trans (b2 i h')
    have hl2 : n2.length = s1.1.length := by
      rw [← hs2]
      unfold addKid
      split <;> simp
    refine ⟨(Pre.snoc s.1 (d, [])).trans (a1.trans p13), fun i h h' => ?_, fun m hm => ?_, fun i x h hx => ?_⟩
    · rw [hsame i (by omega) h', a2 i (by omega) (by omega), List.getElem?_append_left h]
    · have hm1 : s1.1[at_]? = some m := by rw [a2 at_ (by omega) (by omega), List.getElem?_append_left hat]; exact hm
      have hm2 : n2[at_]? = some (m.1, m.2 ++ [s.1.length]) := by rw [← hs2]; exact addKid_at hm1
      obtain ⟨newr, e1, e2⟩ := c3 _ hm2
      refine ⟨s.1.length :: newr, by rw [e1]; simp, ?_⟩
      obtain ⟨y, e3, e4⟩ := p13 _ _ a5
      have e4 : y.1 = d := e4
      exact ⟨y, e3, by rw [e4]; exact h1, by rw [e4]; exact h4, by rw [e4]; exact e2⟩
    · rcases Nat.lt_or_ge i n2.length with hlt | hge
      · rw [hsame i hlt (by omega)] at hx
        by_cases e : i = s.1.length
        · subst e
          rw [a5] at hx
          cases hx
          exact ⟨⟨h2, h3, h5, a6.mono p13⟩, h1, h4⟩
        · obtain ⟨f1, f2, f3⟩ := a4 i x (by omega) hx
          exact ⟨f1.mono p13, by omega, by omega⟩
      · obtain ⟨f1, f2, f3⟩ := c4 i x hge hx
        exact ⟨f1, by omega, by omega⟩
theorem layT_p {l : List Tk} {x : Tr} {lo hi : Int} (h : FoOk l lo hi (.one x)) : ∀ y ∈ (layT x 1 ([], 0)).1, LnOk l (layT x 1 ([], 0)).1 y ∧ lo ≤ y.1.frm ∧ y.1.to ≤ hi := by
  obtain ⟨h1, h2, h3, h4, h5, h6, h7⟩ := h
  have h8 := layF_p x.kids x.d.frm x.d.to 2 0 ([(x.d, [])], max 0 1) h6 (by simp)
  have e : layT x 1 ([], 0) = layF x.kids 2 0 ([(x.d, [])], max 0 1) := rfl
  rw [← e] at h8
  obtain ⟨a1, a2, a3, a4⟩ := h8
  intro y hy
  obtain ⟨i, hi⟩ := List.getElem?_of_mem hy
  rcases Nat.eq_zero_or_pos i with h0 | h0
  · subst h0
    obtain ⟨new, e1, e2⟩ := a3 (x.d, []) rfl
    rw [e1] at hi
    cases hi
    exact ⟨⟨h2, h3, h5, by simpa using e2⟩, h1, h4⟩
  · obtain ⟨f1, f2, f3⟩ := a4 i y (by simp; omega) hi
    exact ⟨f1, by omega, by omega⟩
theorem LxI.up {s : ByteArray} {l : List Tk} (h : LxI s l) : Up l := ⟨fun t ht => (h.pos t ht).1, h.fol⟩
theorem LxI.end_le {s : ByteArray} {l : List Tk} (h : LxI s l) (k : Nat) : endAt l k ≤ s.size := by
  unfold endAt
  split
  · omega
  · split
    · rename_i t ht
      obtain ⟨a, h1, h2, _⟩ := h.sp t (List.mem_of_getElem? ht)
      omega
    · omega
/-- Where the nodes of a text stand. -/
theorem txt_places {s : ByteArray} (h0 : (txtS s 10250).2.1 = 0) : ∀ y ∈ (txtS s 10250).1, 0 ≤ y.1.frm ∧ y.1.to ≤ s.size ∧ y.1.frm ≤ y.1.pos ∧ y.1.pos ≤ y.1.to ∧ (Excl y.1.kind ∨ ∃ a : Nat, y.1.pos = (a : Int) ∧ a + y.1.text.size ≤ s.size ∧ s.extract a (a + y.1.text.size) = y.1.text) ∧ ChO (txtS s 10250).1 y.1.frm y.1.to y.2 := by
  cases hl : lexS s with
  | er e a => simp [txtS, hl]
  | ok l =>
    have ht : txtS s 10250 = topS l 10250 := by simp [txtS, hl]
    rw [ht] at h0 ⊢
    obtain ⟨hI, hs⟩ := lexS_ok hl
    have U := hI.up
    have hf := file_p U 10250 (by have := hI.len; omega)
    unfold topS at h0 ⊢
    split
    · simp
    · split
      · simp
      · split
        · simp
        · dsimp only
          unfold parseS
          cases hfs : fileS l 10250 with
          | er q => simp
          | fu => simp
          | ok x k =>
            rw [hfs] at hf
            obtain ⟨_, _, hF⟩ := hf
            intro y hy
            obtain ⟨⟨g1, g2, g3, g4⟩, g5, g6⟩ := layT_p hF y hy
            have he := hI.end_le k
            refine ⟨g5, by omega, g1, g2, ?_, g4⟩
            rcases g3 with g3 | ⟨t, g3, g7, g8⟩
            · exact .inl g3
            · obtain ⟨a, q1, q2, q3⟩ := hI.sp t g3
              exact .inr ⟨a, by omega, by rw [← g8]; exact q2, by rw [← g8]; exact q3⟩
end Go.Proofs.YtmkijgmfefkgeaaGreatDoor
