/- Where nodes stand: each within its parent's place, one behind the other; and which word stands there. No condition. -/
import Derived.Test.YtmkijgmfefkgeaaGreatDoorP2
import Derived.Test.YtmkijgmfefkgeaaGreatDoorP3
set_option autoImplicit false
set_option linter.unusedVariables false
set_option linter.unusedSimpArgs false
namespace Go.Proofs.YtmkijgmfefkgeaaGreatDoor
open Go
def Excl (n : Int) : Prop := n = 13 ∨ n = 14 ∨ n = 15 ∨ n = 16 ∨ n = 18 ∨ n = 19 ∨ n = 25 ∨ n = 20 ∨ n = 21 ∨ n = 2
/-- The node's word stands there, if its kind says so. -/
def NdT (l : List Tk) (d : Nd) : Prop := Excl d.kind ∨ ∃ t ∈ l, t.a = d.pos ∧ t.s = d.text
def FoOk (l : List Tk) : Int → Int → Fo → Prop
  | lo, hi, .nil => lo ≤ hi
  | lo, hi, .cons d k r => lo ≤ d.frm ∧ d.frm ≤ d.pos ∧ d.pos ≤ d.to ∧ d.to ≤ hi ∧ NdT l d ∧ FoOk l d.frm d.to k ∧ FoOk l d.to hi r
def Tp (l : List Tk) (k k' : Nat) (x : Tr) : Prop := x.d.beg = (nxt l k).a ∧ FoOk l x.d.beg (endAt l k') (.one x)
def TpR (l : List Tk) (k : Nat) : PR Tr → Prop
  | .ok x k' => Tp l k k' x
  | _ => True
def FpR (l : List Tk) (lo : Int) : PR Fo → Prop
  | .ok x k' => FoOk l lo (endAt l k') x
  | _ => True
def FpK (l : List Tk) (k : Nat) (lo : Int) : PR Fo → Prop
  | .ok x k' => k ≤ k' ∧ k' ≤ l.length ∧ FoOk l lo (endAt l k') x
  | _ => True
section
variable {l : List Tk}
theorem FoOk.le : ∀ {f : Fo} {lo hi : Int}, FoOk l lo hi f → lo ≤ hi
  | .nil, _, _, h => h
  | .cons d k r, _, _, h => by obtain ⟨h1, h2, h3, h4, _⟩ := h; omega
theorem FoOk.hi : ∀ {f : Fo} {lo hi hi' : Int}, FoOk l lo hi f → hi ≤ hi' → FoOk l lo hi' f
  | .nil, _, _, _, h, h' => by have h : _ ≤ _ := h; show _ ≤ _; omega
  | .cons d k r, _, _, _, h, h' => by obtain ⟨h1, h2, h3, h4, h5, h6, h7⟩ := h; exact ⟨h1, h2, h3, by omega, h5, h6, h7.hi h'⟩
theorem FoOk.lo : ∀ {f : Fo} {lo lo' hi : Int}, FoOk l lo hi f → lo' ≤ lo → FoOk l lo' hi f
  | .nil, _, _, _, h, h' => by have h : _ ≤ _ := h; show _ ≤ _; omega
  | .cons d k r, _, _, _, h, h' => by obtain ⟨h1, h2, h3, h4, h5, h6, h7⟩ := h; exact ⟨by omega, h2, h3, h4, h5, h6, h7⟩
theorem FoOk.app : ∀ {f f2 : Fo} {lo m hi : Int}, FoOk l lo m f → FoOk l m hi f2 → FoOk l lo hi (f.app f2)
  | .nil, _, _, _, _, h, h' => h'.lo h
  | .cons d k r, f2, _, _, hi, h, h' => by
    obtain ⟨h1, h2, h3, h4, h5, h6, h7⟩ := h
    have h8 := FoOk.app h7 h'
    exact ⟨h1, h2, h3, h8.le, h5, h6, h8⟩
theorem mkT {k k' : Nat} {d : Nd} {kids : Fo} (hb : d.beg = (nxt l k).a) (h1 : d.beg ≤ d.frm) (h2 : d.frm ≤ d.pos) (h3 : d.pos ≤ d.to) (ht : d.to ≤ endAt l k') (hx : NdT l d) (hk : FoOk l d.frm d.to kids) : Tp l k k' ⟨d, kids⟩ := ⟨hb, h1, h2, h3, ht, hx, hk, ht⟩
/-- Places that rise. -/
structure Up (l : List Tk) : Prop where
  nn : ∀ t ∈ l, 0 ≤ t.a
  fol : l.Pairwise Fol
theorem end_succ {k : Nat} (h : k < l.length) : endAt l (k + 1) = (nxt l k).a + (nxt l k).s.size := by
  have hz : l[k]? = some l[k] := List.getElem?_eq_getElem h
  simp [endAt, nxt, hz]
theorem Up.ord (U : Up l) {k : Nat} (h : k ≤ l.length) : endAt l k ≤ (nxt l k).a := by
  rcases Nat.lt_or_ge k l.length with h' | h'
  · have hz : l[k]? = some l[k] := List.getElem?_eq_getElem h'
    match k with
    | 0 => simp only [endAt, nxt, hz]; exact U.nn _ (List.getElem_mem h')
    | j + 1 =>
      have hj : l[j]? = some l[j] := List.getElem?_eq_getElem (by omega)
      have := List.pairwise_iff_getElem.1 U.fol j (j + 1) (by omega) h' (by omega)
      simp only [endAt, nxt, hz, hj]
      exact this.2
  · have hz : l[k]? = none := List.getElem?_eq_none h'
    simp only [nxt, hz]
    exact Int.le_refl _
theorem Up.step (U : Up l) {k : Nat} (h : k < l.length) : endAt l k ≤ (nxt l k).a ∧ (nxt l k).a ≤ endAt l (k + 1) ∧ endAt l (k + 1) = (nxt l k).a + (nxt l k).s.size := by
  have h1 := U.ord (Nat.le_of_lt h)
  have h2 := end_succ h
  exact ⟨h1, by omega, h2⟩
theorem Up.mono (U : Up l) {k k' : Nat} (h : k ≤ k') (h' : k' ≤ l.length) : endAt l k ≤ endAt l k' := by
  obtain ⟨j, rfl⟩ := Nat.exists_eq_add_of_le h
  clear h
  induction j with
  | zero => exact Int.le_refl _
  | succ j ih =>
    have h1 := ih (by omega)
    have h2 := U.step (k := k + j) (by omega)
    have h3 : endAt l (k + (j + 1)) = endAt l (k + j + 1) := rfl
    omega
theorem nxt_mem {k : Nat} (h : k < l.length) : nxt l k ∈ l := by
  have hz : l[k]? = some l[k] := List.getElem?_eq_getElem h
  simp [nxt, hz]
theorem Up.need (U : Up l) {k k1 : Nat} {s : ByteArray} {t : Tk} (e : needS l k s = .ok t k1) : t = nxt l k ∧ k1 = k + 1 ∧ k < l.length ∧ endAt l k ≤ t.a ∧ t.a ≤ endAt l k1 ∧ t ∈ l := by
  unfold needS at e
  split at e
  · rename_i h
    cases e
    have hlt := isB_lt' h
    have := U.step hlt
    exact ⟨rfl, rfl, hlt, this.1, this.2.1, nxt_mem hlt⟩
  · cases e
theorem Up.name (U : Up l) {k k1 : Nat} {t : Tk} (e : nameS l k = .ok t k1) : t = nxt l k ∧ k1 = k + 1 ∧ k < l.length ∧ endAt l k ≤ t.a ∧ t.a ≤ endAt l k1 ∧ t ∈ l := by
  unfold nameS at e
  split at e
  · rename_i h
    cases e
    have hlt := namedB_lt' h
    have := U.step hlt
    exact ⟨rfl, rfl, hlt, this.1, this.2.1, nxt_mem hlt⟩
  · cases e
theorem Up.kind (U : Up l) {k k1 : Nat} {m : Int} {t : Tk} (hm : m ≠ 0) (e : kindS l k m = .ok t k1) : t = nxt l k ∧ k1 = k + 1 ∧ k < l.length ∧ endAt l k ≤ t.a ∧ t.a ≤ endAt l k1 ∧ t ∈ l := by
  unfold kindS at e
  split at e
  · rename_i h
    cases e
    have hlt := kind_lt' h hm
    have := U.step hlt
    exact ⟨rfl, rfl, hlt, this.1, this.2.1, nxt_mem hlt⟩
  · cases e
theorem firstB_s {k : Nat} {s : ByteArray} : ∀ {m : List ByteArray}, firstB l k m = some s → (nxt l k).s = s
  | [], h => by cases h
  | x :: r, h => by
    unfold firstB at h
    split at h
    · cases h; exact isB_s (by assumption)
    · exact firstB_s h
variable (U : Up l)
include U
theorem kindOf_p {k : Nat} : TpR l k (kindOfS l k) := by
  unfold kindOfS
  split
  · rename_i s hs
    have hlt := firstB_lt hs
    have hst := U.step hlt
    have hme := nxt_mem hlt
    have hsz := firstB_s hs
    exact mkT (by simp [doneN, begN]) (by simp only [doneN, begN]; omega) (by simp only [doneN, begN]; omega) (by simp only [doneN, begN]; omega) (by simp only [doneN, begN]; omega) (Or.inr ⟨_, hme, rfl, hsz⟩) (by show (_ : Int) ≤ _; simp only [doneN, begN]; omega)
  · skip
    cases e1 : nameS l k with
    | er q => trivial
    | fu => trivial
    | ok n k1 =>
      obtain ⟨ne, k1e, nl, n1, n2, nm⟩ := U.name e1
      try dsimp only
      split
      · rename_i hc2
        have hlt2 := isB_lt' hc2
        have hst2 := U.step hlt2
        have hme2 := nxt_mem hlt2
        have hs2 := isB_s hc2
        cases e3 : nameS l (k1 + 1) with
        | er q => trivial
        | fu => trivial
        | ok m k2 =>
          obtain ⟨me, k2e, ml, m1, m2, mm⟩ := U.name e3
          try dsimp only
          have hmo := U.mono (k := k1) (k' := k2) (by omega) (by omega)
          exact mkT (by simp [doneN, begN, ne]) (by simp only [doneN, begN]; omega) (by simp only [doneN, begN]; omega) (by simp only [doneN, begN]; omega) (by simp only [doneN, begN]; omega) (Or.inr ⟨m, mm, rfl, rfl⟩) ⟨by simp only [doneN, begN]; omega, by simp only [doneN, begN]; omega, by simp only [doneN, begN]; omega, by simp only [doneN, begN]; omega, (Or.inr ⟨n, nm, rfl, rfl⟩), by show (_ : Int) ≤ _; simp only [doneN, begN]; omega, by show (_ : Int) ≤ _; simp only [doneN, begN]; omega⟩
      · skip
        exact mkT (by simp [doneN, begN, ne]) (by simp only [doneN, begN]; omega) (by simp only [doneN, begN]; omega) (by simp only [doneN, begN]; omega) (by simp only [doneN, begN]; omega) (Or.inr ⟨n, nm, rfl, rfl⟩) (by show (_ : Int) ≤ _; simp only [doneN, begN]; omega)
theorem number_p {k : Nat} : TpR l k (numberS l k) := by
  unfold numberS
  cases e4 : kindS l k 2 with
  | er q => trivial
  | fu => trivial
  | ok t k1 =>
    obtain ⟨te, k1e, tl, t1, t2, tm⟩ := U.kind (by decide) e4
    try dsimp only
    exact mkT (by simp [doneN, begN, te]) (by simp only [doneN, begN]; omega) (by simp only [doneN, begN]; omega) (by simp only [doneN, begN]; omega) (by simp only [doneN, begN]; omega) (by simp [NdT, Excl, doneN, begN]) (by show (_ : Int) ≤ _; simp only [doneN, begN]; omega)
theorem typed_p (n : Int) {k : Nat} : TpR l k (typedS l n k) := by
  unfold typedS
  cases e5 : nameS l k with
  | er q => trivial
  | fu => trivial
  | ok n1 k1 =>
    obtain ⟨n1e, k1e, n1l, n11, n12, n1m⟩ := U.name e5
    try dsimp only
    have g6 := kindOf_g (l := l) (k := k1)
    have p6 := kindOf_p U (k := k1)
    cases e6 : kindOfS l k1 with
    | er q => trivial
    | fu => trivial
    | ok t k2 =>
      rw [e6] at g6 p6
      obtain ⟨ta, tb, tc⟩ := g6
      obtain ⟨td, tf⟩ := p6
      have to := U.ord (k := k1) (by omega)
      have th := tf.le
      have tn := U.mono (k := k1) (k' := k2) (by omega) (by omega)
      try dsimp only
      exact mkT (by simp [doneN, begN, n1e]) (by simp only [doneN, begN]; omega) (by simp only [doneN, begN]; omega) (by simp only [doneN, begN]; omega) (by simp only [doneN, begN]; omega) (Or.inr ⟨n1, n1m, rfl, rfl⟩) (FoOk.lo (FoOk.hi tf (by simp only [doneN, begN]; omega)) (by simp only [doneN, begN]; omega))
def OpR (l : List Tk) (k : Nat) : PR (Option Tr) → Prop
  | .ok (some x) k' => Tp l k k' x
  | _ => True
theorem literal_p {k : Nat} : OpR l k (literalS l k) := by
  unfold literalS
  split
  · have h := number_p U (k := k)
    cases e0 : numberS l k with
    | er q => trivial
    | fu => trivial
    | ok x k1 => rw [e0] at h; exact h
  split
  · rename_i h0
    have hlt := kind_lt' h0 (by decide)
    have hst := U.step hlt
    exact mkT (by simp [doneN, begN]) (by simp only [doneN, begN]; omega) (by simp only [doneN, begN]; omega) (by simp only [doneN, begN]; omega) (by simp only [doneN, begN]; omega) (by simp [NdT, Excl, doneN, begN]) (by show (_ : Int) ≤ _; simp only [doneN, begN]; omega)
  split
  · rename_i h0
    have hlt : k < l.length := by rcases Bool.or_eq_true_iff.1 h0 with h | h <;> exact isB_lt' h
    have hst := U.step hlt
    exact mkT (by simp [doneN, begN]) (by simp only [doneN, begN]; omega) (by simp only [doneN, begN]; omega) (by simp only [doneN, begN]; omega) (by simp only [doneN, begN]; omega) (Or.inr ⟨_, nxt_mem hlt, rfl, rfl⟩) (by show (_ : Int) ≤ _; simp only [doneN, begN]; omega)
  trivial
theorem value_p {k : Nat} : TpR l k (valueS l k) := by
  unfold valueS
  split
  · rename_i hc7
    have hlt7 := isB_lt' hc7
    have hst7 := U.step hlt7
    have hme7 := nxt_mem hlt7
    have hs7 := isB_s hc7
    have g8 := number_g (l := l) (k := k + 1)
    have p8 := number_p U (k := k + 1)
    cases e8 : numberS l (k + 1) with
    | er q => trivial
    | fu => trivial
    | ok t k1 =>
      rw [e8] at g8 p8
      obtain ⟨ta, tb, tc⟩ := g8
      obtain ⟨td, tf⟩ := p8
      have to := U.ord (k := (k + 1)) (by omega)
      have th := tf.le
      have tn := U.mono (k := (k + 1)) (k' := k1) (by omega) (by omega)
      try dsimp only
      exact mkT (by simp [doneN, begN]) (by simp only [doneN, begN]; omega) (by simp only [doneN, begN]; omega) (by simp only [doneN, begN]; omega) (by simp only [doneN, begN]; omega) (Or.inr ⟨_, hme7, rfl, hs7⟩) (FoOk.lo (FoOk.hi tf (by simp only [doneN, begN]; omega)) (by simp only [doneN, begN]; omega))
  · skip
    have p0 := literal_p U (k := k)
    cases e0 : literalS l k with
    | er q => trivial
    | fu => trivial
    | ok o k1 => rw [e0] at p0; cases o with | none => trivial | some x => exact p0
theorem list_p {one : Nat → PR Tr} {lo : Int} : ∀ (f k : Nat) (x : Fo), (∀ k1, k ≤ k1 → k1 ≤ l.length → GdW l k1 (one k1) ∧ TpR l k1 (one k1)) → k ≤ l.length → FoOk l lo (endAt l k) x → FpR l lo (listS l one f k x)
  | 0, k, x, _, _, _ => trivial
  | f + 1, k, x, ho, hk, hx => by
    unfold listS
    split
    · rename_i hc9
      cases e10 : needS l k gRb with
      | er q => trivial
      | fu => trivial
      | ok u k1 =>
        obtain ⟨ue, k1e, ul, u1, u2, um⟩ := U.need e10
        try dsimp only
        exact hx.hi (by omega)
    · skip
      have g11 := (ho k (by omega) (by omega)).1
      have p11 := (ho k (by omega) (by omega)).2
      cases e11 : one k with
      | er q => trivial
      | fu => trivial
      | ok t k1 =>
        rw [e11] at g11 p11
        obtain ⟨ta, tb, tc⟩ := g11
        obtain ⟨td, tf⟩ := p11
        have to := U.ord (k := k) (by omega)
        have th := tf.le
        have tn := U.mono (k := k) (k' := k1) (by omega) (by omega)
        try dsimp only
        split
        · rename_i hc12
          cases e13 : needS l k1 gRb with
          | er q => trivial
          | fu => trivial
          | ok u k2 =>
            obtain ⟨ue, k2e, ul, u1, u2, um⟩ := U.need e13
            try dsimp only
            exact (FoOk.app (m := endAt l k) hx (FoOk.lo (FoOk.hi tf (by omega)) (by omega)))
        · skip
          cases e14 : kindS l k1 5 with
          | er q => trivial
          | fu => trivial
          | ok u k2 =>
            obtain ⟨ue, k2e, ul, u1, u2, um⟩ := U.kind (by decide) e14
            try dsimp only
            exact list_p f k2 _ (fun k3 h3 h4 => ho k3 (by omega) h4) (by omega) (FoOk.app (m := endAt l k) hx (FoOk.lo (FoOk.hi tf (by omega)) (by omega)))
theorem commasF_p {one : Nat → PR Tr} {lo : Int} : ∀ (f k : Nat) (x : Fo), (∀ k1, k ≤ k1 → k1 ≤ l.length → GdW l k1 (one k1) ∧ TpR l k1 (one k1)) → k ≤ l.length → FoOk l lo (endAt l k) x → FpR l lo (commasF l one f k x)
  | 0, k, x, _, _, _ => trivial
  | f + 1, k, x, ho, hk, hx => by
    unfold commasF
    split
    · rename_i hc15
      have hlt15 := isB_lt' hc15
      have hst15 := U.step hlt15
      have hme15 := nxt_mem hlt15
      have hs15 := isB_s hc15
      have g16 := (ho (k + 1) (by omega) (by omega)).1
      have p16 := (ho (k + 1) (by omega) (by omega)).2
      cases e16 : one (k + 1) with
      | er q => trivial
      | fu => trivial
      | ok t k1 =>
        rw [e16] at g16 p16
        obtain ⟨ta, tb, tc⟩ := g16
        obtain ⟨td, tf⟩ := p16
        have to := U.ord (k := (k + 1)) (by omega)
        have th := tf.le
        have tn := U.mono (k := (k + 1)) (k' := k1) (by omega) (by omega)
        try dsimp only
        exact commasF_p f k1 _ (fun k3 h3 h4 => ho k3 (by omega) h4) (by omega) (FoOk.app (m := endAt l k) hx (FoOk.lo tf (by omega)))
    · skip
      cases e17 : needS l k gR with
      | er q => trivial
      | fu => trivial
      | ok u k1 =>
        obtain ⟨ue, k1e, ul, u1, u2, um⟩ := U.need e17
        try dsimp only
        exact hx.hi (by omega)
theorem commas_p {one : Nat → PR Tr} {lo : Int} (k : Nat) (x : Fo) (ho : ∀ k1, k ≤ k1 → k1 ≤ l.length → GdW l k1 (one k1) ∧ TpR l k1 (one k1)) (hk : k ≤ l.length) (hx : FoOk l lo (endAt l k) x) : FpR l lo (commasS l one (l.length + 1) k x) := by
  unfold commasS
  split
  · rename_i hc18
    cases e19 : needS l k gR with
    | er q => trivial
    | fu => trivial
    | ok u k1 =>
      obtain ⟨ue, k1e, ul, u1, u2, um⟩ := U.need e19
      try dsimp only
      exact hx.hi (by omega)
  · skip
    have g20 := (ho k (by omega) (by omega)).1
    have p20 := (ho k (by omega) (by omega)).2
    cases e20 : one k with
    | er q => trivial
    | fu => trivial
    | ok t k1 =>
      rw [e20] at g20 p20
      obtain ⟨ta, tb, tc⟩ := g20
      obtain ⟨td, tf⟩ := p20
      have to := U.ord (k := k) (by omega)
      have th := tf.le
      have tn := U.mono (k := k) (k' := k1) (by omega) (by omega)
      try dsimp only
      exact commasF_p U _ k1 _ (fun k3 h3 h4 => ho k3 (by omega) h4) (by omega) (FoOk.app (m := endAt l k) hx (FoOk.lo tf (by omega)))
theorem rowF_p {up : Nat → PR Tr} (r : Nat) {k0 : Nat} : ∀ (f k : Nat) (x : Tr), (∀ k1, k < k1 → k1 ≤ l.length → Gd l k1 (up k1) ∧ TpR l k1 (up k1)) → k ≤ l.length → Tp l k0 k x → TpR l k0 (rowF l up r f k x)
  | 0, k, x, _, _, _ => trivial
  | f + 1, k, x, ho, hk, ⟨hx, hf⟩ => by
    unfold rowF
    split
    · rename_i hc
      have hlt := kind_lt' hc.1 (by decide)
      have hst := U.step hlt
      have hme := nxt_mem hlt
      have hle := hf.le
      have g21 := (ho (k + 1) (by omega) (by omega)).1
      have p21 := (ho (k + 1) (by omega) (by omega)).2
      cases e21 : up (k + 1) with
      | er q => trivial
      | fu => trivial
      | ok t k1 =>
        rw [e21] at g21 p21
        obtain ⟨ta, tb, tc⟩ := g21
        obtain ⟨td, tf⟩ := p21
        have to := U.ord (k := (k + 1)) (by omega)
        have th := tf.le
        have tn := U.mono (k := (k + 1)) (k' := k1) (by omega) (by omega)
        try dsimp only
        split
        · exact mkT (by simp only [doneN, begN]; exact hx) (by simp only [doneN, begN]; omega) (by simp only [doneN, begN]; omega) (by simp only [doneN, begN]; omega) (by simp only [doneN, begN]; omega) (Or.inr ⟨_, hme, rfl, rfl⟩) (FoOk.app (m := endAt l k) hf (FoOk.lo (FoOk.hi tf (by simp only [doneN, begN]; omega)) (by omega)))
        · exact rowF_p r f k1 _ (fun k3 h3 h4 => ho k3 (by omega) h4) (by omega) (mkT (by simp only [doneN, begN]; exact hx) (by simp only [doneN, begN]; omega) (by simp only [doneN, begN]; omega) (by simp only [doneN, begN]; omega) (by simp only [doneN, begN]; omega) (Or.inr ⟨_, hme, rfl, rfl⟩) (FoOk.app (m := endAt l k) hf (FoOk.lo (FoOk.hi tf (by simp only [doneN, begN]; omega)) (by omega))))
    · exact ⟨hx, hf⟩
theorem postF_p {ex : Nat → PR Tr} {k0 : Nat} : ∀ (f k : Nat) (x : Tr), (∀ k1, k < k1 → k1 ≤ l.length → Gd l k1 (ex k1) ∧ TpR l k1 (ex k1)) → k ≤ l.length → Tp l k0 k x → TpR l k0 (postF l ex f k x)
  | 0, k, x, _, _, _ => trivial
  | f + 1, k, x, ho, hk, ⟨hx, hf⟩ => by
    unfold postF
    have hle := hf.le
    split
    · rename_i hc22
      have hlt22 := isB_lt' hc22
      have hst22 := U.step hlt22
      have hme22 := nxt_mem hlt22
      have hs22 := isB_s hc22
      cases e23 : nameS l (k + 1) with
      | er q => trivial
      | fu => trivial
      | ok n1 k1 =>
        obtain ⟨n1e, k1e, n1l, n11, n12, n1m⟩ := U.name e23
        try dsimp only
        have hmo := U.mono (k := k + 1) (k' := k1) (by omega) (by omega)
        exact postF_p f k1 _ (fun k3 h3 h4 => ho k3 (by omega) h4) (by omega) (mkT (by simp only [doneN, begN]; exact hx) (by simp only [doneN, begN]; omega) (by simp only [doneN, begN]; omega) (by simp only [doneN, begN]; omega) (by simp only [doneN, begN]; omega) (Or.inr ⟨n1, n1m, rfl, rfl⟩) (FoOk.hi hf (by simp only [doneN, begN]; omega)))
    · skip
      split
      · rename_i hc24
        have hlt24 := isB_lt' hc24
        have hst24 := U.step hlt24
        have hme24 := nxt_mem hlt24
        have hs24 := isB_s hc24
        have g25 := commas_g (l := l) (one := ex) (k + 1) (.one x) (fun k1 h3 h4 => (ho k1 (by omega) h4).1.weak) (by omega)
        have p25 := commas_p U (one := ex) (lo := x.d.beg) (k + 1) (.one x) (fun k1 h3 h4 => ⟨(ho k1 (by omega) h4).1.weak, (ho k1 (by omega) h4).2⟩) (by omega) (hf.hi (by omega))
        cases e25 : commasS l ex (l.length + 1) (k + 1) (.one x) with
        | er q => trivial
        | fu => trivial
        | ok ks k1 =>
          rw [e25] at g25 p25
          obtain ⟨ksa, ksb, ksc⟩ := g25
          have ksf := p25
          have ksh := FoOk.le ksf
          have ksn := U.mono (k := (k + 1)) (k' := k1) (by omega) (by omega)
          try dsimp only
          exact postF_p f k1 _ (fun k3 h3 h4 => ho k3 (by omega) h4) (by omega) (mkT (by simp only [doneN]; exact hx) (by simp only [doneN]; omega) (by simp only [doneN]; omega) (by simp only [doneN]; omega) (by simp only [doneN]; omega) (by simp [NdT, Excl, doneN]) ksf)
      · skip
        exact ⟨hx, hf⟩
theorem variable_p {ex : Nat → PR Tr} (k : Nat) (ho : ∀ k1, k < k1 → k1 ≤ l.length → Gd l k1 (ex k1) ∧ TpR l k1 (ex k1)) (hk : k < l.length) : TpR l k (variableS l ex k) := by
  unfold variableS wordedS
  have hst := U.step hk
  cases e26 : nameS l (k + 1) with
  | er q => trivial
  | fu => trivial
  | ok n1 k1 =>
    obtain ⟨n1e, k1e, n1l, n11, n12, n1m⟩ := U.name e26
    try dsimp only
    have hmo := U.mono (k := k) (k' := k1) (by omega) (by omega)
    have g27 := kindOf_g (l := l) (k := k1)
    have p27 := kindOf_p U (k := k1)
    cases e27 : kindOfS l k1 with
    | er q => trivial
    | fu => trivial
    | ok t k2 =>
      rw [e27] at g27 p27
      obtain ⟨ta, tb, tc⟩ := g27
      obtain ⟨td, tf⟩ := p27
      have to := U.ord (k := k1) (by omega)
      have th := tf.le
      have tn := U.mono (k := k1) (k' := k2) (by omega) (by omega)
      try dsimp only
      split
      · rename_i hc28
        have hlt28 := isB_lt' hc28
        have hst28 := U.step hlt28
        have hme28 := nxt_mem hlt28
        have hs28 := isB_s hc28
        have g29 := (ho (k2 + 1) (by omega) (by omega)).1
        have p29 := (ho (k2 + 1) (by omega) (by omega)).2
        cases e29 : ex (k2 + 1) with
        | er q => trivial
        | fu => trivial
        | ok u k3 =>
          rw [e29] at g29 p29
          obtain ⟨ua, ub, uc⟩ := g29
          obtain ⟨ud, uf⟩ := p29
          have uo := U.ord (k := (k2 + 1)) (by omega)
          have uh := uf.le
          have un := U.mono (k := (k2 + 1)) (k' := k3) (by omega) (by omega)
          try dsimp only
          exact mkT (by simp [doneN, begN]) (by simp only [doneN, begN]; omega) (by simp only [doneN, begN]; omega) (by simp only [doneN, begN]; omega) (by simp only [doneN, begN]; omega) (Or.inr ⟨n1, n1m, rfl, rfl⟩) (FoOk.app (m := endAt l k2) (FoOk.lo tf (by simp only [doneN, begN]; omega)) (FoOk.lo (FoOk.hi uf (by simp only [doneN, begN]; omega)) (by omega)))
      · skip
        exact mkT (by simp [doneN, begN]) (by simp only [doneN, begN]; omega) (by simp only [doneN, begN]; omega) (by simp only [doneN, begN]; omega) (by simp only [doneN, begN]; omega) (Or.inr ⟨n1, n1m, rfl, rfl⟩) (FoOk.lo (FoOk.hi tf (by simp only [doneN, begN]; omega)) (by simp only [doneN, begN]; omega))
theorem step_p {rec : NT → Nat → PR Tr} {n : Nat} (hr : ∀ t k, NOk t → k ≤ l.length → 10 * (l.length - k) + rankN t + 1 ≤ n → GdN l k (rec t k) t ∧ TpR l k (rec t k)) (t : NT) (k : Nat) (ht : NOk t) (hk : k ≤ l.length) (hn : 10 * (l.length - k) + rankN t ≤ n) : TpR l k (stepS l rec t k) := by
  have hl : ∀ t k1, NOk t → k < k1 → k1 ≤ l.length → GdN l k1 (rec t k1) t ∧ TpR l k1 (rec t k1) := fun t k1 h1 h2 h3 => hr t k1 h1 h3 (by cases t <;> simp only [rankN] at * <;> omega)
  cases t with
  | row r =>
    simp only [stepS]
    have ht : r ≤ 5 := ht
    simp only [rankN] at hn
    split
    · exact (hr .unary k trivial hk (by simp only [rankN]; omega)).2
    have g30 := (hr (.row (r + 1)) (k) (show _ ≤ 5 by omega) hk (by simp only [rankN]; omega)).1
    have p30 := (hr (.row (r + 1)) (k) (show _ ≤ 5 by omega) hk (by simp only [rankN]; omega)).2
    cases e30 : rec (.row (r + 1)) k with
    | er q => trivial
    | fu => trivial
    | ok x k1 =>
      rw [e30] at g30 p30
      obtain ⟨xa, xb, xc⟩ := g30
      obtain ⟨xd, xf⟩ := p30
      have xo := U.ord (k := k) (by omega)
      have xh := xf.le
      have xn := U.mono (k := k) (k' := k1) (by omega) (by omega)
      try dsimp only
      exact rowF_p U r _ k1 x (fun k2 h1 h2 => hl (.row (r + 1)) k2 (show r + 1 ≤ 5 by omega) (by omega) h2) (by omega) ⟨xd, xf⟩
  | unary =>
    simp only [stepS]
    simp only [rankN] at hn
    split
    · rename_i hc
      have hlt : k < l.length := by rcases Bool.or_eq_true_iff.1 hc with h | h <;> exact isB_lt' h
      have hst := U.step hlt
      have g31 := (hl (.unary) ((k + 1)) trivial (by omega) (by omega)).1
      have p31 := (hl (.unary) ((k + 1)) trivial (by omega) (by omega)).2
      cases e31 : rec .unary (k + 1) with
      | er q => trivial
      | fu => trivial
      | ok x k1 =>
        rw [e31] at g31 p31
        obtain ⟨xa, xb, xc⟩ := g31
        obtain ⟨xd, xf⟩ := p31
        have xo := U.ord (k := (k + 1)) (by omega)
        have xh := xf.le
        have xn := U.mono (k := (k + 1)) (k' := k1) (by omega) (by omega)
        try dsimp only
        exact mkT (by simp [doneN, begN]) (by simp only [doneN, begN]; omega) (by simp only [doneN, begN]; omega) (by simp only [doneN, begN]; omega) (by simp only [doneN, begN]; omega) (Or.inr ⟨_, nxt_mem hlt, rfl, rfl⟩) (FoOk.lo (FoOk.hi xf (by simp only [doneN, begN]; omega)) (by simp only [doneN, begN]; omega))
    · exact (hr .post k trivial hk (by simp only [rankN]; omega)).2
  | post =>
    simp only [stepS]
    simp only [rankN] at hn
    have g32 := (hr (.prim) (k) trivial hk (by simp only [rankN]; omega)).1
    have p32 := (hr (.prim) (k) trivial hk (by simp only [rankN]; omega)).2
    cases e32 : rec .prim k with
    | er q => trivial
    | fu => trivial
    | ok x k1 =>
      rw [e32] at g32 p32
      obtain ⟨xa, xb, xc⟩ := g32
      obtain ⟨xd, xf⟩ := p32
      have xo := U.ord (k := k) (by omega)
      have xh := xf.le
      have xn := U.mono (k := k) (k' := k1) (by omega) (by omega)
      try dsimp only
      exact postF_p U _ k1 x (fun k2 h1 h2 => hl (.row 0) k2 (show 0 ≤ 5 by omega) (by omega) h2) (by omega) ⟨xd, xf⟩
  | prim =>
    simp only [stepS]
    have g0 := literal_g (l := l) (k := k)
    have p0 := literal_p U (k := k)
    cases e0 : literalS l k with
    | er q => trivial
    | fu => trivial
    | ok o k1 =>
      rw [e0] at g0 p0
      cases o with
      | some x => exact p0
      | none =>
        have g0 : k1 = k := g0
        subst g0
        dsimp only
        split
        · rename_i hc33
          have hlt33 := isB_lt' hc33
          have hst33 := U.step hlt33
          have hme33 := nxt_mem hlt33
          have hs33 := isB_s hc33
          have g34 := (hl (.row 0) ((k1 + 1)) (show _ ≤ 5 by omega) (by omega) (by omega)).1
          have p34 := (hl (.row 0) ((k1 + 1)) (show _ ≤ 5 by omega) (by omega) (by omega)).2
          cases e34 : rec (.row 0) (k1 + 1) with
          | er q => trivial
          | fu => trivial
          | ok x k2 =>
            rw [e34] at g34 p34
            obtain ⟨xa, xb, xc⟩ := g34
            obtain ⟨xd, xf⟩ := p34
            have xo := U.ord (k := (k1 + 1)) (by omega)
            have xh := xf.le
            have xn := U.mono (k := (k1 + 1)) (k' := k2) (by omega) (by omega)
            try dsimp only
            cases e35 : needS l k2 gR with
            | er q => trivial
            | fu => trivial
            | ok u k3 =>
              obtain ⟨ue, k3e, ul, u1, u2, um⟩ := U.need e35
              try dsimp only
              exact ⟨rfl, by show FoOk l _ _ (.cons _ _ .nil); obtain ⟨f1, f2, f3, f4, f5, f6, f7⟩ := xf; exact ⟨by dsimp only; omega, f2, f3, by dsimp only; omega, f5, f6, by show (_ : Int) ≤ _; dsimp only; omega⟩⟩
        · skip
          cases e36 : nameS l k1 with
          | er q => trivial
          | fu => trivial
          | ok n1 k2 =>
            obtain ⟨n1e, k2e, n1l, n11, n12, n1m⟩ := U.name e36
            try dsimp only
            exact mkT (by simp [doneN, begN, n1e]) (by simp only [doneN, begN]; omega) (by simp only [doneN, begN]; omega) (by simp only [doneN, begN]; omega) (by simp only [doneN, begN]; omega) (Or.inr ⟨n1, n1m, rfl, rfl⟩) (by show (_ : Int) ≤ _; simp only [doneN, begN]; omega)
  | block =>
    simp only [stepS]
    cases e37 : needS l k gLb with
    | er q => trivial
    | fu => trivial
    | ok t k1 =>
      obtain ⟨te, k1e, tl, t1, t2, tm⟩ := U.need e37
      try dsimp only
      have g38 := list_g (one := rec .stmt) (l.length + 1) k1 .nil (fun k2 h1 h2 => (hl .stmt k2 trivial (by omega) h2).1) (by omega) (by omega)
      have p38 := list_p U (one := rec .stmt) (lo := t.a) (l.length + 1) k1 .nil (fun k2 h1 h2 => hl .stmt k2 trivial (by omega) h2) (by omega) (by show (_ : Int) ≤ _; omega)
      cases e38 : listS l (rec .stmt) (l.length + 1) k1 .nil with
      | er q => trivial
      | fu => trivial
      | ok ks k2 =>
        rw [e38] at g38 p38
        obtain ⟨ksa, ksb, ksc⟩ := g38
        have ksf := p38
        have ksh := FoOk.le ksf
        have ksn := U.mono (k := k1) (k' := k2) (by omega) (by omega)
        try dsimp only
        exact mkT (by simp [doneN, begN, te]) (by simp only [doneN, begN]; omega) (by simp only [doneN, begN]; omega) (by simp only [doneN, begN]; omega) (by simp only [doneN, begN]; omega) (by simp [NdT, Excl, doneN, begN]) ksf
  | stmt =>
    simp only [stepS]
    simp only [rankN] at hn
    split
    · exact (hr .block k trivial hk (by simp only [rankN]; omega)).2
    split
    · rename_i hc
      exact variable_p U (ex := rec (.row 0)) k (fun k1 h1 h2 => hl (.row 0) k1 (show 0 ≤ 5 by omega) h1 h2) (isB_lt' hc)
    split
    · exact (hr .branch k trivial hk (by simp only [rankN]; omega)).2
    split
    · rename_i hc
      have hlt := isB_lt' hc
      have hst := U.step hlt
      have g39 := (hl (.row 0) ((k + 1)) (show _ ≤ 5 by omega) (by omega) (by omega)).1
      have p39 := (hl (.row 0) ((k + 1)) (show _ ≤ 5 by omega) (by omega) (by omega)).2
      cases e39 : rec (.row 0) (k + 1) with
      | er q => trivial
      | fu => trivial
      | ok u k1 =>
        rw [e39] at g39 p39
        obtain ⟨ua, ub, uc⟩ := g39
        obtain ⟨ud, uf⟩ := p39
        have uo := U.ord (k := (k + 1)) (by omega)
        have uh := uf.le
        have un := U.mono (k := (k + 1)) (k' := k1) (by omega) (by omega)
        try dsimp only
        have g40 := (hl (.block) (k1) trivial (by omega) (by omega)).1
        have p40 := (hl (.block) (k1) trivial (by omega) (by omega)).2
        cases e40 : rec .block k1 with
        | er q => trivial
        | fu => trivial
        | ok v k2 =>
          rw [e40] at g40 p40
          obtain ⟨va, vb, vc⟩ := g40
          obtain ⟨vd, vf⟩ := p40
          have vo := U.ord (k := k1) (by omega)
          have vh := vf.le
          have vn := U.mono (k := k1) (k' := k2) (by omega) (by omega)
          try dsimp only
          exact mkT (by simp [doneN, begN]) (by simp only [doneN, begN]; omega) (by simp only [doneN, begN]; omega) (by simp only [doneN, begN]; omega) (by simp only [doneN, begN]; omega) (by simp [NdT, Excl, doneN, begN]) (FoOk.app (m := endAt l k1) (FoOk.lo uf (by simp only [doneN, begN]; omega)) (FoOk.lo (FoOk.hi vf (by simp only [doneN, begN]; omega)) (by omega)))
    split
    · rename_i hc
      have hlt := isB_lt' hc
      have hst := U.step hlt
      split
      · skip
        have g41 := (hl (.row 0) ((k + 1)) (show _ ≤ 5 by omega) (by omega) (by omega)).1
        have p41 := (hl (.row 0) ((k + 1)) (show _ ≤ 5 by omega) (by omega) (by omega)).2
        cases e41 : rec (.row 0) (k + 1) with
        | er q => trivial
        | fu => trivial
        | ok u k1 =>
          rw [e41] at g41 p41
          obtain ⟨ua, ub, uc⟩ := g41
          obtain ⟨ud, uf⟩ := p41
          have uo := U.ord (k := (k + 1)) (by omega)
          have uh := uf.le
          have un := U.mono (k := (k + 1)) (k' := k1) (by omega) (by omega)
          try dsimp only
          exact mkT (by simp [doneN, begN]) (by simp only [doneN, begN]; omega) (by simp only [doneN, begN]; omega) (by simp only [doneN, begN]; omega) (by simp only [doneN, begN]; omega) (by simp [NdT, Excl, doneN, begN]) (FoOk.lo (FoOk.hi uf (by simp only [doneN, begN]; omega)) (by simp only [doneN, begN]; omega))
      · exact mkT (by simp [doneN, begN]) (by simp only [doneN, begN]; omega) (by simp only [doneN, begN]; omega) (by simp only [doneN, begN]; omega) (by simp only [doneN, begN]; omega) (by simp [NdT, Excl, doneN, begN]) (by show (_ : Int) ≤ _; simp only [doneN, begN]; omega)
    split
    · rename_i hc
      have hlt := namedB_lt' hc.1
      have hst := U.step hlt
      have hlt2 := hc.2.1
      have hst2 := U.step hlt2
      have hmo := U.mono (k := k + 1) (k' := k + 2) (by omega) (by omega)
      have g42 := (hl (.row 0) ((k + 2)) (show _ ≤ 5 by omega) (by omega) (by omega)).1
      have p42 := (hl (.row 0) ((k + 2)) (show _ ≤ 5 by omega) (by omega) (by omega)).2
      cases e42 : rec (.row 0) (k + 2) with
      | er q => trivial
      | fu => trivial
      | ok u k1 =>
        rw [e42] at g42 p42
        obtain ⟨ua, ub, uc⟩ := g42
        obtain ⟨ud, uf⟩ := p42
        have uo := U.ord (k := (k + 2)) (by omega)
        have uh := uf.le
        have un := U.mono (k := (k + 2)) (k' := k1) (by omega) (by omega)
        try dsimp only
        exact mkT (by simp [doneN, begN]) (by simp only [doneN, begN]; omega) (by simp only [doneN, begN]; omega) (by simp only [doneN, begN]; omega) (by simp only [doneN, begN]; omega) (Or.inr ⟨_, nxt_mem hlt, rfl, rfl⟩) (FoOk.lo (FoOk.hi uf (by simp only [doneN, begN]; omega)) (by simp only [doneN, begN]; omega))
    have g43 := (hr (.row 0) (k) (show _ ≤ 5 by omega) hk (by simp only [rankN]; omega)).1
    have p43 := (hr (.row 0) (k) (show _ ≤ 5 by omega) hk (by simp only [rankN]; omega)).2
    cases e43 : rec (.row 0) k with
    | er q => trivial
    | fu => trivial
    | ok u k1 =>
      rw [e43] at g43 p43
      obtain ⟨ua, ub, uc⟩ := g43
      obtain ⟨ud, uf⟩ := p43
      have uo := U.ord (k := k) (by omega)
      have uh := uf.le
      have un := U.mono (k := k) (k' := k1) (by omega) (by omega)
      try dsimp only
      split
      · rename_i hc44
        have hlt44 := isB_lt' hc44
        have hst44 := U.step hlt44
        have hme44 := nxt_mem hlt44
        have hs44 := isB_s hc44
        have g45 := (hl (.row 0) ((k1 + 1)) (show _ ≤ 5 by omega) (by omega) (by omega)).1
        have p45 := (hl (.row 0) ((k1 + 1)) (show _ ≤ 5 by omega) (by omega) (by omega)).2
        cases e45 : rec (.row 0) (k1 + 1) with
        | er q => trivial
        | fu => trivial
        | ok v k2 =>
          rw [e45] at g45 p45
          obtain ⟨va, vb, vc⟩ := g45
          obtain ⟨vd, vf⟩ := p45
          have vo := U.ord (k := (k1 + 1)) (by omega)
          have vh := vf.le
          have vn := U.mono (k := (k1 + 1)) (k' := k2) (by omega) (by omega)
          try dsimp only
          exact mkT (by simp [doneN, begN]) (by simp only [doneN, begN]; omega) (by simp only [doneN, begN]; omega) (by simp only [doneN, begN]; omega) (by simp only [doneN, begN]; omega) (by simp [NdT, Excl, doneN, begN]) (FoOk.app (m := endAt l k1) (FoOk.lo uf (by simp only [doneN, begN]; omega)) (FoOk.lo (FoOk.hi vf (by simp only [doneN, begN]; omega)) (by omega)))
      · skip
        exact mkT (by simp [doneN, begN]) (by simp only [doneN, begN]; omega) (by simp only [doneN, begN]; omega) (by simp only [doneN, begN]; omega) (by simp only [doneN, begN]; omega) (by simp [NdT, Excl, doneN, begN]) (FoOk.lo (FoOk.hi uf (by simp only [doneN, begN]; omega)) (by simp only [doneN, begN]; omega))
  | branch =>
    simp only [stepS]
    cases e46 : needS l k kIf with
    | er q => trivial
    | fu => trivial
    | ok t k1 =>
      obtain ⟨te, k1e, tl, t1, t2, tm⟩ := U.need e46
      try dsimp only
      have g47 := (hl (.row 0) (k1) (show _ ≤ 5 by omega) (by omega) (by omega)).1
      have p47 := (hl (.row 0) (k1) (show _ ≤ 5 by omega) (by omega) (by omega)).2
      cases e47 : rec (.row 0) k1 with
      | er q => trivial
      | fu => trivial
      | ok u k2 =>
        rw [e47] at g47 p47
        obtain ⟨ua, ub, uc⟩ := g47
        obtain ⟨ud, uf⟩ := p47
        have uo := U.ord (k := k1) (by omega)
        have uh := uf.le
        have un := U.mono (k := k1) (k' := k2) (by omega) (by omega)
        try dsimp only
        have g48 := (hl (.block) (k2) trivial (by omega) (by omega)).1
        have p48 := (hl (.block) (k2) trivial (by omega) (by omega)).2
        cases e48 : rec .block k2 with
        | er q => trivial
        | fu => trivial
        | ok v k3 =>
          rw [e48] at g48 p48
          obtain ⟨va, vb, vc⟩ := g48
          obtain ⟨vd, vf⟩ := p48
          have vo := U.ord (k := k2) (by omega)
          have vh := vf.le
          have vn := U.mono (k := k2) (k' := k3) (by omega) (by omega)
          try dsimp only
          split
          · rename_i hc49
            have hlt49 := isB_lt' hc49
            have hst49 := U.step hlt49
            have hme49 := nxt_mem hlt49
            have hs49 := isB_s hc49
            split
            · skip
              have g50 := (hl (.branch) ((k3 + 1)) trivial (by omega) (by omega)).1
              have p50 := (hl (.branch) ((k3 + 1)) trivial (by omega) (by omega)).2
              cases e50 : rec .branch (k3 + 1) with
              | er q => trivial
              | fu => trivial
              | ok x k4 =>
                rw [e50] at g50 p50
                obtain ⟨xa, xb, xc⟩ := g50
                obtain ⟨xd, xf⟩ := p50
                have xo := U.ord (k := (k3 + 1)) (by omega)
                have xh := xf.le
                have xn := U.mono (k := (k3 + 1)) (k' := k4) (by omega) (by omega)
                try dsimp only
                exact mkT (by simp [doneN, begN, te]) (by simp only [doneN, begN]; omega) (by simp only [doneN, begN]; omega) (by simp only [doneN, begN]; omega) (by simp only [doneN, begN]; omega) (by simp [NdT, Excl, doneN, begN]) (FoOk.app (m := endAt l k3) (FoOk.app (m := endAt l k2) (FoOk.lo uf (by simp only [doneN, begN]; omega)) (FoOk.lo vf (by omega))) (FoOk.lo (FoOk.hi xf (by simp only [doneN, begN]; omega)) (by omega)))
            · skip
              have g51 := (hl (.block) ((k3 + 1)) trivial (by omega) (by omega)).1
              have p51 := (hl (.block) ((k3 + 1)) trivial (by omega) (by omega)).2
              cases e51 : rec .block (k3 + 1) with
              | er q => trivial
              | fu => trivial
              | ok x k4 =>
                rw [e51] at g51 p51
                obtain ⟨xa, xb, xc⟩ := g51
                obtain ⟨xd, xf⟩ := p51
                have xo := U.ord (k := (k3 + 1)) (by omega)
                have xh := xf.le
                have xn := U.mono (k := (k3 + 1)) (k' := k4) (by omega) (by omega)
                try dsimp only
                exact mkT (by simp [doneN, begN, te]) (by simp only [doneN, begN]; omega) (by simp only [doneN, begN]; omega) (by simp only [doneN, begN]; omega) (by simp only [doneN, begN]; omega) (by simp [NdT, Excl, doneN, begN]) (FoOk.app (m := endAt l k3) (FoOk.app (m := endAt l k2) (FoOk.lo uf (by simp only [doneN, begN]; omega)) (FoOk.lo vf (by omega))) (FoOk.lo (FoOk.hi xf (by simp only [doneN, begN]; omega)) (by omega)))
          · skip
            exact mkT (by simp [doneN, begN, te]) (by simp only [doneN, begN]; omega) (by simp only [doneN, begN]; omega) (by simp only [doneN, begN]; omega) (by simp only [doneN, begN]; omega) (by simp [NdT, Excl, doneN, begN]) (FoOk.app (m := endAt l k2) (FoOk.lo uf (by simp only [doneN, begN]; omega)) (FoOk.lo (FoOk.hi vf (by simp only [doneN, begN]; omega)) (by omega)))
theorem parS_p : ∀ n t k, NOk t → k ≤ l.length → 10 * (l.length - k) + rankN t + 1 ≤ n → GdN l k (parS l n t k) t ∧ TpR l k (parS l n t k)
  | 0, t, k, _, _, h => by omega
  | n + 1, t, k, ht, hk, h => ⟨parS_g (n + 1) t k ht hk h, step_p U (n := n) (fun t k h1 h2 h3 => parS_p n t k h1 h2 h3) t k ht hk (by omega)⟩
theorem function_p (n : Nat) {k : Nat} (hk : k < l.length) (hn : 10 * l.length + 10 ≤ n) : TpR l k (functionS l n k) := by
  rw [functionS_eq]
  have hst := U.step hk
  have hrecv : ∃ r : PR Fo, r = recvS l k ∧ FpK l (k + 1) (nxt l k).a r := by
    refine ⟨_, rfl, ?_⟩
    unfold recvS
    split
    · rename_i hc52
      have hlt52 := isB_lt' hc52
      have hst52 := U.step hlt52
      have hme52 := nxt_mem hlt52
      have hs52 := isB_s hc52
      cases e53 : nameS l (k + 2) with
      | er q => trivial
      | fu => trivial
      | ok m k1 =>
        obtain ⟨me, k1e, ml, m1, m2, mm⟩ := U.name e53
        try dsimp only
        cases e54 : nameS l k1 with
        | er q => trivial
        | fu => trivial
        | ok t k2 =>
          obtain ⟨te, k2e, tl, t1, t2, tm⟩ := U.name e54
          try dsimp only
          cases e55 : needS l k2 gR with
          | er q => trivial
          | fu => trivial
          | ok u k3 =>
            obtain ⟨ue, k3e, ul, u1, u2, um⟩ := U.need e55
            try dsimp only
            have hm1 := U.mono (k := k + 1) (k' := k + 2) (by omega) (by omega)
            have hm2 := U.mono (k := k1) (k' := k2) (by omega) (by omega)
            have hm3 := U.mono (k := k2) (k' := k3) (by omega) (by omega)
            exact ⟨by omega, by omega, by simp only [doneN, begN]; omega, by simp only [doneN, begN]; omega, by simp only [doneN, begN]; omega, by simp only [doneN, begN]; omega, (Or.inr ⟨m, mm, rfl, rfl⟩), ⟨by simp only [doneN, begN]; omega, by simp only [doneN, begN]; omega, by simp only [doneN, begN]; omega, by simp only [doneN, begN]; omega, (Or.inr ⟨t, tm, rfl, rfl⟩), by show (_ : Int) ≤ _; simp only [doneN, begN]; omega, by show (_ : Int) ≤ _; simp only [doneN, begN]; omega⟩, by show (_ : Int) ≤ _; simp only [doneN, begN]; omega⟩
    · skip
      exact ⟨by omega, by omega, by show (_ : Int) ≤ _; omega⟩
  obtain ⟨r, hr, hg⟩ := hrecv
  rw [← hr]
  clear hr
  cases r with
  | er q => trivial
  | fu => trivial
  | ok ks k1 =>
    obtain ⟨a1, a2, a3⟩ := hg
    dsimp only
    cases e56 : nameS l k1 with
    | er q => trivial
    | fu => trivial
    | ok m k2 =>
      obtain ⟨me, k2e, ml, m1, m2, mm⟩ := U.name e56
      try dsimp only
      cases e57 : needS l k2 gL with
      | er q => trivial
      | fu => trivial
      | ok t3 k3 =>
        obtain ⟨t3e, k3e, t3l, t31, t32, t3m⟩ := U.need e57
        try dsimp only
        have hm4 := U.mono (k := k1) (k' := k3) (by omega) (by omega)
        have g58 := commas_g (one := typedS l 9) k3 ks (fun k7 _ _ => (typed_g 9).weak) (by omega)
        have p58 := commas_p U (one := typedS l 9) (lo := (nxt l k).a) k3 ks (fun k7 _ _ => ⟨(typed_g 9).weak, typed_p U 9⟩) (by omega) (a3.hi (by omega))
        cases e58 : commasS l (typedS l 9) (l.length + 1) k3 ks with
        | er q => trivial
        | fu => trivial
        | ok ks4 k4 =>
          rw [e58] at g58 p58
          obtain ⟨ks4a, ks4b, ks4c⟩ := g58
          have ks4f := p58
          have ks4h := FoOk.le ks4f
          have ks4n := U.mono (k := k3) (k' := k4) (by omega) (by omega)
          try dsimp only
          have hres : ∃ r : PR Fo, r = resS l k4 ks4 ∧ FpK l k4 (nxt l k).a r := by
            refine ⟨_, rfl, ?_⟩
            unfold resS
            split
            · rename_i hc59
              exact ⟨Nat.le_refl _, by omega, ks4f⟩
            · skip
              have g60 := kindOf_g (l := l) (k := k4)
              have p60 := kindOf_p U (k := k4)
              cases e60 : kindOfS l k4 with
              | er q => trivial
              | fu => trivial
              | ok t k5 =>
                rw [e60] at g60 p60
                obtain ⟨ta, tb, tc⟩ := g60
                obtain ⟨td, tf⟩ := p60
                have to := U.ord (k := k4) (by omega)
                have th := tf.le
                have tn := U.mono (k := k4) (k' := k5) (by omega) (by omega)
                try dsimp only
                exact ⟨by omega, by omega, FoOk.app (m := endAt l k4) ks4f (FoOk.lo tf (by omega))⟩
          obtain ⟨r, hr, hg⟩ := hres
          rw [← hr]
          clear hr
          cases r with
          | er q => trivial
          | fu => trivial
          | ok ks5 k5 =>
            obtain ⟨d1, d2, d3⟩ := hg
            dsimp only
            have g61 := (parS_p U n .block (k5) trivial (by omega) (by simp only [rankN]; omega)).1
            have p61 := (parS_p U n .block (k5) trivial (by omega) (by simp only [rankN]; omega)).2
            cases e61 : parS l n .block k5 with
            | er q => trivial
            | fu => trivial
            | ok bb k6 =>
              rw [e61] at g61 p61
              obtain ⟨bba, bbb, bbc⟩ := g61
              obtain ⟨bbd, bbf⟩ := p61
              have bbo := U.ord (k := k5) (by omega)
              have bbh := bbf.le
              have bbn := U.mono (k := k5) (k' := k6) (by omega) (by omega)
              try dsimp only
              have hm5 := U.mono (k := k2) (k' := k6) (by omega) (by omega)
              have hm6 := U.mono (k := k + 1) (k' := k1) (by omega) (by omega)
              exact mkT (by simp [doneN, begN]) (by simp only [doneN, begN]; omega) (by simp only [doneN, begN]; omega) (by simp only [doneN, begN]; omega) (by simp only [doneN, begN]; omega) (Or.inr ⟨m, mm, rfl, rfl⟩) (FoOk.app (m := endAt l k5) d3 (FoOk.lo (FoOk.hi bbf (by simp only [doneN, begN]; omega)) (by omega)))
theorem decl_p (n : Nat) {k : Nat} (hk : k ≤ l.length) (hn : 10 * l.length + 10 ≤ n) : TpR l k (declS l n k) := by
  unfold declS wordedS
  split
  · rename_i hc
    have hlt := isB_lt' hc
    have hst := U.step hlt
    cases e62 : nameS l (k + 1) with
    | er q => trivial
    | fu => trivial
    | ok n1 k1 =>
      obtain ⟨n1e, k1e, n1l, n11, n12, n1m⟩ := U.name e62
      try dsimp only
      have hmo := U.mono (k := k + 1) (k' := k1) (by omega) (by omega)
      cases e63 : needS l k1 gSet with
      | er q => trivial
      | fu => trivial
      | ok t k2 =>
        obtain ⟨te, k2e, tl, t1, t2, tm⟩ := U.need e63
        try dsimp only
        have g64 := value_g (l := l) (k := k2)
        have p64 := value_p U (k := k2)
        cases e64 : valueS l k2 with
        | er q => trivial
        | fu => trivial
        | ok v k3 =>
          rw [e64] at g64 p64
          obtain ⟨va, vb, vc⟩ := g64
          obtain ⟨vd, vf⟩ := p64
          have vo := U.ord (k := k2) (by omega)
          have vh := vf.le
          have vn := U.mono (k := k2) (k' := k3) (by omega) (by omega)
          try dsimp only
          exact mkT (by simp [doneN, begN]) (by simp only [doneN, begN]; omega) (by simp only [doneN, begN]; omega) (by simp only [doneN, begN]; omega) (by simp only [doneN, begN]; omega) (Or.inr ⟨n1, n1m, rfl, rfl⟩) (FoOk.lo (FoOk.hi vf (by simp only [doneN, begN]; omega)) (by simp only [doneN, begN]; omega))
  split
  · rename_i hc
    exact variable_p U (ex := parS l n (.row 0)) k (fun k1 h1 h2 => parS_p U n (.row 0) k1 (show 0 ≤ 5 by omega) h2 (by simp only [rankN]; omega)) (isB_lt' hc)
  split
  · rename_i hc
    have hlt := isB_lt' hc
    have hst := U.step hlt
    cases e65 : nameS l (k + 1) with
    | er q => trivial
    | fu => trivial
    | ok n1 k1 =>
      obtain ⟨n1e, k1e, n1l, n11, n12, n1m⟩ := U.name e65
      try dsimp only
      have hmo := U.mono (k := k + 1) (k' := k1) (by omega) (by omega)
      cases e66 : needS l k1 kStruct with
      | er q => trivial
      | fu => trivial
      | ok t k2 =>
        obtain ⟨te, k2e, tl, t1, t2, tm⟩ := U.need e66
        try dsimp only
        cases e67 : needS l k2 gLb with
        | er q => trivial
        | fu => trivial
        | ok t3 k3 =>
          obtain ⟨t3e, k3e, t3l, t31, t32, t3m⟩ := U.need e67
          try dsimp only
          have hmp := U.mono (k := k1) (k' := k3) (by omega) (by omega)
          have g68 := list_g (one := typedS l 6) (l.length + 1) k3 .nil (fun k7 _ _ => (typed_g 6).weak) (by omega) (by omega)
          have p68 := list_p U (one := typedS l 6) (lo := (nxt l k).a) (l.length + 1) k3 .nil (fun k7 _ _ => ⟨(typed_g 6).weak, typed_p U 6⟩) (by omega) (by show (_ : Int) ≤ _; omega)
          cases e68 : listS l (typedS l 6) (l.length + 1) k3 .nil with
          | er q => trivial
          | fu => trivial
          | ok ks k4 =>
            rw [e68] at g68 p68
            obtain ⟨ksa, ksb, ksc⟩ := g68
            have ksf := p68
            have ksh := FoOk.le ksf
            have ksn := U.mono (k := k3) (k' := k4) (by omega) (by omega)
            try dsimp only
            exact mkT (by simp [doneN, begN]) (by simp only [doneN, begN]; omega) (by simp only [doneN, begN]; omega) (by simp only [doneN, begN]; omega) (by simp only [doneN, begN]; omega) (Or.inr ⟨n1, n1m, rfl, rfl⟩) ksf
  split
  · rename_i hc
    exact function_p U n (isB_lt' hc) hn
  trivial
theorem imports_p {lo : Int} : ∀ (f k : Nat) (x : Fo), k ≤ l.length → FoOk l lo (endAt l k) x → FpR l lo (importsS l f k x)
  | 0, k, x, _, _ => trivial
  | f + 1, k, x, hk, hx => by
    unfold importsS
    have hle := hx.le
    split
    · rename_i hc69
      have hlt69 := isB_lt' hc69
      have hst69 := U.step hlt69
      have hme69 := nxt_mem hlt69
      have hs69 := isB_s hc69
      cases e70 : kindS l (k + 1) 3 with
      | er q => trivial
      | fu => trivial
      | ok t k1 =>
        obtain ⟨te, k1e, tl, t1, t2, tm⟩ := U.kind (by decide) e70
        try dsimp only
        cases e71 : kindS l k1 5 with
        | er q => trivial
        | fu => trivial
        | ok u k2 =>
          obtain ⟨ue, k2e, ul, u1, u2, um⟩ := U.kind (by decide) e71
          try dsimp only
          have hm1 := U.mono (k := k + 1) (k' := k1) (by omega) (by omega)
          have hm2 := U.mono (k := k1) (k' := k2) (by omega) (by omega)
          refine imports_p f k2 _ (by omega) (FoOk.app (m := endAt l k) hx ⟨by simp only [doneN, begN]; omega, by simp only [doneN, begN]; omega, by simp only [doneN, begN]; omega, by simp only [doneN, begN]; omega, (by simp [NdT, Excl, doneN, begN]), by show (_ : Int) ≤ _; simp only [doneN, begN]; omega, by show (_ : Int) ≤ _; simp only [doneN, begN]; omega⟩)
    · skip
      exact hx
theorem decls_p (n : Nat) (hn : 10 * l.length + 10 ≤ n) {lo : Int} : ∀ (f k : Nat) (x : Fo), k ≤ l.length → FoOk l lo (endAt l k) x → FpR l lo (declsS l n f k x)
  | 0, k, x, _, _ => trivial
  | f + 1, k, x, hk, hx => by
    unfold declsS
    split
    · rename_i hc72
      have g73 := decl_g (l := l) (k := k) n hk hn
      have p73 := decl_p U n hk hn
      cases e73 : declS l n k with
      | er q => trivial
      | fu => trivial
      | ok t k1 =>
        rw [e73] at g73 p73
        obtain ⟨ta, tb, tc⟩ := g73
        obtain ⟨td, tf⟩ := p73
        have to := U.ord (k := k) (by omega)
        have th := tf.le
        have tn := U.mono (k := k) (k' := k1) (by omega) (by omega)
        try dsimp only
        cases e74 : kindS l k1 5 with
        | er q => trivial
        | fu => trivial
        | ok u k2 =>
          obtain ⟨ue, k2e, ul, u1, u2, um⟩ := U.kind (by decide) e74
          try dsimp only
          exact decls_p n hn f k2 _ (by omega) (FoOk.app (m := endAt l k) hx (FoOk.lo (FoOk.hi tf (by omega)) (by omega)))
    · skip
      exact hx
theorem file_p (n : Nat) (hn : 10 * l.length + 10 ≤ n) : match fileS l n with | .ok x k' => k' ≤ l.length ∧ 0 ≤ x.d.frm ∧ FoOk l 0 (endAt l k') (.one x) | _ => True := by
  unfold fileS
  cases e75 : needS l 0 kPackage with
  | er q => trivial
  | fu => trivial
  | ok t k1 =>
    obtain ⟨te, k1e, tl, t1, t2, tm⟩ := U.need e75
    try dsimp only
    cases e76 : nameS l k1 with
    | er q => trivial
    | fu => trivial
    | ok m k2 =>
      obtain ⟨me, k2e, ml, m1, m2, mm⟩ := U.name e76
      try dsimp only
      cases e77 : kindS l k2 5 with
      | er q => trivial
      | fu => trivial
      | ok t3 k3 =>
        obtain ⟨t3e, k3e, t3l, t31, t32, t3m⟩ := U.kind (by decide) e77
        try dsimp only
        have hm1 := U.mono (k := k1) (k' := k3) (by omega) (by omega)
        have he0 : endAt l 0 = 0 := rfl
        have g78 := imports_g (l := l) (l.length + 1) k3 .nil (by omega) (by omega)
        have p78 := imports_p U (lo := t.a) (l.length + 1) k3 .nil (by omega) (by show (_ : Int) ≤ _; omega)
        cases e78 : importsS l (l.length + 1) k3 .nil with
        | er q => trivial
        | fu => trivial
        | ok x k4 =>
          rw [e78] at g78 p78
          obtain ⟨xa, xb, xc⟩ := g78
          have xf := p78
          have xh := FoOk.le xf
          have xn := U.mono (k := k3) (k' := k4) (by omega) (by omega)
          try dsimp only
          have g79 := decls_g (l := l) n hn (l.length + 1) k4 x (by omega) (by omega)
          have p79 := decls_p U n hn (lo := t.a) (l.length + 1) k4 x (by omega) xf
          cases e79 : declsS l n (l.length + 1) k4 x with
          | er q => trivial
          | fu => trivial
          | ok y k5 =>
            rw [e79] at g79 p79
            obtain ⟨ya, yb, yc⟩ := g79
            have yf := p79
            have yh := FoOk.le yf
            have yn := U.mono (k := k4) (k' := k5) (by omega) (by omega)
            try dsimp only
            have hm2 := U.mono (k := k2) (k' := k5) (by omega) (by omega)
            exact ⟨by omega, by simp only [doneN, begN]; omega, by simp only [doneN, begN]; omega, by simp only [doneN, begN]; omega, by simp only [doneN, begN]; omega, by simp only [doneN, begN]; omega, (Or.inr ⟨m, mm, rfl, rfl⟩), yf, by show (_ : Int) ≤ _; simp only [doneN, begN]; omega⟩
end
end Go.Proofs.YtmkijgmfefkgeaaGreatDoor
