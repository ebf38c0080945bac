/- The parser's struct, its trees in memory, and how its functions end. No condition. -/
import Derived.Test.YtmkijgmfefkgeaaGreatDoorD
set_option autoImplicit false
set_option linter.unusedVariables false
set_option linter.unusedSimpArgs false
namespace Go.Proofs.YtmkijgmfefkgeaaGreatDoor
open Go
/-- What the program's own variables hold: a number; an error; an error. -/
class Glo (g : World) : Prop where
  v0 : ∃ m t fr, g.heap[0]? = some (.cells #[.int .i64 m] t fr)
  v1 : ∃ u x t fr, g.heap[1]? = some (.cells #[.iface u x] t fr)
  v2 : ∃ u x t fr, g.heap[2]? = some (.cells #[.iface u x] t fr)
def tkc (t : Tk) : List Value := [.int .i64 t.k, .string t.s, .int .i64 t.a]
/-- Tokens with which one can reckon. -/
def TkOk (l : List Tk) : Prop := l.length ≤ 1073741824 ∧ ∀ t ∈ l, 0 ≤ t.a ∧ t.a ≤ 1125899906842624 ∧ t.s.size ≤ 140737488355327
theorem endAt_nn {l : List Tk} (hl : TkOk l) (k : Nat) : 0 ≤ endAt l k := by
  unfold endAt
  split
  · exact Int.le_refl _
  · split
    · rename_i t ht
      have := (hl.2 t (List.mem_of_getElem? ht)).1
      omega
    · exact Int.le_refl _
theorem tok_size {l : List Tk} (hl : TkOk l) (k : Nat) : (nxt l k).s.size ≤ 140737488355327 := by
  unfold nxt
  split
  · rename_i t ht
    exact (hl.2 t (List.mem_of_getElem? ht)).2.2
  · exact Nat.zero_le _
abbrev Par (pb : Nat) (A : Option Addr) (c : Nat) (l : List Tk) (k : Nat) (nv : Value) : SP := bk pb 126 [.slice A l.length c, .int .i64 k, nv]
abbrev PT (g : World) (pb : Nat) (A : Option Addr) (c : Nat) (l : List Tk) (k : Nat) (nv : Value) (L : List SP) : List SP := Par pb A c l k nv :: Els g tkc 3 A l :: L
def ptrc (b : Nat) : List Value := [.pointer (some ⟨b, 0, none⟩)]
/-- A part's cells. -/
def ndc (d : Nd) (A : Option Addr) (n c : Nat) : List Value := [.int .i64 d.kind, .string d.text, .int .i64 d.num, .slice none 0 0, .int .i64 d.pos, .int .i64 d.frm, .int .i64 d.to, .slice A n c, .int .i64 d.beg]
/-- Trees in memory: their blocks are ps. -/
def PFo : Fo → List Nat → SP
  | .nil, ps => pr (ps = [])
  | .cons d k r, ps => ex fun (b : Nat) => ex fun (ps' : List Nat) => ex fun (A : Option Addr) => ex fun (c : Nat) => ex fun (qs : List Nat) =>
      sep (pr (ps = b :: ps')) (sep (bk b 151 (ndc d A qs.length c)) (sep (Rw 131 ptrc 1 A c qs) (sep (PFo k qs) (PFo r ps'))))
section
variable {g w : World} {L : List SP}
theorem Own.pfo_nil (H : Own g L w) : Own g (PFo .nil [] :: L) w := Own.pr_intro rfl H
/-- A part with its kids is a tree. -/
theorem Own.tr {b c n : Nat} {A : Option Addr} {ps : List Nat} (d : Nd) (k : Fo) (H : Own g (bk b 151 (ndc d A n c) :: Rw 131 ptrc 1 A c ps :: PFo k ps :: L) w) (hn : n = ps.length) : Own g (PFo (.one ⟨d, k⟩) [b] :: L) w := by
  subst hn
  have H1 : Own g (sep (bk b 151 (ndc d A ps.length c)) (sep (Rw 131 ptrc 1 A c ps) (sep (PFo k ps) (PFo .nil []))) :: L) w := by
    refine Own.join ?_
    refine ((Own.join ?_ : Own g (sep (Rw 131 ptrc 1 A c ps) (sep (PFo k ps) (PFo .nil [])) :: bk b 151 (ndc d A ps.length c) :: L) w).perm (List.Perm.swap _ _ _))
    have H2 : Own g (PFo k ps :: PFo .nil [] :: Rw 131 ptrc 1 A c ps :: bk b 151 (ndc d A ps.length c) :: L) w :=
      (((H.fr 1 rfl).fr 2 rfl).pfo_nil.fr 1 rfl).perm (by
        refine List.Perm.cons _ (List.Perm.cons _ ?_)
        exact List.Perm.refl _)
    exact (H2.join).perm (List.Perm.swap _ _ _)
  have H3 := Own.join (Own.pr_intro (g := g) (w := w) (p := [b] = b :: []) rfl H1)
  exact H3.mono fun h hh => ⟨b, [], A, c, ps, hh⟩
theorem Own.untr {b : Nat} {t : Tr} (H : Own g (PFo (.one t) [b] :: L) w) : ∃ A c ps, Own g (bk b 151 (ndc t.d A ps.length c) :: Rw 131 ptrc 1 A c ps :: PFo t.kids ps :: L) w := by
  obtain ⟨b', H⟩ := H.ex
  obtain ⟨ps', H⟩ := H.ex
  obtain ⟨A, H⟩ := H.ex
  obtain ⟨c, H⟩ := H.ex
  obtain ⟨qs, H⟩ := H.ex
  obtain ⟨he, H⟩ := H.split.pr
  cases he
  have H1 := H.split
  have H2 := (H1.fr 1 rfl).split
  have H3 := (H2.fr 1 rfl).split
  exact ⟨A, c, qs, (((H3.er 1).fr 1 rfl).fr 2 rfl)⟩
theorem pfo_app : ∀ (f k : Fo) (ps qs : List Nat) (h : PH), sep (PFo f ps) (PFo k qs) h → PFo (f.app k) (ps ++ qs) h
  | .nil, k, ps, qs, h, H => by
    obtain ⟨a, b, h1, h2, ⟨h3, h4⟩, h5⟩ := H
    subst h3
    have : h = b := by
      funext i
      rw [h2 i, h4 i]
      simp
    rw [this]
    exact h5
  | .cons d kd r, k, ps, qs, h, H => by
    obtain ⟨a, b, h1, h2, ⟨b0, ps', A, c, us, h3⟩, h5⟩ := H
    refine ⟨b0, ps' ++ qs, A, c, us, ?_⟩
    have H1 : sep (sep (pr (ps = b0 :: ps')) (sep (bk b0 151 (ndc d A us.length c)) (sep (Rw 131 ptrc 1 A c us) (sep (PFo kd us) (PFo r ps'))))) (PFo k qs) h := ⟨a, b, h1, h2, h3, h5⟩
    have H2 := sep_assoc' H1
    refine sep_mono (fun x hx => ⟨by rw [hx.1]; rfl, hx.2⟩) (fun x hx => ?_) H2
    refine sep_mono (fun _ => id) (fun y hy => ?_) (sep_assoc' hx)
    refine sep_mono (fun _ => id) (fun z hz => ?_) (sep_assoc' hy)
    refine sep_mono (fun _ => id) (fun u hu => ?_) (sep_assoc' hz)
    exact pfo_app r k ps' qs u hu
theorem Own.pfo_app {f k : Fo} {ps qs : List Nat} (H : Own g (PFo f ps :: PFo k qs :: L) w) : Own g (PFo (f.app k) (ps ++ qs) :: L) w := H.join.mono fun h hh => Go.Proofs.YtmkijgmfefkgeaaGreatDoor.pfo_app f k ps qs h hh
/-- A literal row of one part. -/
theorem Own.row1 {tb b : Nat} (H : Own g (bk tb 131 [.pointer (some ⟨b, 0, none⟩)] :: L) w) : Own g (Rw 131 ptrc 1 (some ⟨tb, 0, none⟩) 1 [b] :: L) w :=
  H.rw_of [b] (by decide) rfl (by intro x hx; simp at hx; subst hx; exact ⟨rfl, rfl⟩) (by simp [maxLen])
theorem Own.row2 {tb b b' : Nat} (H : Own g (bk tb 131 [.pointer (some ⟨b, 0, none⟩), .pointer (some ⟨b', 0, none⟩)] :: L) w) : Own g (Rw 131 ptrc 1 (some ⟨tb, 0, none⟩) 2 [b, b'] :: L) w :=
  H.rw_of [b, b'] (by decide) rfl (by intro x hx; simp at hx; rcases hx with rfl | rfl <;> exact ⟨rfl, rfl⟩) (by simp [maxLen])
end
/-- What fail leaves with. -/
def pw (q : Int) : List PanicEntry := [{ v := .iface 128 (.agg #[.int .i64 q]), recovered := false }]
/-- How a function ends that gives a token. -/
def PV (g : World) (pb : Nat) (A : Option Addr) (c : Nat) (l : List Tk) (nv : Value) (L : List SP) (r : PR Tk) (e : Ending) (w' : World) : Prop :=
  (∃ x k', r = .ok x k' ∧ k' ≤ l.length ∧ e = .returned (.agg (tkc x).toArray) ∧ Own g (PT g pb A c l k' nv L) w') ∨ (∃ q, r = .er q ∧ e = .panicked (pw q) ∧ ∃ k', Own g (PT g pb A c l k' nv L) w')
/-- How a function ends that gives a tree. -/
def PO (g : World) (pb : Nat) (A : Option Addr) (c : Nat) (l : List Tk) (nv : Value) (L : List SP) (r : PR Tr) (e : Ending) (w' : World) : Prop :=
  (∃ x k', r = .ok x k' ∧ k' ≤ l.length ∧ ∃ b, e = .returned (.pointer (some ⟨b, 0, none⟩)) ∧ Own g (PT g pb A c l k' nv (PFo (.one x) [b] :: L)) w') ∨ (∃ q, r = .er q ∧ e = .panicked (pw q) ∧ ∃ k', Own g (PT g pb A c l k' nv L) w')
/-- How one ends that has begun a part: its node. -/
def PB (g : World) (pb : Nat) (A : Option Addr) (c : Nat) (l : List Tk) (nv : Value) (L : List SP) (r : PR Nd) (e : Ending) (w' : World) : Prop :=
  (∃ x k', r = .ok x k' ∧ k' ≤ l.length ∧ ∃ b, e = .returned (.pointer (some ⟨b, 0, none⟩)) ∧ Own g (PT g pb A c l k' nv (bk b 151 (ndc x none 0 0) :: Rw 131 ptrc 1 none 0 ([] : List Nat) :: PFo .nil [] :: L)) w') ∨ (∃ q, r = .er q ∧ e = .panicked (pw q) ∧ ∃ k', Own g (PT g pb A c l k' nv L) w')
end Go.Proofs.YtmkijgmfefkgeaaGreatDoor
