/- Trees are compared. No condition. -/
import Derived.Test.YtmkijgmfefkgeaaGreatDoorE8
set_option autoImplicit false
set_option linter.unusedVariables false
set_option linter.unusedSimpArgs false
set_option linter.unusedSectionVars false
namespace Go.Proofs.YtmkijgmfefkgeaaGreatDoor
open Go
/-! ### what may be read, as a fact -/
def RdE {α : Type} (C : World → Prop) (f : α → List Value) (sz : Nat) (A : Option Addr) (l : List α) : Prop := ∀ w, C w → l = [] ∨ ∃ b off, A = some ⟨b, off, none⟩ ∧ ∀ j x, l[j]? = some x → (f x).length = sz ∧ ∀ i v, (f x)[i]? = some v → w.cell? ⟨b, off + j * sz + i, none⟩ = some v
section
variable {P : Program} {n : Nat} {D : List Deferred} {C : World → Prop} {E : En} {ty : TypeId} {α : Type} {f : α → List Value} {sz : Nat} {A : Option Addr} {l : List α} {g : World} {L : List SP} {X : SP}
theorem RdE.cons (h : RdE (Own g L) f sz A l) : RdE (Own g (X :: L)) f sz A l := fun w H => h w H.drop
theorem RdE.of {C' : World → Prop} (h : RdE C f sz A l) (hc : ∀ w, C' w → C w) : RdE C' f sz A l := fun w H => h w (hc w H)
def KeepL (g : World) (As L : List SP) (w : World) : Prop := ∃ L', Own g (As ++ (L' ++ L)) w
theorem ksL {As : List SP} {op : Op} {v : Value} (h : ∀ L', RV P n D (Own g (As ++ (L' ++ L))) E op ty v) : RV P n D (KeepL g As L) E op ty v := fun a w ha ⟨L', hw⟩ => h L' a w ha hw
theorem Own.tail {As : List SP} {w : World} (H : Own g (As ++ L) w) : Own g L w := by
  induction As with
  | nil => exact H
  | cons A r ih => exact ih H.drop
theorem RdE.app {As Bs : List SP} (h : RdE (Own g L) f sz A l) : RdE (Own g (As ++ (Bs ++ L))) f sz A l := fun w H => h w H.tail.tail
theorem ixC {t e bytes : Nat} {x y : Operand} {c : Nat} {k : IntKind} {i : Int} (j : Nat) (ht : slN P t = some (e, sz, bytes)) (hR : RdE C f sz A l) (hx : ev E x = some (.slice A l.length c)) (hy : ev E y = some (.int k i)) (hj : i = (j : Int)) (h1 : j < l.length) :
    RV P n D C E (.indexAddr t x y) ty (.pointer (some (elAddr A sz j))) := fun a w ha H => by
  subst hj
  unfold slN at ht
  split at ht
  · rename_i e' hu
    obtain ⟨inf, hin, hs⟩ := Option.map_eq_some_iff.1 ht
    simp only [Prod.mk.injEq] at hs
    obtain ⟨rfl, hsz, _⟩ := hs
    rcases hR w H with h | ⟨b, off, hA, _⟩
    · subst h; simp at h1
    · subst hA
      have h2 : (j : Int) < (l.length : Int) := by omega
      have h3 : ¬ l.length ≤ j := by omega
      simp [execOp, h3, ha.ev hx, ha.ev hy, Instr.indexAt, asIntOf, run_underlying hu, h2, sizeOf, typeInfo, hin, hsz, program, Sem.run, elAddr]
  · cases ht
theorem ldEC {t : TypeId} {x : Operand} {j : Nat} {z : α} (ht : agN P t = some sz) (hR : RdE C f sz A l) (hx : ev E x = some (.pointer (some (elAddr A sz j)))) (hz : l[j]? = some z) : RV P n D C E (.load t x) ty (.agg (f z).toArray) := ldw hx fun w H => by
  rcases hR w H with h | ⟨b, off, hA, hc⟩
  · subst h; simp at hz
  · subst hA
    obtain ⟨h1, h2⟩ := hc j z hz
    rw [← h1] at ht
    refine ld_ag ht fun i v hv => ?_
    rw [elAddr, add_at, add_at]
    exact h2 i v hv
theorem ldEfC {t : TypeId} {x : Operand} {j off : Nat} {z : α} {v : Value} (ht : scB P t = true) (hR : RdE C f sz A l) (hx : ev E x = some (.pointer (some (elFld A sz j off)))) (hz : l[j]? = some z) (hv : (f z)[off]? = some v) : RV P n D C E (.load t x) ty v := ldw hx fun w H => by
  rcases hR w H with h | ⟨b, o, hA, hc⟩
  · subst h; simp at hz
  · subst hA
    refine ld_sc ht ?_
    rw [elFld, elAddr, add_at, add_at]
    exact (hc j z hz).2 off v hv
theorem ldE1C {t : TypeId} {x : Operand} {j : Nat} {z : α} {v : Value} (ht : scB P t = true) (hR : RdE C f sz A l) (hx : ev E x = some (.pointer (some (elAddr A sz j)))) (hz : l[j]? = some z) (hv : (f z)[0]? = some v) : RV P n D C E (.load t x) ty v := ldw hx fun w H => by
  rcases hR w H with h | ⟨b, o, hA, hc⟩
  · subst h; simp at hz
  · subst hA
    refine ld_sc ht ?_
    rw [elAddr, add_at]
    exact (hc j z hz).2 0 v hv
end
/-- Nodes that are read: their cells, and their kids' numbers. -/
def NR (g : World) (A : Option Addr) (ms : List Lm) : SP := fun h => Els g lnc 7 A ms h ∧ ∀ m ∈ ms, Els g intc 1 m.A m.ks h
theorem Els.up {α : Type} {g : World} {f : α → List Value} {sz : Nat} {A : Option Addr} {l : List α} {h h' : PH} (hs : ∀ k o, h k = some o → h' k = some o) (H : Els g f sz A l h) : Els g f sz A l h' := by
  rcases H with H | ⟨b, off, cur, e, fr, hA, hb, hc⟩
  · exact .inl H
  · exact .inr ⟨b, off, cur, e, fr, hA, hb.imp (hs b _) id, hc⟩
theorem pk_els {g : World} : ∀ {ms : List Lm} {h : PH}, PK msF ms h → ∀ m ∈ ms, Els g intc 1 m.A m.ks h
  | [], _, _, m, hm => by cases hm
  | x :: r, h, ⟨a, b, hd, hj, h1, h2⟩, m, hm => by
    rcases List.mem_cons.1 hm with rfl | hm
    · exact (rw_els (g := g) h1).up fun k o e => by rw [hj k, e]; rfl
    · refine (pk_els (g := g) (ms := r) h2 m hm).up fun k o e => ?_
      rw [hj k]
      rcases hd k with d | d
      · simp [d, e]
      · rw [d] at e; cases e
section
variable {g w : World} {L : List SP} {A : Option Addr} {c : Nat} {ms : List Lm}
theorem Own.nr (H : Own g (Rw 43 lnc 7 A c ms :: PK msF ms :: L) w) : Own g (NR g A ms :: L) w := H.join.mono fun h ⟨a, b, hd, hj, h1, h2⟩ =>
  ⟨(Go.Proofs.YtmkijgmfefkgeaaGreatDoor.rw_els (g := g) h1).up fun k o e => by rw [hj k, e]; rfl, fun m hm => (pk_els (g := g) h2 m hm).up fun k o e => by
    rw [hj k]
    rcases hd k with d | d
    · simp [d, e]
    · rw [d] at e; cases e⟩
theorem nr_nodes (i : Nat) (hi : L[i]? = some (NR g A ms)) : RdE (Own g L) lnc 7 A ms := fun w H => ((H.fr i hi).mono fun h hh => hh.1 : Own g (Els g lnc 7 A ms :: _) w).els 0 rfl
theorem nr_kids (i : Nat) (hi : L[i]? = some (NR g A ms)) {m : Lm} (hm : m ∈ ms) : RdE (Own g L) intc 1 m.A m.ks := fun w H => ((H.fr i hi).mono fun h hh => hh.2 m hm : Own g (Els g intc 1 m.A m.ks :: _) w).els 0 rfl
end
/-! ### what is compared -/
def sameN (p : Bool) (x y : Lm) : Bool := decide (x.d.kind = y.d.kind) && decide (x.d.text = y.d.text) && decide (x.d.num = y.d.num) && decide (x.ks = y.ks) && (!p || (decide (x.d.pos = y.d.pos) && decide (x.d.frm = y.d.frm) && decide (x.d.to = y.d.to)))
def sameF (p : Bool) : List Lm → List Lm → Bool
  | [], [] => true
  | x :: r, y :: s => sameN p x y && sameF p r s
  | _, _ => false
def keyP (p : Bool) (x : Ln) : (Int × ByteArray × Int × List Nat) × Option (Int × Int × Int) := ((x.1.kind, x.1.text, x.1.num, x.2), if p then some (x.1.pos, x.1.frm, x.1.to) else none)
theorem sameN_key (p : Bool) (x y : Lm) : sameN p x y = decide (keyP p (x.d, x.ks) = keyP p (y.d, y.ks)) := by
  cases p <;> simp [sameN, keyP, Bool.and_assoc, Bool.decide_and]
theorem sameF_key (p : Bool) : ∀ (a b : List Lm), sameF p a b = decide ((lnS a).map (keyP p) = (lnS b).map (keyP p))
  | [], [] => by simp [sameF, lnS]
  | [], y :: s => by simp [sameF, lnS]
  | x :: r, [] => by simp [sameF, lnS]
  | x :: r, y :: s => by
    have h := sameF_key p r s
    simp only [sameF, sameN_key, h]
    simp [lnS, Bool.decide_and]
theorem sameF_len {p : Bool} : ∀ {a b : List Lm}, a.length ≠ b.length → sameF p a b = false
  | [], [], h => absurd rfl h
  | [], y :: s, _ => rfl
  | x :: r, [], _ => rfl
  | x :: r, y :: s, h => by
    simp only [sameF, sameF_len (a := r) (b := s) (by simpa using h), Bool.and_false]
theorem drop_some {α : Type} {l : List α} {i : Nat} (h : i < l.length) : ∃ z, l[i]? = some z ∧ l.drop i = z :: l.drop (i + 1) ∧ z ∈ l := ⟨l[i], List.getElem?_eq_getElem h, List.drop_eq_getElem_cons h, List.getElem_mem h⟩
section
variable {g w : World} {L : List SP} [Glo g]
theorem eqInts_c {A1 A2 : Option Addr} {c1 c2 : Nat} {k1 k2 : List Nat} (R1 : RdE (Own g L) intc 1 A1 k1) (R2 : RdE (Own g L) intc 1 A2 k2) (H : Own g L w) (hl1 : k1.length ≤ 8589934592) (hl2 : k2.length ≤ 8589934592) : Calls Pg 59 #[.slice A1 k1.length c1, .slice A2 k2.length c2] w fun e w' => e = .returned (.bool (decide (k1 = k2))) ∧ Own g L w' := by
  refine calls_cw (vs := [_, _]) Tryz.func59 rfl rfl rfl ?_
  refine cw_seq ?_
  refine cw_region rfl ?_
  refine st H (asg rfl) ?_
  refine wl_nil ?_
  refine cw_seq ?_
  refine cw_seq ?_
  refine cw_region rfl ?_
  refine st H (mv rfl) ?_
  refine st H (lenl Tryz.underlying41 rfl) ?_
  refine st H (mv rfl) ?_
  refine st H (lenl Tryz.underlying41 rfl) ?_
  refine st H (nei rfl rfl) ?_
  refine wl_nil ?_
  refine cw_cond rfl (fun hb1 => ?_) (fun hb1 => ?_)
  · have hp1 := hb1
    try simp at hp1
    have hne : ¬ k1 = k2 := by intro h; subst h; simp at hp1
    refine cw_seq ?_
    refine cw_region rfl ?_
    refine st H (asg rfl) ?_
    refine wl_nil ?_
    refine cw_ret ?_
    refine ret1 rfl rfl ?_
    exact ⟨by first | (simp [hne]; done) | (simp [hx0, hdx, hdy]; done) | (simp [hx0, hdx, hdy]; omega), H⟩
  · have hp1 := hb1
    try simp at hp1
    have hlen : k1.length = k2.length := by omega
    refine cw_skip ?_
    refine cw_seq ?_
    refine cw_seq ?_
    refine cw_region rfl ?_
    refine st H (mv rfl) ?_
    refine st H (lenl Tryz.underlying41 rfl) ?_
    refine st H (mv rfl) ?_
    refine wl_nil ?_
    refine cw_block ?_
    refine cw_loop (σ := Nat) (fun i => [(0, .slice A1 k1.length c1), (1, .slice A2 k2.length c2), (12, .int .i64 k1.length), (13, .int .i64 i)]) (fun i w => Own g L w ∧ i ≤ k1.length ∧ (k1 = k2 ↔ k1.drop i = k2.drop i)) (fun i => k1.length - i) 0 ⟨rfl, rfl, rfl, rfl, trivial⟩ ⟨H, by omega, by simp⟩ ?_
    rintro i w3 ⟨H2, hi, hx0⟩
    refine cw_seq ?_
    refine cw_region rfl ?_
    refine st H2 (lti rfl rfl) ?_
    refine wl_nil ?_
    refine cw_seq ?_
    refine cw_cond rfl (fun hb4 => ?_) (fun hb4 => ?_)
    · have hp4 := hb4
      try simp at hp4
      obtain ⟨x, hx, hdx, hmx⟩ := drop_some (l := k1) (i := i) (by omega)
      obtain ⟨y, hy, hdy, hmy⟩ := drop_some (l := k2) (i := i) (by omega)
      refine cw_skip ?_
      refine cw_seq ?_
      refine cw_block ?_
      refine cw_seq ?_
      refine cw_region rfl ?_
      refine st H2 (mv rfl) ?_
      refine st H2 (asg rfl) ?_
      refine wl_nil ?_
      refine cw_seq ?_
      refine cw_quiet hm H2 (by kernel_rfl) rfl ?_
      refine sq (mv rfl) ?_
      refine sq (mv rfl) ?_
      refine sq (ixC (i) sl41 R1 rfl rfl (by omega) (by omega)) ?_
      refine sq (ldE1C sc3 R1 rfl hx rfl) ?_
      refine sq (mv rfl) ?_
      refine sq (mv rfl) ?_
      refine sq (ixC (i) sl41 R2 rfl rfl (by omega) (by omega)) ?_
      refine sq (ldE1C sc3 R2 rfl hy rfl) ?_
      refine sq (nei rfl rfl) ?_
      refine wq_nil fun w6 H5 => ?_
      refine cw_cond rfl (fun hb7 => ?_) (fun hb7 => ?_)
      · have hp7 := hb7
        try simp at hp7
        refine cw_seq ?_
        refine cw_region rfl ?_
        refine st H5 (asg rfl) ?_
        refine wl_nil ?_
        refine cw_ret ?_
        refine ret1 rfl rfl ?_
        exact ⟨by first | (simp [hne]; done) | (simp [hx0, hdx, hdy]; done) | (simp [hx0, hdx, hdy]; omega), H5⟩
      · have hp7 := hb7
        try simp at hp7
        refine cw_skip ?_
        refine cw_region rfl ?_
        refine st H5 (add rfl rfl (by omega) (by omega)) ?_
        refine st H5 (mv rfl) ?_
        refine wl_nil ?_
        exact ⟨i + 1, ⟨rfl, rfl, rfl, rfl, trivial⟩, ⟨H5, by omega, by rw [hx0, hdx, hdy]; simp [hp1, hp4, hp7]; try omega⟩, by omega⟩
    · have hp4 := hb4
      try simp at hp4
      have hdx : k1.drop i = [] := List.drop_eq_nil_of_le (by omega)
      have hdy : k2.drop i = [] := List.drop_eq_nil_of_le (by omega)
      refine cw_exit ?_
      refine cw_seq ?_
      refine cw_region rfl ?_
      refine st H2 (asg rfl) ?_
      refine wl_nil ?_
      refine cw_ret ?_
      refine ret1 rfl rfl ?_
      exact ⟨by first | (simp [hne]; done) | (simp [hx0, hdx, hdy]; done) | (simp [hx0, hdx, hdy]; omega), H2⟩
theorem same1_c {x y : Lm} (R1 : RdE (Own g L) intc 1 x.A x.ks) (R2 : RdE (Own g L) intc 1 y.A y.ks) (H : Own g L w) (hl1 : x.ks.length ≤ 8589934592) (hl2 : y.ks.length ≤ 8589934592) : Calls Pg 58 #[.agg (lnc x).toArray, .agg (lnc y).toArray] w fun e w' => e = .returned (.bool (sameN false x y)) ∧ Own g L w' := by
  refine calls_cw (vs := [_, _]) Tryz.func58 rfl rfl rfl ?_
  refine cw_seq ?_
  refine cw_region rfl ?_
  refine st_box H rfl rfl fun b3 w2 H1 => ?_
  refine st_box H1 rfl rfl fun b6 w5 H4 => ?_
  refine st H4 (asg rfl) ?_
  refine wl_nil ?_
  refine cw_seq ?_
  refine cw_region rfl ?_
  refine st H4 (fa fo43_0 rfl) ?_
  refine st H4 (ld sc3 1 rfl rfl rfl) ?_
  refine st H4 (fa fo43_0 rfl) ?_
  refine st H4 (ld sc3 0 rfl rfl rfl) ?_
  refine st H4 (eqi rfl rfl) ?_
  refine st H4 (mv rfl) ?_
  refine wl_case (t := 10) rfl (fun hg7 => ?_) (fun hg7 => ?_)
  · have hp7 := hg7
    try simp at hp7
    refine gon rfl rfl hg7 ?_
    refine st H4 (fa fo43_1 rfl) ?_
    refine gon rfl rfl hg7 ?_
    refine st H4 (ld sc9 1 rfl rfl rfl) ?_
    refine gon rfl rfl hg7 ?_
    refine st H4 (fa fo43_1 rfl) ?_
    refine gon rfl rfl hg7 ?_
    refine st H4 (ld sc9 0 rfl rfl rfl) ?_
    refine gon rfl rfl hg7 ?_
    refine st H4 (eqs rfl rfl) ?_
    refine st H4 (pk_t rfl hg7 rfl) ?_
    refine st H4 (mv rfl) ?_
    refine wl_case (t := 17) rfl (fun hg8 => ?_) (fun hg8 => ?_)
    · have hp8 := hg8
      try simp at hp8
      refine gon rfl rfl hg8 ?_
      refine st H4 (fa fo43_2 rfl) ?_
      refine gon rfl rfl hg8 ?_
      refine st H4 (ld sc2 1 rfl rfl rfl) ?_
      refine gon rfl rfl hg8 ?_
      refine st H4 (fa fo43_2 rfl) ?_
      refine gon rfl rfl hg8 ?_
      refine st H4 (ld sc2 0 rfl rfl rfl) ?_
      refine gon rfl rfl hg8 ?_
      refine st H4 (eqi rfl rfl) ?_
      refine st H4 (pk_t rfl hg8 rfl) ?_
      refine st H4 (mv rfl) ?_
      refine wl_case (t := 24) rfl (fun hg9 => ?_) (fun hg9 => ?_)
      · have hp9 := hg9
        try simp at hp9
        refine gon rfl rfl hg9 ?_
        refine st H4 (fa fo43_3 rfl) ?_
        refine gon rfl rfl hg9 ?_
        refine st H4 (ld sc41 1 rfl rfl rfl) ?_
        refine gon rfl rfl hg9 ?_
        refine st H4 (fa fo43_3 rfl) ?_
        refine gon rfl rfl hg9 ?_
        refine st H4 (ld sc41 0 rfl rfl rfl) ?_
        refine gon rfl rfl hg9 ?_
        refine st_call cf59 rfl (eqInts_c (RdE.cons (RdE.cons R1)) (RdE.cons (RdE.cons R2)) H4 hl1 hl2) ?_
        rintro _ w11 ⟨rfl, H10⟩
        refine st H10 (pk_t rfl hg9 rfl) ?_
        refine st H10 (asg rfl) ?_
        refine wl_nil ?_
        refine cw_ret ?_
        refine ret1 rfl rfl ?_
        exact ⟨by simp [sameN, hp7, hp8, hp9], ((H10.er 0).er 0)⟩
      · have hp9 := hg9
        try simp at hp9
        refine goff rfl rfl hg9 ?_
        refine goff rfl rfl hg9 ?_
        refine goff rfl rfl hg9 ?_
        refine goff rfl rfl hg9 ?_
        refine goff rfl rfl hg9 ?_
        refine st H4 (pk_f rfl hg9 rfl) ?_
        refine st H4 (asg rfl) ?_
        refine wl_nil ?_
        refine cw_ret ?_
        refine ret1 rfl rfl ?_
        exact ⟨by simp [sameN, hp7, hp8, hp9], ((H4.er 0).er 0)⟩
    · have hp8 := hg8
      try simp at hp8
      refine goff rfl rfl hg8 ?_
      refine goff rfl rfl hg8 ?_
      refine goff rfl rfl hg8 ?_
      refine goff rfl rfl hg8 ?_
      refine goff rfl rfl hg8 ?_
      refine st H4 (pk_f rfl hg8 rfl) ?_
      refine st H4 (mv rfl) ?_
      refine goff rfl rfl rfl ?_
      refine goff rfl rfl rfl ?_
      refine goff rfl rfl rfl ?_
      refine goff rfl rfl rfl ?_
      refine goff rfl rfl rfl ?_
      refine st H4 (pk_f rfl rfl rfl) ?_
      refine st H4 (asg rfl) ?_
      refine wl_nil ?_
      refine cw_ret ?_
      refine ret1 rfl rfl ?_
      exact ⟨by simp [sameN, hp7, hp8], ((H4.er 0).er 0)⟩
  · have hp7 := hg7
    try simp at hp7
    refine goff rfl rfl hg7 ?_
    refine goff rfl rfl hg7 ?_
    refine goff rfl rfl hg7 ?_
    refine goff rfl rfl hg7 ?_
    refine goff rfl rfl hg7 ?_
    refine st H4 (pk_f rfl hg7 rfl) ?_
    refine st H4 (mv rfl) ?_
    refine goff rfl rfl rfl ?_
    refine goff rfl rfl rfl ?_
    refine goff rfl rfl rfl ?_
    refine goff rfl rfl rfl ?_
    refine goff rfl rfl rfl ?_
    refine st H4 (pk_f rfl rfl rfl) ?_
    refine st H4 (mv rfl) ?_
    refine goff rfl rfl rfl ?_
    refine goff rfl rfl rfl ?_
    refine goff rfl rfl rfl ?_
    refine goff rfl rfl rfl ?_
    refine goff rfl rfl rfl ?_
    refine st H4 (pk_f rfl rfl rfl) ?_
    refine st H4 (asg rfl) ?_
    refine wl_nil ?_
    refine cw_ret ?_
    refine ret1 rfl rfl ?_
    exact ⟨by simp [sameN, hp7], ((H4.er 0).er 0)⟩
theorem eqNodes_c {A1 A2 : Option Addr} {c1 c2 : Nat} {ms us : List Lm} (R1 : RdE (Own g L) lnc 7 A1 ms) (R2 : RdE (Own g L) lnc 7 A2 us) (Q1 : ∀ m ∈ ms, RdE (Own g L) intc 1 m.A m.ks) (Q2 : ∀ m ∈ us, RdE (Own g L) intc 1 m.A m.ks) (H : Own g L w) (hl1 : ms.length ≤ 8589934592) (hl2 : us.length ≤ 8589934592) (hk1 : ∀ m ∈ ms, m.ks.length ≤ 8589934592) (hk2 : ∀ m ∈ us, m.ks.length ≤ 8589934592) : Calls Pg 57 #[.slice A1 ms.length c1, .slice A2 us.length c2, .func (.func 58) #[] #[]] w fun e w' => e = .returned (.bool (sameF false ms us)) ∧ Own g L w' := by
  refine calls_cw (vs := [_, _, _]) Tryz.func57 rfl rfl rfl ?_
  refine cw_seq ?_
  refine cw_region rfl ?_
  refine st H (asg rfl) ?_
  refine wl_nil ?_
  refine cw_seq ?_
  refine cw_seq ?_
  refine cw_region rfl ?_
  refine st H (mv rfl) ?_
  refine st H (lenl Tryz.underlying23 rfl) ?_
  refine st H (mv rfl) ?_
  refine st H (lenl Tryz.underlying23 rfl) ?_
  refine st H (nei rfl rfl) ?_
  refine wl_nil ?_
  refine cw_cond rfl (fun hb1 => ?_) (fun hb1 => ?_)
  · have hp1 := hb1
    try simp at hp1
    have hne : sameF false ms us = false := sameF_len (by omega)
    refine cw_seq ?_
    refine cw_region rfl ?_
    refine st H (asg rfl) ?_
    refine wl_nil ?_
    refine cw_ret ?_
    refine ret1 rfl rfl ?_
    exact ⟨by first | rw [hne] | (rw [hx0, hdx, hdy]; simp [sameF, hp1]), H⟩
  · have hp1 := hb1
    try simp at hp1
    have hlen : ms.length = us.length := by omega
    refine cw_skip ?_
    refine cw_seq ?_
    refine cw_seq ?_
    refine cw_region rfl ?_
    refine st H (mv rfl) ?_
    refine st H (lenl Tryz.underlying23 rfl) ?_
    refine st H (mv rfl) ?_
    refine wl_nil ?_
    refine cw_block ?_
    refine cw_loop (σ := Nat) (fun i => [(1, .slice A2 us.length c2), (2, .func (.func 58) #[] #[]), (15, .slice A1 ms.length c1), (16, .int .i64 ms.length), (17, .int .i64 i)]) (fun i w => Own g L w ∧ i ≤ ms.length ∧ sameF false ms us = sameF false (ms.drop i) (us.drop i)) (fun i => ms.length - i) 0 ⟨rfl, rfl, rfl, rfl, rfl, trivial⟩ ⟨H, by omega, rfl⟩ ?_
    rintro i w3 ⟨H2, hi, hx0⟩
    refine cw_seq ?_
    refine cw_region rfl ?_
    refine st H2 (lti rfl rfl) ?_
    refine wl_nil ?_
    refine cw_seq ?_
    refine cw_cond rfl (fun hb4 => ?_) (fun hb4 => ?_)
    · have hp4 := hb4
      try simp at hp4
      obtain ⟨x, hx, hdx, hmx⟩ := drop_some (l := ms) (i := i) (by omega)
      obtain ⟨y, hy, hdy, hmy⟩ := drop_some (l := us) (i := i) (by omega)
      refine cw_skip ?_
      refine cw_seq ?_
      refine cw_block ?_
      refine cw_seq ?_
      refine cw_region rfl ?_
      refine st H2 (mv rfl) ?_
      refine st H2 (ixC (i) sl23 R1 rfl rfl (by omega) (by omega)) ?_
      refine st H2 (ldEC ag43 R1 rfl hx) ?_
      refine st_al H2 zc43 fun b7 w6 H5 => ?_
      refine st H5 (asg rfl) ?_
      refine st_st 0 H5 rfl rfl rfl sz43 rfl rfl rfl rfl fun w9 H8 => ?_
      refine wl_nil ?_
      refine cw_seq ?_
      refine cw_region rfl ?_
      refine st H8 (mv rfl) ?_
      refine st H8 (mv rfl) ?_
      refine st H8 (ixC (i) sl23 (RdE.cons R2) rfl rfl (by omega) (by omega)) ?_
      refine st H8 (ldEC ag43 (RdE.cons R2) rfl hy) ?_
      refine st_al H8 zc43 fun b12 w11 H10 => ?_
      refine st_st 0 H10 rfl rfl rfl sz43 rfl rfl rfl rfl fun w14 H13 => ?_
      refine wl_nil ?_
      refine cw_seq ?_
      refine cw_region rfl ?_
      refine st H13 (mv rfl) ?_
      refine st H13 (lda ag43 1 rfl rfl rfl rfl) ?_
      refine st H13 (lda ag43 0 rfl rfl rfl rfl) ?_
      refine st_callv rfl cf58 rfl rfl (same1_c (RdE.cons (RdE.cons (Q1 x hmx))) (RdE.cons (RdE.cons (Q2 y hmy))) H13 (hk1 x hmx) (hk2 y hmy)) ?_
      rintro _ w16 ⟨rfl, H15⟩
      refine st H15 (notb rfl) ?_
      refine wl_nil ?_
      refine cw_cond rfl (fun hb17 => ?_) (fun hb17 => ?_)
      · have hp17 := hb17
        try simp at hp17
        refine cw_seq ?_
        refine cw_region rfl ?_
        refine st H15 (asg rfl) ?_
        refine wl_nil ?_
        refine cw_ret ?_
        refine ret1 rfl rfl ?_
        exact ⟨by first | rw [hne] | (rw [hx0, hdx, hdy]; simp [sameF, hp1, hp4, hp17]), ((H15.er 0).er 0)⟩
      · have hp17 := hb17
        try simp at hp17
        refine cw_skip ?_
        refine cw_region rfl ?_
        refine st H15 (add rfl rfl (by omega) (by omega)) ?_
        refine st H15 (mv rfl) ?_
        refine wl_nil ?_
        exact ⟨i + 1, ⟨rfl, rfl, rfl, rfl, rfl, trivial⟩, ⟨((H15.er 0).er 0), by omega, by rw [hx0, hdx, hdy]; simp [sameF, hp1, hp4, hp17]⟩, by omega⟩
    · have hp4 := hb4
      try simp at hp4
      have hdx : ms.drop i = [] := List.drop_eq_nil_of_le (by omega)
      have hdy : us.drop i = [] := List.drop_eq_nil_of_le (by omega)
      refine cw_exit ?_
      refine cw_seq ?_
      refine cw_region rfl ?_
      refine st H2 (asg rfl) ?_
      refine wl_nil ?_
      refine cw_ret ?_
      refine ret1 rfl rfl ?_
      exact ⟨by first | rw [hne] | (rw [hx0, hdx, hdy]; simp [sameF, hp1, hp4]), H2⟩
theorem sameTree_c {A1 A2 : Option Addr} {c1 c2 : Nat} {ms us : List Lm} (R1 : RdE (Own g L) lnc 7 A1 ms) (R2 : RdE (Own g L) lnc 7 A2 us) (Q1 : ∀ m ∈ ms, RdE (Own g L) intc 1 m.A m.ks) (Q2 : ∀ m ∈ us, RdE (Own g L) intc 1 m.A m.ks) (H : Own g L w) (hl1 : ms.length ≤ 8589934592) (hl2 : us.length ≤ 8589934592) (hk1 : ∀ m ∈ ms, m.ks.length ≤ 8589934592) (hk2 : ∀ m ∈ us, m.ks.length ≤ 8589934592) : Calls Pg 24 #[.agg #[.slice A1 ms.length c1], .agg #[.slice A2 us.length c2]] w fun e w' => e = .returned (.bool (sameF false ms us)) ∧ Own g L w' := by
  refine calls_cw (vs := [_, _]) Tryz.func24 rfl rfl rfl ?_
  refine cw_seq ?_
  refine cw_region rfl ?_
  refine st_box H rfl rfl fun b3 w2 H1 => ?_
  refine st_box H1 rfl rfl fun b6 w5 H4 => ?_
  refine st H4 (asg rfl) ?_
  refine wl_nil ?_
  refine cw_seq ?_
  refine cw_region rfl ?_
  refine st H4 (fa fo25_0 rfl) ?_
  refine st H4 (ld sc23 1 rfl rfl rfl) ?_
  refine st H4 (fa fo25_0 rfl) ?_
  refine st H4 (ld sc23 0 rfl rfl rfl) ?_
  refine st_call cf57 rfl (eqNodes_c (RdE.cons (RdE.cons R1)) (RdE.cons (RdE.cons R2)) (fun m hm => (RdE.cons (RdE.cons (Q1 m hm)))) (fun m hm => (RdE.cons (RdE.cons (Q2 m hm)))) H4 hl1 hl2 hk1 hk2) ?_
  rintro _ w8 ⟨rfl, H7⟩
  refine st H7 (asg rfl) ?_
  refine wl_nil ?_
  refine cw_ret ?_
  refine ret1 rfl rfl ?_
  exact ⟨rfl, ((H7.er 0).er 0)⟩
set_option maxHeartbeats 4000000 in
theorem refSame_c {A1 A2 : Option Addr} {c1 c2 : Nat} {ms us : List Lm} (p : Bool) (R1 : RdE (Own g L) lnc 7 A1 ms) (R2 : RdE (Own g L) lnc 7 A2 us) (Q1 : ∀ m ∈ ms, RdE (Own g L) intc 1 m.A m.ks) (Q2 : ∀ m ∈ us, RdE (Own g L) intc 1 m.A m.ks) (H : Own g L w) (hl1 : ms.length ≤ 8589934592) (hl2 : us.length ≤ 8589934592) (hk1 : ∀ m ∈ ms, m.ks.length ≤ 8589934592) (hk2 : ∀ m ∈ us, m.ks.length ≤ 8589934592) : Calls Pg 17 #[.agg #[.slice A1 ms.length c1], .agg #[.slice A2 us.length c2], .bool p] w fun e w' => e = .returned (.bool (sameF p ms us)) ∧ Own g L w' := by
  refine calls_cw (vs := [_, _, _]) Tryz.func17 rfl rfl rfl ?_
  refine cw_seq ?_
  refine cw_region rfl ?_
  refine st_box H rfl rfl fun b3 w2 H1 => ?_
  refine st_box H1 rfl rfl fun b6 w5 H4 => ?_
  refine st H4 (asg rfl) ?_
  refine wl_nil ?_
  refine cw_seq ?_
  refine cw_seq ?_
  refine cw_region rfl ?_
  refine st H4 (fa fo25_0 rfl) ?_
  refine st H4 (ld sc23 1 rfl rfl rfl) ?_
  refine st H4 (lenl Tryz.underlying23 rfl) ?_
  refine st H4 (fa fo25_0 rfl) ?_
  refine st H4 (ld sc23 0 rfl rfl rfl) ?_
  refine st H4 (lenl Tryz.underlying23 rfl) ?_
  refine st H4 (nei rfl rfl) ?_
  refine wl_nil ?_
  refine cw_cond rfl (fun hb7 => ?_) (fun hb7 => ?_)
  · have hp7 := hb7
    try simp at hp7
    have hne : sameF p ms us = false := sameF_len (by omega)
    refine cw_seq ?_
    refine cw_region rfl ?_
    refine st H4 (asg rfl) ?_
    refine wl_nil ?_
    refine cw_ret ?_
    refine ret1 rfl rfl ?_
    exact ⟨by first | rw [hne] | (rw [hx0, hdx, hdy]; simp_all [sameF, sameN]; done) | (have hks : ¬ x.ks = y.ks := fun h9 => (by assumption : ¬ ((x.ks.length : Int) = (y.ks.length : Int))) (by rw [h9]); rw [hx0, hdx, hdy]; simp [sameF, sameN, hks]; done), ((H4.er 0).er 0)⟩
  · have hp7 := hb7
    try simp at hp7
    have hlen : ms.length = us.length := by omega
    refine cw_skip ?_
    refine cw_seq ?_
    refine cw_seq ?_
    refine cw_region rfl ?_
    refine st H4 (asg rfl) ?_
    refine wl_nil ?_
    refine cw_block ?_
    refine cw_loop (σ := Nat) (fun i => [(2, .bool p), (3, .pointer (some ⟨b3, 0, none⟩)), (4, .pointer (some ⟨b6, 0, none⟩)), (7, .int .i64 i)]) (fun i w => Own g (bk b3 25 [.slice A1 ms.length c1] :: bk b6 25 [.slice A2 us.length c2] :: L) w ∧ i ≤ ms.length ∧ sameF p ms us = sameF p (ms.drop i) (us.drop i)) (fun i => ms.length - i) 0 ⟨rfl, rfl, rfl, rfl, trivial⟩ ⟨(H4.fr 1 rfl), by omega, rfl⟩ ?_
    rintro i w9 ⟨H8, hi, hx0⟩
    refine cw_seq ?_
    refine cw_seq ?_
    refine cw_region rfl ?_
    refine st H8 (mv rfl) ?_
    refine st H8 (fa fo25_0 rfl) ?_
    refine st H8 (ld sc23 0 rfl rfl rfl) ?_
    refine st H8 (lenl Tryz.underlying23 rfl) ?_
    refine st H8 (lti rfl rfl) ?_
    refine wl_nil ?_
    refine cw_cond rfl (fun hb10 => ?_) (fun hb10 => ?_)
    · have hp10 := hb10
      try simp at hp10
      obtain ⟨x, hx, hdx, hmx⟩ := drop_some (l := ms) (i := i) (by omega)
      obtain ⟨y, hy, hdy, hmy⟩ := drop_some (l := us) (i := i) (by omega)
      have hkx := hk1 x hmx
      have hky := hk2 y hmy
      refine cw_skip ?_
      refine cw_seq ?_
      refine cw_block ?_
      refine cw_seq ?_
      refine cw_sched (KeepL _ [_, _] L) 13 (.q 0 (.q 1 (.q 2 (.q 3 (.q 4 (.q 5 (.q 6 (.q 7 (.q 8 (.q 9 (.b 10 (.a 11 (.a 12 (.a 13 .e))) 11 (.a 10 (.a 12 (.a 13 .e)))))))))))))) hm H8 (fun w h => ⟨[], ((h.fr 1 rfl).fr 1 rfl)⟩) (by kernel_rfl) (by kernel_rfl) rfl (fun w12 H11 => ?_)
      refine sw rfl rfl (fa fo25_0 rfl) ?_
      refine sw rfl rfl (ksL fun L' => ld sc23 0 rfl rfl rfl) ?_
      refine sw rfl rfl (mv rfl) ?_
      refine sw rfl rfl (ksL fun L' => ixC (i) sl23 (RdE.app R1) rfl rfl rfl (by omega)) ?_
      refine sw rfl rfl (ksL fun L' => ldEC ag43 (RdE.app R1) rfl hx) ?_
      refine sw rfl rfl (fa fo25_0 rfl) ?_
      refine sw rfl rfl (ksL fun L' => ld sc23 1 rfl rfl rfl) ?_
      refine sw rfl rfl (mv rfl) ?_
      refine sw rfl rfl (ksL fun L' => ixC (i) sl23 (RdE.app R2) rfl rfl rfl (by omega)) ?_
      refine sw rfl rfl (ksL fun L' => ldEC ag43 (RdE.app R2) rfl hy) ?_
      refine sb ?_ ?_
      · refine sa rfl rfl ?_
        refine st_al H11 zc43 fun b15 w14 H13 => ?_
        refine wl_nil ⟨.inr ⟨[_], ((H13.fr 2 rfl).fr 2 rfl)⟩, ?_⟩
        refine sa rfl rfl ?_
        refine st_al H13 zc43 fun b18 w17 H16 => ?_
        refine wl_nil ⟨.inr ⟨[_, _], ((H16.fr 3 rfl).fr 3 rfl)⟩, ?_⟩
        refine sa rfl rfl ?_
        refine st_st 1 H16 rfl rfl rfl sz43 rfl rfl rfl rfl fun w20 H19 => ?_
        refine wl_nil ⟨.inr ⟨[_, _], ((H19.fr 3 rfl).fr 3 rfl)⟩, ?_⟩
        refine sa rfl rfl ?_
        refine st_st 1 H19 rfl rfl rfl sz43 rfl rfl rfl rfl fun w22 H21 => ?_
        refine wl_nil ⟨.inl rfl, ?_⟩
        refine ws_nil ?_
        refine cw_seq ?_
        refine cw_seq ?_
        refine cw_region rfl ?_
        refine st H21 (fa fo43_0 rfl) ?_
        refine st H21 (ld sc3 1 rfl rfl rfl) ?_
        refine st H21 (fa fo43_0 rfl) ?_
        refine st H21 (ld sc3 0 rfl rfl rfl) ?_
        refine st H21 (nei rfl rfl) ?_
        refine st H21 (mv rfl) ?_
        refine wl_case (t := 40) rfl (fun hg23 => ?_) (fun hg23 => ?_)
        · have hp23 := hg23
          try simp at hp23
          refine goff rfl rfl hg23 ?_
          refine goff rfl rfl hg23 ?_
          refine goff rfl rfl hg23 ?_
          refine goff rfl rfl hg23 ?_
          refine goff rfl rfl hg23 ?_
          refine st H21 (pk_t rfl hg23 rfl) ?_
          refine st H21 (mv rfl) ?_
          refine goff rfl rfl rfl ?_
          refine goff rfl rfl rfl ?_
          refine goff rfl rfl rfl ?_
          refine goff rfl rfl rfl ?_
          refine goff rfl rfl rfl ?_
          refine st H21 (pk_t rfl rfl rfl) ?_
          refine st H21 (mv rfl) ?_
          refine goff rfl rfl rfl ?_
          refine goff rfl rfl rfl ?_
          refine goff rfl rfl rfl ?_
          refine goff rfl rfl rfl ?_
          refine goff rfl rfl rfl ?_
          refine goff rfl rfl rfl ?_
          refine goff rfl rfl rfl ?_
          refine st H21 (pk_t rfl rfl rfl) ?_
          refine st H21 (mv rfl) ?_
          refine goff rfl rfl rfl ?_
          refine goff rfl rfl rfl ?_
          refine goffu rfl rfl ?_
          refine goffu rfl rfl ?_
          refine goffu rfl rfl ?_
          refine goffu rfl rfl ?_
          refine goffu rfl rfl ?_
          refine goffu rfl rfl ?_
          refine goffu rfl rfl ?_
          refine goffu rfl rfl ?_
          refine goffu rfl rfl ?_
          refine goffu rfl rfl ?_
          refine goffu rfl rfl ?_
          refine goffu rfl rfl ?_
          refine goffu rfl rfl ?_
          refine goffu rfl rfl ?_
          refine goffu rfl rfl ?_
          refine goffu rfl rfl ?_
          refine goffu rfl rfl ?_
          refine goffu rfl rfl ?_
          refine goffu rfl rfl ?_
          refine goff rfl rfl rfl ?_
          refine st H21 (pk_t rfl rfl rfl) ?_
          refine wl_nil ?_
          refine cw_cond_t rfl rfl ?_
          have hlk : x.ks ≠ y.ks ∨ True := .inr trivial
          refine cw_seq ?_
          refine cw_region rfl ?_
          refine st H21 (asg rfl) ?_
          refine wl_nil ?_
          refine cw_ret ?_
          refine ret1 rfl rfl ?_
          exact ⟨by first | rw [hne] | (rw [hx0, hdx, hdy]; simp_all [sameF, sameN]; done) | (have hks : ¬ x.ks = y.ks := fun h9 => (by assumption : ¬ ((x.ks.length : Int) = (y.ks.length : Int))) (by rw [h9]); rw [hx0, hdx, hdy]; simp [sameF, sameN, hks]; done), ((((H21.er 0).er 0).er 0).er 0)⟩
        · have hp23 := hg23
          try simp at hp23
          refine gon rfl rfl hg23 ?_
          refine st H21 (fa fo43_1 rfl) ?_
          refine gon rfl rfl hg23 ?_
          refine st H21 (ld sc9 1 rfl rfl rfl) ?_
          refine gon rfl rfl hg23 ?_
          refine st H21 (fa fo43_1 rfl) ?_
          refine gon rfl rfl hg23 ?_
          refine st H21 (ld sc9 0 rfl rfl rfl) ?_
          refine gon rfl rfl hg23 ?_
          refine st H21 (nes rfl rfl) ?_
          refine st H21 (pk_f rfl hg23 rfl) ?_
          refine st H21 (mv rfl) ?_
          refine wl_case (t := 47) rfl (fun hg24 => ?_) (fun hg24 => ?_)
          · have hp24 := hg24
            try simp at hp24
            refine goff rfl rfl hg24 ?_
            refine goff rfl rfl hg24 ?_
            refine goff rfl rfl hg24 ?_
            refine goff rfl rfl hg24 ?_
            refine goff rfl rfl hg24 ?_
            refine st H21 (pk_t rfl hg24 rfl) ?_
            refine st H21 (mv rfl) ?_
            refine goff rfl rfl rfl ?_
            refine goff rfl rfl rfl ?_
            refine goff rfl rfl rfl ?_
            refine goff rfl rfl rfl ?_
            refine goff rfl rfl rfl ?_
            refine goff rfl rfl rfl ?_
            refine goff rfl rfl rfl ?_
            refine st H21 (pk_t rfl rfl rfl) ?_
            refine st H21 (mv rfl) ?_
            refine goff rfl rfl rfl ?_
            refine goff rfl rfl rfl ?_
            refine goffu rfl rfl ?_
            refine goffu rfl rfl ?_
            refine goffu rfl rfl ?_
            refine goffu rfl rfl ?_
            refine goffu rfl rfl ?_
            refine goffu rfl rfl ?_
            refine goffu rfl rfl ?_
            refine goffu rfl rfl ?_
            refine goffu rfl rfl ?_
            refine goffu rfl rfl ?_
            refine goffu rfl rfl ?_
            refine goffu rfl rfl ?_
            refine goffu rfl rfl ?_
            refine goffu rfl rfl ?_
            refine goffu rfl rfl ?_
            refine goffu rfl rfl ?_
            refine goffu rfl rfl ?_
            refine goffu rfl rfl ?_
            refine goffu rfl rfl ?_
            refine goff rfl rfl rfl ?_
            refine st H21 (pk_t rfl rfl rfl) ?_
            refine wl_nil ?_
            refine cw_cond_t rfl rfl ?_
            have hlk : x.ks ≠ y.ks ∨ True := .inr trivial
            refine cw_seq ?_
            refine cw_region rfl ?_
            refine st H21 (asg rfl) ?_
            refine wl_nil ?_
            refine cw_ret ?_
            refine ret1 rfl rfl ?_
            exact ⟨by first | rw [hne] | (rw [hx0, hdx, hdy]; simp_all [sameF, sameN]; done) | (have hks : ¬ x.ks = y.ks := fun h9 => (by assumption : ¬ ((x.ks.length : Int) = (y.ks.length : Int))) (by rw [h9]); rw [hx0, hdx, hdy]; simp [sameF, sameN, hks]; done), ((((H21.er 0).er 0).er 0).er 0)⟩
          · have hp24 := hg24
            try simp at hp24
            refine gon rfl rfl hg24 ?_
            refine st H21 (fa fo43_2 rfl) ?_
            refine gon rfl rfl hg24 ?_
            refine st H21 (ld sc2 1 rfl rfl rfl) ?_
            refine gon rfl rfl hg24 ?_
            refine st H21 (fa fo43_2 rfl) ?_
            refine gon rfl rfl hg24 ?_
            refine st H21 (ld sc2 0 rfl rfl rfl) ?_
            refine gon rfl rfl hg24 ?_
            refine st H21 (nei rfl rfl) ?_
            refine st H21 (pk_f rfl hg24 rfl) ?_
            refine st H21 (mv rfl) ?_
            refine wl_case (t := 54) rfl (fun hg25 => ?_) (fun hg25 => ?_)
            · have hp25 := hg25
              try simp at hp25
              refine goff rfl rfl hg25 ?_
              refine goff rfl rfl hg25 ?_
              refine goff rfl rfl hg25 ?_
              refine goff rfl rfl hg25 ?_
              refine goff rfl rfl hg25 ?_
              refine goff rfl rfl hg25 ?_
              refine goff rfl rfl hg25 ?_
              refine st H21 (pk_t rfl hg25 rfl) ?_
              refine st H21 (mv rfl) ?_
              refine goff rfl rfl rfl ?_
              refine goff rfl rfl rfl ?_
              refine goffu rfl rfl ?_
              refine goffu rfl rfl ?_
              refine goffu rfl rfl ?_
              refine goffu rfl rfl ?_
              refine goffu rfl rfl ?_
              refine goffu rfl rfl ?_
              refine goffu rfl rfl ?_
              refine goffu rfl rfl ?_
              refine goffu rfl rfl ?_
              refine goffu rfl rfl ?_
              refine goffu rfl rfl ?_
              refine goffu rfl rfl ?_
              refine goffu rfl rfl ?_
              refine goffu rfl rfl ?_
              refine goffu rfl rfl ?_
              refine goffu rfl rfl ?_
              refine goffu rfl rfl ?_
              refine goffu rfl rfl ?_
              refine goffu rfl rfl ?_
              refine goff rfl rfl rfl ?_
              refine st H21 (pk_t rfl rfl rfl) ?_
              refine wl_nil ?_
              refine cw_cond_t rfl rfl ?_
              have hlk : x.ks ≠ y.ks ∨ True := .inr trivial
              refine cw_seq ?_
              refine cw_region rfl ?_
              refine st H21 (asg rfl) ?_
              refine wl_nil ?_
              refine cw_ret ?_
              refine ret1 rfl rfl ?_
              exact ⟨by first | rw [hne] | (rw [hx0, hdx, hdy]; simp_all [sameF, sameN]; done) | (have hks : ¬ x.ks = y.ks := fun h9 => (by assumption : ¬ ((x.ks.length : Int) = (y.ks.length : Int))) (by rw [h9]); rw [hx0, hdx, hdy]; simp [sameF, sameN, hks]; done), ((((H21.er 0).er 0).er 0).er 0)⟩
            · have hp25 := hg25
              try simp at hp25
              refine gon rfl rfl hg25 ?_
              refine st H21 (fa fo43_3 rfl) ?_
              refine gon rfl rfl hg25 ?_
              refine st H21 (ld sc41 1 rfl rfl rfl) ?_
              refine gon rfl rfl hg25 ?_
              refine st H21 (lenl Tryz.underlying41 rfl) ?_
              refine gon rfl rfl hg25 ?_
              refine st H21 (fa fo43_3 rfl) ?_
              refine gon rfl rfl hg25 ?_
              refine st H21 (ld sc41 0 rfl rfl rfl) ?_
              refine gon rfl rfl hg25 ?_
              refine st H21 (lenl Tryz.underlying41 rfl) ?_
              refine gon rfl rfl hg25 ?_
              refine st H21 (nei rfl rfl) ?_
              refine st H21 (pk_f rfl hg25 rfl) ?_
              refine st H21 (mv rfl) ?_
              refine wl_case (t := 63) rfl (fun hg26 => ?_) (fun hg26 => ?_)
              · have hp26 := hg26
                try simp at hp26
                refine goff rfl rfl hg26 ?_
                refine goff rfl rfl hg26 ?_
                refine goffu rfl rfl ?_
                refine goffu rfl rfl ?_
                refine goffu rfl rfl ?_
                refine goffu rfl rfl ?_
                refine goffu rfl rfl ?_
                refine goffu rfl rfl ?_
                refine goffu rfl rfl ?_
                refine goffu rfl rfl ?_
                refine goffu rfl rfl ?_
                refine goffu rfl rfl ?_
                refine goffu rfl rfl ?_
                refine goffu rfl rfl ?_
                refine goffu rfl rfl ?_
                refine goffu rfl rfl ?_
                refine goffu rfl rfl ?_
                refine goffu rfl rfl ?_
                refine goffu rfl rfl ?_
                refine goffu rfl rfl ?_
                refine goffu rfl rfl ?_
                refine goff rfl rfl hg26 ?_
                refine st H21 (pk_t rfl hg26 rfl) ?_
                refine wl_nil ?_
                refine cw_cond_t rfl rfl ?_
                have hlk : x.ks ≠ y.ks ∨ True := .inr trivial
                refine cw_seq ?_
                refine cw_region rfl ?_
                refine st H21 (asg rfl) ?_
                refine wl_nil ?_
                refine cw_ret ?_
                refine ret1 rfl rfl ?_
                exact ⟨by first | rw [hne] | (rw [hx0, hdx, hdy]; simp_all [sameF, sameN]; done) | (have hks : ¬ x.ks = y.ks := fun h9 => (by assumption : ¬ ((x.ks.length : Int) = (y.ks.length : Int))) (by rw [h9]); rw [hx0, hdx, hdy]; simp [sameF, sameN, hks]; done), ((((H21.er 0).er 0).er 0).er 0)⟩
              · have hp26 := hg26
                try simp at hp26
                refine gon rfl rfl hg26 ?_
                refine st H21 (mv rfl) ?_
                refine gon rfl rfl hg26 ?_
                refine st H21 (mv rfl) ?_
                refine wl_case (t := 65) rfl (fun hg27 => ?_) (fun hg27 => ?_)
                · have hp27 := hg27
                  try simp at hp27
                  refine gon rfl rfl hg27 ?_
                  refine st H21 (fa fo43_4 rfl) ?_
                  refine gon rfl rfl hg27 ?_
                  refine st H21 (ld sc3 1 rfl rfl rfl) ?_
                  refine gon rfl rfl hg27 ?_
                  refine st H21 (fa fo43_4 rfl) ?_
                  refine gon rfl rfl hg27 ?_
                  refine st H21 (ld sc3 0 rfl rfl rfl) ?_
                  refine gon rfl rfl hg27 ?_
                  refine st H21 (nei rfl rfl) ?_
                  refine gon rfl rfl hg27 ?_
                  refine st H21 (mv rfl) ?_
                  refine wl_case (t := 71) rfl (fun hg28 => ?_) (fun hg28 => ?_)
                  · have hp28 := hg28
                    try simp at hp28
                    refine goff rfl rfl hg28 ?_
                    refine goff rfl rfl hg28 ?_
                    refine goff rfl rfl hg28 ?_
                    refine goff rfl rfl hg28 ?_
                    refine goff rfl rfl hg28 ?_
                    refine gon rfl rfl hg27 ?_
                    refine st H21 (pk_t rfl hg28 rfl) ?_
                    refine gon rfl rfl hg27 ?_
                    refine st H21 (mv rfl) ?_
                    refine goff rfl rfl rfl ?_
                    refine goff rfl rfl rfl ?_
                    refine goff rfl rfl rfl ?_
                    refine goff rfl rfl rfl ?_
                    refine goff rfl rfl rfl ?_
                    refine gon rfl rfl hg27 ?_
                    refine st H21 (pk_t rfl rfl rfl) ?_
                    refine gon rfl rfl hg26 ?_
                    refine st H21 (pk_t rfl hg27 rfl) ?_
                    refine st H21 (pk_f rfl hg26 rfl) ?_
                    refine wl_nil ?_
                    refine cw_cond_t rfl rfl ?_
                    have hlk : x.ks ≠ y.ks ∨ True := .inr trivial
                    refine cw_seq ?_
                    refine cw_region rfl ?_
                    refine st H21 (asg rfl) ?_
                    refine wl_nil ?_
                    refine cw_ret ?_
                    refine ret1 rfl rfl ?_
                    exact ⟨by first | rw [hne] | (rw [hx0, hdx, hdy]; simp_all [sameF, sameN]; done) | (have hks : ¬ x.ks = y.ks := fun h9 => (by assumption : ¬ ((x.ks.length : Int) = (y.ks.length : Int))) (by rw [h9]); rw [hx0, hdx, hdy]; simp [sameF, sameN, hks]; done), ((((H21.er 0).er 0).er 0).er 0)⟩
                  · have hp28 := hg28
                    try simp at hp28
                    refine gon rfl rfl hg28 ?_
                    refine st H21 (fa fo43_5 rfl) ?_
                    refine gon rfl rfl hg28 ?_
                    refine st H21 (ld sc3 1 rfl rfl rfl) ?_
                    refine gon rfl rfl hg28 ?_
                    refine st H21 (fa fo43_5 rfl) ?_
                    refine gon rfl rfl hg28 ?_
                    refine st H21 (ld sc3 0 rfl rfl rfl) ?_
                    refine gon rfl rfl hg28 ?_
                    refine st H21 (nei rfl rfl) ?_
                    refine gon rfl rfl hg27 ?_
                    refine st H21 (pk_f rfl hg28 rfl) ?_
                    refine gon rfl rfl hg27 ?_
                    refine st H21 (mv rfl) ?_
                    refine wl_case (t := 78) rfl (fun hg29 => ?_) (fun hg29 => ?_)
                    · have hp29 := hg29
                      try simp at hp29
                      refine goff rfl rfl hg29 ?_
                      refine goff rfl rfl hg29 ?_
                      refine goff rfl rfl hg29 ?_
                      refine goff rfl rfl hg29 ?_
                      refine goff rfl rfl hg29 ?_
                      refine gon rfl rfl hg27 ?_
                      refine st H21 (pk_t rfl hg29 rfl) ?_
                      refine gon rfl rfl hg26 ?_
                      refine st H21 (pk_t rfl hg27 rfl) ?_
                      refine st H21 (pk_f rfl hg26 rfl) ?_
                      refine wl_nil ?_
                      refine cw_cond_t rfl rfl ?_
                      have hlk : x.ks ≠ y.ks ∨ True := .inr trivial
                      refine cw_seq ?_
                      refine cw_region rfl ?_
                      refine st H21 (asg rfl) ?_
                      refine wl_nil ?_
                      refine cw_ret ?_
                      refine ret1 rfl rfl ?_
                      exact ⟨by first | rw [hne] | (rw [hx0, hdx, hdy]; simp_all [sameF, sameN]; done) | (have hks : ¬ x.ks = y.ks := fun h9 => (by assumption : ¬ ((x.ks.length : Int) = (y.ks.length : Int))) (by rw [h9]); rw [hx0, hdx, hdy]; simp [sameF, sameN, hks]; done), ((((H21.er 0).er 0).er 0).er 0)⟩
                    · have hp29 := hg29
                      try simp at hp29
                      refine gon rfl rfl hg29 ?_
                      refine st H21 (fa fo43_6 rfl) ?_
                      refine gon rfl rfl hg29 ?_
                      refine st H21 (ld sc3 1 rfl rfl rfl) ?_
                      refine gon rfl rfl hg29 ?_
                      refine st H21 (fa fo43_6 rfl) ?_
                      refine gon rfl rfl hg29 ?_
                      refine st H21 (ld sc3 0 rfl rfl rfl) ?_
                      refine gon rfl rfl hg29 ?_
                      refine st H21 (nei rfl rfl) ?_
                      refine gon rfl rfl hg27 ?_
                      refine st H21 (pk_f rfl hg29 rfl) ?_
                      refine gon rfl rfl hg26 ?_
                      refine st H21 (pk_t rfl hg27 rfl) ?_
                      refine st H21 (pk_f rfl hg26 rfl) ?_
                      refine wl_nil ?_
                      refine cw_cond rfl (fun hb30 => ?_) (fun hb30 => ?_)
                      · have hp30 := hb30
                        try simp at hp30
                        have hlk : x.ks ≠ y.ks ∨ True := .inr trivial
                        refine cw_seq ?_
                        refine cw_region rfl ?_
                        refine st H21 (asg rfl) ?_
                        refine wl_nil ?_
                        refine cw_ret ?_
                        refine ret1 rfl rfl ?_
                        exact ⟨by first | rw [hne] | (rw [hx0, hdx, hdy]; simp_all [sameF, sameN]; done) | (have hks : ¬ x.ks = y.ks := fun h9 => (by assumption : ¬ ((x.ks.length : Int) = (y.ks.length : Int))) (by rw [h9]); rw [hx0, hdx, hdy]; simp [sameF, sameN, hks]; done), ((((H21.er 0).er 0).er 0).er 0)⟩
                      · have hp30 := hb30
                        try simp at hp30
                        refine cw_skip ?_
                        refine cw_seq ?_
                        refine cw_region rfl ?_
                        refine st H21 (asg rfl) ?_
                        refine wl_nil ?_
                        refine cw_block ?_
                        have hlk : x.ks.length = y.ks.length := by first | omega | (simp_all; omega)
                        refine cw_loop (σ := Nat) (fun j => [(2, .bool p), (3, .pointer (some ⟨b3, 0, none⟩)), (4, .pointer (some ⟨b6, 0, none⟩)), (7, .int .i64 i), (8, .pointer (some ⟨b15, 0, none⟩)), (9, .pointer (some ⟨b18, 0, none⟩)), (10, .int .i64 j)]) (fun j w => Own g (bk b15 43 (lnc x) :: bk b18 43 (lnc y) :: bk b3 25 [.slice A1 ms.length c1] :: bk b6 25 [.slice A2 us.length c2] :: L) w ∧ j ≤ x.ks.length ∧ (x.ks = y.ks ↔ x.ks.drop j = y.ks.drop j)) (fun j => x.ks.length - j) 0 ⟨rfl, rfl, rfl, rfl, rfl, rfl, rfl, trivial⟩ ⟨((((H21.fr 3 rfl).fr 3 rfl).fr 2 rfl).fr 3 rfl), by omega, by simp⟩ ?_
                        rintro j w32 ⟨H31, hj, hx1⟩
                        refine cw_seq ?_
                        refine cw_seq ?_
                        refine cw_region rfl ?_
                        refine st H31 (mv rfl) ?_
                        refine st H31 (fa fo43_3 rfl) ?_
                        refine st H31 (ld sc41 0 rfl rfl rfl) ?_
                        refine st H31 (lenl Tryz.underlying41 rfl) ?_
                        refine st H31 (lti rfl rfl) ?_
                        refine wl_nil ?_
                        refine cw_cond rfl (fun hb33 => ?_) (fun hb33 => ?_)
                        · have hp33 := hb33
                          try simp at hp33
                          obtain ⟨u, hu, hdu, hmu⟩ := drop_some (l := x.ks) (i := j) (by omega)
                          obtain ⟨v, hv, hdv, hmv⟩ := drop_some (l := y.ks) (i := j) (by omega)
                          refine cw_skip ?_
                          refine cw_seq ?_
                          refine cw_block ?_
                          refine cw_seq ?_
                          refine cw_quiet hm H31 (by kernel_rfl) rfl ?_
                          refine sq (fa fo43_3 rfl) ?_
                          refine sq (ld sc41 0 rfl rfl rfl) ?_
                          refine sq (mv rfl) ?_
                          refine sq (ixC (j) sl41 (RdE.cons (RdE.cons (RdE.cons (RdE.cons (Q1 x hmx))))) rfl rfl rfl (by omega)) ?_
                          refine sq (ldE1C sc3 (RdE.cons (RdE.cons (RdE.cons (RdE.cons (Q1 x hmx))))) rfl hu rfl) ?_
                          refine sq (fa fo43_3 rfl) ?_
                          refine sq (ld sc41 1 rfl rfl rfl) ?_
                          refine sq (mv rfl) ?_
                          refine sq (ixC (j) sl41 (RdE.cons (RdE.cons (RdE.cons (RdE.cons (Q2 y hmy))))) rfl rfl rfl (by omega)) ?_
                          refine sq (ldE1C sc3 (RdE.cons (RdE.cons (RdE.cons (RdE.cons (Q2 y hmy))))) rfl hv rfl) ?_
                          refine sq (nei rfl rfl) ?_
                          refine wq_nil fun w35 H34 => ?_
                          refine cw_cond rfl (fun hb36 => ?_) (fun hb36 => ?_)
                          · have hp36 := hb36
                            try simp at hp36
                            have hks : ¬ x.ks = y.ks := by
                              rw [hx1, hdu, hdv]
                              simp_all
                              try omega
                            refine cw_seq ?_
                            refine cw_region rfl ?_
                            refine st H34 (asg rfl) ?_
                            refine wl_nil ?_
                            refine cw_ret ?_
                            refine ret1 rfl rfl ?_
                            exact ⟨by first | rw [hne] | (rw [hx0, hdx, hdy]; simp_all [sameF, sameN]; done) | (have hks : ¬ x.ks = y.ks := fun h9 => (by assumption : ¬ ((x.ks.length : Int) = (y.ks.length : Int))) (by rw [h9]); rw [hx0, hdx, hdy]; simp [sameF, sameN, hks]; done), ((((H34.er 0).er 0).er 0).er 0)⟩
                          · have hp36 := hb36
                            try simp at hp36
                            refine cw_skip ?_
                            refine cw_region rfl ?_
                            refine st H34 (mv rfl) ?_
                            refine st H34 (add rfl rfl (by omega) (by omega)) ?_
                            refine st H34 (asg rfl) ?_
                            refine wl_nil ?_
                            exact ⟨j + 1, ⟨rfl, rfl, rfl, rfl, rfl, rfl, rfl, trivial⟩, ⟨((((H34.fr 3 rfl).fr 3 rfl).fr 3 rfl).fr 3 rfl), by omega, by rw [hx1, hdu, hdv]; simp [hp7, hp10, hp23, hp24, hp25, hp26, hp27, hp28, hp29, hp30, hp33, hp36]; try omega⟩, by omega⟩
                        · have hp33 := hb33
                          try simp at hp33
                          have hks : x.ks = y.ks := by
                            rw [hx1, List.drop_eq_nil_of_le (by omega), List.drop_eq_nil_of_le (by omega)]
                          refine cw_exit ?_
                          refine cw_region rfl ?_
                          refine st H31 (mv rfl) ?_
                          refine st H31 (add rfl rfl (by omega) (by omega)) ?_
                          refine st H31 (asg rfl) ?_
                          refine wl_nil ?_
                          exact ⟨i + 1, ⟨rfl, rfl, rfl, rfl, trivial⟩, ⟨((((H31.fr 3 rfl).fr 3 rfl).er 2).er 2), by omega, by rw [hx0, hdx, hdy]; simp [sameF, sameN, hks, hp7, hp10, hp23, hp24, hp25, hp26, hp27, hp28, hp29, hp30, hp33]⟩, by omega⟩
                · have hp27 := hg27
                  try simp at hp27
                  refine goff rfl rfl hg27 ?_
                  refine goff rfl rfl hg27 ?_
                  refine goff rfl rfl hg27 ?_
                  refine goff rfl rfl hg27 ?_
                  refine goff rfl rfl hg27 ?_
                  refine goff rfl rfl hg27 ?_
                  refine goffu rfl rfl ?_
                  refine goffu rfl rfl ?_
                  refine goffu rfl rfl ?_
                  refine goffu rfl rfl ?_
                  refine goffu rfl rfl ?_
                  refine goff rfl rfl hg27 ?_
                  refine goff rfl rfl hg27 ?_
                  refine goffu rfl rfl ?_
                  refine goffu rfl rfl ?_
                  refine goffu rfl rfl ?_
                  refine goffu rfl rfl ?_
                  refine goffu rfl rfl ?_
                  refine goff rfl rfl hg27 ?_
                  refine gon rfl rfl hg26 ?_
                  refine st H21 (pk_f rfl hg27 rfl) ?_
                  refine st H21 (pk_f rfl hg26 rfl) ?_
                  refine wl_nil ?_
                  refine cw_cond_f rfl rfl ?_
                  refine cw_skip ?_
                  refine cw_seq ?_
                  refine cw_region rfl ?_
                  refine st H21 (asg rfl) ?_
                  refine wl_nil ?_
                  refine cw_block ?_
                  have hlk : x.ks.length = y.ks.length := by first | omega | (simp_all; omega)
                  refine cw_loop (σ := Nat) (fun j => [(2, .bool p), (3, .pointer (some ⟨b3, 0, none⟩)), (4, .pointer (some ⟨b6, 0, none⟩)), (7, .int .i64 i), (8, .pointer (some ⟨b15, 0, none⟩)), (9, .pointer (some ⟨b18, 0, none⟩)), (10, .int .i64 j)]) (fun j w => Own g (bk b15 43 (lnc x) :: bk b18 43 (lnc y) :: bk b3 25 [.slice A1 ms.length c1] :: bk b6 25 [.slice A2 us.length c2] :: L) w ∧ j ≤ x.ks.length ∧ (x.ks = y.ks ↔ x.ks.drop j = y.ks.drop j)) (fun j => x.ks.length - j) 0 ⟨rfl, rfl, rfl, rfl, rfl, rfl, rfl, trivial⟩ ⟨((((H21.fr 3 rfl).fr 3 rfl).fr 2 rfl).fr 3 rfl), by omega, by simp⟩ ?_
                  rintro j w38 ⟨H37, hj, hx1⟩
                  refine cw_seq ?_
                  refine cw_seq ?_
                  refine cw_region rfl ?_
                  refine st H37 (mv rfl) ?_
                  refine st H37 (fa fo43_3 rfl) ?_
                  refine st H37 (ld sc41 0 rfl rfl rfl) ?_
                  refine st H37 (lenl Tryz.underlying41 rfl) ?_
                  refine st H37 (lti rfl rfl) ?_
                  refine wl_nil ?_
                  refine cw_cond rfl (fun hb39 => ?_) (fun hb39 => ?_)
                  · have hp39 := hb39
                    try simp at hp39
                    obtain ⟨u, hu, hdu, hmu⟩ := drop_some (l := x.ks) (i := j) (by omega)
                    obtain ⟨v, hv, hdv, hmv⟩ := drop_some (l := y.ks) (i := j) (by omega)
                    refine cw_skip ?_
                    refine cw_seq ?_
                    refine cw_block ?_
                    refine cw_seq ?_
                    refine cw_quiet hm H37 (by kernel_rfl) rfl ?_
                    refine sq (fa fo43_3 rfl) ?_
                    refine sq (ld sc41 0 rfl rfl rfl) ?_
                    refine sq (mv rfl) ?_
                    refine sq (ixC (j) sl41 (RdE.cons (RdE.cons (RdE.cons (RdE.cons (Q1 x hmx))))) rfl rfl rfl (by omega)) ?_
                    refine sq (ldE1C sc3 (RdE.cons (RdE.cons (RdE.cons (RdE.cons (Q1 x hmx))))) rfl hu rfl) ?_
                    refine sq (fa fo43_3 rfl) ?_
                    refine sq (ld sc41 1 rfl rfl rfl) ?_
                    refine sq (mv rfl) ?_
                    refine sq (ixC (j) sl41 (RdE.cons (RdE.cons (RdE.cons (RdE.cons (Q2 y hmy))))) rfl rfl rfl (by omega)) ?_
                    refine sq (ldE1C sc3 (RdE.cons (RdE.cons (RdE.cons (RdE.cons (Q2 y hmy))))) rfl hv rfl) ?_
                    refine sq (nei rfl rfl) ?_
                    refine wq_nil fun w41 H40 => ?_
                    refine cw_cond rfl (fun hb42 => ?_) (fun hb42 => ?_)
                    · have hp42 := hb42
                      try simp at hp42
                      have hks : ¬ x.ks = y.ks := by
                        rw [hx1, hdu, hdv]
                        simp_all
                        try omega
                      refine cw_seq ?_
                      refine cw_region rfl ?_
                      refine st H40 (asg rfl) ?_
                      refine wl_nil ?_
                      refine cw_ret ?_
                      refine ret1 rfl rfl ?_
                      exact ⟨by first | rw [hne] | (rw [hx0, hdx, hdy]; simp_all [sameF, sameN]; done) | (have hks : ¬ x.ks = y.ks := fun h9 => (by assumption : ¬ ((x.ks.length : Int) = (y.ks.length : Int))) (by rw [h9]); rw [hx0, hdx, hdy]; simp [sameF, sameN, hks]; done), ((((H40.er 0).er 0).er 0).er 0)⟩
                    · have hp42 := hb42
                      try simp at hp42
                      refine cw_skip ?_
                      refine cw_region rfl ?_
                      refine st H40 (mv rfl) ?_
                      refine st H40 (add rfl rfl (by omega) (by omega)) ?_
                      refine st H40 (asg rfl) ?_
                      refine wl_nil ?_
                      exact ⟨j + 1, ⟨rfl, rfl, rfl, rfl, rfl, rfl, rfl, trivial⟩, ⟨((((H40.fr 3 rfl).fr 3 rfl).fr 3 rfl).fr 3 rfl), by omega, by rw [hx1, hdu, hdv]; simp [hp7, hp10, hp23, hp24, hp25, hp26, hp27, hp39, hp42]; try omega⟩, by omega⟩
                  · have hp39 := hb39
                    try simp at hp39
                    have hks : x.ks = y.ks := by
                      rw [hx1, List.drop_eq_nil_of_le (by omega), List.drop_eq_nil_of_le (by omega)]
                    refine cw_exit ?_
                    refine cw_region rfl ?_
                    refine st H37 (mv rfl) ?_
                    refine st H37 (add rfl rfl (by omega) (by omega)) ?_
                    refine st H37 (asg rfl) ?_
                    refine wl_nil ?_
                    exact ⟨i + 1, ⟨rfl, rfl, rfl, rfl, trivial⟩, ⟨((((H37.fr 3 rfl).fr 3 rfl).er 2).er 2), by omega, by rw [hx0, hdx, hdy]; simp [sameF, sameN, hks, hp7, hp10, hp23, hp24, hp25, hp26, hp27, hp39]⟩, by omega⟩
      · refine sa rfl rfl ?_
        refine st_al H11 zc43 fun b45 w44 H43 => ?_
        refine wl_nil ⟨.inr ⟨[_], ((H43.fr 2 rfl).fr 2 rfl)⟩, ?_⟩
        refine sa rfl rfl ?_
        refine st_al H43 zc43 fun b48 w47 H46 => ?_
        refine wl_nil ⟨.inr ⟨[_, _], ((H46.fr 3 rfl).fr 3 rfl)⟩, ?_⟩
        refine sa rfl rfl ?_
        refine st_st 0 H46 rfl rfl rfl sz43 rfl rfl rfl rfl fun w50 H49 => ?_
        refine wl_nil ⟨.inr ⟨[_, _], ((H49.fr 3 rfl).fr 3 rfl)⟩, ?_⟩
        refine sa rfl rfl ?_
        refine st_st 1 H49 rfl rfl rfl sz43 rfl rfl rfl rfl fun w52 H51 => ?_
        refine wl_nil ⟨.inl rfl, ?_⟩
        refine ws_nil ?_
        refine cw_seq ?_
        refine cw_seq ?_
        refine cw_region rfl ?_
        refine st H51 (fa fo43_0 rfl) ?_
        refine st H51 (ld sc3 1 rfl rfl rfl) ?_
        refine st H51 (fa fo43_0 rfl) ?_
        refine st H51 (ld sc3 0 rfl rfl rfl) ?_
        refine st H51 (nei rfl rfl) ?_
        refine st H51 (mv rfl) ?_
        refine wl_case (t := 40) rfl (fun hg53 => ?_) (fun hg53 => ?_)
        · have hp53 := hg53
          try simp at hp53
          refine goff rfl rfl hg53 ?_
          refine goff rfl rfl hg53 ?_
          refine goff rfl rfl hg53 ?_
          refine goff rfl rfl hg53 ?_
          refine goff rfl rfl hg53 ?_
          refine st H51 (pk_t rfl hg53 rfl) ?_
          refine st H51 (mv rfl) ?_
          refine goff rfl rfl rfl ?_
          refine goff rfl rfl rfl ?_
          refine goff rfl rfl rfl ?_
          refine goff rfl rfl rfl ?_
          refine goff rfl rfl rfl ?_
          refine st H51 (pk_t rfl rfl rfl) ?_
          refine st H51 (mv rfl) ?_
          refine goff rfl rfl rfl ?_
          refine goff rfl rfl rfl ?_
          refine goff rfl rfl rfl ?_
          refine goff rfl rfl rfl ?_
          refine goff rfl rfl rfl ?_
          refine goff rfl rfl rfl ?_
          refine goff rfl rfl rfl ?_
          refine st H51 (pk_t rfl rfl rfl) ?_
          refine st H51 (mv rfl) ?_
          refine goff rfl rfl rfl ?_
          refine goff rfl rfl rfl ?_
          refine goffu rfl rfl ?_
          refine goffu rfl rfl ?_
          refine goffu rfl rfl ?_
          refine goffu rfl rfl ?_
          refine goffu rfl rfl ?_
          refine goffu rfl rfl ?_
          refine goffu rfl rfl ?_
          refine goffu rfl rfl ?_
          refine goffu rfl rfl ?_
          refine goffu rfl rfl ?_
          refine goffu rfl rfl ?_
          refine goffu rfl rfl ?_
          refine goffu rfl rfl ?_
          refine goffu rfl rfl ?_
          refine goffu rfl rfl ?_
          refine goffu rfl rfl ?_
          refine goffu rfl rfl ?_
          refine goffu rfl rfl ?_
          refine goffu rfl rfl ?_
          refine goff rfl rfl rfl ?_
          refine st H51 (pk_t rfl rfl rfl) ?_
          refine wl_nil ?_
          refine cw_cond_t rfl rfl ?_
          have hlk : x.ks ≠ y.ks ∨ True := .inr trivial
          refine cw_seq ?_
          refine cw_region rfl ?_
          refine st H51 (asg rfl) ?_
          refine wl_nil ?_
          refine cw_ret ?_
          refine ret1 rfl rfl ?_
          exact ⟨by first | rw [hne] | (rw [hx0, hdx, hdy]; simp_all [sameF, sameN]; done) | (have hks : ¬ x.ks = y.ks := fun h9 => (by assumption : ¬ ((x.ks.length : Int) = (y.ks.length : Int))) (by rw [h9]); rw [hx0, hdx, hdy]; simp [sameF, sameN, hks]; done), ((((H51.er 0).er 0).er 0).er 0)⟩
        · have hp53 := hg53
          try simp at hp53
          refine gon rfl rfl hg53 ?_
          refine st H51 (fa fo43_1 rfl) ?_
          refine gon rfl rfl hg53 ?_
          refine st H51 (ld sc9 1 rfl rfl rfl) ?_
          refine gon rfl rfl hg53 ?_
          refine st H51 (fa fo43_1 rfl) ?_
          refine gon rfl rfl hg53 ?_
          refine st H51 (ld sc9 0 rfl rfl rfl) ?_
          refine gon rfl rfl hg53 ?_
          refine st H51 (nes rfl rfl) ?_
          refine st H51 (pk_f rfl hg53 rfl) ?_
          refine st H51 (mv rfl) ?_
          refine wl_case (t := 47) rfl (fun hg54 => ?_) (fun hg54 => ?_)
          · have hp54 := hg54
            try simp at hp54
            refine goff rfl rfl hg54 ?_
            refine goff rfl rfl hg54 ?_
            refine goff rfl rfl hg54 ?_
            refine goff rfl rfl hg54 ?_
            refine goff rfl rfl hg54 ?_
            refine st H51 (pk_t rfl hg54 rfl) ?_
            refine st H51 (mv rfl) ?_
            refine goff rfl rfl rfl ?_
            refine goff rfl rfl rfl ?_
            refine goff rfl rfl rfl ?_
            refine goff rfl rfl rfl ?_
            refine goff rfl rfl rfl ?_
            refine goff rfl rfl rfl ?_
            refine goff rfl rfl rfl ?_
            refine st H51 (pk_t rfl rfl rfl) ?_
            refine st H51 (mv rfl) ?_
            refine goff rfl rfl rfl ?_
            refine goff rfl rfl rfl ?_
            refine goffu rfl rfl ?_
            refine goffu rfl rfl ?_
            refine goffu rfl rfl ?_
            refine goffu rfl rfl ?_
            refine goffu rfl rfl ?_
            refine goffu rfl rfl ?_
            refine goffu rfl rfl ?_
            refine goffu rfl rfl ?_
            refine goffu rfl rfl ?_
            refine goffu rfl rfl ?_
            refine goffu rfl rfl ?_
            refine goffu rfl rfl ?_
            refine goffu rfl rfl ?_
            refine goffu rfl rfl ?_
            refine goffu rfl rfl ?_
            refine goffu rfl rfl ?_
            refine goffu rfl rfl ?_
            refine goffu rfl rfl ?_
            refine goffu rfl rfl ?_
            refine goff rfl rfl rfl ?_
            refine st H51 (pk_t rfl rfl rfl) ?_
            refine wl_nil ?_
            refine cw_cond_t rfl rfl ?_
            have hlk : x.ks ≠ y.ks ∨ True := .inr trivial
            refine cw_seq ?_
            refine cw_region rfl ?_
            refine st H51 (asg rfl) ?_
            refine wl_nil ?_
            refine cw_ret ?_
            refine ret1 rfl rfl ?_
            exact ⟨by first | rw [hne] | (rw [hx0, hdx, hdy]; simp_all [sameF, sameN]; done) | (have hks : ¬ x.ks = y.ks := fun h9 => (by assumption : ¬ ((x.ks.length : Int) = (y.ks.length : Int))) (by rw [h9]); rw [hx0, hdx, hdy]; simp [sameF, sameN, hks]; done), ((((H51.er 0).er 0).er 0).er 0)⟩
          · have hp54 := hg54
            try simp at hp54
            refine gon rfl rfl hg54 ?_
            refine st H51 (fa fo43_2 rfl) ?_
            refine gon rfl rfl hg54 ?_
            refine st H51 (ld sc2 1 rfl rfl rfl) ?_
            refine gon rfl rfl hg54 ?_
            refine st H51 (fa fo43_2 rfl) ?_
            refine gon rfl rfl hg54 ?_
            refine st H51 (ld sc2 0 rfl rfl rfl) ?_
            refine gon rfl rfl hg54 ?_
            refine st H51 (nei rfl rfl) ?_
            refine st H51 (pk_f rfl hg54 rfl) ?_
            refine st H51 (mv rfl) ?_
            refine wl_case (t := 54) rfl (fun hg55 => ?_) (fun hg55 => ?_)
            · have hp55 := hg55
              try simp at hp55
              refine goff rfl rfl hg55 ?_
              refine goff rfl rfl hg55 ?_
              refine goff rfl rfl hg55 ?_
              refine goff rfl rfl hg55 ?_
              refine goff rfl rfl hg55 ?_
              refine goff rfl rfl hg55 ?_
              refine goff rfl rfl hg55 ?_
              refine st H51 (pk_t rfl hg55 rfl) ?_
              refine st H51 (mv rfl) ?_
              refine goff rfl rfl rfl ?_
              refine goff rfl rfl rfl ?_
              refine goffu rfl rfl ?_
              refine goffu rfl rfl ?_
              refine goffu rfl rfl ?_
              refine goffu rfl rfl ?_
              refine goffu rfl rfl ?_
              refine goffu rfl rfl ?_
              refine goffu rfl rfl ?_
              refine goffu rfl rfl ?_
              refine goffu rfl rfl ?_
              refine goffu rfl rfl ?_
              refine goffu rfl rfl ?_
              refine goffu rfl rfl ?_
              refine goffu rfl rfl ?_
              refine goffu rfl rfl ?_
              refine goffu rfl rfl ?_
              refine goffu rfl rfl ?_
              refine goffu rfl rfl ?_
              refine goffu rfl rfl ?_
              refine goffu rfl rfl ?_
              refine goff rfl rfl rfl ?_
              refine st H51 (pk_t rfl rfl rfl) ?_
              refine wl_nil ?_
              refine cw_cond_t rfl rfl ?_
              have hlk : x.ks ≠ y.ks ∨ True := .inr trivial
              refine cw_seq ?_
              refine cw_region rfl ?_
              refine st H51 (asg rfl) ?_
              refine wl_nil ?_
              refine cw_ret ?_
              refine ret1 rfl rfl ?_
              exact ⟨by first | rw [hne] | (rw [hx0, hdx, hdy]; simp_all [sameF, sameN]; done) | (have hks : ¬ x.ks = y.ks := fun h9 => (by assumption : ¬ ((x.ks.length : Int) = (y.ks.length : Int))) (by rw [h9]); rw [hx0, hdx, hdy]; simp [sameF, sameN, hks]; done), ((((H51.er 0).er 0).er 0).er 0)⟩
            · have hp55 := hg55
              try simp at hp55
              refine gon rfl rfl hg55 ?_
              refine st H51 (fa fo43_3 rfl) ?_
              refine gon rfl rfl hg55 ?_
              refine st H51 (ld sc41 1 rfl rfl rfl) ?_
              refine gon rfl rfl hg55 ?_
              refine st H51 (lenl Tryz.underlying41 rfl) ?_
              refine gon rfl rfl hg55 ?_
              refine st H51 (fa fo43_3 rfl) ?_
              refine gon rfl rfl hg55 ?_
              refine st H51 (ld sc41 0 rfl rfl rfl) ?_
              refine gon rfl rfl hg55 ?_
              refine st H51 (lenl Tryz.underlying41 rfl) ?_
              refine gon rfl rfl hg55 ?_
              refine st H51 (nei rfl rfl) ?_
              refine st H51 (pk_f rfl hg55 rfl) ?_
              refine st H51 (mv rfl) ?_
              refine wl_case (t := 63) rfl (fun hg56 => ?_) (fun hg56 => ?_)
              · have hp56 := hg56
                try simp at hp56
                refine goff rfl rfl hg56 ?_
                refine goff rfl rfl hg56 ?_
                refine goffu rfl rfl ?_
                refine goffu rfl rfl ?_
                refine goffu rfl rfl ?_
                refine goffu rfl rfl ?_
                refine goffu rfl rfl ?_
                refine goffu rfl rfl ?_
                refine goffu rfl rfl ?_
                refine goffu rfl rfl ?_
                refine goffu rfl rfl ?_
                refine goffu rfl rfl ?_
                refine goffu rfl rfl ?_
                refine goffu rfl rfl ?_
                refine goffu rfl rfl ?_
                refine goffu rfl rfl ?_
                refine goffu rfl rfl ?_
                refine goffu rfl rfl ?_
                refine goffu rfl rfl ?_
                refine goffu rfl rfl ?_
                refine goffu rfl rfl ?_
                refine goff rfl rfl hg56 ?_
                refine st H51 (pk_t rfl hg56 rfl) ?_
                refine wl_nil ?_
                refine cw_cond_t rfl rfl ?_
                have hlk : x.ks ≠ y.ks ∨ True := .inr trivial
                refine cw_seq ?_
                refine cw_region rfl ?_
                refine st H51 (asg rfl) ?_
                refine wl_nil ?_
                refine cw_ret ?_
                refine ret1 rfl rfl ?_
                exact ⟨by first | rw [hne] | (rw [hx0, hdx, hdy]; simp_all [sameF, sameN]; done) | (have hks : ¬ x.ks = y.ks := fun h9 => (by assumption : ¬ ((x.ks.length : Int) = (y.ks.length : Int))) (by rw [h9]); rw [hx0, hdx, hdy]; simp [sameF, sameN, hks]; done), ((((H51.er 0).er 0).er 0).er 0)⟩
              · have hp56 := hg56
                try simp at hp56
                refine gon rfl rfl hg56 ?_
                refine st H51 (mv rfl) ?_
                refine gon rfl rfl hg56 ?_
                refine st H51 (mv rfl) ?_
                refine wl_case (t := 65) rfl (fun hg57 => ?_) (fun hg57 => ?_)
                · have hp57 := hg57
                  try simp at hp57
                  refine gon rfl rfl hg57 ?_
                  refine st H51 (fa fo43_4 rfl) ?_
                  refine gon rfl rfl hg57 ?_
                  refine st H51 (ld sc3 1 rfl rfl rfl) ?_
                  refine gon rfl rfl hg57 ?_
                  refine st H51 (fa fo43_4 rfl) ?_
                  refine gon rfl rfl hg57 ?_
                  refine st H51 (ld sc3 0 rfl rfl rfl) ?_
                  refine gon rfl rfl hg57 ?_
                  refine st H51 (nei rfl rfl) ?_
                  refine gon rfl rfl hg57 ?_
                  refine st H51 (mv rfl) ?_
                  refine wl_case (t := 71) rfl (fun hg58 => ?_) (fun hg58 => ?_)
                  · have hp58 := hg58
                    try simp at hp58
                    refine goff rfl rfl hg58 ?_
                    refine goff rfl rfl hg58 ?_
                    refine goff rfl rfl hg58 ?_
                    refine goff rfl rfl hg58 ?_
                    refine goff rfl rfl hg58 ?_
                    refine gon rfl rfl hg57 ?_
                    refine st H51 (pk_t rfl hg58 rfl) ?_
                    refine gon rfl rfl hg57 ?_
                    refine st H51 (mv rfl) ?_
                    refine goff rfl rfl rfl ?_
                    refine goff rfl rfl rfl ?_
                    refine goff rfl rfl rfl ?_
                    refine goff rfl rfl rfl ?_
                    refine goff rfl rfl rfl ?_
                    refine gon rfl rfl hg57 ?_
                    refine st H51 (pk_t rfl rfl rfl) ?_
                    refine gon rfl rfl hg56 ?_
                    refine st H51 (pk_t rfl hg57 rfl) ?_
                    refine st H51 (pk_f rfl hg56 rfl) ?_
                    refine wl_nil ?_
                    refine cw_cond_t rfl rfl ?_
                    have hlk : x.ks ≠ y.ks ∨ True := .inr trivial
                    refine cw_seq ?_
                    refine cw_region rfl ?_
                    refine st H51 (asg rfl) ?_
                    refine wl_nil ?_
                    refine cw_ret ?_
                    refine ret1 rfl rfl ?_
                    exact ⟨by first | rw [hne] | (rw [hx0, hdx, hdy]; simp_all [sameF, sameN]; done) | (have hks : ¬ x.ks = y.ks := fun h9 => (by assumption : ¬ ((x.ks.length : Int) = (y.ks.length : Int))) (by rw [h9]); rw [hx0, hdx, hdy]; simp [sameF, sameN, hks]; done), ((((H51.er 0).er 0).er 0).er 0)⟩
                  · have hp58 := hg58
                    try simp at hp58
                    refine gon rfl rfl hg58 ?_
                    refine st H51 (fa fo43_5 rfl) ?_
                    refine gon rfl rfl hg58 ?_
                    refine st H51 (ld sc3 1 rfl rfl rfl) ?_
                    refine gon rfl rfl hg58 ?_
                    refine st H51 (fa fo43_5 rfl) ?_
                    refine gon rfl rfl hg58 ?_
                    refine st H51 (ld sc3 0 rfl rfl rfl) ?_
                    refine gon rfl rfl hg58 ?_
                    refine st H51 (nei rfl rfl) ?_
                    refine gon rfl rfl hg57 ?_
                    refine st H51 (pk_f rfl hg58 rfl) ?_
                    refine gon rfl rfl hg57 ?_
                    refine st H51 (mv rfl) ?_
                    refine wl_case (t := 78) rfl (fun hg59 => ?_) (fun hg59 => ?_)
                    · have hp59 := hg59
                      try simp at hp59
                      refine goff rfl rfl hg59 ?_
                      refine goff rfl rfl hg59 ?_
                      refine goff rfl rfl hg59 ?_
                      refine goff rfl rfl hg59 ?_
                      refine goff rfl rfl hg59 ?_
                      refine gon rfl rfl hg57 ?_
                      refine st H51 (pk_t rfl hg59 rfl) ?_
                      refine gon rfl rfl hg56 ?_
                      refine st H51 (pk_t rfl hg57 rfl) ?_
                      refine st H51 (pk_f rfl hg56 rfl) ?_
                      refine wl_nil ?_
                      refine cw_cond_t rfl rfl ?_
                      have hlk : x.ks ≠ y.ks ∨ True := .inr trivial
                      refine cw_seq ?_
                      refine cw_region rfl ?_
                      refine st H51 (asg rfl) ?_
                      refine wl_nil ?_
                      refine cw_ret ?_
                      refine ret1 rfl rfl ?_
                      exact ⟨by first | rw [hne] | (rw [hx0, hdx, hdy]; simp_all [sameF, sameN]; done) | (have hks : ¬ x.ks = y.ks := fun h9 => (by assumption : ¬ ((x.ks.length : Int) = (y.ks.length : Int))) (by rw [h9]); rw [hx0, hdx, hdy]; simp [sameF, sameN, hks]; done), ((((H51.er 0).er 0).er 0).er 0)⟩
                    · have hp59 := hg59
                      try simp at hp59
                      refine gon rfl rfl hg59 ?_
                      refine st H51 (fa fo43_6 rfl) ?_
                      refine gon rfl rfl hg59 ?_
                      refine st H51 (ld sc3 1 rfl rfl rfl) ?_
                      refine gon rfl rfl hg59 ?_
                      refine st H51 (fa fo43_6 rfl) ?_
                      refine gon rfl rfl hg59 ?_
                      refine st H51 (ld sc3 0 rfl rfl rfl) ?_
                      refine gon rfl rfl hg59 ?_
                      refine st H51 (nei rfl rfl) ?_
                      refine gon rfl rfl hg57 ?_
                      refine st H51 (pk_f rfl hg59 rfl) ?_
                      refine gon rfl rfl hg56 ?_
                      refine st H51 (pk_t rfl hg57 rfl) ?_
                      refine st H51 (pk_f rfl hg56 rfl) ?_
                      refine wl_nil ?_
                      refine cw_cond rfl (fun hb60 => ?_) (fun hb60 => ?_)
                      · have hp60 := hb60
                        try simp at hp60
                        have hlk : x.ks ≠ y.ks ∨ True := .inr trivial
                        refine cw_seq ?_
                        refine cw_region rfl ?_
                        refine st H51 (asg rfl) ?_
                        refine wl_nil ?_
                        refine cw_ret ?_
                        refine ret1 rfl rfl ?_
                        exact ⟨by first | rw [hne] | (rw [hx0, hdx, hdy]; simp_all [sameF, sameN]; done) | (have hks : ¬ x.ks = y.ks := fun h9 => (by assumption : ¬ ((x.ks.length : Int) = (y.ks.length : Int))) (by rw [h9]); rw [hx0, hdx, hdy]; simp [sameF, sameN, hks]; done), ((((H51.er 0).er 0).er 0).er 0)⟩
                      · have hp60 := hb60
                        try simp at hp60
                        refine cw_skip ?_
                        refine cw_seq ?_
                        refine cw_region rfl ?_
                        refine st H51 (asg rfl) ?_
                        refine wl_nil ?_
                        refine cw_block ?_
                        have hlk : x.ks.length = y.ks.length := by first | omega | (simp_all; omega)
                        refine cw_loop (σ := Nat) (fun j => [(2, .bool p), (3, .pointer (some ⟨b3, 0, none⟩)), (4, .pointer (some ⟨b6, 0, none⟩)), (7, .int .i64 i), (8, .pointer (some ⟨b48, 0, none⟩)), (9, .pointer (some ⟨b45, 0, none⟩)), (10, .int .i64 j)]) (fun j w => Own g (bk b48 43 (lnc x) :: bk b45 43 (lnc y) :: bk b3 25 [.slice A1 ms.length c1] :: bk b6 25 [.slice A2 us.length c2] :: L) w ∧ j ≤ x.ks.length ∧ (x.ks = y.ks ↔ x.ks.drop j = y.ks.drop j)) (fun j => x.ks.length - j) 0 ⟨rfl, rfl, rfl, rfl, rfl, rfl, rfl, trivial⟩ ⟨((((H51.fr 3 rfl).fr 3 rfl).fr 2 rfl).fr 3 rfl), by omega, by simp⟩ ?_
                        rintro j w62 ⟨H61, hj, hx1⟩
                        refine cw_seq ?_
                        refine cw_seq ?_
                        refine cw_region rfl ?_
                        refine st H61 (mv rfl) ?_
                        refine st H61 (fa fo43_3 rfl) ?_
                        refine st H61 (ld sc41 0 rfl rfl rfl) ?_
                        refine st H61 (lenl Tryz.underlying41 rfl) ?_
                        refine st H61 (lti rfl rfl) ?_
                        refine wl_nil ?_
                        refine cw_cond rfl (fun hb63 => ?_) (fun hb63 => ?_)
                        · have hp63 := hb63
                          try simp at hp63
                          obtain ⟨u, hu, hdu, hmu⟩ := drop_some (l := x.ks) (i := j) (by omega)
                          obtain ⟨v, hv, hdv, hmv⟩ := drop_some (l := y.ks) (i := j) (by omega)
                          refine cw_skip ?_
                          refine cw_seq ?_
                          refine cw_block ?_
                          refine cw_seq ?_
                          refine cw_quiet hm H61 (by kernel_rfl) rfl ?_
                          refine sq (fa fo43_3 rfl) ?_
                          refine sq (ld sc41 0 rfl rfl rfl) ?_
                          refine sq (mv rfl) ?_
                          refine sq (ixC (j) sl41 (RdE.cons (RdE.cons (RdE.cons (RdE.cons (Q1 x hmx))))) rfl rfl rfl (by omega)) ?_
                          refine sq (ldE1C sc3 (RdE.cons (RdE.cons (RdE.cons (RdE.cons (Q1 x hmx))))) rfl hu rfl) ?_
                          refine sq (fa fo43_3 rfl) ?_
                          refine sq (ld sc41 1 rfl rfl rfl) ?_
                          refine sq (mv rfl) ?_
                          refine sq (ixC (j) sl41 (RdE.cons (RdE.cons (RdE.cons (RdE.cons (Q2 y hmy))))) rfl rfl rfl (by omega)) ?_
                          refine sq (ldE1C sc3 (RdE.cons (RdE.cons (RdE.cons (RdE.cons (Q2 y hmy))))) rfl hv rfl) ?_
                          refine sq (nei rfl rfl) ?_
                          refine wq_nil fun w65 H64 => ?_
                          refine cw_cond rfl (fun hb66 => ?_) (fun hb66 => ?_)
                          · have hp66 := hb66
                            try simp at hp66
                            have hks : ¬ x.ks = y.ks := by
                              rw [hx1, hdu, hdv]
                              simp_all
                              try omega
                            refine cw_seq ?_
                            refine cw_region rfl ?_
                            refine st H64 (asg rfl) ?_
                            refine wl_nil ?_
                            refine cw_ret ?_
                            refine ret1 rfl rfl ?_
                            exact ⟨by first | rw [hne] | (rw [hx0, hdx, hdy]; simp_all [sameF, sameN]; done) | (have hks : ¬ x.ks = y.ks := fun h9 => (by assumption : ¬ ((x.ks.length : Int) = (y.ks.length : Int))) (by rw [h9]); rw [hx0, hdx, hdy]; simp [sameF, sameN, hks]; done), ((((H64.er 0).er 0).er 0).er 0)⟩
                          · have hp66 := hb66
                            try simp at hp66
                            refine cw_skip ?_
                            refine cw_region rfl ?_
                            refine st H64 (mv rfl) ?_
                            refine st H64 (add rfl rfl (by omega) (by omega)) ?_
                            refine st H64 (asg rfl) ?_
                            refine wl_nil ?_
                            exact ⟨j + 1, ⟨rfl, rfl, rfl, rfl, rfl, rfl, rfl, trivial⟩, ⟨((((H64.fr 3 rfl).fr 3 rfl).fr 3 rfl).fr 3 rfl), by omega, by rw [hx1, hdu, hdv]; simp [hp7, hp10, hp53, hp54, hp55, hp56, hp57, hp58, hp59, hp60, hp63, hp66]; try omega⟩, by omega⟩
                        · have hp63 := hb63
                          try simp at hp63
                          have hks : x.ks = y.ks := by
                            rw [hx1, List.drop_eq_nil_of_le (by omega), List.drop_eq_nil_of_le (by omega)]
                          refine cw_exit ?_
                          refine cw_region rfl ?_
                          refine st H61 (mv rfl) ?_
                          refine st H61 (add rfl rfl (by omega) (by omega)) ?_
                          refine st H61 (asg rfl) ?_
                          refine wl_nil ?_
                          exact ⟨i + 1, ⟨rfl, rfl, rfl, rfl, trivial⟩, ⟨((((H61.fr 3 rfl).fr 3 rfl).er 2).er 2), by omega, by rw [hx0, hdx, hdy]; simp [sameF, sameN, hks, hp7, hp10, hp53, hp54, hp55, hp56, hp57, hp58, hp59, hp60, hp63]⟩, by omega⟩
                · have hp57 := hg57
                  try simp at hp57
                  refine goff rfl rfl hg57 ?_
                  refine goff rfl rfl hg57 ?_
                  refine goff rfl rfl hg57 ?_
                  refine goff rfl rfl hg57 ?_
                  refine goff rfl rfl hg57 ?_
                  refine goff rfl rfl hg57 ?_
                  refine goffu rfl rfl ?_
                  refine goffu rfl rfl ?_
                  refine goffu rfl rfl ?_
                  refine goffu rfl rfl ?_
                  refine goffu rfl rfl ?_
                  refine goff rfl rfl hg57 ?_
                  refine goff rfl rfl hg57 ?_
                  refine goffu rfl rfl ?_
                  refine goffu rfl rfl ?_
                  refine goffu rfl rfl ?_
                  refine goffu rfl rfl ?_
                  refine goffu rfl rfl ?_
                  refine goff rfl rfl hg57 ?_
                  refine gon rfl rfl hg56 ?_
                  refine st H51 (pk_f rfl hg57 rfl) ?_
                  refine st H51 (pk_f rfl hg56 rfl) ?_
                  refine wl_nil ?_
                  refine cw_cond_f rfl rfl ?_
                  refine cw_skip ?_
                  refine cw_seq ?_
                  refine cw_region rfl ?_
                  refine st H51 (asg rfl) ?_
                  refine wl_nil ?_
                  refine cw_block ?_
                  have hlk : x.ks.length = y.ks.length := by first | omega | (simp_all; omega)
                  refine cw_loop (σ := Nat) (fun j => [(2, .bool p), (3, .pointer (some ⟨b3, 0, none⟩)), (4, .pointer (some ⟨b6, 0, none⟩)), (7, .int .i64 i), (8, .pointer (some ⟨b48, 0, none⟩)), (9, .pointer (some ⟨b45, 0, none⟩)), (10, .int .i64 j)]) (fun j w => Own g (bk b48 43 (lnc x) :: bk b45 43 (lnc y) :: bk b3 25 [.slice A1 ms.length c1] :: bk b6 25 [.slice A2 us.length c2] :: L) w ∧ j ≤ x.ks.length ∧ (x.ks = y.ks ↔ x.ks.drop j = y.ks.drop j)) (fun j => x.ks.length - j) 0 ⟨rfl, rfl, rfl, rfl, rfl, rfl, rfl, trivial⟩ ⟨((((H51.fr 3 rfl).fr 3 rfl).fr 2 rfl).fr 3 rfl), by omega, by simp⟩ ?_
                  rintro j w68 ⟨H67, hj, hx1⟩
                  refine cw_seq ?_
                  refine cw_seq ?_
                  refine cw_region rfl ?_
                  refine st H67 (mv rfl) ?_
                  refine st H67 (fa fo43_3 rfl) ?_
                  refine st H67 (ld sc41 0 rfl rfl rfl) ?_
                  refine st H67 (lenl Tryz.underlying41 rfl) ?_
                  refine st H67 (lti rfl rfl) ?_
                  refine wl_nil ?_
                  refine cw_cond rfl (fun hb69 => ?_) (fun hb69 => ?_)
                  · have hp69 := hb69
                    try simp at hp69
                    obtain ⟨u, hu, hdu, hmu⟩ := drop_some (l := x.ks) (i := j) (by omega)
                    obtain ⟨v, hv, hdv, hmv⟩ := drop_some (l := y.ks) (i := j) (by omega)
                    refine cw_skip ?_
                    refine cw_seq ?_
                    refine cw_block ?_
                    refine cw_seq ?_
                    refine cw_quiet hm H67 (by kernel_rfl) rfl ?_
                    refine sq (fa fo43_3 rfl) ?_
                    refine sq (ld sc41 0 rfl rfl rfl) ?_
                    refine sq (mv rfl) ?_
                    refine sq (ixC (j) sl41 (RdE.cons (RdE.cons (RdE.cons (RdE.cons (Q1 x hmx))))) rfl rfl rfl (by omega)) ?_
                    refine sq (ldE1C sc3 (RdE.cons (RdE.cons (RdE.cons (RdE.cons (Q1 x hmx))))) rfl hu rfl) ?_
                    refine sq (fa fo43_3 rfl) ?_
                    refine sq (ld sc41 1 rfl rfl rfl) ?_
                    refine sq (mv rfl) ?_
                    refine sq (ixC (j) sl41 (RdE.cons (RdE.cons (RdE.cons (RdE.cons (Q2 y hmy))))) rfl rfl rfl (by omega)) ?_
                    refine sq (ldE1C sc3 (RdE.cons (RdE.cons (RdE.cons (RdE.cons (Q2 y hmy))))) rfl hv rfl) ?_
                    refine sq (nei rfl rfl) ?_
                    refine wq_nil fun w71 H70 => ?_
                    refine cw_cond rfl (fun hb72 => ?_) (fun hb72 => ?_)
                    · have hp72 := hb72
                      try simp at hp72
                      have hks : ¬ x.ks = y.ks := by
                        rw [hx1, hdu, hdv]
                        simp_all
                        try omega
                      refine cw_seq ?_
                      refine cw_region rfl ?_
                      refine st H70 (asg rfl) ?_
                      refine wl_nil ?_
                      refine cw_ret ?_
                      refine ret1 rfl rfl ?_
                      exact ⟨by first | rw [hne] | (rw [hx0, hdx, hdy]; simp_all [sameF, sameN]; done) | (have hks : ¬ x.ks = y.ks := fun h9 => (by assumption : ¬ ((x.ks.length : Int) = (y.ks.length : Int))) (by rw [h9]); rw [hx0, hdx, hdy]; simp [sameF, sameN, hks]; done), ((((H70.er 0).er 0).er 0).er 0)⟩
                    · have hp72 := hb72
                      try simp at hp72
                      refine cw_skip ?_
                      refine cw_region rfl ?_
                      refine st H70 (mv rfl) ?_
                      refine st H70 (add rfl rfl (by omega) (by omega)) ?_
                      refine st H70 (asg rfl) ?_
                      refine wl_nil ?_
                      exact ⟨j + 1, ⟨rfl, rfl, rfl, rfl, rfl, rfl, rfl, trivial⟩, ⟨((((H70.fr 3 rfl).fr 3 rfl).fr 3 rfl).fr 3 rfl), by omega, by rw [hx1, hdu, hdv]; simp [hp7, hp10, hp53, hp54, hp55, hp56, hp57, hp69, hp72]; try omega⟩, by omega⟩
                  · have hp69 := hb69
                    try simp at hp69
                    have hks : x.ks = y.ks := by
                      rw [hx1, List.drop_eq_nil_of_le (by omega), List.drop_eq_nil_of_le (by omega)]
                    refine cw_exit ?_
                    refine cw_region rfl ?_
                    refine st H67 (mv rfl) ?_
                    refine st H67 (add rfl rfl (by omega) (by omega)) ?_
                    refine st H67 (asg rfl) ?_
                    refine wl_nil ?_
                    exact ⟨i + 1, ⟨rfl, rfl, rfl, rfl, trivial⟩, ⟨((((H67.fr 3 rfl).fr 3 rfl).er 2).er 2), by omega, by rw [hx0, hdx, hdy]; simp [sameF, sameN, hks, hp7, hp10, hp53, hp54, hp55, hp56, hp57, hp69]⟩, by omega⟩
    · have hp10 := hb10
      try simp at hp10
      have hdx : ms.drop i = [] := List.drop_eq_nil_of_le (by omega)
      have hdy : us.drop i = [] := List.drop_eq_nil_of_le (by omega)
      refine cw_exit ?_
      refine cw_seq ?_
      refine cw_region rfl ?_
      refine st H8 (asg rfl) ?_
      refine wl_nil ?_
      refine cw_ret ?_
      refine ret1 rfl rfl ?_
      exact ⟨by first | rw [hne] | (rw [hx0, hdx, hdy]; simp_all [sameF, sameN]; done) | (have hks : ¬ x.ks = y.ks := fun h9 => (by assumption : ¬ ((x.ks.length : Int) = (y.ks.length : Int))) (by rw [h9]); rw [hx0, hdx, hdy]; simp [sameF, sameN, hks]; done), ((H8.er 0).er 0)⟩
end
end Go.Proofs.YtmkijgmfefkgeaaGreatDoor
