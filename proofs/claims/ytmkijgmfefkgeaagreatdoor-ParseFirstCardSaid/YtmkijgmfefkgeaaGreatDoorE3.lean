/- The parser: what calls itself, from what calls itself less deep. -/
import Derived.Test.YtmkijgmfefkgeaaGreatDoorE2
set_option autoImplicit false
set_option linter.unusedVariables false
set_option linter.unusedSimpArgs false
set_option linter.unusedSectionVars false
namespace Go.Proofs.YtmkijgmfefkgeaaGreatDoor
open Go
/-- A function that gives a tree. -/
def One (g : World) (pb : Nat) (A : Option Addr) (c : Nat) (l : List Tk) (nv : Value) (f : Nat) (one : Nat → PR Tr) : Prop := ∀ k w L, Own g (PT g pb A c l k nv L) w → k ≤ l.length → one k ≠ .fu → Calls Pg f #[.pointer (some ⟨pb, 0, none⟩)] w (PO g pb A c l nv L (one k))
/-- How one ends that puts trees behind a part's others. -/
def PF (g : World) (pb : Nat) (A : Option Addr) (c : Nat) (l : List Tk) (nv : Value) (xb m : Nat) (d : Nd) (L : List SP) (r : PR Fo) (e : Ending) (w' : World) : Prop :=
  (∃ x k', r = .ok x k' ∧ k' ≤ l.length ∧ e = .returned (.tuple #[]) ∧ ∃ A2 c2 qs, qs.length ≤ m + l.length + 1 ∧ Own g (PT g pb A c l k' nv (bk xb 151 (ndc d A2 qs.length c2) :: Rw 131 ptrc 1 A2 c2 qs :: PFo x qs :: L)) w') ∨ (∃ q, r = .er q ∧ e = .panicked (pw q) ∧ ∃ k', Own g (PT g pb A c l k' nv L) w')
def fnOf : NT → Nat
  | .row _ => 213
  | .unary => 230
  | .post => 236
  | .prim => 237
  | .block => 189
  | .stmt => 214
  | .branch => 231
def agOf (pb : Nat) : NT → Array Value
  | .row r => #[.pointer (some ⟨pb, 0, none⟩), .int .i64 r]
  | _ => #[.pointer (some ⟨pb, 0, none⟩)]
def NOk : NT → Prop
  | .row r => r ≤ 5
  | _ => True
def RC (g : World) (pb : Nat) (A : Option Addr) (c : Nat) (l : List Tk) (nv : Value) (rec : NT → Nat → PR Tr) : Prop := ∀ t, NOk t → ∀ k w L, Own g (PT g pb A c l k nv L) w → k ≤ l.length → rec t k ≠ .fu → Calls Pg (fnOf t) (agOf pb t) w (PO g pb A c l nv L (rec t k))
section
variable {g w : World} [Glo g] {L : List SP} {pb c k : Nat} {A : Option Addr} {l : List Tk} {nv : Value}
theorem rec_row {rec : NT → Nat → PR Tr} (R : RC g pb A c l nv rec) (r : Nat) {n : Int} (hn : n = (r : Int)) (hr : r ≤ 5) (H : Own g (PT g pb A c l k nv L) w) (hk : k ≤ l.length) (hf : rec (.row r) k ≠ .fu) : Calls Pg 213 #[.pointer (some ⟨pb, 0, none⟩), .int .i64 n] w (PO g pb A c l nv L (rec (.row r) k)) := by
  subst hn
  exact R (.row r) hr k w L H hk hf
theorem rec_unary {rec : NT → Nat → PR Tr} (R : RC g pb A c l nv rec) (H : Own g (PT g pb A c l k nv L) w) (hk : k ≤ l.length) (hf : rec .unary k ≠ .fu) : Calls Pg 230 #[.pointer (some ⟨pb, 0, none⟩)] w (PO g pb A c l nv L (rec .unary k)) := R .unary trivial k w L H hk hf
theorem rec_post {rec : NT → Nat → PR Tr} (R : RC g pb A c l nv rec) (H : Own g (PT g pb A c l k nv L) w) (hk : k ≤ l.length) (hf : rec .post k ≠ .fu) : Calls Pg 236 #[.pointer (some ⟨pb, 0, none⟩)] w (PO g pb A c l nv L (rec .post k)) := R .post trivial k w L H hk hf
theorem rec_prim {rec : NT → Nat → PR Tr} (R : RC g pb A c l nv rec) (H : Own g (PT g pb A c l k nv L) w) (hk : k ≤ l.length) (hf : rec .prim k ≠ .fu) : Calls Pg 237 #[.pointer (some ⟨pb, 0, none⟩)] w (PO g pb A c l nv L (rec .prim k)) := R .prim trivial k w L H hk hf
theorem rec_block {rec : NT → Nat → PR Tr} (R : RC g pb A c l nv rec) (H : Own g (PT g pb A c l k nv L) w) (hk : k ≤ l.length) (hf : rec .block k ≠ .fu) : Calls Pg 189 #[.pointer (some ⟨pb, 0, none⟩)] w (PO g pb A c l nv L (rec .block k)) := R .block trivial k w L H hk hf
theorem rec_stmt {rec : NT → Nat → PR Tr} (R : RC g pb A c l nv rec) (H : Own g (PT g pb A c l k nv L) w) (hk : k ≤ l.length) (hf : rec .stmt k ≠ .fu) : Calls Pg 214 #[.pointer (some ⟨pb, 0, none⟩)] w (PO g pb A c l nv L (rec .stmt k)) := R .stmt trivial k w L H hk hf
theorem rec_branch {rec : NT → Nat → PR Tr} (R : RC g pb A c l nv rec) (H : Own g (PT g pb A c l k nv L) w) (hk : k ≤ l.length) (hf : rec .branch k ≠ .fu) : Calls Pg 231 #[.pointer (some ⟨pb, 0, none⟩)] w (PO g pb A c l nv L (rec .branch k)) := R .branch trivial k w L H hk hf
theorem expr_c {rec : NT → Nat → PR Tr} (R : RC g pb A c l nv rec)  (H : Own g (PT g pb A c l k nv L) w) (hl : TkOk l) (hk : k ≤ l.length) (hf : rec (.row 0) k ≠ .fu) : Calls Pg 185 #[.pointer (some ⟨pb, 0, none⟩)] w (PO g pb A c l nv L (rec (.row 0) k)) := by
  refine calls_cw (vs := [_]) Tryz.func185 rfl rfl rfl ?_
  refine cw_seq ?_
  refine cw_region rfl ?_
  refine st H (asg rfl) ?_
  refine wl_nil ?_
  refine cw_seq ?_
  refine cw_region rfl ?_
  refine st H (mv rfl) ?_
  refine st_call cf213 rfl (rec_row R 0 rfl (by omega) ((H.fr 1 rfl).fr 1 rfl) hk hf) ?_
  rintro e w2 hpH1
  rcases hpH1 with ⟨x1, k1, hs1, hk1, b1_, rfl, H1⟩ | ⟨q1, hs1, rfl, kq1, H1⟩
  · refine st H1 (asg rfl) ?_
    refine wl_nil ?_
    refine cw_ret ?_
    refine ret1 rfl rfl ?_
    exact Or.inl ⟨_, _, hs1, by omega, _, rfl, (((H1.fr 2 rfl).fr 2 rfl).fr 2 rfl)⟩
  · exact Or.inr ⟨q1, by simp [hs1], rfl, _, ((H1.fr 1 rfl).fr 1 rfl)⟩
theorem list_c {f0 xb c1 : Nat} {A1 : Option Addr} {one : Nat → PR Tr} {d : Nd} {x : Fo} {ps : List Nat} (hone : One g pb A c l nv f0 one) (hcf : CF Pg f0) (H : Own g (PT g pb A c l k nv (bk xb 151 (ndc d A1 ps.length c1) :: Rw 131 ptrc 1 A1 c1 ps :: PFo x ps :: L)) w) (hl : TkOk l) (hk : k ≤ l.length) (hps : ps.length ≤ 4) (hf : listS l one (l.length + 1) k x ≠ .fu) : Calls Pg 162 #[.pointer (some ⟨pb, 0, none⟩), .pointer (some ⟨xb, 0, none⟩), .func (.func f0) #[.pointer (some ⟨pb, 0, none⟩)] #[]] w (PF g pb A c l nv xb ps.length d L (listS l one (l.length + 1) k x)) := by
  refine calls_cw (vs := [_, _, _]) Tryz.func162 rfl rfl rfl ?_
  have hl1 := hl.1
  refine cw_seq ?_
  refine cw_block ?_
  refine cw_loop (σ := Nat) (fun s => [(0, .pointer (some ⟨pb, 0, none⟩)), (1, .pointer (some ⟨xb, 0, none⟩)), (2, .func (.func f0) #[.pointer (some ⟨pb, 0, none⟩)] #[])]) (fun s w => ∃ k' y qs A2 c2, Own g (PT g pb A c l k' nv (bk xb 151 (ndc d A2 qs.length c2) :: Rw 131 ptrc 1 A2 c2 qs :: PFo y qs :: L)) w ∧ k' ≤ l.length ∧ qs.length + s ≤ ps.length + l.length + 1 ∧ listS l one (l.length + 1) k x = listS l one s k' y) (fun s => s) (l.length + 1) ⟨rfl, rfl, rfl, trivial⟩ ⟨_, _, _, _, _, (((((H.fr 4 rfl).fr 4 rfl).fr 4 rfl).fr 4 rfl).fr 4 rfl), by omega, by omega, rfl⟩ ?_
  rintro s w2 ⟨k', y, qs, A2, c2, H1, hk', hq, hx⟩
  have hf2 := hf
  rw [hx] at hf2
  obtain ⟨f, rfl⟩ : ∃ j, s = j + 1 := by
    cases s with
    | zero => exact absurd rfl hf2
    | succ j => exact ⟨j, rfl⟩
  refine cw_seq ?_
  refine cw_seq ?_
  refine cw_region rfl ?_
  refine st H1 (mv rfl) ?_
  refine st_call cf124 rfl (is_c _ ((H1.fr 1 rfl).fr 1 rfl) hl (by omega)) ?_
  rintro _ w4 ⟨rfl, H3⟩
  refine st H3 (notb rfl) ?_
  refine wl_nil ?_
  refine cw_cond rfl (fun hb5 => ?_) (fun hb5 => ?_)
  · have hp5 := hb5
    try simp at hp5
    refine cw_skip ?_
    refine cw_block ?_
    refine cw_seq ?_
    refine cw_sched (Keep _ [_]) 11 (.q 0 (.q 1 (.q 2 (.q 3 (.q 4 (.q 5 (.a 6 (.a 7 (.a 8 (.a 9 (.q 10 (.a 11 .e)))))))))))) hm H3 (fun w h => ⟨_, (h.fr 2 rfl)⟩) (by kernel_rfl) (by kernel_rfl) rfl (fun w7 H6 => ?_)
    refine sw rfl rfl (mv rfl) ?_
    refine sw rfl rfl (mv rfl) ?_
    refine sw rfl rfl (nck rfl) ?_
    refine sw rfl rfl (fa fo151_1 rfl) ?_
    refine sw rfl rfl (ks fun L' => ld sc149 0 rfl rfl rfl) ?_
    refine sw rfl rfl (mv rfl) ?_
    refine sa rfl rfl ?_
    refine st_callv rfl hcf rfl rfl (hone _ _ _ ((H6.fr 1 rfl).fr 1 rfl) (by omega) (fun hz => hf2 (by simp [listS, hp5, hz]))) ?_
    rintro e w9 hpH8
    rcases hpH8 with ⟨x2, k2, hs2, hk2, b2_, rfl, H8⟩ | ⟨q2, hs2, rfl, kq2, H8⟩
    · refine wl_nil ⟨.inr ⟨_, (H8.fr 3 rfl)⟩, ?_⟩
      refine sa rfl rfl ?_
      refine st_bs H8 sl149 zc131 rfl rfl rfl rfl rfl fun b12 w11 H10 => ?_
      refine wl_nil ⟨.inr ⟨_, (H10.fr 4 rfl)⟩, ?_⟩
      refine sa rfl rfl ?_
      refine st_app 5 0 ([b2_]) H10 sl149 zc131 rfl rfl rfl rfl rfl rfl rfl rfl (by intro y hy; simp at hy; subst hy; exact ⟨rfl, rfl⟩) (by first | omega | (simp; omega)) (by first | omega | (simp; omega)) fun A15 c16 w14 H13 => ?_
      refine wl_nil ⟨.inr ⟨_, (H13.fr 5 rfl)⟩, ?_⟩
      refine sa rfl rfl ?_
      refine st H13 (nck rfl) ?_
      refine wl_nil ⟨.inr ⟨_, (H13.fr 5 rfl)⟩, ?_⟩
      refine sw rfl rfl (fa fo151_1 rfl) ?_
      refine sa rfl rfl ?_
      refine st_st 5 H13 rfl rfl rfl sz149 rfl rfl rfl rfl fun w18 H17 => ?_
      refine wl_nil ⟨.inl rfl, ?_⟩
      refine ws_nil ?_
      refine cw_seq ?_
      refine cw_seq ?_
      have HS3 := ((H17.fr 5 rfl).fr 6 rfl).pfo_app
      refine cw_region rfl ?_
      refine st HS3 (mv rfl) ?_
      refine st_call cf124 rfl (is_c _ ((HS3.fr 5 rfl).fr 5 rfl) hl (by omega)) ?_
      rintro _ w20 ⟨rfl, H19⟩
      refine wl_nil ?_
      refine cw_cond rfl (fun hb21 => ?_) (fun hb21 => ?_)
      · have hp21 := hb21
        try simp at hp21
        refine cw_exit ?_
        refine cw_region rfl ?_
        refine st H19 (mv rfl) ?_
        refine st_call cf120 rfl (need_c _ ((H19.fr 1 rfl).fr 1 rfl) hl (by omega)) ?_
        rintro e w23 hpH22
        rcases hpH22 with ⟨x4, k4, hs4, hk4, rfl, H22⟩ | ⟨q4, hs4, rfl, kq4, H22⟩
        · refine wl_nil ?_
          refine end0 rfl ?_
          exact Or.inl ⟨_, _, by rw [hx]; simp [listS, hp5, hs2, hp21, hs4], by omega, rfl, _, _, _, by first | omega | (simp; omega), ((((((H22.fr 2 rfl).fr 4 rfl).fr 4 rfl).fr 4 rfl).fr 4 rfl).er 5)⟩
        · exact Or.inr ⟨q4, by rw [hx]; simp [listS, hp5, hs2, hp21, hs4], rfl, _, ((((((H22.fr 1 rfl).fr 1 rfl).er 2).er 2).er 2).er 2)⟩
      · have hp21 := hb21
        try simp at hp21
        refine cw_skip ?_
        refine cw_region rfl ?_
        refine st H19 (mv rfl) ?_
        refine st_call cf123 rfl (closed_c ((H19.fr 1 rfl).fr 1 rfl) hl (by omega)) ?_
        rintro e w25 hpH24
        rcases hpH24 with ⟨x5, k5, hs5, hk5, rfl, H24⟩ | ⟨q5, hs5, rfl, kq5, H24⟩
        · refine wl_nil ?_
          exact ⟨f, ⟨rfl, rfl, rfl, trivial⟩, ⟨_, _, _, _, _, ((((((H24.fr 2 rfl).fr 4 rfl).fr 4 rfl).fr 4 rfl).fr 4 rfl).er 5), by omega, by first | omega | (simp; omega), by rw [hx]; simp [listS, hp5, hs2, hp21, hs5]⟩, by omega⟩
        · exact Or.inr ⟨q5, by rw [hx]; simp [listS, hp5, hs2, hp21, hs5], rfl, _, ((((((H24.fr 1 rfl).fr 1 rfl).er 2).er 2).er 2).er 2)⟩
    · exact Or.inr ⟨q2, by rw [hx]; simp [listS, hp5, hs2], rfl, _, (((((H8.fr 1 rfl).fr 1 rfl).er 2).er 2).er 2)⟩
  · have hp5 := hb5
    try simp at hp5
    refine cw_exit ?_
    refine cw_region rfl ?_
    refine st H3 (mv rfl) ?_
    refine st_call cf120 rfl (need_c _ ((H3.fr 1 rfl).fr 1 rfl) hl (by omega)) ?_
    rintro e w27 hpH26
    rcases hpH26 with ⟨x6, k6, hs6, hk6, rfl, H26⟩ | ⟨q6, hs6, rfl, kq6, H26⟩
    · refine wl_nil ?_
      refine end0 rfl ?_
      exact Or.inl ⟨_, _, by rw [hx]; simp [listS, hp5, hs6], by omega, rfl, _, _, _, by first | omega | (simp; omega), (((((H26.fr 4 rfl).fr 4 rfl).fr 4 rfl).fr 4 rfl).fr 4 rfl)⟩
    · exact Or.inr ⟨q6, by rw [hx]; simp [listS, hp5, hs6], rfl, _, (((((H26.fr 1 rfl).fr 1 rfl).er 2).er 2).er 2)⟩
theorem commas_c {f0 xb c1 : Nat} {A1 : Option Addr} {one : Nat → PR Tr} {d : Nd} {x : Fo} {ps : List Nat} (hone : One g pb A c l nv f0 one) (hcf : CF Pg f0) (H : Own g (PT g pb A c l k nv (bk xb 151 (ndc d A1 ps.length c1) :: Rw 131 ptrc 1 A1 c1 ps :: PFo x ps :: L)) w) (hl : TkOk l) (hk : k ≤ l.length) (hps : ps.length ≤ 4) (hf : commasS l one (l.length + 1) k x ≠ .fu) : Calls Pg 187 #[.pointer (some ⟨pb, 0, none⟩), .pointer (some ⟨xb, 0, none⟩), .func (.func f0) #[.pointer (some ⟨pb, 0, none⟩)] #[]] w (PF g pb A c l nv xb ps.length d L (commasS l one (l.length + 1) k x)) := by
  refine calls_cw (vs := [_, _, _]) Tryz.func187 rfl rfl rfl ?_
  have hl1 := hl.1
  refine cw_seq ?_
  refine cw_seq ?_
  refine cw_region rfl ?_
  refine st H (mv rfl) ?_
  refine st_call cf124 rfl (is_c _ ((H.fr 1 rfl).fr 1 rfl) hl (by omega)) ?_
  rintro _ w2 ⟨rfl, H1⟩
  refine st H1 (notb rfl) ?_
  refine wl_nil ?_
  refine cw_cond rfl (fun hb3 => ?_) (fun hb3 => ?_)
  · have hp3 := hb3
    try simp at hp3
    refine cw_seq ?_
    refine cw_sched (Keep _ [_]) 11 (.q 0 (.q 1 (.q 2 (.q 3 (.q 4 (.q 5 (.a 6 (.a 7 (.a 8 (.a 9 (.q 10 (.a 11 .e)))))))))))) hm H1 (fun w h => ⟨_, (h.fr 2 rfl)⟩) (by kernel_rfl) (by kernel_rfl) rfl (fun w5 H4 => ?_)
    refine sw rfl rfl (mv rfl) ?_
    refine sw rfl rfl (mv rfl) ?_
    refine sw rfl rfl (nck rfl) ?_
    refine sw rfl rfl (fa fo151_1 rfl) ?_
    refine sw rfl rfl (ks fun L' => ld sc149 0 rfl rfl rfl) ?_
    refine sw rfl rfl (mv rfl) ?_
    refine sa rfl rfl ?_
    refine st_callv rfl hcf rfl rfl (hone _ _ _ ((H4.fr 1 rfl).fr 1 rfl) (by omega) (fun hz => hf (by simp [commasS, hp3, hz]))) ?_
    rintro e w7 hpH6
    rcases hpH6 with ⟨x7, k7, hs7, hk7, b7_, rfl, H6⟩ | ⟨q7, hs7, rfl, kq7, H6⟩
    · refine wl_nil ⟨.inr ⟨_, (H6.fr 3 rfl)⟩, ?_⟩
      refine sa rfl rfl ?_
      refine st_bs H6 sl149 zc131 rfl rfl rfl rfl rfl fun b10 w9 H8 => ?_
      refine wl_nil ⟨.inr ⟨_, (H8.fr 4 rfl)⟩, ?_⟩
      refine sa rfl rfl ?_
      refine st_app 5 0 ([b7_]) H8 sl149 zc131 rfl rfl rfl rfl rfl rfl rfl rfl (by intro y hy; simp at hy; subst hy; exact ⟨rfl, rfl⟩) (by first | omega | (simp <;> omega)) (by first | omega | (simp <;> omega)) fun A13 c14 w12 H11 => ?_
      refine wl_nil ⟨.inr ⟨_, (H11.fr 5 rfl)⟩, ?_⟩
      refine sa rfl rfl ?_
      refine st H11 (nck rfl) ?_
      refine wl_nil ⟨.inr ⟨_, (H11.fr 5 rfl)⟩, ?_⟩
      refine sw rfl rfl (fa fo151_1 rfl) ?_
      refine sa rfl rfl ?_
      refine st_st 5 H11 rfl rfl rfl sz149 rfl rfl rfl rfl fun w16 H15 => ?_
      refine wl_nil ⟨.inl rfl, ?_⟩
      refine ws_nil ?_
      refine cw_block ?_
      have HS8 := ((H15.fr 5 rfl).fr 6 rfl).pfo_app
      have e1 : commasS l one (l.length + 1) k x = commasF l one (l.length + 1) k7 (x.app (.one x7)) := by simp [commasS, hp3, hs7]
      have hf1 := hf
      rw [e1] at hf1
      refine cw_loop (σ := Nat) (fun s => [(0, .pointer (some ⟨pb, 0, none⟩)), (1, .pointer (some ⟨xb, 0, none⟩)), (2, .func (.func f0) #[.pointer (some ⟨pb, 0, none⟩)] #[])]) (fun s w => ∃ k' y qs A2 c2, Own g (PT g pb A c l k' nv (bk xb 151 (ndc d A2 qs.length c2) :: Rw 131 ptrc 1 A2 c2 qs :: PFo y qs :: L)) w ∧ k' ≤ l.length ∧ qs.length + s ≤ ps.length + l.length + 2 ∧ commasF l one (l.length + 1) k7 (x.app (.one x7)) = commasF l one s k' y) (fun s => s) (l.length + 1) ⟨rfl, rfl, rfl, trivial⟩ ⟨_, _, _, _, _, (((((HS8.fr 2 rfl).fr 2 rfl).fr 5 rfl).fr 5 rfl).er 5), by omega, by first | omega | (simp; omega), rfl⟩ ?_
      rintro s w18 ⟨k', y, qs, A2, c2, H17, hk', hq, hx⟩
      have hf2 := hf1
      rw [hx] at hf2
      obtain ⟨f, rfl⟩ : ∃ j, s = j + 1 := by
        cases s with
        | zero => exact absurd rfl hf2
        | succ j => exact ⟨j, rfl⟩
      refine cw_seq ?_
      refine cw_seq ?_
      refine cw_region rfl ?_
      refine st H17 (mv rfl) ?_
      refine st_call cf124 rfl (is_c _ ((H17.fr 1 rfl).fr 1 rfl) hl (by omega)) ?_
      rintro _ w20 ⟨rfl, H19⟩
      refine wl_nil ?_
      refine cw_cond rfl (fun hb21 => ?_) (fun hb21 => ?_)
      · have hp21 := hb21
        try simp at hp21
        have hlt := isB_lt hk' hp21
        refine cw_skip ?_
        refine cw_block ?_
        refine cw_seq ?_
        refine cw_region rfl ?_
        refine st H19 (mv rfl) ?_
        refine st_call cf125 rfl (take_c ((H19.fr 1 rfl).fr 1 rfl) hl (by omega)) ?_
        rintro _ w23 ⟨rfl, H22⟩
        refine wl_nil ?_
        refine cw_sched (Keep _ [_]) 11 (.q 0 (.q 1 (.q 2 (.q 3 (.q 4 (.q 5 (.a 6 (.a 7 (.a 8 (.a 9 (.q 10 (.a 11 .e)))))))))))) hm H22 (fun w h => ⟨_, (h.fr 2 rfl)⟩) (by kernel_rfl) (by kernel_rfl) rfl (fun w25 H24 => ?_)
        refine sw rfl rfl (mv rfl) ?_
        refine sw rfl rfl (mv rfl) ?_
        refine sw rfl rfl (nck rfl) ?_
        refine sw rfl rfl (fa fo151_1 rfl) ?_
        refine sw rfl rfl (ks fun L' => ld sc149 0 rfl rfl rfl) ?_
        refine sw rfl rfl (mv rfl) ?_
        refine sa rfl rfl ?_
        refine st_callv rfl hcf rfl rfl (hone _ _ _ ((H24.fr 1 rfl).fr 1 rfl) (by omega) (fun hz => hf2 (by simp [commasF, hp3, hs7, hp21, hz]))) ?_
        rintro e w27 hpH26
        rcases hpH26 with ⟨x9, k9, hs9, hk9, b9_, rfl, H26⟩ | ⟨q9, hs9, rfl, kq9, H26⟩
        · refine wl_nil ⟨.inr ⟨_, (H26.fr 3 rfl)⟩, ?_⟩
          refine sa rfl rfl ?_
          refine st_bs H26 sl149 zc131 rfl rfl rfl rfl rfl fun b30 w29 H28 => ?_
          refine wl_nil ⟨.inr ⟨_, (H28.fr 4 rfl)⟩, ?_⟩
          refine sa rfl rfl ?_
          refine st_app 5 0 ([b9_]) H28 sl149 zc131 rfl rfl rfl rfl rfl rfl rfl rfl (by intro y hy; simp at hy; subst hy; exact ⟨rfl, rfl⟩) (by first | omega | (simp <;> omega)) (by first | omega | (simp <;> omega)) fun A33 c34 w32 H31 => ?_
          refine wl_nil ⟨.inr ⟨_, (H31.fr 5 rfl)⟩, ?_⟩
          refine sa rfl rfl ?_
          refine st H31 (nck rfl) ?_
          refine wl_nil ⟨.inr ⟨_, (H31.fr 5 rfl)⟩, ?_⟩
          refine sw rfl rfl (fa fo151_1 rfl) ?_
          refine sa rfl rfl ?_
          refine st_st 5 H31 rfl rfl rfl sz149 rfl rfl rfl rfl fun w36 H35 => ?_
          refine wl_nil ⟨.inl rfl, ?_⟩
          refine ws_nil ?_
          have HS10 := ((H35.fr 5 rfl).fr 6 rfl).pfo_app
          exact ⟨f, ⟨rfl, rfl, rfl, trivial⟩, ⟨_, _, _, _, _, (((((HS10.fr 2 rfl).fr 2 rfl).fr 5 rfl).fr 5 rfl).er 5), by omega, by first | omega | (simp; omega), by rw [hx]; simp [commasF, hp3, hs7, hp21, hs9]⟩, by omega⟩
        · exact Or.inr ⟨q9, by rw [e1, hx]; simp [commasF, hp3, hs7, hp21, hs9], rfl, _, (((((H26.fr 1 rfl).fr 1 rfl).er 2).er 2).er 2)⟩
      · have hp21 := hb21
        try simp at hp21
        refine cw_exit ?_
        refine cw_region rfl ?_
        refine st H19 (mv rfl) ?_
        refine st_call cf120 rfl (need_c _ ((H19.fr 1 rfl).fr 1 rfl) hl (by omega)) ?_
        rintro e w38 hpH37
        rcases hpH37 with ⟨x11, k11, hs11, hk11, rfl, H37⟩ | ⟨q11, hs11, rfl, kq11, H37⟩
        · refine wl_nil ?_
          refine end0 rfl ?_
          exact Or.inl ⟨_, _, by rw [e1, hx]; simp [commasF, hp3, hs7, hp21, hs11], by omega, rfl, _, _, _, by first | omega | (simp; omega), (((((H37.fr 4 rfl).fr 4 rfl).fr 4 rfl).fr 4 rfl).fr 4 rfl)⟩
        · exact Or.inr ⟨q11, by rw [e1, hx]; simp [commasF, hp3, hs7, hp21, hs11], rfl, _, (((((H37.fr 1 rfl).fr 1 rfl).er 2).er 2).er 2)⟩
    · exact Or.inr ⟨q7, by simp [commasS, hp3, hs7], rfl, _, (((((H6.fr 1 rfl).fr 1 rfl).er 2).er 2).er 2)⟩
  · have hp3 := hb3
    try simp at hp3
    refine cw_skip ?_
    refine cw_region rfl ?_
    refine st H1 (mv rfl) ?_
    refine st_call cf120 rfl (need_c _ ((H1.fr 1 rfl).fr 1 rfl) hl (by omega)) ?_
    rintro e w40 hpH39
    rcases hpH39 with ⟨x12, k12, hs12, hk12, rfl, H39⟩ | ⟨q12, hs12, rfl, kq12, H39⟩
    · refine wl_nil ?_
      refine end0 rfl ?_
      exact Or.inl ⟨_, _, by simp [commasS, hp3, hs12], by omega, rfl, _, _, _, by first | omega | (simp; omega), (((((H39.fr 4 rfl).fr 4 rfl).fr 4 rfl).fr 4 rfl).fr 4 rfl)⟩
    · exact Or.inr ⟨q12, by simp [commasS, hp3, hs12], rfl, _, (((((H39.fr 1 rfl).fr 1 rfl).er 2).er 2).er 2)⟩
theorem one_expr {rec : NT → Nat → PR Tr} (R : RC g pb A c l nv rec) (hl : TkOk l) : One g pb A c l nv 185 (rec (.row 0)) := fun _ _ _ H hk hf => expr_c R H hl hk hf
theorem one_stmt {rec : NT → Nat → PR Tr} (R : RC g pb A c l nv rec) : One g pb A c l nv 214 (rec .stmt) := fun _ _ _ H hk hf => rec_stmt R H hk hf
theorem one_field (hl : TkOk l) : One g pb A c l nv 163 (typedS l 6) := fun _ _ _ H hk _ => field_c H hl hk
theorem one_param (hl : TkOk l) : One g pb A c l nv 188 (typedS l 9) := fun _ _ _ H hk _ => param_c H hl hk
theorem variable_c {rec : NT → Nat → PR Tr} (R : RC g pb A c l nv rec)  (H : Own g (PT g pb A c l k nv L) w) (hl : TkOk l) (hk : k < l.length) (hf : variableS l (rec (.row 0)) k ≠ .fu) : Calls Pg 161 #[.pointer (some ⟨pb, 0, none⟩)] w (PO g pb A c l nv L (variableS l (rec (.row 0)) k)) := by
  refine calls_cw (vs := [_]) Tryz.func161 rfl rfl rfl ?_
  refine cw_seq ?_
  refine cw_region rfl ?_
  refine st H (asg rfl) ?_
  refine wl_nil ?_
  refine cw_seq ?_
  refine cw_region rfl ?_
  refine st H (mv rfl) ?_
  refine st_call cf159 rfl (worded_c _ ((H.fr 1 rfl).fr 1 rfl) hl (by omega)) ?_
  rintro e w2 hpH1
  rcases hpH1 with ⟨x13, k13, hs13, hk13, b13_, rfl, H1⟩ | ⟨q13, hs13, rfl, kq13, H1⟩
  · refine st H1 (asg rfl) ?_
    refine wl_nil ?_
    refine cw_seq ?_
    refine cw_sched (Keep _ [_]) 11 (.q 0 (.q 1 (.q 2 (.q 3 (.q 4 (.q 5 (.a 6 (.a 7 (.a 8 (.a 9 (.q 10 (.a 11 .e)))))))))))) hm H1 (fun w h => ⟨_, (h.fr 2 rfl)⟩) (by kernel_rfl) (by kernel_rfl) rfl (fun w4 H3 => ?_)
    refine sw rfl rfl (mv rfl) ?_
    refine sw rfl rfl (mv rfl) ?_
    refine sw rfl rfl (nck rfl) ?_
    refine sw rfl rfl (fa fo151_1 rfl) ?_
    refine sw rfl rfl (ks fun L' => ld sc149 0 rfl rfl rfl) ?_
    refine sw rfl rfl (mv rfl) ?_
    refine sa rfl rfl ?_
    refine st_call cf184 rfl (kindOf_c ((H3.fr 1 rfl).fr 1 rfl) hl (by omega)) ?_
    rintro e w6 hpH5
    rcases hpH5 with ⟨x14, k14, hs14, hk14, b14_, rfl, H5⟩ | ⟨q14, hs14, rfl, kq14, H5⟩
    · refine wl_nil ⟨.inr ⟨_, (H5.fr 3 rfl)⟩, ?_⟩
      refine sa rfl rfl ?_
      refine st_bs H5 sl149 zc131 rfl rfl rfl rfl rfl fun b9 w8 H7 => ?_
      refine wl_nil ⟨.inr ⟨_, (H7.fr 4 rfl)⟩, ?_⟩
      refine sa rfl rfl ?_
      refine st_app 5 0 ([b14_]) H7 sl149 zc131 rfl rfl rfl rfl rfl rfl rfl rfl (by intro y hy; simp at hy; subst hy; exact ⟨rfl, rfl⟩) (by first | omega | (simp <;> omega)) (by first | omega | (simp <;> omega)) fun A12 c13 w11 H10 => ?_
      refine wl_nil ⟨.inr ⟨_, (H10.fr 5 rfl)⟩, ?_⟩
      refine sa rfl rfl ?_
      refine st H10 (nck rfl) ?_
      refine wl_nil ⟨.inr ⟨_, (H10.fr 5 rfl)⟩, ?_⟩
      refine sw rfl rfl (fa fo151_1 rfl) ?_
      refine sa rfl rfl ?_
      refine st_st 5 H10 rfl rfl rfl sz149 rfl rfl rfl rfl fun w15 H14 => ?_
      refine wl_nil ⟨.inl rfl, ?_⟩
      refine ws_nil ?_
      refine cw_seq ?_
      refine cw_seq ?_
      have HS15 := ((H14.fr 5 rfl).fr 6 rfl).pfo_app
      refine cw_region rfl ?_
      refine st HS15 (mv rfl) ?_
      refine st_call cf124 rfl (is_c _ ((HS15.fr 5 rfl).fr 5 rfl) hl (by omega)) ?_
      rintro _ w17 ⟨rfl, H16⟩
      refine wl_nil ?_
      refine cw_cond rfl (fun hb18 => ?_) (fun hb18 => ?_)
      · have hp18 := hb18
        try simp at hp18
        have hlt := isB_lt (by omega) hp18
        refine cw_seq ?_
        refine cw_region rfl ?_
        refine st H16 (mv rfl) ?_
        refine st_call cf125 rfl (take_c ((H16.fr 1 rfl).fr 1 rfl) hl (by omega)) ?_
        rintro _ w20 ⟨rfl, H19⟩
        refine wl_nil ?_
        refine cw_sched (Keep _ [_]) 11 (.q 0 (.q 1 (.q 2 (.q 3 (.q 4 (.q 5 (.a 6 (.a 7 (.a 8 (.a 9 (.q 10 (.a 11 .e)))))))))))) hm H19 (fun w h => ⟨_, (h.fr 3 rfl)⟩) (by kernel_rfl) (by kernel_rfl) rfl (fun w22 H21 => ?_)
        refine sw rfl rfl (mv rfl) ?_
        refine sw rfl rfl (mv rfl) ?_
        refine sw rfl rfl (nck rfl) ?_
        refine sw rfl rfl (fa fo151_1 rfl) ?_
        refine sw rfl rfl (ks fun L' => ld sc149 0 rfl rfl rfl) ?_
        refine sw rfl rfl (mv rfl) ?_
        refine sa rfl rfl ?_
        refine st_call cf185 rfl (expr_c R ((H21.fr 1 rfl).fr 1 rfl) hl (by omega) (fun hz => hf (by simp [variableS, hs13, hs14, hp18, hz]))) ?_
        rintro e w24 hpH23
        rcases hpH23 with ⟨x16, k16, hs16, hk16, b16_, rfl, H23⟩ | ⟨q16, hs16, rfl, kq16, H23⟩
        · refine wl_nil ⟨.inr ⟨_, (H23.fr 4 rfl)⟩, ?_⟩
          refine sa rfl rfl ?_
          refine st_bs H23 sl149 zc131 rfl rfl rfl rfl rfl fun b27 w26 H25 => ?_
          refine wl_nil ⟨.inr ⟨_, (H25.fr 5 rfl)⟩, ?_⟩
          refine sa rfl rfl ?_
          refine st_app 6 0 ([b16_]) H25 sl149 zc131 rfl rfl rfl rfl rfl rfl rfl rfl (by intro y hy; simp at hy; subst hy; exact ⟨rfl, rfl⟩) (by first | omega | (simp <;> omega)) (by first | omega | (simp <;> omega)) fun A30 c31 w29 H28 => ?_
          refine wl_nil ⟨.inr ⟨_, (H28.fr 6 rfl)⟩, ?_⟩
          refine sa rfl rfl ?_
          refine st H28 (nck rfl) ?_
          refine wl_nil ⟨.inr ⟨_, (H28.fr 6 rfl)⟩, ?_⟩
          refine sw rfl rfl (fa fo151_1 rfl) ?_
          refine sa rfl rfl ?_
          refine st_st 6 H28 rfl rfl rfl sz149 rfl rfl rfl rfl fun w33 H32 => ?_
          refine wl_nil ⟨.inl rfl, ?_⟩
          refine ws_nil ?_
          refine cw_seq ?_
          have HS17 := ((H32.fr 5 rfl).fr 6 rfl).pfo_app
          refine cw_region rfl ?_
          refine st HS17 (mv rfl) ?_
          refine st HS17 (mv rfl) ?_
          refine st_call cf128 rfl (done_c (((HS17.fr 1 rfl).fr 5 rfl).fr 5 rfl) hl (by omega)) ?_
          rintro _ w35 ⟨rfl, H34⟩
          refine st H34 (asg rfl) ?_
          refine wl_nil ?_
          refine cw_ret ?_
          refine ret1 rfl rfl ?_
          have HT18 := Own.tr (doneN l k16 x13) (((Fo.nil).app (.one x14)).app (.one x16)) (((H34.fr 3 rfl).fr 4 rfl).fr 4 rfl) rfl
          exact Or.inl ⟨_, _, by simp [variableS, hs13, hs14, hp18, hs16, Fo.app, Fo.one], by omega, _, rfl, ((((HT18.fr 2 rfl).fr 2 rfl).er 3).er 3)⟩
        · exact Or.inr ⟨q16, by simp [variableS, hs13, hs14, hp18, hs16], rfl, _, ((((((H23.fr 1 rfl).fr 1 rfl).er 2).er 2).er 2).er 2)⟩
      · have hp18 := hb18
        try simp at hp18
        refine cw_skip ?_
        refine cw_seq ?_
        refine cw_region rfl ?_
        refine st H16 (mv rfl) ?_
        refine st H16 (mv rfl) ?_
        refine st_call cf128 rfl (done_c (((H16.fr 3 rfl).fr 2 rfl).fr 2 rfl) hl (by omega)) ?_
        rintro _ w37 ⟨rfl, H36⟩
        refine st H36 (asg rfl) ?_
        refine wl_nil ?_
        refine cw_ret ?_
        refine ret1 rfl rfl ?_
        have HT19 := Own.tr (doneN l k14 x13) ((Fo.nil).app (.one x14)) (((H36.fr 3 rfl).fr 4 rfl).fr 4 rfl) rfl
        exact Or.inl ⟨_, _, by simp [variableS, hs13, hs14, hp18, Fo.app, Fo.one], by omega, _, rfl, (((HT19.fr 2 rfl).fr 2 rfl).er 3)⟩
    · exact Or.inr ⟨q14, by simp [variableS, hs13, hs14], rfl, _, (((((H5.fr 1 rfl).fr 1 rfl).er 2).er 2).er 2)⟩
  · exact Or.inr ⟨q13, by simp [variableS, hs13], rfl, _, ((H1.fr 1 rfl).fr 1 rfl)⟩
theorem unary_c {rec : NT → Nat → PR Tr} (R : RC g pb A c l nv rec)  (H : Own g (PT g pb A c l k nv L) w) (hl : TkOk l) (hk : k ≤ l.length) (hf : stepS l rec .unary k ≠ .fu) : Calls Pg 230 #[.pointer (some ⟨pb, 0, none⟩)] w (PO g pb A c l nv L (stepS l rec .unary k)) := by
  refine calls_cw (vs := [_]) Tryz.func230 rfl rfl rfl ?_
  refine cw_seq ?_
  refine cw_region rfl ?_
  refine st H (asg rfl) ?_
  refine wl_nil ?_
  refine cw_seq ?_
  refine cw_seq ?_
  refine cw_region rfl ?_
  refine st H (mv rfl) ?_
  refine st_call cf124 rfl (is_c _ ((H.fr 1 rfl).fr 1 rfl) hl (by omega)) ?_
  rintro _ w2 ⟨rfl, H1⟩
  refine st H1 (mv rfl) ?_
  refine wl_case (t := 7) rfl (fun hg3 => ?_) (fun hg3 => ?_)
  · have hp3 := hg3
    try simp at hp3
    refine goff rfl rfl hg3 ?_
    refine goff rfl rfl hg3 ?_
    refine st H1 (pk_t rfl hg3 rfl) ?_
    refine wl_nil ?_
    refine cw_cond_t rfl rfl ?_
    have hlt : k < l.length := isB_lt hk (by assumption)
    refine cw_seq ?_
    refine cw_region rfl ?_
    refine st H1 (mv rfl) ?_
    refine st_call cf125 rfl (take_c ((H1.fr 1 rfl).fr 1 rfl) hl (by omega)) ?_
    rintro _ w5 ⟨rfl, H4⟩
    refine st_al H4 zc38 fun b8 w7 H6 => ?_
    refine st_st 0 H6 rfl rfl rfl sz38 rfl rfl rfl rfl fun w10 H9 => ?_
    refine wl_nil ?_
    refine cw_seq ?_
    refine cw_region rfl ?_
    refine st H9 (lda ag38 0 rfl rfl rfl rfl) ?_
    refine st H9 (fa fo38_1 rfl) ?_
    refine st H9 (ld sc9 0 rfl rfl rfl) ?_
    refine st_call cf122 rfl (begin_c _ (nxt l k) _ H9) ?_
    rintro _ w12 ⟨b20_, rfl, H11⟩
    refine st H11 (asg rfl) ?_
    refine wl_nil ?_
    refine cw_seq ?_
    refine cw_region rfl ?_
    refine st H11 (mv rfl) ?_
    refine st H11 (mv rfl) ?_
    refine st_call cf230 rfl (rec_unary R ((H11.fr 5 rfl).fr 5 rfl) (by omega) (fun hz => hf (by simp [stepS, hp3, hz]))) ?_
    rintro e w14 hpH13
    rcases hpH13 with ⟨x21, k21, hs21, hk21, b21_, rfl, H13⟩ | ⟨q21, hs21, rfl, kq21, H13⟩
    · refine st_bs H13 sl149 zc131 rfl rfl rfl rfl rfl fun b17 w16 H15 => ?_
      refine st H15 (nck rfl) ?_
      refine st H15 (fa fo151_1 rfl) ?_
      refine st_st 4 H15 rfl rfl rfl sz149 rfl rfl rfl rfl fun w19 H18 => ?_
      refine wl_nil ?_
      refine cw_seq ?_
      have HR22 := (H18.fr 1 rfl).row1
      refine cw_region rfl ?_
      refine st HR22 (mv rfl) ?_
      refine st HR22 (mv rfl) ?_
      refine st_call cf128 rfl (done_c (((HR22.fr 1 rfl).fr 3 rfl).fr 3 rfl) hl (by omega)) ?_
      rintro _ w21 ⟨rfl, H20⟩
      refine st H20 (asg rfl) ?_
      refine wl_nil ?_
      refine cw_ret ?_
      refine ret1 rfl rfl ?_
      have HT23 := Own.tr (doneN l k21 (begN 26 (nxt l k) (nxt l k).s)) (.one x21) (((H20.fr 4 rfl).fr 4 rfl).fr 4 rfl) rfl
      exact Or.inl ⟨_, _, by simp [stepS, hp3, hs21, Fo.app, Fo.one], by omega, _, rfl, (((((HT23.fr 2 rfl).fr 2 rfl).er 3).er 3).er 3)⟩
    · exact Or.inr ⟨q21, by simp [stepS, hp3, hs21], rfl, _, ((((((H13.fr 1 rfl).fr 1 rfl).er 2).er 2).er 2).er 2)⟩
  · have hp3 := hg3
    try simp at hp3
    refine gon rfl rfl hg3 ?_
    refine st H1 (mv rfl) ?_
    refine gon rfl rfl hg3 ?_
    refine st_call cf124 rfl (is_c _ ((H1.fr 1 rfl).fr 1 rfl) hl (by omega)) ?_
    rintro _ w23 ⟨rfl, H22⟩
    refine st H22 (pk_f rfl hg3 rfl) ?_
    refine wl_nil ?_
    refine cw_cond rfl (fun hb24 => ?_) (fun hb24 => ?_)
    · have hp24 := hb24
      try simp at hp24
      have hlt : k < l.length := isB_lt hk (by assumption)
      refine cw_seq ?_
      refine cw_region rfl ?_
      refine st H22 (mv rfl) ?_
      refine st_call cf125 rfl (take_c ((H22.fr 1 rfl).fr 1 rfl) hl (by omega)) ?_
      rintro _ w26 ⟨rfl, H25⟩
      refine st_al H25 zc38 fun b29 w28 H27 => ?_
      refine st_st 0 H27 rfl rfl rfl sz38 rfl rfl rfl rfl fun w31 H30 => ?_
      refine wl_nil ?_
      refine cw_seq ?_
      refine cw_region rfl ?_
      refine st H30 (lda ag38 0 rfl rfl rfl rfl) ?_
      refine st H30 (fa fo38_1 rfl) ?_
      refine st H30 (ld sc9 0 rfl rfl rfl) ?_
      refine st_call cf122 rfl (begin_c _ (nxt l k) _ H30) ?_
      rintro _ w33 ⟨b24_, rfl, H32⟩
      refine st H32 (asg rfl) ?_
      refine wl_nil ?_
      refine cw_seq ?_
      refine cw_region rfl ?_
      refine st H32 (mv rfl) ?_
      refine st H32 (mv rfl) ?_
      refine st_call cf230 rfl (rec_unary R ((H32.fr 5 rfl).fr 5 rfl) (by omega) (fun hz => hf (by simp [stepS, hp3, hp24, hz]))) ?_
      rintro e w35 hpH34
      rcases hpH34 with ⟨x25, k25, hs25, hk25, b25_, rfl, H34⟩ | ⟨q25, hs25, rfl, kq25, H34⟩
      · refine st_bs H34 sl149 zc131 rfl rfl rfl rfl rfl fun b38 w37 H36 => ?_
        refine st H36 (nck rfl) ?_
        refine st H36 (fa fo151_1 rfl) ?_
        refine st_st 4 H36 rfl rfl rfl sz149 rfl rfl rfl rfl fun w40 H39 => ?_
        refine wl_nil ?_
        refine cw_seq ?_
        have HR26 := (H39.fr 1 rfl).row1
        refine cw_region rfl ?_
        refine st HR26 (mv rfl) ?_
        refine st HR26 (mv rfl) ?_
        refine st_call cf128 rfl (done_c (((HR26.fr 1 rfl).fr 3 rfl).fr 3 rfl) hl (by omega)) ?_
        rintro _ w42 ⟨rfl, H41⟩
        refine st H41 (asg rfl) ?_
        refine wl_nil ?_
        refine cw_ret ?_
        refine ret1 rfl rfl ?_
        have HT27 := Own.tr (doneN l k25 (begN 26 (nxt l k) (nxt l k).s)) (.one x25) (((H41.fr 4 rfl).fr 4 rfl).fr 4 rfl) rfl
        exact Or.inl ⟨_, _, by simp [stepS, hp3, hp24, hs25, Fo.app, Fo.one], by omega, _, rfl, (((((HT27.fr 2 rfl).fr 2 rfl).er 3).er 3).er 3)⟩
      · exact Or.inr ⟨q25, by simp [stepS, hp3, hp24, hs25], rfl, _, ((((((H34.fr 1 rfl).fr 1 rfl).er 2).er 2).er 2).er 2)⟩
    · have hp24 := hb24
      try simp at hp24
      refine cw_skip ?_
      refine cw_seq ?_
      refine cw_region rfl ?_
      refine st H22 (mv rfl) ?_
      refine st_call cf236 rfl (rec_post R ((H22.fr 1 rfl).fr 1 rfl) (by omega) (fun hz => hf (by simp [stepS, hp3, hp24, hz]))) ?_
      rintro e w44 hpH43
      rcases hpH43 with ⟨x28, k28, hs28, hk28, b28_, rfl, H43⟩ | ⟨q28, hs28, rfl, kq28, H43⟩
      · refine st H43 (asg rfl) ?_
        refine wl_nil ?_
        refine cw_ret ?_
        refine ret1 rfl rfl ?_
        exact Or.inl ⟨_, _, by simp [stepS, hp3, hp24, hs28], by omega, _, rfl, (((H43.fr 2 rfl).fr 2 rfl).fr 2 rfl)⟩
      · exact Or.inr ⟨q28, by simp [stepS, hp3, hp24, hs28], rfl, _, ((H43.fr 1 rfl).fr 1 rfl)⟩
theorem prim_c {rec : NT → Nat → PR Tr} (R : RC g pb A c l nv rec)  (H : Own g (PT g pb A c l k nv L) w) (hl : TkOk l) (hk : k ≤ l.length) (hf : stepS l rec .prim k ≠ .fu) : Calls Pg 237 #[.pointer (some ⟨pb, 0, none⟩)] w (PO g pb A c l nv L (stepS l rec .prim k)) := by
  refine calls_cw (vs := [_]) Tryz.func237 rfl rfl rfl ?_
  refine cw_seq ?_
  refine cw_region rfl ?_
  refine st H (asg rfl) ?_
  refine wl_nil ?_
  refine cw_seq ?_
  refine cw_seq ?_
  refine cw_region rfl ?_
  refine st H (mv rfl) ?_
  refine st_call cf183 rfl (literal_c ((H.fr 1 rfl).fr 1 rfl) hl (by omega)) ?_
  rintro e w2 hpH1
  rcases hpH1 with ⟨x29, k29, hs29, hk29, b29_, rfl, H1⟩ | ⟨hs29, rfl, H1⟩ | ⟨q29, hs29, rfl, kq29, H1⟩
  · refine st H1 (asg rfl) ?_
    refine wl_nil ?_
    refine cw_seq ?_
    refine cw_region rfl ?_
    refine st H1 (mv rfl) ?_
    refine st H1 (pnn pp131 rfl rfl) ?_
    refine wl_nil ?_
    refine cw_cond_t rfl rfl ?_
    refine cw_seq ?_
    refine cw_region rfl ?_
    refine st H1 (mv rfl) ?_
    refine st H1 (asg rfl) ?_
    refine wl_nil ?_
    refine cw_ret ?_
    refine ret1 rfl rfl ?_
    exact Or.inl ⟨_, _, by simp [stepS, hs29], by omega, _, rfl, (((H1.fr 2 rfl).fr 2 rfl).fr 2 rfl)⟩
  · refine st H1 (asg rfl) ?_
    refine wl_nil ?_
    refine cw_seq ?_
    refine cw_region rfl ?_
    refine st H1 (mv rfl) ?_
    refine st H1 (pnn pp131 rfl rfl) ?_
    refine wl_nil ?_
    refine cw_cond_f rfl rfl ?_
    refine cw_skip ?_
    refine cw_seq ?_
    refine cw_seq ?_
    refine cw_region rfl ?_
    refine st H1 (mv rfl) ?_
    refine st_call cf124 rfl (is_c _ ((H1.fr 1 rfl).fr 1 rfl) hl (by omega)) ?_
    rintro _ w4 ⟨rfl, H3⟩
    refine wl_nil ?_
    refine cw_cond rfl (fun hb5 => ?_) (fun hb5 => ?_)
    · have hp5 := hb5
      try simp at hp5
      have hlt : k < l.length := isB_lt hk (by assumption)
      refine cw_seq ?_
      refine cw_region rfl ?_
      refine st H3 (mv rfl) ?_
      refine st_call cf125 rfl (take_c ((H3.fr 1 rfl).fr 1 rfl) hl (by omega)) ?_
      rintro _ w7 ⟨rfl, H6⟩
      refine st_al H6 zc38 fun b10 w9 H8 => ?_
      refine st_st 0 H8 rfl rfl rfl sz38 rfl rfl rfl rfl fun w12 H11 => ?_
      refine wl_nil ?_
      refine cw_seq ?_
      refine cw_region rfl ?_
      refine st H11 (mv rfl) ?_
      refine st_call cf185 rfl (expr_c R ((H11.fr 2 rfl).fr 2 rfl) hl (by omega) (fun hz => hf (by simp [stepS, hs29, hp5, hz]))) ?_
      rintro e w14 hpH13
      rcases hpH13 with ⟨x30, k30, hs30, hk30, b30_, rfl, H13⟩ | ⟨q30, hs30, rfl, kq30, H13⟩
      · refine st H13 (asg rfl) ?_
        refine wl_nil ?_
        refine cw_seq ?_
        refine cw_region rfl ?_
        refine st H13 (mv rfl) ?_
        refine st_call cf120 rfl (need_c _ ((H13.fr 1 rfl).fr 1 rfl) hl (by omega)) ?_
        rintro e w16 hpH15
        rcases hpH15 with ⟨x31, k31, hs31, hk31, rfl, H15⟩ | ⟨q31, hs31, rfl, kq31, H15⟩
        · refine wl_nil ?_
          refine cw_seq ?_
          obtain ⟨A32_, c32_, ps32_, HU32⟩ := (H15.fr 2 rfl).untr
          refine cw_region rfl ?_
          refine st HU32 (mv rfl) ?_
          refine st HU32 (fa fo38_2 rfl) ?_
          refine st HU32 (ld sc3 5 rfl rfl rfl) ?_
          refine st HU32 (nck rfl) ?_
          refine st HU32 (fa fo151_2 rfl) ?_
          refine st_st 0 HU32 rfl rfl rfl sz3 rfl rfl rfl rfl fun w18 H17 => ?_
          refine wl_nil ?_
          refine cw_seq ?_
          refine cw_region rfl ?_
          refine st H17 (mv rfl) ?_
          refine st H17 (asg rfl) ?_
          refine wl_nil ?_
          refine cw_ret ?_
          refine ret1 rfl rfl ?_
          have HT33 := Own.tr ({ x30.d with beg := (nxt l k).a }) (x30.kids) (((H17.fr 2 rfl).fr 2 rfl).fr 2 rfl) rfl
          exact Or.inl ⟨_, _, by simp [stepS, hs29, hp5, hs30, hs31, Fo.app, Fo.one], by omega, _, rfl, (((HT33.fr 2 rfl).fr 2 rfl).er 3)⟩
        · exact Or.inr ⟨q31, by simp [stepS, hs29, hp5, hs30, hs31], rfl, _, ((((H15.fr 1 rfl).fr 1 rfl).er 2).er 2)⟩
      · exact Or.inr ⟨q30, by simp [stepS, hs29, hp5, hs30], rfl, _, (((H13.fr 1 rfl).fr 1 rfl).er 2)⟩
    · have hp5 := hb5
      try simp at hp5
      refine cw_skip ?_
      refine cw_seq ?_
      refine cw_region rfl ?_
      refine st H3 (mv rfl) ?_
      refine st_call cf121 rfl (name_c ((H3.fr 1 rfl).fr 1 rfl) hl (by omega)) ?_
      rintro e w20 hpH19
      rcases hpH19 with ⟨x34, k34, hs34, hk34, rfl, H19⟩ | ⟨q34, hs34, rfl, kq34, H19⟩
      · refine st_al H19 zc38 fun b23 w22 H21 => ?_
        refine st_st 0 H21 rfl rfl rfl sz38 rfl rfl rfl rfl fun w25 H24 => ?_
        refine wl_nil ?_
        refine cw_seq ?_
        refine cw_region rfl ?_
        refine st H24 (mv rfl) ?_
        refine st H24 (lda ag38 0 rfl rfl rfl rfl) ?_
        refine st H24 (fa fo38_1 rfl) ?_
        refine st H24 (ld sc9 0 rfl rfl rfl) ?_
        refine st_call cf122 rfl (begin_c _ (x34) _ H24) ?_
        rintro _ w27 ⟨b35_, rfl, H26⟩
        refine st_call cf128 rfl (done_c ((H26.fr 5 rfl).fr 5 rfl) hl (by omega)) ?_
        rintro _ w29 ⟨rfl, H28⟩
        refine st H28 (asg rfl) ?_
        refine wl_nil ?_
        refine cw_ret ?_
        refine ret1 rfl rfl ?_
        have HT36 := Own.tr (doneN l k34 (begN 23 x34 x34.s)) (.nil) (((H28.fr 4 rfl).fr 4 rfl).fr 4 rfl) rfl
        exact Or.inl ⟨_, _, by simp [stepS, hs29, hp5, hs34, Fo.app, Fo.one], by omega, _, rfl, (((HT36.fr 2 rfl).fr 2 rfl).er 3)⟩
      · exact Or.inr ⟨q34, by simp [stepS, hs29, hp5, hs34], rfl, _, ((H19.fr 1 rfl).fr 1 rfl)⟩
  · exact Or.inr ⟨q29, by simp [stepS, hs29], rfl, _, ((H1.fr 1 rfl).fr 1 rfl)⟩
theorem block_c {rec : NT → Nat → PR Tr} (R : RC g pb A c l nv rec)  (H : Own g (PT g pb A c l k nv L) w) (hl : TkOk l) (hk : k ≤ l.length) (hf : stepS l rec .block k ≠ .fu) : Calls Pg 189 #[.pointer (some ⟨pb, 0, none⟩)] w (PO g pb A c l nv L (stepS l rec .block k)) := by
  refine calls_cw (vs := [_]) Tryz.func189 rfl rfl rfl ?_
  refine cw_seq ?_
  refine cw_region rfl ?_
  refine st H (asg rfl) ?_
  refine wl_nil ?_
  refine cw_seq ?_
  refine cw_region rfl ?_
  refine st H (mv rfl) ?_
  refine st_call cf120 rfl (need_c _ ((H.fr 1 rfl).fr 1 rfl) hl (by omega)) ?_
  rintro e w2 hpH1
  rcases hpH1 with ⟨x37, k37, hs37, hk37, rfl, H1⟩ | ⟨q37, hs37, rfl, kq37, H1⟩
  · refine st_call cf122 rfl (begin_c _ (x37) _ H1) ?_
    rintro _ w4 ⟨b38_, rfl, H3⟩
    refine st H3 (asg rfl) ?_
    refine wl_nil ?_
    refine cw_seq ?_
    refine cw_region rfl ?_
    refine st H3 (mv rfl) ?_
    refine st H3 (mv rfl) ?_
    refine st H3 (mv rfl) ?_
    refine st H3 (mkf rfl rfl) ?_
    refine st_call cf162 rfl (list_c (ps := []) (one_stmt R) cf214 (((((H3.fr 2 rfl).fr 2 rfl).fr 2 rfl).fr 4 rfl).fr 4 rfl) hl (by omega) (by first | simp | omega) (fun hz => hf (by simp [stepS, hs37, hz]))) ?_
    rintro e w6 hpH5
    rcases hpH5 with ⟨x39, k39, hs39, hk39, rfl, A39_, c39_, qs39, hq39, H5⟩ | ⟨q39, hs39, rfl, kq39, H5⟩
    · refine wl_nil ?_
      refine cw_seq ?_
      refine cw_region rfl ?_
      refine st H5 (mv rfl) ?_
      refine st H5 (mv rfl) ?_
      refine st_call cf128 rfl (done_c (((H5.fr 2 rfl).fr 2 rfl).fr 2 rfl) hl (by omega)) ?_
      rintro _ w8 ⟨rfl, H7⟩
      refine st H7 (asg rfl) ?_
      refine wl_nil ?_
      refine cw_ret ?_
      refine ret1 rfl rfl ?_
      have HT40 := Own.tr (doneN l k39 (begN 13 x37 ⟨#[]⟩)) (x39) (((H7.fr 4 rfl).fr 4 rfl).fr 4 rfl) rfl
      exact Or.inl ⟨_, _, by simp [stepS, hs37, hs39, Fo.app, Fo.one], by omega, _, rfl, ((HT40.fr 2 rfl).fr 2 rfl)⟩
    · exact Or.inr ⟨q39, by simp [stepS, hs37, hs39], rfl, _, ((H5.fr 1 rfl).fr 1 rfl)⟩
  · exact Or.inr ⟨q37, by simp [stepS, hs37], rfl, _, ((H1.fr 1 rfl).fr 1 rfl)⟩
theorem branch_c {rec : NT → Nat → PR Tr} (R : RC g pb A c l nv rec)  (H : Own g (PT g pb A c l k nv L) w) (hl : TkOk l) (hk : k ≤ l.length) (hf : stepS l rec .branch k ≠ .fu) : Calls Pg 231 #[.pointer (some ⟨pb, 0, none⟩)] w (PO g pb A c l nv L (stepS l rec .branch k)) := by
  refine calls_cw (vs := [_]) Tryz.func231 rfl rfl rfl ?_
  refine cw_seq ?_
  refine cw_region rfl ?_
  refine st H (asg rfl) ?_
  refine wl_nil ?_
  refine cw_seq ?_
  refine cw_region rfl ?_
  refine st H (mv rfl) ?_
  refine st_call cf120 rfl (need_c _ ((H.fr 1 rfl).fr 1 rfl) hl (by omega)) ?_
  rintro e w2 hpH1
  rcases hpH1 with ⟨x41, k41, hs41, hk41, rfl, H1⟩ | ⟨q41, hs41, rfl, kq41, H1⟩
  · refine st_call cf122 rfl (begin_c _ (x41) _ H1) ?_
    rintro _ w4 ⟨b42_, rfl, H3⟩
    refine st H3 (asg rfl) ?_
    refine wl_nil ?_
    refine cw_seq ?_
    refine cw_sched (Keep _ [_]) 11 (.q 0 (.q 1 (.q 2 (.q 3 (.q 4 (.q 5 (.a 6 (.a 7 (.a 8 (.a 9 (.q 10 (.a 11 .e)))))))))))) hm H3 (fun w h => ⟨_, h⟩) (by kernel_rfl) (by kernel_rfl) rfl (fun w6 H5 => ?_)
    refine sw rfl rfl (mv rfl) ?_
    refine sw rfl rfl (mv rfl) ?_
    refine sw rfl rfl (nck rfl) ?_
    refine sw rfl rfl (fa fo151_1 rfl) ?_
    refine sw rfl rfl (ks fun L' => ld sc149 0 rfl rfl rfl) ?_
    refine sw rfl rfl (mv rfl) ?_
    refine sa rfl rfl ?_
    refine st_call cf185 rfl (expr_c R ((H5.fr 4 rfl).fr 4 rfl) hl (by omega) (fun hz => hf (by simp [stepS, hs41, hz]))) ?_
    rintro e w8 hpH7
    rcases hpH7 with ⟨x43, k43, hs43, hk43, b43_, rfl, H7⟩ | ⟨q43, hs43, rfl, kq43, H7⟩
    · refine wl_nil ⟨.inr ⟨_, (H7.fr 3 rfl)⟩, ?_⟩
      refine sa rfl rfl ?_
      refine st_bs H7 sl149 zc131 rfl rfl rfl rfl rfl fun b11 w10 H9 => ?_
      refine wl_nil ⟨.inr ⟨_, (H9.fr 4 rfl)⟩, ?_⟩
      refine sa rfl rfl ?_
      refine st_app 5 0 ([b43_]) H9 sl149 zc131 rfl rfl rfl rfl rfl rfl rfl rfl (by intro y hy; simp at hy; subst hy; exact ⟨rfl, rfl⟩) (by first | omega | (simp <;> omega)) (by first | omega | (simp <;> omega)) fun A14 c15 w13 H12 => ?_
      refine wl_nil ⟨.inr ⟨_, (H12.fr 5 rfl)⟩, ?_⟩
      refine sa rfl rfl ?_
      refine st H12 (nck rfl) ?_
      refine wl_nil ⟨.inr ⟨_, (H12.fr 5 rfl)⟩, ?_⟩
      refine sw rfl rfl (fa fo151_1 rfl) ?_
      refine sa rfl rfl ?_
      refine st_st 5 H12 rfl rfl rfl sz149 rfl rfl rfl rfl fun w17 H16 => ?_
      refine wl_nil ⟨.inl rfl, ?_⟩
      refine ws_nil ?_
      refine cw_seq ?_
      have HS44 := ((H16.fr 5 rfl).fr 6 rfl).pfo_app
      refine cw_sched (Keep _ [_]) 11 (.q 0 (.q 1 (.q 2 (.q 3 (.q 4 (.q 5 (.a 6 (.a 7 (.a 8 (.a 9 (.q 10 (.a 11 .e)))))))))))) hm HS44 (fun w h => ⟨_, (h.fr 1 rfl)⟩) (by kernel_rfl) (by kernel_rfl) rfl (fun w19 H18 => ?_)
      refine sw rfl rfl (mv rfl) ?_
      refine sw rfl rfl (mv rfl) ?_
      refine sw rfl rfl (nck rfl) ?_
      refine sw rfl rfl (fa fo151_1 rfl) ?_
      refine sw rfl rfl (ks fun L' => ld sc149 0 rfl rfl rfl) ?_
      refine sw rfl rfl (mv rfl) ?_
      refine sa rfl rfl ?_
      refine st_call cf189 rfl (rec_block R ((H18.fr 5 rfl).fr 5 rfl) (by omega) (fun hz => hf (by simp [stepS, hs41, hs43, hz]))) ?_
      rintro e w21 hpH20
      rcases hpH20 with ⟨x45, k45, hs45, hk45, b45_, rfl, H20⟩ | ⟨q45, hs45, rfl, kq45, H20⟩
      · refine wl_nil ⟨.inr ⟨_, (H20.fr 4 rfl)⟩, ?_⟩
        refine sa rfl rfl ?_
        refine st_bs H20 sl149 zc131 rfl rfl rfl rfl rfl fun b24 w23 H22 => ?_
        refine wl_nil ⟨.inr ⟨_, (H22.fr 5 rfl)⟩, ?_⟩
        refine sa rfl rfl ?_
        refine st_app 6 0 ([b45_]) H22 sl149 zc131 rfl rfl rfl rfl rfl rfl rfl rfl (by intro y hy; simp at hy; subst hy; exact ⟨rfl, rfl⟩) (by first | omega | (simp <;> omega)) (by first | omega | (simp <;> omega)) fun A27 c28 w26 H25 => ?_
        refine wl_nil ⟨.inr ⟨_, (H25.fr 6 rfl)⟩, ?_⟩
        refine sa rfl rfl ?_
        refine st H25 (nck rfl) ?_
        refine wl_nil ⟨.inr ⟨_, (H25.fr 6 rfl)⟩, ?_⟩
        refine sw rfl rfl (fa fo151_1 rfl) ?_
        refine sa rfl rfl ?_
        refine st_st 6 H25 rfl rfl rfl sz149 rfl rfl rfl rfl fun w30 H29 => ?_
        refine wl_nil ⟨.inl rfl, ?_⟩
        refine ws_nil ?_
        refine cw_seq ?_
        refine cw_seq ?_
        have HS46 := ((H29.fr 5 rfl).fr 6 rfl).pfo_app
        refine cw_region rfl ?_
        refine st HS46 (mv rfl) ?_
        refine st_call cf124 rfl (is_c _ ((HS46.fr 5 rfl).fr 5 rfl) hl (by omega)) ?_
        rintro _ w32 ⟨rfl, H31⟩
        refine wl_nil ?_
        refine cw_cond rfl (fun hb33 => ?_) (fun hb33 => ?_)
        · have hp33 := hb33
          try simp at hp33
          have hlt := isB_lt (by omega) hp33
          refine cw_seq ?_
          refine cw_region rfl ?_
          refine st H31 (mv rfl) ?_
          refine st_call cf125 rfl (take_c ((H31.fr 1 rfl).fr 1 rfl) hl (by omega)) ?_
          rintro _ w35 ⟨rfl, H34⟩
          refine wl_nil ?_
          refine cw_seq ?_
          refine cw_region rfl ?_
          refine st H34 (mv rfl) ?_
          refine st_call cf124 rfl (is_c _ ((H34.fr 1 rfl).fr 1 rfl) hl (by omega)) ?_
          rintro _ w37 ⟨rfl, H36⟩
          refine wl_nil ?_
          refine cw_cond rfl (fun hb38 => ?_) (fun hb38 => ?_)
          · have hp38 := hb38
            try simp at hp38
            refine cw_sched (Keep _ [_]) 11 (.q 0 (.q 1 (.q 2 (.q 3 (.q 4 (.q 5 (.a 6 (.a 7 (.a 8 (.a 9 (.q 10 (.a 11 .e)))))))))))) hm H36 (fun w h => ⟨_, (h.fr 3 rfl)⟩) (by kernel_rfl) (by kernel_rfl) rfl (fun w40 H39 => ?_)
            refine sw rfl rfl (mv rfl) ?_
            refine sw rfl rfl (mv rfl) ?_
            refine sw rfl rfl (nck rfl) ?_
            refine sw rfl rfl (fa fo151_1 rfl) ?_
            refine sw rfl rfl (ks fun L' => ld sc149 0 rfl rfl rfl) ?_
            refine sw rfl rfl (mv rfl) ?_
            refine sa rfl rfl ?_
            refine st_call cf231 rfl (rec_branch R ((H39.fr 1 rfl).fr 1 rfl) (by omega) (fun hz => hf (by simp [stepS, hs41, hs43, hs45, hp33, hp38, hz]))) ?_
            rintro e w42 hpH41
            rcases hpH41 with ⟨x47, k47, hs47, hk47, b47_, rfl, H41⟩ | ⟨q47, hs47, rfl, kq47, H41⟩
            · refine wl_nil ⟨.inr ⟨_, (H41.fr 4 rfl)⟩, ?_⟩
              refine sa rfl rfl ?_
              refine st_bs H41 sl149 zc131 rfl rfl rfl rfl rfl fun b45 w44 H43 => ?_
              refine wl_nil ⟨.inr ⟨_, (H43.fr 5 rfl)⟩, ?_⟩
              refine sa rfl rfl ?_
              refine st_app 6 0 ([b47_]) H43 sl149 zc131 rfl rfl rfl rfl rfl rfl rfl rfl (by intro y hy; simp at hy; subst hy; exact ⟨rfl, rfl⟩) (by first | omega | (simp <;> omega)) (by first | omega | (simp <;> omega)) fun A48 c49 w47 H46 => ?_
              refine wl_nil ⟨.inr ⟨_, (H46.fr 6 rfl)⟩, ?_⟩
              refine sa rfl rfl ?_
              refine st H46 (nck rfl) ?_
              refine wl_nil ⟨.inr ⟨_, (H46.fr 6 rfl)⟩, ?_⟩
              refine sw rfl rfl (fa fo151_1 rfl) ?_
              refine sa rfl rfl ?_
              refine st_st 6 H46 rfl rfl rfl sz149 rfl rfl rfl rfl fun w51 H50 => ?_
              refine wl_nil ⟨.inl rfl, ?_⟩
              refine ws_nil ?_
              refine cw_seq ?_
              have HS48 := ((H50.fr 5 rfl).fr 6 rfl).pfo_app
              refine cw_region rfl ?_
              refine st HS48 (mv rfl) ?_
              refine st HS48 (mv rfl) ?_
              refine st_call cf128 rfl (done_c (((HS48.fr 1 rfl).fr 5 rfl).fr 5 rfl) hl (by omega)) ?_
              rintro _ w53 ⟨rfl, H52⟩
              refine st H52 (asg rfl) ?_
              refine wl_nil ?_
              refine cw_ret ?_
              refine ret1 rfl rfl ?_
              have HT49 := Own.tr (doneN l k47 (begN 14 x41 ⟨#[]⟩)) ((((Fo.nil).app (.one x43)).app (.one x45)).app (.one x47)) (((H52.fr 3 rfl).fr 4 rfl).fr 4 rfl) rfl
              exact Or.inl ⟨_, _, by simp [stepS, hs41, hs43, hs45, hp33, hp38, hs47, Fo.app, Fo.one], by omega, _, rfl, (((((HT49.fr 2 rfl).fr 2 rfl).er 3).er 3).er 3)⟩
            · exact Or.inr ⟨q47, by simp [stepS, hs41, hs43, hs45, hp33, hp38, hs47], rfl, _, (((((((H41.fr 1 rfl).fr 1 rfl).er 2).er 2).er 2).er 2).er 2)⟩
          · have hp38 := hb38
            try simp at hp38
            refine cw_sched (Keep _ [_]) 11 (.q 0 (.q 1 (.q 2 (.q 3 (.q 4 (.q 5 (.a 6 (.a 7 (.a 8 (.a 9 (.q 10 (.a 11 .e)))))))))))) hm H36 (fun w h => ⟨_, (h.fr 3 rfl)⟩) (by kernel_rfl) (by kernel_rfl) rfl (fun w55 H54 => ?_)
            refine sw rfl rfl (mv rfl) ?_
            refine sw rfl rfl (mv rfl) ?_
            refine sw rfl rfl (nck rfl) ?_
            refine sw rfl rfl (fa fo151_1 rfl) ?_
            refine sw rfl rfl (ks fun L' => ld sc149 0 rfl rfl rfl) ?_
            refine sw rfl rfl (mv rfl) ?_
            refine sa rfl rfl ?_
            refine st_call cf189 rfl (rec_block R ((H54.fr 1 rfl).fr 1 rfl) (by omega) (fun hz => hf (by simp [stepS, hs41, hs43, hs45, hp33, hp38, hz]))) ?_
            rintro e w57 hpH56
            rcases hpH56 with ⟨x50, k50, hs50, hk50, b50_, rfl, H56⟩ | ⟨q50, hs50, rfl, kq50, H56⟩
            · refine wl_nil ⟨.inr ⟨_, (H56.fr 4 rfl)⟩, ?_⟩
              refine sa rfl rfl ?_
              refine st_bs H56 sl149 zc131 rfl rfl rfl rfl rfl fun b60 w59 H58 => ?_
              refine wl_nil ⟨.inr ⟨_, (H58.fr 5 rfl)⟩, ?_⟩
              refine sa rfl rfl ?_
              refine st_app 6 0 ([b50_]) H58 sl149 zc131 rfl rfl rfl rfl rfl rfl rfl rfl (by intro y hy; simp at hy; subst hy; exact ⟨rfl, rfl⟩) (by first | omega | (simp <;> omega)) (by first | omega | (simp <;> omega)) fun A63 c64 w62 H61 => ?_
              refine wl_nil ⟨.inr ⟨_, (H61.fr 6 rfl)⟩, ?_⟩
              refine sa rfl rfl ?_
              refine st H61 (nck rfl) ?_
              refine wl_nil ⟨.inr ⟨_, (H61.fr 6 rfl)⟩, ?_⟩
              refine sw rfl rfl (fa fo151_1 rfl) ?_
              refine sa rfl rfl ?_
              refine st_st 6 H61 rfl rfl rfl sz149 rfl rfl rfl rfl fun w66 H65 => ?_
              refine wl_nil ⟨.inl rfl, ?_⟩
              refine ws_nil ?_
              refine cw_seq ?_
              have HS51 := ((H65.fr 5 rfl).fr 6 rfl).pfo_app
              refine cw_region rfl ?_
              refine st HS51 (mv rfl) ?_
              refine st HS51 (mv rfl) ?_
              refine st_call cf128 rfl (done_c (((HS51.fr 1 rfl).fr 5 rfl).fr 5 rfl) hl (by omega)) ?_
              rintro _ w68 ⟨rfl, H67⟩
              refine st H67 (asg rfl) ?_
              refine wl_nil ?_
              refine cw_ret ?_
              refine ret1 rfl rfl ?_
              have HT52 := Own.tr (doneN l k50 (begN 14 x41 ⟨#[]⟩)) ((((Fo.nil).app (.one x43)).app (.one x45)).app (.one x50)) (((H67.fr 3 rfl).fr 4 rfl).fr 4 rfl) rfl
              exact Or.inl ⟨_, _, by simp [stepS, hs41, hs43, hs45, hp33, hp38, hs50, Fo.app, Fo.one], by omega, _, rfl, (((((HT52.fr 2 rfl).fr 2 rfl).er 3).er 3).er 3)⟩
            · exact Or.inr ⟨q50, by simp [stepS, hs41, hs43, hs45, hp33, hp38, hs50], rfl, _, (((((((H56.fr 1 rfl).fr 1 rfl).er 2).er 2).er 2).er 2).er 2)⟩
        · have hp33 := hb33
          try simp at hp33
          refine cw_skip ?_
          refine cw_seq ?_
          refine cw_region rfl ?_
          refine st H31 (mv rfl) ?_
          refine st H31 (mv rfl) ?_
          refine st_call cf128 rfl (done_c (((H31.fr 3 rfl).fr 2 rfl).fr 2 rfl) hl (by omega)) ?_
          rintro _ w70 ⟨rfl, H69⟩
          refine st H69 (asg rfl) ?_
          refine wl_nil ?_
          refine cw_ret ?_
          refine ret1 rfl rfl ?_
          have HT53 := Own.tr (doneN l k45 (begN 14 x41 ⟨#[]⟩)) (((Fo.nil).app (.one x43)).app (.one x45)) (((H69.fr 3 rfl).fr 4 rfl).fr 4 rfl) rfl
          exact Or.inl ⟨_, _, by simp [stepS, hs41, hs43, hs45, hp33, Fo.app, Fo.one], by omega, _, rfl, ((((HT53.fr 2 rfl).fr 2 rfl).er 3).er 3)⟩
      · exact Or.inr ⟨q45, by simp [stepS, hs41, hs43, hs45], rfl, _, ((((((H20.fr 1 rfl).fr 1 rfl).er 2).er 2).er 2).er 2)⟩
    · exact Or.inr ⟨q43, by simp [stepS, hs41, hs43], rfl, _, (((((H7.fr 1 rfl).fr 1 rfl).er 2).er 2).er 2)⟩
  · exact Or.inr ⟨q41, by simp [stepS, hs41], rfl, _, ((H1.fr 1 rfl).fr 1 rfl)⟩
set_option maxRecDepth 20000 in
def rwc (p : Option Addr × Nat) : List Value := [.slice p.1 p.2 p.2]
theorem rows_len {r : Nat} (hr : r < 5) : (rowsL.getD r []).length ≤ 1073741824 := by
  rcases r with _ | _ | _ | _ | _ | r
  · decide
  · decide
  · decide
  · decide
  · decide
  · omega
theorem rows_c {g w : World} {L : List SP} (r : Nat) (hr : r < 5) (H : Own g L w) : Calls Pg 199 #[] w fun e w' => ∃ b rs ar, e = .returned (.slice (some ⟨b, 0, none⟩) rs.length 5) ∧ rs[r]? = some (ar, (rowsL.getD r []).length) ∧ rs.length = 5 ∧ Own g (Els g rwc 1 (some ⟨b, 0, none⟩) rs :: Els g strc 1 ar (rowsL.getD r []) :: L) w' := by
  refine calls_cw (vs := []) Tryz.func199 rfl rfl rfl ?_
  refine cw_seq ?_
  refine cw_region rfl ?_
  refine st H (asg rfl) ?_
  refine wl_nil ?_
  refine cw_seq ?_
  refine cw_region rfl ?_
  refine st_bs H sl64 zc9 rfl rfl rfl rfl rfl fun b3 w2 H1 => ?_
  refine st_bs H1 sl64 zc9 rfl rfl rfl rfl rfl fun b6 w5 H4 => ?_
  refine st_bs H4 sl64 zc9 rfl rfl rfl rfl rfl fun b9 w8 H7 => ?_
  refine st_bs H7 sl64 zc9 rfl rfl rfl rfl rfl fun b12 w11 H10 => ?_
  refine st_bs H10 sl64 zc9 rfl rfl rfl rfl rfl fun b15 w14 H13 => ?_
  refine st_bs H13 sl189 zc64 rfl rfl rfl rfl rfl fun b18 w17 H16 => ?_
  refine st H16 (asg rfl) ?_
  refine wl_nil ?_
  refine cw_ret ?_
  refine ret1 rfl rfl ?_
  have HW54 := (((((((H16.fr 1 rfl).fr 2 rfl).fr 3 rfl).fr 4 rfl).fr 5 rfl).fr 5 rfl).rw_of (sz := 1) (f := rwc) [(_, 1), (_, 1), (_, 6), (_, 2), (_, 3)] (by decide) rfl (by intro x hx; exact ⟨rfl, rfl⟩) (by simp [maxLen])).rw_els
  rcases r with _ | _ | _ | _ | _ | r
  · exact ⟨_, _, _, rfl, rfl, rfl, ((((((HW54.fr 1 rfl).rw_of (sz := 1) (f := strc) (rowsL.getD 0 []) (by decide) rfl (by intro x hx; exact ⟨rfl, rfl⟩) (by simp [rowsL, maxLen])).rw_els.fr 1 rfl).er 2).er 2).er 2).er 2⟩
  · exact ⟨_, _, _, rfl, rfl, rfl, ((((((HW54.fr 2 rfl).rw_of (sz := 1) (f := strc) (rowsL.getD 1 []) (by decide) rfl (by intro x hx; exact ⟨rfl, rfl⟩) (by simp [rowsL, maxLen])).rw_els.fr 1 rfl).er 2).er 2).er 2).er 2⟩
  · exact ⟨_, _, _, rfl, rfl, rfl, ((((((HW54.fr 3 rfl).rw_of (sz := 1) (f := strc) (rowsL.getD 2 []) (by decide) rfl (by intro x hx; exact ⟨rfl, rfl⟩) (by simp [rowsL, maxLen])).rw_els.fr 1 rfl).er 2).er 2).er 2).er 2⟩
  · exact ⟨_, _, _, rfl, rfl, rfl, ((((((HW54.fr 4 rfl).rw_of (sz := 1) (f := strc) (rowsL.getD 3 []) (by decide) rfl (by intro x hx; exact ⟨rfl, rfl⟩) (by simp [rowsL, maxLen])).rw_els.fr 1 rfl).er 2).er 2).er 2).er 2⟩
  · exact ⟨_, _, _, rfl, rfl, rfl, ((((((HW54.fr 5 rfl).rw_of (sz := 1) (f := strc) (rowsL.getD 4 []) (by decide) rfl (by intro x hx; exact ⟨rfl, rfl⟩) (by simp [rowsL, maxLen])).rw_els.fr 1 rfl).er 2).er 2).er 2).er 2⟩
  · omega
set_option maxHeartbeats 1000000 in
theorem row_c {rec : NT → Nat → PR Tr} (R : RC g pb A c l nv rec) (r : Nat) (hr : r ≤ 5) (H : Own g (PT g pb A c l k nv L) w) (hl : TkOk l) (hk : k ≤ l.length) (hf : stepS l rec (.row r) k ≠ .fu) : Calls Pg 213 #[.pointer (some ⟨pb, 0, none⟩), .int .i64 (r : Int)] w (PO g pb A c l nv L (stepS l rec (.row r) k)) := by
  refine calls_cw (vs := [_, _]) Tryz.func213 rfl rfl rfl ?_
  refine cw_seq ?_
  refine cw_region rfl ?_
  refine st H (asg rfl) ?_
  refine wl_nil ?_
  refine cw_seq ?_
  refine cw_seq ?_
  refine cw_region rfl ?_
  refine st H (mv rfl) ?_
  refine st_call cf199 rfl (rows_c 0 (by omega) H) ?_
  rintro _ w2 ⟨br55, rs55, ar55, rfl, har55, hrs55, H1⟩
  refine st H1 (lenl Tryz.underlying189 rfl) ?_
  refine st H1 (eqi rfl rfl) ?_
  refine wl_nil ?_
  refine cw_cond rfl (fun hb3 => ?_) (fun hb3 => ?_)
  · have hp3 := hb3
    try simp at hp3
    have hr5 : r = 5 := by omega
    subst hr5
    refine cw_seq ?_
    refine cw_region rfl ?_
    refine st H1 (mv rfl) ?_
    refine st_call cf230 rfl (rec_unary R ((H1.fr 3 rfl).fr 3 rfl) (by omega) (fun hz => hf (by simp [stepS, hp3, hz]))) ?_
    rintro e w5 hpH4
    rcases hpH4 with ⟨x56, k56, hs56, hk56, b56_, rfl, H4⟩ | ⟨q56, hs56, rfl, kq56, H4⟩
    · refine st H4 (asg rfl) ?_
      refine wl_nil ?_
      refine cw_ret ?_
      refine ret1 rfl rfl ?_
      exact Or.inl ⟨_, _, by simp [stepS, hp3, hs56], by omega, _, rfl, (((((H4.fr 2 rfl).fr 2 rfl).fr 2 rfl).er 3).er 3)⟩
    · exact Or.inr ⟨q56, by simp [stepS, hp3, hs56], rfl, _, ((((H4.fr 1 rfl).fr 1 rfl).er 2).er 2)⟩
  · have hp3 := hb3
    try simp at hp3
    have hr5 : ¬ r = 5 := by omega
    refine cw_skip ?_
    refine cw_seq ?_
    refine cw_region rfl ?_
    refine st H1 (mv rfl) ?_
    refine st H1 (mv rfl) ?_
    refine st H1 (add rfl rfl (by omega) (by omega)) ?_
    refine st_call cf213 rfl (rec_row R (r + 1) (by omega) (by omega) ((H1.fr 3 rfl).fr 3 rfl) (by omega) (fun hz => hf (by simp [stepS, hp3, hr5, hz]))) ?_
    rintro e w7 hpH6
    rcases hpH6 with ⟨x57, k57, hs57, hk57, b57_, rfl, H6⟩ | ⟨q57, hs57, rfl, kq57, H6⟩
    · refine st H6 (asg rfl) ?_
      refine wl_nil ?_
      refine cw_seq ?_
      refine cw_block ?_
      have e1 : stepS l rec (.row r) k = rowF l (rec (.row (r + 1))) r (l.length + 1) k57 x57 := by simp [stepS, hp3, hr5, hs57]
      have hf1 := hf
      rw [e1] at hf1
      refine cw_loop (σ := Nat × Nat) (fun s => [(0, .pointer (some ⟨pb, 0, none⟩)), (1, .int .i64 (r : Int)), (5, .pointer (some ⟨s.2, 0, none⟩))]) (fun s w => ∃ k' y, Own g (PT g pb A c l k' nv (PFo (.one y) [s.2] :: L)) w ∧ k' ≤ l.length ∧ rowF l (rec (.row (r + 1))) r (l.length + 1) k57 x57 = rowF l (rec (.row (r + 1))) r s.1 k' y) (fun s => s.1) (l.length + 1, b57_) ⟨rfl, rfl, rfl, trivial⟩ ⟨_, _, (((((H6.fr 2 rfl).fr 2 rfl).fr 2 rfl).er 3).er 3), by omega, rfl⟩ ?_
      rintro s w9 ⟨k', y, H8, hk', hx⟩
      obtain ⟨sf, sz⟩ := s
      simp only at *
      have hf2 := hf1
      rw [hx] at hf2
      obtain ⟨f, rfl⟩ : ∃ j, sf = j + 1 := by
        cases sf with
        | zero => exact absurd rfl hf2
        | succ j => exact ⟨j, rfl⟩
      refine cw_seq ?_
      refine cw_seq ?_
      refine cw_sched (Keep _ [_, _]) 14 (.q 0 (.a 1 (.q 2 (.q 3 (.q 4 (.q 6 (.q 9 (.a 5 (.b 7 (.b 8 (.a 10 (.q 11 (.a 12 (.q 13 .e)))) 10 (.q 11 (.a 8 (.a 12 (.q 13 .e))))) 10 (.q 11 (.a 7 (.a 8 (.a 12 (.q 13 .e)))))))))))))) hm H8 (fun w h => ⟨_, ((h.fr 1 rfl).fr 1 rfl)⟩) (by kernel_rfl) (by kernel_rfl) rfl (fun w11 H10 => ?_)
      refine sw rfl rfl (mv rfl) ?_
      refine sa rfl rfl ?_
      refine st_call cf156 rfl (next_c ((H10.fr 1 rfl).fr 1 rfl) hl (by omega)) ?_
      rintro _ w13 ⟨rfl, H12⟩
      refine wl_nil ⟨.inr ⟨_, ((H12.fr 1 rfl).fr 1 rfl)⟩, ?_⟩
      refine sw rfl rfl (fld fs38_0 rfl rfl) ?_
      refine sw rfl rfl (eqi rfl rfl) ?_
      refine sw rfl rfl (mv rfl) ?_
      refine ws_case (t := 22) rfl (fun hg14 => ?_) (fun hg14 => ?_)
      · have hp14 := hg14
        try simp at hp14
        refine swon rfl rfl rfl rfl hg14 (mv rfl) ?_
        refine swon rfl rfl rfl rfl hg14 (mv rfl) ?_
        refine saon rfl rfl rfl rfl hg14 ?_
        refine st_call cf199 rfl (rows_c r (by omega) H12) ?_
        rintro _ w16 ⟨br58, rs58, ar58, rfl, har58, hrs58, H15⟩
        refine wl_nil ⟨.inr ⟨_, ((H15.fr 3 rfl).fr 3 rfl)⟩, ?_⟩
        refine sb ?_ ?_
        · refine saon rfl rfl rfl rfl hg14 ?_
          refine st H15 (ix (r) sl189 0 rfl rfl rfl (by omega) (by omega)) ?_
          refine wl_nil ⟨.inr ⟨_, ((H15.fr 3 rfl).fr 3 rfl)⟩, ?_⟩
          refine sb ?_ ?_
          · refine saon rfl rfl rfl rfl hg14 ?_
            refine st H15 (ldE1 sc64 0 rfl rfl har58 rfl) ?_
            refine wl_nil ⟨.inr ⟨_, ((H15.fr 3 rfl).fr 3 rfl)⟩, ?_⟩
            refine saon rfl rfl rfl rfl hg14 ?_
            refine st_call cf156 rfl (next_c ((H15.fr 3 rfl).fr 3 rfl) hl (by omega)) ?_
            rintro _ w18 ⟨rfl, H17⟩
            refine wl_nil ⟨.inr ⟨_, ((H17.fr 1 rfl).fr 1 rfl)⟩, ?_⟩
            refine swon rfl rfl rfl rfl hg14 (fld fs38_1 rfl rfl) ?_
            refine saon rfl rfl rfl rfl hg14 ?_
            refine st_call cf47 rfl (contains_c _ (H17.fr 3 rfl) (rows_len (by omega)) rfl) ?_
            rintro _ w20 ⟨rfl, H19⟩
            refine wl_nil ⟨.inr ⟨_, ((H19.fr 2 rfl).fr 2 rfl)⟩, ?_⟩
            refine sw rfl rfl (pk_t rfl hg14 rfl) ?_
            refine ws_nil ?_
            refine cw_cond rfl (fun hb21 => ?_) (fun hb21 => ?_)
            · have hp21 := hb21
              try simp at hp21
              have hlt : k' < l.length := kind_lt hk' (n := 4) (by assumption) (by decide)
              refine cw_skip ?_
              refine cw_block ?_
              refine cw_seq ?_
              refine cw_region rfl ?_
              refine st H19 (mv rfl) ?_
              refine st_call cf125 rfl (take_c ((H19.fr 2 rfl).fr 2 rfl) hl (by omega)) ?_
              rintro _ w23 ⟨rfl, H22⟩
              refine st_al H22 zc38 fun b26 w25 H24 => ?_
              refine st_st 0 H24 rfl rfl rfl sz38 rfl rfl rfl rfl fun w28 H27 => ?_
              refine wl_nil ?_
              refine cw_seq ?_
              refine cw_region rfl ?_
              refine st H27 (lda ag38 0 rfl rfl rfl rfl) ?_
              refine st H27 (fa fo38_1 rfl) ?_
              refine st H27 (ld sc9 0 rfl rfl rfl) ?_
              refine st_call cf122 rfl (begin_c _ (nxt l k') _ H27) ?_
              rintro _ w30 ⟨b59_, rfl, H29⟩
              refine st H29 (asg rfl) ?_
              refine wl_nil ?_
              refine cw_seq ?_
              refine cw_region rfl ?_
              refine st H29 (mv rfl) ?_
              refine st H29 (mv rfl) ?_
              refine st H29 (mv rfl) ?_
              refine st H29 (mv rfl) ?_
              refine st H29 (add rfl rfl (by omega) (by omega)) ?_
              refine st_call cf213 rfl (rec_row R (r + 1) (by omega) (by omega) ((H29.fr 5 rfl).fr 5 rfl) (by omega) (fun hz => hf2 (by simp [rowF, hp3, hr5, hs57, hp14, hp21, hz]))) ?_
              rintro e w32 hpH31
              rcases hpH31 with ⟨x60, k60, hs60, hk60, b60_, rfl, H31⟩ | ⟨q60, hs60, rfl, kq60, H31⟩
              · refine st_bs H31 sl149 zc131 rfl rfl rfl rfl rfl fun b35 w34 H33 => ?_
                refine st H33 (nck rfl) ?_
                refine st H33 (fa fo151_1 rfl) ?_
                refine st_st 4 H33 rfl rfl rfl sz149 rfl rfl rfl rfl fun w37 H36 => ?_
                refine wl_nil ?_
                refine cw_seq ?_
                obtain ⟨A61_, c61_, ps61_, HU61⟩ := (H36.fr 10 rfl).untr
                refine cw_sched (Keep _ [_]) 16 (.q 0 (.q 1 (.q 2 (.q 3 (.q 4 (.q 5 (.q 6 (.q 7 (.q 8 (.q 9 (.q 10 (.q 11 (.q 12 (.a 13 (.a 14 (.q 15 (.a 16 .e))))))))))))))))) hm HU61 (fun w h => ⟨_, h⟩) (by kernel_rfl) (by kernel_rfl) rfl (fun w39 H38 => ?_)
                refine sw rfl rfl (mv rfl) ?_
                refine sw rfl rfl (mv rfl) ?_
                refine sw rfl rfl (mv rfl) ?_
                refine sw rfl rfl (nck rfl) ?_
                refine sw rfl rfl (fa fo151_2 rfl) ?_
                refine sw rfl rfl (ks fun L' => ld sc3 0 rfl rfl rfl) ?_
                refine sw rfl rfl (mv rfl) ?_
                refine sw rfl rfl (nck rfl) ?_
                refine sw rfl rfl (fa fo151_2 rfl) ?_
                refine sw rfl rfl (ks fun L' => ld sc3 0 rfl rfl rfl) ?_
                refine sw rfl rfl (nck rfl) ?_
                refine sw rfl rfl (fa fo151_0 rfl) ?_
                refine sw rfl rfl (fa fo43_5 rfl) ?_
                refine sa rfl rfl ?_
                refine st_st 3 H38 rfl rfl rfl sz3 rfl rfl rfl rfl fun w41 H40 => ?_
                refine wl_nil ⟨.inr ⟨_, (H40.fr 1 rfl)⟩, ?_⟩
                refine sa rfl rfl ?_
                refine st H40 (nck rfl) ?_
                refine wl_nil ⟨.inr ⟨_, (H40.fr 1 rfl)⟩, ?_⟩
                refine sw rfl rfl (fa fo151_2 rfl) ?_
                refine sa rfl rfl ?_
                refine st_st 0 H40 rfl rfl rfl sz3 rfl rfl rfl rfl fun w43 H42 => ?_
                refine wl_nil ⟨.inl rfl, ?_⟩
                refine ws_nil ?_
                refine cw_seq ?_
                have HT62 := Own.tr (y.d) (y.kids) (((H42.fr 3 rfl).fr 3 rfl).fr 3 rfl) rfl
                have HR63 := (HT62.fr 2 rfl).row2
                have HS64 := ((HR63.fr 5 rfl).fr 2 rfl).pfo_app
                refine cw_region rfl ?_
                refine st HS64 (mv rfl) ?_
                refine st HS64 (mv rfl) ?_
                refine st_call cf128 rfl (done_c (((HS64.fr 2 rfl).fr 4 rfl).fr 4 rfl) hl (by omega)) ?_
                rintro _ w45 ⟨rfl, H44⟩
                refine st H44 (asg rfl) ?_
                refine wl_nil ?_
                refine cw_seq ?_
                refine cw_region rfl ?_
                refine st H44 (mv rfl) ?_
                refine st H44 (eqi rfl rfl) ?_
                refine wl_nil ?_
                refine cw_cond rfl (fun hb46 => ?_) (fun hb46 => ?_)
                · have hp46 := hb46
                  try simp at hp46
                  have hr2 : (r = 2) = True := eq_true (by omega)
                  refine cw_exit ?_
                  refine cw_seq ?_
                  refine cw_region rfl ?_
                  refine st H44 (mv rfl) ?_
                  refine st H44 (asg rfl) ?_
                  refine wl_nil ?_
                  refine cw_ret ?_
                  refine ret1 rfl rfl ?_
                  have HT65 := Own.tr (doneN l k60 { begN 27 (nxt l k') (nxt l k').s with frm := y.d.beg, beg := y.d.beg }) ((Fo.one ⟨y.d, y.kids⟩).app (.one x60)) (((H44.fr 3 rfl).fr 4 rfl).fr 4 rfl) rfl
                  exact Or.inl ⟨_, _, by rw [e1, hx]; simp [rowF, hp3, hr5, hs57, hp14, hp21, hs60, hp46, hr2], by omega, _, rfl, (((((((HT65.fr 2 rfl).fr 2 rfl).er 3).er 3).er 3).er 3).er 3)⟩
                · have hp46 := hb46
                  try simp at hp46
                  have hr2 : ¬ r = 2 := by omega
                  refine cw_skip ?_
                  have HT66 := Own.tr (doneN l k60 { begN 27 (nxt l k') (nxt l k').s with frm := y.d.beg, beg := y.d.beg }) ((Fo.one ⟨y.d, y.kids⟩).app (.one x60)) (((H44.fr 3 rfl).fr 4 rfl).fr 4 rfl) rfl
                  exact ⟨(f, _), ⟨rfl, rfl, rfl, trivial⟩, ⟨_, _, (((((((HT66.fr 2 rfl).fr 2 rfl).er 3).er 3).er 3).er 3).er 3), by omega, by rw [hx]; simp [rowF, hp3, hr5, hs57, hp14, hp21, hs60, hp46, hr2]⟩, by omega⟩
              · exact Or.inr ⟨q60, by rw [e1, hx]; simp [rowF, hp3, hr5, hs57, hp14, hp21, hs60], rfl, _, (((((((((H31.fr 1 rfl).fr 1 rfl).er 2).er 2).er 2).er 2).er 2).er 2).er 2)⟩
            · have hp21 := hb21
              try simp at hp21
              refine cw_exit ?_
              refine cw_seq ?_
              refine cw_region rfl ?_
              refine st H19 (mv rfl) ?_
              refine st H19 (asg rfl) ?_
              refine wl_nil ?_
              refine cw_ret ?_
              refine ret1 rfl rfl ?_
              exact Or.inl ⟨_, _, by rw [e1, hx]; simp [rowF, hp3, hr5, hs57, hp14, hp21], by omega, _, rfl, (((((H19.fr 4 rfl).fr 3 rfl).fr 3 rfl).er 3).er 3)⟩
          · refine saon rfl rfl rfl rfl hg14 ?_
            refine st_call cf156 rfl (next_c ((H15.fr 3 rfl).fr 3 rfl) hl (by omega)) ?_
            rintro _ w48 ⟨rfl, H47⟩
            refine wl_nil ⟨.inr ⟨_, ((H47.fr 1 rfl).fr 1 rfl)⟩, ?_⟩
            refine swon rfl rfl rfl rfl hg14 (fld fs38_1 rfl rfl) ?_
            refine saon rfl rfl rfl rfl hg14 ?_
            refine st H47 (ldE1 sc64 2 rfl rfl har58 rfl) ?_
            refine wl_nil ⟨.inr ⟨_, ((H47.fr 1 rfl).fr 1 rfl)⟩, ?_⟩
            refine saon rfl rfl rfl rfl hg14 ?_
            refine st_call cf47 rfl (contains_c _ (H47.fr 3 rfl) (rows_len (by omega)) rfl) ?_
            rintro _ w50 ⟨rfl, H49⟩
            refine wl_nil ⟨.inr ⟨_, ((H49.fr 2 rfl).fr 2 rfl)⟩, ?_⟩
            refine sw rfl rfl (pk_t rfl hg14 rfl) ?_
            refine ws_nil ?_
            refine cw_cond rfl (fun hb51 => ?_) (fun hb51 => ?_)
            · have hp51 := hb51
              try simp at hp51
              have hlt : k' < l.length := kind_lt hk' (n := 4) (by assumption) (by decide)
              refine cw_skip ?_
              refine cw_block ?_
              refine cw_seq ?_
              refine cw_region rfl ?_
              refine st H49 (mv rfl) ?_
              refine st_call cf125 rfl (take_c ((H49.fr 2 rfl).fr 2 rfl) hl (by omega)) ?_
              rintro _ w53 ⟨rfl, H52⟩
              refine st_al H52 zc38 fun b56 w55 H54 => ?_
              refine st_st 0 H54 rfl rfl rfl sz38 rfl rfl rfl rfl fun w58 H57 => ?_
              refine wl_nil ?_
              refine cw_seq ?_
              refine cw_region rfl ?_
              refine st H57 (lda ag38 0 rfl rfl rfl rfl) ?_
              refine st H57 (fa fo38_1 rfl) ?_
              refine st H57 (ld sc9 0 rfl rfl rfl) ?_
              refine st_call cf122 rfl (begin_c _ (nxt l k') _ H57) ?_
              rintro _ w60 ⟨b67_, rfl, H59⟩
              refine st H59 (asg rfl) ?_
              refine wl_nil ?_
              refine cw_seq ?_
              refine cw_region rfl ?_
              refine st H59 (mv rfl) ?_
              refine st H59 (mv rfl) ?_
              refine st H59 (mv rfl) ?_
              refine st H59 (mv rfl) ?_
              refine st H59 (add rfl rfl (by omega) (by omega)) ?_
              refine st_call cf213 rfl (rec_row R (r + 1) (by omega) (by omega) ((H59.fr 5 rfl).fr 5 rfl) (by omega) (fun hz => hf2 (by simp [rowF, hp3, hr5, hs57, hp14, hp51, hz]))) ?_
              rintro e w62 hpH61
              rcases hpH61 with ⟨x68, k68, hs68, hk68, b68_, rfl, H61⟩ | ⟨q68, hs68, rfl, kq68, H61⟩
              · refine st_bs H61 sl149 zc131 rfl rfl rfl rfl rfl fun b65 w64 H63 => ?_
                refine st H63 (nck rfl) ?_
                refine st H63 (fa fo151_1 rfl) ?_
                refine st_st 4 H63 rfl rfl rfl sz149 rfl rfl rfl rfl fun w67 H66 => ?_
                refine wl_nil ?_
                refine cw_seq ?_
                obtain ⟨A69_, c69_, ps69_, HU69⟩ := (H66.fr 10 rfl).untr
                refine cw_sched (Keep _ [_]) 16 (.q 0 (.q 1 (.q 2 (.q 3 (.q 4 (.q 5 (.q 6 (.q 7 (.q 8 (.q 9 (.q 10 (.q 11 (.q 12 (.a 13 (.a 14 (.q 15 (.a 16 .e))))))))))))))))) hm HU69 (fun w h => ⟨_, h⟩) (by kernel_rfl) (by kernel_rfl) rfl (fun w69 H68 => ?_)
                refine sw rfl rfl (mv rfl) ?_
                refine sw rfl rfl (mv rfl) ?_
                refine sw rfl rfl (mv rfl) ?_
                refine sw rfl rfl (nck rfl) ?_
                refine sw rfl rfl (fa fo151_2 rfl) ?_
                refine sw rfl rfl (ks fun L' => ld sc3 0 rfl rfl rfl) ?_
                refine sw rfl rfl (mv rfl) ?_
                refine sw rfl rfl (nck rfl) ?_
                refine sw rfl rfl (fa fo151_2 rfl) ?_
                refine sw rfl rfl (ks fun L' => ld sc3 0 rfl rfl rfl) ?_
                refine sw rfl rfl (nck rfl) ?_
                refine sw rfl rfl (fa fo151_0 rfl) ?_
                refine sw rfl rfl (fa fo43_5 rfl) ?_
                refine sa rfl rfl ?_
                refine st_st 3 H68 rfl rfl rfl sz3 rfl rfl rfl rfl fun w71 H70 => ?_
                refine wl_nil ⟨.inr ⟨_, (H70.fr 1 rfl)⟩, ?_⟩
                refine sa rfl rfl ?_
                refine st H70 (nck rfl) ?_
                refine wl_nil ⟨.inr ⟨_, (H70.fr 1 rfl)⟩, ?_⟩
                refine sw rfl rfl (fa fo151_2 rfl) ?_
                refine sa rfl rfl ?_
                refine st_st 0 H70 rfl rfl rfl sz3 rfl rfl rfl rfl fun w73 H72 => ?_
                refine wl_nil ⟨.inl rfl, ?_⟩
                refine ws_nil ?_
                refine cw_seq ?_
                have HT70 := Own.tr (y.d) (y.kids) (((H72.fr 3 rfl).fr 3 rfl).fr 3 rfl) rfl
                have HR71 := (HT70.fr 2 rfl).row2
                have HS72 := ((HR71.fr 5 rfl).fr 2 rfl).pfo_app
                refine cw_region rfl ?_
                refine st HS72 (mv rfl) ?_
                refine st HS72 (mv rfl) ?_
                refine st_call cf128 rfl (done_c (((HS72.fr 2 rfl).fr 4 rfl).fr 4 rfl) hl (by omega)) ?_
                rintro _ w75 ⟨rfl, H74⟩
                refine st H74 (asg rfl) ?_
                refine wl_nil ?_
                refine cw_seq ?_
                refine cw_region rfl ?_
                refine st H74 (mv rfl) ?_
                refine st H74 (eqi rfl rfl) ?_
                refine wl_nil ?_
                refine cw_cond rfl (fun hb76 => ?_) (fun hb76 => ?_)
                · have hp76 := hb76
                  try simp at hp76
                  have hr2 : (r = 2) = True := eq_true (by omega)
                  refine cw_exit ?_
                  refine cw_seq ?_
                  refine cw_region rfl ?_
                  refine st H74 (mv rfl) ?_
                  refine st H74 (asg rfl) ?_
                  refine wl_nil ?_
                  refine cw_ret ?_
                  refine ret1 rfl rfl ?_
                  have HT73 := Own.tr (doneN l k68 { begN 27 (nxt l k') (nxt l k').s with frm := y.d.beg, beg := y.d.beg }) ((Fo.one ⟨y.d, y.kids⟩).app (.one x68)) (((H74.fr 3 rfl).fr 4 rfl).fr 4 rfl) rfl
                  exact Or.inl ⟨_, _, by rw [e1, hx]; simp [rowF, hp3, hr5, hs57, hp14, hp51, hs68, hp76, hr2], by omega, _, rfl, (((((((HT73.fr 2 rfl).fr 2 rfl).er 3).er 3).er 3).er 3).er 3)⟩
                · have hp76 := hb76
                  try simp at hp76
                  have hr2 : ¬ r = 2 := by omega
                  refine cw_skip ?_
                  have HT74 := Own.tr (doneN l k68 { begN 27 (nxt l k') (nxt l k').s with frm := y.d.beg, beg := y.d.beg }) ((Fo.one ⟨y.d, y.kids⟩).app (.one x68)) (((H74.fr 3 rfl).fr 4 rfl).fr 4 rfl) rfl
                  exact ⟨(f, _), ⟨rfl, rfl, rfl, trivial⟩, ⟨_, _, (((((((HT74.fr 2 rfl).fr 2 rfl).er 3).er 3).er 3).er 3).er 3), by omega, by rw [hx]; simp [rowF, hp3, hr5, hs57, hp14, hp51, hs68, hp76, hr2]⟩, by omega⟩
              · exact Or.inr ⟨q68, by rw [e1, hx]; simp [rowF, hp3, hr5, hs57, hp14, hp51, hs68], rfl, _, (((((((((H61.fr 1 rfl).fr 1 rfl).er 2).er 2).er 2).er 2).er 2).er 2).er 2)⟩
            · have hp51 := hb51
              try simp at hp51
              refine cw_exit ?_
              refine cw_seq ?_
              refine cw_region rfl ?_
              refine st H49 (mv rfl) ?_
              refine st H49 (asg rfl) ?_
              refine wl_nil ?_
              refine cw_ret ?_
              refine ret1 rfl rfl ?_
              exact Or.inl ⟨_, _, by rw [e1, hx]; simp [rowF, hp3, hr5, hs57, hp14, hp51], by omega, _, rfl, (((((H49.fr 4 rfl).fr 3 rfl).fr 3 rfl).er 3).er 3)⟩
        · refine saon rfl rfl rfl rfl hg14 ?_
          refine st_call cf156 rfl (next_c ((H15.fr 3 rfl).fr 3 rfl) hl (by omega)) ?_
          rintro _ w78 ⟨rfl, H77⟩
          refine wl_nil ⟨.inr ⟨_, ((H77.fr 1 rfl).fr 1 rfl)⟩, ?_⟩
          refine swon rfl rfl rfl rfl hg14 (fld fs38_1 rfl rfl) ?_
          refine saon rfl rfl rfl rfl hg14 ?_
          refine st H77 (ix (r) sl189 2 rfl rfl rfl (by omega) (by omega)) ?_
          refine wl_nil ⟨.inr ⟨_, ((H77.fr 1 rfl).fr 1 rfl)⟩, ?_⟩
          refine saon rfl rfl rfl rfl hg14 ?_
          refine st H77 (ldE1 sc64 2 rfl rfl har58 rfl) ?_
          refine wl_nil ⟨.inr ⟨_, ((H77.fr 1 rfl).fr 1 rfl)⟩, ?_⟩
          refine saon rfl rfl rfl rfl hg14 ?_
          refine st_call cf47 rfl (contains_c _ (H77.fr 3 rfl) (rows_len (by omega)) rfl) ?_
          rintro _ w80 ⟨rfl, H79⟩
          refine wl_nil ⟨.inr ⟨_, ((H79.fr 2 rfl).fr 2 rfl)⟩, ?_⟩
          refine sw rfl rfl (pk_t rfl hg14 rfl) ?_
          refine ws_nil ?_
          refine cw_cond rfl (fun hb81 => ?_) (fun hb81 => ?_)
          · have hp81 := hb81
            try simp at hp81
            have hlt : k' < l.length := kind_lt hk' (n := 4) (by assumption) (by decide)
            refine cw_skip ?_
            refine cw_block ?_
            refine cw_seq ?_
            refine cw_region rfl ?_
            refine st H79 (mv rfl) ?_
            refine st_call cf125 rfl (take_c ((H79.fr 2 rfl).fr 2 rfl) hl (by omega)) ?_
            rintro _ w83 ⟨rfl, H82⟩
            refine st_al H82 zc38 fun b86 w85 H84 => ?_
            refine st_st 0 H84 rfl rfl rfl sz38 rfl rfl rfl rfl fun w88 H87 => ?_
            refine wl_nil ?_
            refine cw_seq ?_
            refine cw_region rfl ?_
            refine st H87 (lda ag38 0 rfl rfl rfl rfl) ?_
            refine st H87 (fa fo38_1 rfl) ?_
            refine st H87 (ld sc9 0 rfl rfl rfl) ?_
            refine st_call cf122 rfl (begin_c _ (nxt l k') _ H87) ?_
            rintro _ w90 ⟨b75_, rfl, H89⟩
            refine st H89 (asg rfl) ?_
            refine wl_nil ?_
            refine cw_seq ?_
            refine cw_region rfl ?_
            refine st H89 (mv rfl) ?_
            refine st H89 (mv rfl) ?_
            refine st H89 (mv rfl) ?_
            refine st H89 (mv rfl) ?_
            refine st H89 (add rfl rfl (by omega) (by omega)) ?_
            refine st_call cf213 rfl (rec_row R (r + 1) (by omega) (by omega) ((H89.fr 5 rfl).fr 5 rfl) (by omega) (fun hz => hf2 (by simp [rowF, hp3, hr5, hs57, hp14, hp81, hz]))) ?_
            rintro e w92 hpH91
            rcases hpH91 with ⟨x76, k76, hs76, hk76, b76_, rfl, H91⟩ | ⟨q76, hs76, rfl, kq76, H91⟩
            · refine st_bs H91 sl149 zc131 rfl rfl rfl rfl rfl fun b95 w94 H93 => ?_
              refine st H93 (nck rfl) ?_
              refine st H93 (fa fo151_1 rfl) ?_
              refine st_st 4 H93 rfl rfl rfl sz149 rfl rfl rfl rfl fun w97 H96 => ?_
              refine wl_nil ?_
              refine cw_seq ?_
              obtain ⟨A77_, c77_, ps77_, HU77⟩ := (H96.fr 10 rfl).untr
              refine cw_sched (Keep _ [_]) 16 (.q 0 (.q 1 (.q 2 (.q 3 (.q 4 (.q 5 (.q 6 (.q 7 (.q 8 (.q 9 (.q 10 (.q 11 (.q 12 (.a 13 (.a 14 (.q 15 (.a 16 .e))))))))))))))))) hm HU77 (fun w h => ⟨_, h⟩) (by kernel_rfl) (by kernel_rfl) rfl (fun w99 H98 => ?_)
              refine sw rfl rfl (mv rfl) ?_
              refine sw rfl rfl (mv rfl) ?_
              refine sw rfl rfl (mv rfl) ?_
              refine sw rfl rfl (nck rfl) ?_
              refine sw rfl rfl (fa fo151_2 rfl) ?_
              refine sw rfl rfl (ks fun L' => ld sc3 0 rfl rfl rfl) ?_
              refine sw rfl rfl (mv rfl) ?_
              refine sw rfl rfl (nck rfl) ?_
              refine sw rfl rfl (fa fo151_2 rfl) ?_
              refine sw rfl rfl (ks fun L' => ld sc3 0 rfl rfl rfl) ?_
              refine sw rfl rfl (nck rfl) ?_
              refine sw rfl rfl (fa fo151_0 rfl) ?_
              refine sw rfl rfl (fa fo43_5 rfl) ?_
              refine sa rfl rfl ?_
              refine st_st 3 H98 rfl rfl rfl sz3 rfl rfl rfl rfl fun w101 H100 => ?_
              refine wl_nil ⟨.inr ⟨_, (H100.fr 1 rfl)⟩, ?_⟩
              refine sa rfl rfl ?_
              refine st H100 (nck rfl) ?_
              refine wl_nil ⟨.inr ⟨_, (H100.fr 1 rfl)⟩, ?_⟩
              refine sw rfl rfl (fa fo151_2 rfl) ?_
              refine sa rfl rfl ?_
              refine st_st 0 H100 rfl rfl rfl sz3 rfl rfl rfl rfl fun w103 H102 => ?_
              refine wl_nil ⟨.inl rfl, ?_⟩
              refine ws_nil ?_
              refine cw_seq ?_
              have HT78 := Own.tr (y.d) (y.kids) (((H102.fr 3 rfl).fr 3 rfl).fr 3 rfl) rfl
              have HR79 := (HT78.fr 2 rfl).row2
              have HS80 := ((HR79.fr 5 rfl).fr 2 rfl).pfo_app
              refine cw_region rfl ?_
              refine st HS80 (mv rfl) ?_
              refine st HS80 (mv rfl) ?_
              refine st_call cf128 rfl (done_c (((HS80.fr 2 rfl).fr 4 rfl).fr 4 rfl) hl (by omega)) ?_
              rintro _ w105 ⟨rfl, H104⟩
              refine st H104 (asg rfl) ?_
              refine wl_nil ?_
              refine cw_seq ?_
              refine cw_region rfl ?_
              refine st H104 (mv rfl) ?_
              refine st H104 (eqi rfl rfl) ?_
              refine wl_nil ?_
              refine cw_cond rfl (fun hb106 => ?_) (fun hb106 => ?_)
              · have hp106 := hb106
                try simp at hp106
                have hr2 : (r = 2) = True := eq_true (by omega)
                refine cw_exit ?_
                refine cw_seq ?_
                refine cw_region rfl ?_
                refine st H104 (mv rfl) ?_
                refine st H104 (asg rfl) ?_
                refine wl_nil ?_
                refine cw_ret ?_
                refine ret1 rfl rfl ?_
                have HT81 := Own.tr (doneN l k76 { begN 27 (nxt l k') (nxt l k').s with frm := y.d.beg, beg := y.d.beg }) ((Fo.one ⟨y.d, y.kids⟩).app (.one x76)) (((H104.fr 3 rfl).fr 4 rfl).fr 4 rfl) rfl
                exact Or.inl ⟨_, _, by rw [e1, hx]; simp [rowF, hp3, hr5, hs57, hp14, hp81, hs76, hp106, hr2], by omega, _, rfl, (((((((HT81.fr 2 rfl).fr 2 rfl).er 3).er 3).er 3).er 3).er 3)⟩
              · have hp106 := hb106
                try simp at hp106
                have hr2 : ¬ r = 2 := by omega
                refine cw_skip ?_
                have HT82 := Own.tr (doneN l k76 { begN 27 (nxt l k') (nxt l k').s with frm := y.d.beg, beg := y.d.beg }) ((Fo.one ⟨y.d, y.kids⟩).app (.one x76)) (((H104.fr 3 rfl).fr 4 rfl).fr 4 rfl) rfl
                exact ⟨(f, _), ⟨rfl, rfl, rfl, trivial⟩, ⟨_, _, (((((((HT82.fr 2 rfl).fr 2 rfl).er 3).er 3).er 3).er 3).er 3), by omega, by rw [hx]; simp [rowF, hp3, hr5, hs57, hp14, hp81, hs76, hp106, hr2]⟩, by omega⟩
            · exact Or.inr ⟨q76, by rw [e1, hx]; simp [rowF, hp3, hr5, hs57, hp14, hp81, hs76], rfl, _, (((((((((H91.fr 1 rfl).fr 1 rfl).er 2).er 2).er 2).er 2).er 2).er 2).er 2)⟩
          · have hp81 := hb81
            try simp at hp81
            refine cw_exit ?_
            refine cw_seq ?_
            refine cw_region rfl ?_
            refine st H79 (mv rfl) ?_
            refine st H79 (asg rfl) ?_
            refine wl_nil ?_
            refine cw_ret ?_
            refine ret1 rfl rfl ?_
            exact Or.inl ⟨_, _, by rw [e1, hx]; simp [rowF, hp3, hr5, hs57, hp14, hp81], by omega, _, rfl, (((((H79.fr 4 rfl).fr 3 rfl).fr 3 rfl).er 3).er 3)⟩
      · have hp14 := hg14
        try simp at hp14
        refine swoff rfl rfl rfl rfl hg14 ?_
        refine swoff rfl rfl rfl rfl hg14 ?_
        refine saoff rfl rfl rfl rfl hg14 (.inr ⟨_, ((H12.fr 1 rfl).fr 1 rfl)⟩) ?_
        refine sb ?_ ?_
        · refine saoff rfl rfl rfl rfl hg14 (.inr ⟨_, ((H12.fr 1 rfl).fr 1 rfl)⟩) ?_
          refine sb ?_ ?_
          · refine saoff rfl rfl rfl rfl hg14 (.inr ⟨_, ((H12.fr 1 rfl).fr 1 rfl)⟩) ?_
            refine saoff rfl rfl rfl rfl hg14 (.inr ⟨_, ((H12.fr 1 rfl).fr 1 rfl)⟩) ?_
            refine swoff rfl rfl rfl rfl hg14 ?_
            refine saoff rfl rfl rfl rfl hg14 (.inr ⟨_, ((H12.fr 1 rfl).fr 1 rfl)⟩) ?_
            refine sw rfl rfl (pk_f rfl hg14 rfl) ?_
            refine ws_nil ?_
            refine cw_cond_f rfl rfl ?_
            refine cw_exit ?_
            refine cw_seq ?_
            refine cw_region rfl ?_
            refine st H12 (mv rfl) ?_
            refine st H12 (asg rfl) ?_
            refine wl_nil ?_
            refine cw_ret ?_
            refine ret1 rfl rfl ?_
            exact Or.inl ⟨_, _, by rw [e1, hx]; simp [rowF, hp3, hr5, hs57, hp14], by omega, _, rfl, (((H12.fr 2 rfl).fr 2 rfl).fr 2 rfl)⟩
          · refine saoff rfl rfl rfl rfl hg14 (.inr ⟨_, ((H12.fr 1 rfl).fr 1 rfl)⟩) ?_
            refine swoff rfl rfl rfl rfl hg14 ?_
            refine saoff rfl rfl rfl rfl hg14 (.inr ⟨_, ((H12.fr 1 rfl).fr 1 rfl)⟩) ?_
            refine saoff rfl rfl rfl rfl hg14 (.inr ⟨_, ((H12.fr 1 rfl).fr 1 rfl)⟩) ?_
            refine sw rfl rfl (pk_f rfl hg14 rfl) ?_
            refine ws_nil ?_
            refine cw_cond_f rfl rfl ?_
            refine cw_exit ?_
            refine cw_seq ?_
            refine cw_region rfl ?_
            refine st H12 (mv rfl) ?_
            refine st H12 (asg rfl) ?_
            refine wl_nil ?_
            refine cw_ret ?_
            refine ret1 rfl rfl ?_
            exact Or.inl ⟨_, _, by rw [e1, hx]; simp [rowF, hp3, hr5, hs57, hp14], by omega, _, rfl, (((H12.fr 2 rfl).fr 2 rfl).fr 2 rfl)⟩
        · refine saoff rfl rfl rfl rfl hg14 (.inr ⟨_, ((H12.fr 1 rfl).fr 1 rfl)⟩) ?_
          refine swoff rfl rfl rfl rfl hg14 ?_
          refine saoff rfl rfl rfl rfl hg14 (.inr ⟨_, ((H12.fr 1 rfl).fr 1 rfl)⟩) ?_
          refine saoff rfl rfl rfl rfl hg14 (.inr ⟨_, ((H12.fr 1 rfl).fr 1 rfl)⟩) ?_
          refine saoff rfl rfl rfl rfl hg14 (.inr ⟨_, ((H12.fr 1 rfl).fr 1 rfl)⟩) ?_
          refine sw rfl rfl (pk_f rfl hg14 rfl) ?_
          refine ws_nil ?_
          refine cw_cond_f rfl rfl ?_
          refine cw_exit ?_
          refine cw_seq ?_
          refine cw_region rfl ?_
          refine st H12 (mv rfl) ?_
          refine st H12 (asg rfl) ?_
          refine wl_nil ?_
          refine cw_ret ?_
          refine ret1 rfl rfl ?_
          exact Or.inl ⟨_, _, by rw [e1, hx]; simp [rowF, hp3, hr5, hs57, hp14], by omega, _, rfl, (((H12.fr 2 rfl).fr 2 rfl).fr 2 rfl)⟩
    · exact Or.inr ⟨q57, by simp [stepS, hp3, hr5, hs57], rfl, _, ((((H6.fr 1 rfl).fr 1 rfl).er 2).er 2)⟩
theorem post_c {rec : NT → Nat → PR Tr} (R : RC g pb A c l nv rec)  (H : Own g (PT g pb A c l k nv L) w) (hl : TkOk l) (hk : k ≤ l.length) (hf : stepS l rec .post k ≠ .fu) : Calls Pg 236 #[.pointer (some ⟨pb, 0, none⟩)] w (PO g pb A c l nv L (stepS l rec .post k)) := by
  refine calls_cw (vs := [_]) Tryz.func236 rfl rfl rfl ?_
  refine cw_seq ?_
  refine cw_region rfl ?_
  refine st H (asg rfl) ?_
  refine wl_nil ?_
  refine cw_seq ?_
  refine cw_region rfl ?_
  refine st H (mv rfl) ?_
  refine st_call cf237 rfl (rec_prim R ((H.fr 1 rfl).fr 1 rfl) (by omega) (fun hz => hf (by simp [stepS, hz]))) ?_
  rintro e w2 hpH1
  rcases hpH1 with ⟨x83, k83, hs83, hk83, b83_, rfl, H1⟩ | ⟨q83, hs83, rfl, kq83, H1⟩
  · refine st H1 (asg rfl) ?_
    refine wl_nil ?_
    refine cw_block ?_
    have e1 : stepS l rec .post k = postF l (rec (.row 0)) (l.length + 1) k83 x83 := by simp [stepS, hs83]
    have hf1 := hf
    rw [e1] at hf1
    refine cw_loop (σ := Nat × Nat) (fun s => [(0, .pointer (some ⟨pb, 0, none⟩)), (3, .pointer (some ⟨s.2, 0, none⟩))]) (fun s w => ∃ k' y, Own g (PT g pb A c l k' nv (PFo (.one y) [s.2] :: L)) w ∧ k' ≤ l.length ∧ postF l (rec (.row 0)) (l.length + 1) k83 x83 = postF l (rec (.row 0)) s.1 k' y) (fun s => s.1) (l.length + 1, b83_) ⟨rfl, rfl, trivial⟩ ⟨_, _, (((H1.fr 2 rfl).fr 2 rfl).fr 2 rfl), by omega, rfl⟩ ?_
    rintro s w4 ⟨k', y, H3, hk', hx⟩
    obtain ⟨sf, sz⟩ := s
    simp only at *
    have hf2 := hf1
    rw [hx] at hf2
    obtain ⟨f, rfl⟩ : ∃ j, sf = j + 1 := by
      cases sf with
      | zero => exact absurd rfl hf2
      | succ j => exact ⟨j, rfl⟩
    refine cw_block ?_
    refine cw_block ?_
    refine cw_seq ?_
    refine cw_region rfl ?_
    refine st H3 (mv rfl) ?_
    refine st_call cf124 rfl (is_c _ ((H3.fr 1 rfl).fr 1 rfl) hl (by omega)) ?_
    rintro _ w6 ⟨rfl, H5⟩
    refine st H5 (asg rfl) ?_
    refine wl_nil ?_
    refine cw_cond rfl (fun hb7 => ?_) (fun hb7 => ?_)
    · have hp7 := hb7
      try simp at hp7
      have hlt := isB_lt hk' hp7
      refine cw_seq ?_
      refine cw_region rfl ?_
      refine st H5 (mv rfl) ?_
      refine st_call cf125 rfl (take_c ((H5.fr 1 rfl).fr 1 rfl) hl (by omega)) ?_
      rintro _ w9 ⟨rfl, H8⟩
      refine wl_nil ?_
      refine cw_seq ?_
      refine cw_region rfl ?_
      refine st H8 (mv rfl) ?_
      refine st_call cf121 rfl (name_c ((H8.fr 1 rfl).fr 1 rfl) hl (by omega)) ?_
      rintro e w11 hpH10
      rcases hpH10 with ⟨x84, k84, hs84, hk84, rfl, H10⟩ | ⟨q84, hs84, rfl, kq84, H10⟩
      · refine st_al H10 zc38 fun b14 w13 H12 => ?_
        refine st_st 0 H12 rfl rfl rfl sz38 rfl rfl rfl rfl fun w16 H15 => ?_
        refine wl_nil ?_
        refine cw_seq ?_
        refine cw_region rfl ?_
        refine st H15 (lda ag38 0 rfl rfl rfl rfl) ?_
        refine st H15 (fa fo38_1 rfl) ?_
        refine st H15 (ld sc9 0 rfl rfl rfl) ?_
        refine st_call cf122 rfl (begin_c _ (x84) _ H15) ?_
        rintro _ w18 ⟨b85_, rfl, H17⟩
        refine st H17 (asg rfl) ?_
        refine wl_nil ?_
        refine cw_seq ?_
        obtain ⟨A86_, c86_, ps86_, HU86⟩ := (H17.fr 6 rfl).untr
        refine cw_sched (Keep _ [_]) 22 (.q 0 (.q 1 (.q 2 (.q 3 (.q 4 (.q 5 (.q 6 (.q 7 (.q 8 (.q 9 (.q 10 (.q 11 (.q 13 (.q 14 (.q 15 (.b 12 (.a 16 (.q 17 (.q 18 (.a 19 (.a 20 (.q 21 (.a 22 .e))))))) 16 (.q 17 (.q 18 (.b 12 (.a 19 (.a 20 (.q 21 (.a 22 .e)))) 19 (.a 12 (.a 20 (.q 21 (.a 22 .e))))))))))))))))))))))) hm HU86 (fun w h => ⟨_, h⟩) (by kernel_rfl) (by kernel_rfl) rfl (fun w20 H19 => ?_)
        refine sw rfl rfl (mv rfl) ?_
        refine sw rfl rfl (mv rfl) ?_
        refine sw rfl rfl (mv rfl) ?_
        refine sw rfl rfl (mv rfl) ?_
        refine sw rfl rfl (nck rfl) ?_
        refine sw rfl rfl (fa fo151_2 rfl) ?_
        refine sw rfl rfl (ks fun L' => ld sc3 0 rfl rfl rfl) ?_
        refine sw rfl rfl (mv rfl) ?_
        refine sw rfl rfl (nck rfl) ?_
        refine sw rfl rfl (fa fo151_2 rfl) ?_
        refine sw rfl rfl (ks fun L' => ld sc3 0 rfl rfl rfl) ?_
        refine sw rfl rfl (mv rfl) ?_
        refine sw rfl rfl (nck rfl) ?_
        refine sw rfl rfl (fa fo151_0 rfl) ?_
        refine sw rfl rfl (fa fo43_5 rfl) ?_
        refine sb ?_ ?_
        · refine sa rfl rfl ?_
          refine st_bs H19 sl149 zc131 rfl rfl rfl rfl rfl fun b23 w22 H21 => ?_
          refine wl_nil ⟨.inr ⟨_, (H21.fr 1 rfl)⟩, ?_⟩
          refine sa rfl rfl ?_
          refine st_st 4 H21 rfl rfl rfl sz3 rfl rfl rfl rfl fun w25 H24 => ?_
          refine wl_nil ⟨.inr ⟨_, (H24.fr 2 rfl)⟩, ?_⟩
          refine sw rfl rfl (nck rfl) ?_
          refine sw rfl rfl (fa fo151_2 rfl) ?_
          refine sa rfl rfl ?_
          refine st_st 0 H24 rfl rfl rfl sz3 rfl rfl rfl rfl fun w27 H26 => ?_
          refine wl_nil ⟨.inr ⟨_, (H26.fr 2 rfl)⟩, ?_⟩
          refine sa rfl rfl ?_
          refine st H26 (nck rfl) ?_
          refine wl_nil ⟨.inr ⟨_, (H26.fr 2 rfl)⟩, ?_⟩
          refine sw rfl rfl (fa fo151_1 rfl) ?_
          refine sa rfl rfl ?_
          refine st_st 0 H26 rfl rfl rfl sz149 rfl rfl rfl rfl fun w29 H28 => ?_
          refine wl_nil ⟨.inl rfl, ?_⟩
          refine ws_nil ?_
          have HT87 := Own.tr (y.d) (y.kids) (((H28.fr 4 rfl).fr 4 rfl).fr 4 rfl) rfl
          have HR88 := (HT87.fr 2 rfl).row1
          refine cw_region rfl ?_
          refine st HR88 (mv rfl) ?_
          refine st HR88 (mv rfl) ?_
          refine st_call cf128 rfl (done_c (((HR88.fr 2 rfl).fr 7 rfl).fr 7 rfl) hl (by omega)) ?_
          rintro _ w31 ⟨rfl, H30⟩
          refine st H30 (asg rfl) ?_
          refine wl_nil ?_
          have HT89 := Own.tr (doneN l k84 { begN 24 x84 x84.s with frm := y.d.beg, beg := y.d.beg }) (.one ⟨y.d, y.kids⟩) (((H30.fr 4 rfl).fr 4 rfl).fr 4 rfl) rfl
          exact ⟨(f, _), ⟨rfl, rfl, trivial⟩, ⟨_, _, (((((HT89.fr 2 rfl).fr 2 rfl).er 3).er 3).er 3), by omega, by rw [hx]; simp [postF, hs83, hp7, hs84]⟩, by omega⟩
        · refine sa rfl rfl ?_
          refine st_st 3 H19 rfl rfl rfl sz3 rfl rfl rfl rfl fun w33 H32 => ?_
          refine wl_nil ⟨.inr ⟨_, (H32.fr 1 rfl)⟩, ?_⟩
          refine sw rfl rfl (nck rfl) ?_
          refine sw rfl rfl (fa fo151_2 rfl) ?_
          refine sb ?_ ?_
          · refine sa rfl rfl ?_
            refine st_bs H32 sl149 zc131 rfl rfl rfl rfl rfl fun b36 w35 H34 => ?_
            refine wl_nil ⟨.inr ⟨_, (H34.fr 2 rfl)⟩, ?_⟩
            refine sa rfl rfl ?_
            refine st_st 1 H34 rfl rfl rfl sz3 rfl rfl rfl rfl fun w38 H37 => ?_
            refine wl_nil ⟨.inr ⟨_, (H37.fr 2 rfl)⟩, ?_⟩
            refine sa rfl rfl ?_
            refine st H37 (nck rfl) ?_
            refine wl_nil ⟨.inr ⟨_, (H37.fr 2 rfl)⟩, ?_⟩
            refine sw rfl rfl (fa fo151_1 rfl) ?_
            refine sa rfl rfl ?_
            refine st_st 0 H37 rfl rfl rfl sz149 rfl rfl rfl rfl fun w40 H39 => ?_
            refine wl_nil ⟨.inl rfl, ?_⟩
            refine ws_nil ?_
            have HT90 := Own.tr (y.d) (y.kids) (((H39.fr 4 rfl).fr 4 rfl).fr 4 rfl) rfl
            have HR91 := (HT90.fr 2 rfl).row1
            refine cw_region rfl ?_
            refine st HR91 (mv rfl) ?_
            refine st HR91 (mv rfl) ?_
            refine st_call cf128 rfl (done_c (((HR91.fr 2 rfl).fr 7 rfl).fr 7 rfl) hl (by omega)) ?_
            rintro _ w42 ⟨rfl, H41⟩
            refine st H41 (asg rfl) ?_
            refine wl_nil ?_
            have HT92 := Own.tr (doneN l k84 { begN 24 x84 x84.s with frm := y.d.beg, beg := y.d.beg }) (.one ⟨y.d, y.kids⟩) (((H41.fr 4 rfl).fr 4 rfl).fr 4 rfl) rfl
            exact ⟨(f, _), ⟨rfl, rfl, trivial⟩, ⟨_, _, (((((HT92.fr 2 rfl).fr 2 rfl).er 3).er 3).er 3), by omega, by rw [hx]; simp [postF, hs83, hp7, hs84]⟩, by omega⟩
          · refine sa rfl rfl ?_
            refine st_st 0 H32 rfl rfl rfl sz3 rfl rfl rfl rfl fun w44 H43 => ?_
            refine wl_nil ⟨.inr ⟨_, (H43.fr 1 rfl)⟩, ?_⟩
            refine sa rfl rfl ?_
            refine st_bs H43 sl149 zc131 rfl rfl rfl rfl rfl fun b47 w46 H45 => ?_
            refine wl_nil ⟨.inr ⟨_, (H45.fr 2 rfl)⟩, ?_⟩
            refine sa rfl rfl ?_
            refine st H45 (nck rfl) ?_
            refine wl_nil ⟨.inr ⟨_, (H45.fr 2 rfl)⟩, ?_⟩
            refine sw rfl rfl (fa fo151_1 rfl) ?_
            refine sa rfl rfl ?_
            refine st_st 1 H45 rfl rfl rfl sz149 rfl rfl rfl rfl fun w49 H48 => ?_
            refine wl_nil ⟨.inl rfl, ?_⟩
            refine ws_nil ?_
            have HT93 := Own.tr (y.d) (y.kids) (((H48.fr 4 rfl).fr 4 rfl).fr 4 rfl) rfl
            have HR94 := (HT93.fr 2 rfl).row1
            refine cw_region rfl ?_
            refine st HR94 (mv rfl) ?_
            refine st HR94 (mv rfl) ?_
            refine st_call cf128 rfl (done_c (((HR94.fr 2 rfl).fr 7 rfl).fr 7 rfl) hl (by omega)) ?_
            rintro _ w51 ⟨rfl, H50⟩
            refine st H50 (asg rfl) ?_
            refine wl_nil ?_
            have HT95 := Own.tr (doneN l k84 { begN 24 x84 x84.s with frm := y.d.beg, beg := y.d.beg }) (.one ⟨y.d, y.kids⟩) (((H50.fr 4 rfl).fr 4 rfl).fr 4 rfl) rfl
            exact ⟨(f, _), ⟨rfl, rfl, trivial⟩, ⟨_, _, (((((HT95.fr 2 rfl).fr 2 rfl).er 3).er 3).er 3), by omega, by rw [hx]; simp [postF, hs83, hp7, hs84]⟩, by omega⟩
      · exact Or.inr ⟨q84, by rw [e1, hx]; simp [postF, hs83, hp7, hs84], rfl, _, (((H10.fr 1 rfl).fr 1 rfl).er 2)⟩
    · have hp7 := hb7
      try simp at hp7
      refine cw_seq ?_
      refine cw_region rfl ?_
      refine st H5 (mv rfl) ?_
      refine st_call cf124 rfl (is_c _ ((H5.fr 1 rfl).fr 1 rfl) hl (by omega)) ?_
      rintro _ w53 ⟨rfl, H52⟩
      refine st H52 (asg rfl) ?_
      refine wl_nil ?_
      refine cw_cond rfl (fun hb54 => ?_) (fun hb54 => ?_)
      · have hp54 := hb54
        try simp at hp54
        have hlt := isB_lt hk' hp54
        refine cw_seq ?_
        refine cw_region rfl ?_
        refine st H52 (mv rfl) ?_
        refine st_call cf125 rfl (take_c ((H52.fr 1 rfl).fr 1 rfl) hl (by omega)) ?_
        rintro _ w56 ⟨rfl, H55⟩
        refine wl_nil ?_
        refine cw_seq ?_
        obtain ⟨A96_, c96_, ps96_, HU96⟩ := (H55.fr 2 rfl).untr
        refine cw_sched (Keep _ [_]) 16 (.q 0 (.q 1 (.q 2 (.q 3 (.q 4 (.q 5 (.q 6 (.q 7 (.q 8 (.q 9 (.q 10 (.q 11 (.q 12 (.q 13 (.a 14 (.q 15 .e)))))))))))))))) hm HU96 (fun w h => ⟨_, h⟩) (by kernel_rfl) (by kernel_rfl) rfl (fun w58 H57 => ?_)
        refine sw rfl rfl (mv rfl) ?_
        refine sw rfl rfl (nck rfl) ?_
        refine sw rfl rfl (fa fo151_2 rfl) ?_
        refine sw rfl rfl (ks fun L' => ld sc3 0 rfl rfl rfl) ?_
        refine sw rfl rfl (mv rfl) ?_
        refine sw rfl rfl (nck rfl) ?_
        refine sw rfl rfl (fa fo151_2 rfl) ?_
        refine sw rfl rfl (ks fun L' => ld sc3 0 rfl rfl rfl) ?_
        refine sw rfl rfl (bld zc43 pl43 rfl rfl) ?_
        refine sw rfl rfl (mv rfl) ?_
        refine sw rfl rfl (nck rfl) ?_
        refine sw rfl rfl (fa fo151_2 rfl) ?_
        refine sw rfl rfl (ks fun L' => ld sc3 0 rfl rfl rfl) ?_
        refine sw rfl rfl (bld zc151 pl151 rfl rfl) ?_
        refine sa rfl rfl ?_
        refine st_box H57 rfl rfl fun b61 w60 H59 => ?_
        refine wl_nil ⟨.inr ⟨_, (H59.fr 1 rfl)⟩, ?_⟩
        refine sw rfl rfl (asg rfl) ?_
        refine ws_nil ?_
        refine cw_seq ?_
        have HT97 := Own.tr (y.d) (y.kids) (((H59.fr 3 rfl).fr 3 rfl).fr 3 rfl) rfl
        refine cw_region rfl ?_
        refine st HT97 (mv rfl) ?_
        refine st HT97 (mv rfl) ?_
        refine st_bs HT97 sl149 zc131 rfl rfl rfl rfl rfl fun b64 w63 H62 => ?_
        refine st H62 (nck rfl) ?_
        refine st H62 (fa fo151_1 rfl) ?_
        refine st_st 2 H62 rfl rfl rfl sz149 rfl rfl rfl rfl fun w66 H65 => ?_
        refine wl_nil ?_
        refine cw_seq ?_
        have HR98 := (H65.fr 1 rfl).row1
        refine cw_region rfl ?_
        refine st HR98 (mv rfl) ?_
        refine st HR98 (mv rfl) ?_
        refine st HR98 (mv rfl) ?_
        refine st HR98 (mkf rfl rfl) ?_
        refine st_call cf187 rfl (commas_c (ps := [sz]) (d := ⟨25, ⟨#[]⟩, 0, y.d.beg, y.d.beg, 0, y.d.beg⟩) (one_expr R hl) cf185 (((((HR98.fr 2 rfl).fr 1 rfl).fr 2 rfl).fr 4 rfl).fr 4 rfl) hl (by omega) (by first | simp | omega) (fun hz => hf2 (by simp [postF, hs83, hp7, hp54, hz]))) ?_
        rintro e w68 hpH67
        rcases hpH67 with ⟨x99, k99, hs99, hk99, rfl, A99_, c99_, qs99, hq99, H67⟩ | ⟨q99, hs99, rfl, kq99, H67⟩
        · refine wl_nil ?_
          refine cw_region rfl ?_
          refine st H67 (mv rfl) ?_
          refine st H67 (mv rfl) ?_
          refine st_call cf128 rfl (done_c (((H67.fr 2 rfl).fr 2 rfl).fr 2 rfl) hl (by omega)) ?_
          rintro _ w70 ⟨rfl, H69⟩
          refine st H69 (asg rfl) ?_
          refine wl_nil ?_
          have HT100 := Own.tr (doneN l k99 ⟨25, ⟨#[]⟩, 0, y.d.beg, y.d.beg, 0, y.d.beg⟩) (x99) (((H69.fr 4 rfl).fr 4 rfl).fr 4 rfl) rfl
          exact ⟨(f, _), ⟨rfl, rfl, trivial⟩, ⟨_, _, ((HT100.fr 2 rfl).fr 2 rfl), by omega, by rw [hx]; simp [postF, hs83, hp7, hp54, hs99]⟩, by omega⟩
        · exact Or.inr ⟨q99, by rw [e1, hx]; simp [postF, hs83, hp7, hp54, hs99], rfl, _, ((H67.fr 1 rfl).fr 1 rfl)⟩
      · have hp54 := hb54
        try simp at hp54
        refine cw_seq ?_
        refine cw_region rfl ?_
        refine st H52 (mv rfl) ?_
        refine st H52 (asg rfl) ?_
        refine wl_nil ?_
        refine cw_ret ?_
        refine ret1 rfl rfl ?_
        exact Or.inl ⟨_, _, by rw [e1, hx]; simp [postF, hs83, hp7, hp54], by omega, _, rfl, (((H52.fr 2 rfl).fr 2 rfl).fr 2 rfl)⟩
  · exact Or.inr ⟨q83, by simp [stepS, hs83], rfl, _, ((H1.fr 1 rfl).fr 1 rfl)⟩
set_option maxHeartbeats 1000000 in
theorem stmt_c {rec : NT → Nat → PR Tr} (R : RC g pb A c l nv rec)  (H : Own g (PT g pb A c l k nv L) w) (hl : TkOk l) (hk : k ≤ l.length) (hf : stepS l rec .stmt k ≠ .fu) : Calls Pg 214 #[.pointer (some ⟨pb, 0, none⟩)] w (PO g pb A c l nv L (stepS l rec .stmt k)) := by
  refine calls_cw (vs := [_]) Tryz.func214 rfl rfl rfl ?_
  have hl1 := hl.1
  refine cw_seq ?_
  refine cw_region rfl ?_
  refine st H (asg rfl) ?_
  refine wl_nil ?_
  refine cw_seq ?_
  refine cw_block ?_
  refine cw_seq ?_
  refine cw_region rfl ?_
  refine st H (mv rfl) ?_
  refine st_call cf124 rfl (is_c _ ((H.fr 1 rfl).fr 1 rfl) hl (by omega)) ?_
  rintro _ w2 ⟨rfl, H1⟩
  refine st H1 (asg rfl) ?_
  refine wl_nil ?_
  refine cw_cond rfl (fun hb3 => ?_) (fun hb3 => ?_)
  · have hp3 := hb3
    try simp at hp3
    refine cw_seq ?_
    refine cw_region rfl ?_
    refine st H1 (mv rfl) ?_
    refine st_call cf189 rfl (rec_block R ((H1.fr 1 rfl).fr 1 rfl) (by omega) (fun hz => hf (by simp [stepS, hp3, hz]))) ?_
    rintro e w5 hpH4
    rcases hpH4 with ⟨x101, k101, hs101, hk101, b101_, rfl, H4⟩ | ⟨q101, hs101, rfl, kq101, H4⟩
    · refine st H4 (asg rfl) ?_
      refine wl_nil ?_
      refine cw_ret ?_
      refine ret1 rfl rfl ?_
      exact Or.inl ⟨_, _, by simp [stepS, hp3, hs101], by omega, _, rfl, (((H4.fr 2 rfl).fr 2 rfl).fr 2 rfl)⟩
    · exact Or.inr ⟨q101, by simp [stepS, hp3, hs101], rfl, _, ((H4.fr 1 rfl).fr 1 rfl)⟩
  · have hp3 := hb3
    try simp at hp3
    refine cw_seq ?_
    refine cw_region rfl ?_
    refine st H1 (mv rfl) ?_
    refine st_call cf124 rfl (is_c _ ((H1.fr 1 rfl).fr 1 rfl) hl (by omega)) ?_
    rintro _ w7 ⟨rfl, H6⟩
    refine st H6 (asg rfl) ?_
    refine wl_nil ?_
    refine cw_cond rfl (fun hb8 => ?_) (fun hb8 => ?_)
    · have hp8 := hb8
      try simp at hp8
      have hlt : k < l.length := isB_lt hk (by assumption)
      refine cw_seq ?_
      refine cw_region rfl ?_
      refine st H6 (mv rfl) ?_
      refine st_call cf161 rfl (variable_c R ((H6.fr 1 rfl).fr 1 rfl) hl (by omega) (fun hz => hf (by simp [stepS, hp3, hp8, hz]))) ?_
      rintro e w10 hpH9
      rcases hpH9 with ⟨x102, k102, hs102, hk102, b102_, rfl, H9⟩ | ⟨q102, hs102, rfl, kq102, H9⟩
      · refine st H9 (asg rfl) ?_
        refine wl_nil ?_
        refine cw_ret ?_
        refine ret1 rfl rfl ?_
        exact Or.inl ⟨_, _, by simp [stepS, hp3, hp8, hs102], by omega, _, rfl, (((H9.fr 2 rfl).fr 2 rfl).fr 2 rfl)⟩
      · exact Or.inr ⟨q102, by simp [stepS, hp3, hp8, hs102], rfl, _, ((H9.fr 1 rfl).fr 1 rfl)⟩
    · have hp8 := hb8
      try simp at hp8
      refine cw_seq ?_
      refine cw_region rfl ?_
      refine st H6 (mv rfl) ?_
      refine st_call cf124 rfl (is_c _ ((H6.fr 1 rfl).fr 1 rfl) hl (by omega)) ?_
      rintro _ w12 ⟨rfl, H11⟩
      refine st H11 (asg rfl) ?_
      refine wl_nil ?_
      refine cw_cond rfl (fun hb13 => ?_) (fun hb13 => ?_)
      · have hp13 := hb13
        try simp at hp13
        refine cw_seq ?_
        refine cw_region rfl ?_
        refine st H11 (mv rfl) ?_
        refine st_call cf231 rfl (rec_branch R ((H11.fr 1 rfl).fr 1 rfl) (by omega) (fun hz => hf (by simp [stepS, hp3, hp8, hp13, hz]))) ?_
        rintro e w15 hpH14
        rcases hpH14 with ⟨x103, k103, hs103, hk103, b103_, rfl, H14⟩ | ⟨q103, hs103, rfl, kq103, H14⟩
        · refine st H14 (asg rfl) ?_
          refine wl_nil ?_
          refine cw_ret ?_
          refine ret1 rfl rfl ?_
          exact Or.inl ⟨_, _, by simp [stepS, hp3, hp8, hp13, hs103], by omega, _, rfl, (((H14.fr 2 rfl).fr 2 rfl).fr 2 rfl)⟩
        · exact Or.inr ⟨q103, by simp [stepS, hp3, hp8, hp13, hs103], rfl, _, ((H14.fr 1 rfl).fr 1 rfl)⟩
      · have hp13 := hb13
        try simp at hp13
        refine cw_seq ?_
        refine cw_region rfl ?_
        refine st H11 (mv rfl) ?_
        refine st_call cf124 rfl (is_c _ ((H11.fr 1 rfl).fr 1 rfl) hl (by omega)) ?_
        rintro _ w17 ⟨rfl, H16⟩
        refine st H16 (asg rfl) ?_
        refine wl_nil ?_
        refine cw_cond rfl (fun hb18 => ?_) (fun hb18 => ?_)
        · have hp18 := hb18
          try simp at hp18
          have hlt : k < l.length := isB_lt hk (by assumption)
          refine cw_seq ?_
          refine cw_region rfl ?_
          refine st H16 (mv rfl) ?_
          refine st_call cf125 rfl (take_c ((H16.fr 1 rfl).fr 1 rfl) hl (by omega)) ?_
          rintro _ w20 ⟨rfl, H19⟩
          refine st_call cf122 rfl (begin_c _ (nxt l k) _ H19) ?_
          rintro _ w22 ⟨b104_, rfl, H21⟩
          refine st H21 (asg rfl) ?_
          refine wl_nil ?_
          refine cw_seq ?_
          refine cw_sched (Keep _ [_]) 11 (.q 0 (.q 1 (.q 2 (.q 3 (.q 4 (.q 5 (.a 6 (.a 7 (.a 8 (.a 9 (.q 10 (.a 11 .e)))))))))))) hm H21 (fun w h => ⟨_, h⟩) (by kernel_rfl) (by kernel_rfl) rfl (fun w24 H23 => ?_)
          refine sw rfl rfl (mv rfl) ?_
          refine sw rfl rfl (mv rfl) ?_
          refine sw rfl rfl (nck rfl) ?_
          refine sw rfl rfl (fa fo151_1 rfl) ?_
          refine sw rfl rfl (ks fun L' => ld sc149 0 rfl rfl rfl) ?_
          refine sw rfl rfl (mv rfl) ?_
          refine sa rfl rfl ?_
          refine st_call cf185 rfl (expr_c R ((H23.fr 4 rfl).fr 4 rfl) hl (by omega) (fun hz => hf (by simp [stepS, hp3, hp8, hp13, hp18, hz]))) ?_
          rintro e w26 hpH25
          rcases hpH25 with ⟨x105, k105, hs105, hk105, b105_, rfl, H25⟩ | ⟨q105, hs105, rfl, kq105, H25⟩
          · refine wl_nil ⟨.inr ⟨_, (H25.fr 3 rfl)⟩, ?_⟩
            refine sa rfl rfl ?_
            refine st_bs H25 sl149 zc131 rfl rfl rfl rfl rfl fun b29 w28 H27 => ?_
            refine wl_nil ⟨.inr ⟨_, (H27.fr 4 rfl)⟩, ?_⟩
            refine sa rfl rfl ?_
            refine st_app 5 0 ([b105_]) H27 sl149 zc131 rfl rfl rfl rfl rfl rfl rfl rfl (by intro y hy; simp at hy; subst hy; exact ⟨rfl, rfl⟩) (by first | omega | (simp <;> omega)) (by first | omega | (simp <;> omega)) fun A32 c33 w31 H30 => ?_
            refine wl_nil ⟨.inr ⟨_, (H30.fr 5 rfl)⟩, ?_⟩
            refine sa rfl rfl ?_
            refine st H30 (nck rfl) ?_
            refine wl_nil ⟨.inr ⟨_, (H30.fr 5 rfl)⟩, ?_⟩
            refine sw rfl rfl (fa fo151_1 rfl) ?_
            refine sa rfl rfl ?_
            refine st_st 5 H30 rfl rfl rfl sz149 rfl rfl rfl rfl fun w35 H34 => ?_
            refine wl_nil ⟨.inl rfl, ?_⟩
            refine ws_nil ?_
            refine cw_seq ?_
            have HS106 := ((H34.fr 5 rfl).fr 6 rfl).pfo_app
            refine cw_sched (Keep _ [_]) 11 (.q 0 (.q 1 (.q 2 (.q 3 (.q 4 (.q 5 (.a 6 (.a 7 (.a 8 (.a 9 (.q 10 (.a 11 .e)))))))))))) hm HS106 (fun w h => ⟨_, (h.fr 1 rfl)⟩) (by kernel_rfl) (by kernel_rfl) rfl (fun w37 H36 => ?_)
            refine sw rfl rfl (mv rfl) ?_
            refine sw rfl rfl (mv rfl) ?_
            refine sw rfl rfl (nck rfl) ?_
            refine sw rfl rfl (fa fo151_1 rfl) ?_
            refine sw rfl rfl (ks fun L' => ld sc149 0 rfl rfl rfl) ?_
            refine sw rfl rfl (mv rfl) ?_
            refine sa rfl rfl ?_
            refine st_call cf189 rfl (rec_block R ((H36.fr 5 rfl).fr 5 rfl) (by omega) (fun hz => hf (by simp [stepS, hp3, hp8, hp13, hp18, hs105, hz]))) ?_
            rintro e w39 hpH38
            rcases hpH38 with ⟨x107, k107, hs107, hk107, b107_, rfl, H38⟩ | ⟨q107, hs107, rfl, kq107, H38⟩
            · refine wl_nil ⟨.inr ⟨_, (H38.fr 4 rfl)⟩, ?_⟩
              refine sa rfl rfl ?_
              refine st_bs H38 sl149 zc131 rfl rfl rfl rfl rfl fun b42 w41 H40 => ?_
              refine wl_nil ⟨.inr ⟨_, (H40.fr 5 rfl)⟩, ?_⟩
              refine sa rfl rfl ?_
              refine st_app 6 0 ([b107_]) H40 sl149 zc131 rfl rfl rfl rfl rfl rfl rfl rfl (by intro y hy; simp at hy; subst hy; exact ⟨rfl, rfl⟩) (by first | omega | (simp <;> omega)) (by first | omega | (simp <;> omega)) fun A45 c46 w44 H43 => ?_
              refine wl_nil ⟨.inr ⟨_, (H43.fr 6 rfl)⟩, ?_⟩
              refine sa rfl rfl ?_
              refine st H43 (nck rfl) ?_
              refine wl_nil ⟨.inr ⟨_, (H43.fr 6 rfl)⟩, ?_⟩
              refine sw rfl rfl (fa fo151_1 rfl) ?_
              refine sa rfl rfl ?_
              refine st_st 6 H43 rfl rfl rfl sz149 rfl rfl rfl rfl fun w48 H47 => ?_
              refine wl_nil ⟨.inl rfl, ?_⟩
              refine ws_nil ?_
              refine cw_seq ?_
              have HS108 := ((H47.fr 5 rfl).fr 6 rfl).pfo_app
              refine cw_region rfl ?_
              refine st HS108 (mv rfl) ?_
              refine st HS108 (mv rfl) ?_
              refine st_call cf128 rfl (done_c (((HS108.fr 1 rfl).fr 5 rfl).fr 5 rfl) hl (by omega)) ?_
              rintro _ w50 ⟨rfl, H49⟩
              refine st H49 (asg rfl) ?_
              refine wl_nil ?_
              refine cw_ret ?_
              refine ret1 rfl rfl ?_
              have HT109 := Own.tr (doneN l k107 (begN 15 (nxt l k) ⟨#[]⟩)) (((Fo.nil).app (.one x105)).app (.one x107)) (((H49.fr 3 rfl).fr 4 rfl).fr 4 rfl) rfl
              exact Or.inl ⟨_, _, by simp [stepS, hp3, hp8, hp13, hp18, hs105, hs107, Fo.app, Fo.one], by omega, _, rfl, ((((HT109.fr 2 rfl).fr 2 rfl).er 3).er 3)⟩
            · exact Or.inr ⟨q107, by simp [stepS, hp3, hp8, hp13, hp18, hs105, hs107], rfl, _, ((((((H38.fr 1 rfl).fr 1 rfl).er 2).er 2).er 2).er 2)⟩
          · exact Or.inr ⟨q105, by simp [stepS, hp3, hp8, hp13, hp18, hs105], rfl, _, (((((H25.fr 1 rfl).fr 1 rfl).er 2).er 2).er 2)⟩
        · have hp18 := hb18
          try simp at hp18
          refine cw_seq ?_
          refine cw_region rfl ?_
          refine st H16 (mv rfl) ?_
          refine st_call cf124 rfl (is_c _ ((H16.fr 1 rfl).fr 1 rfl) hl (by omega)) ?_
          rintro _ w52 ⟨rfl, H51⟩
          refine st H51 (asg rfl) ?_
          refine wl_nil ?_
          refine cw_cond rfl (fun hb53 => ?_) (fun hb53 => ?_)
          · have hp53 := hb53
            try simp at hp53
            have hlt : k < l.length := isB_lt hk (by assumption)
            refine cw_seq ?_
            refine cw_region rfl ?_
            refine st H51 (mv rfl) ?_
            refine st_call cf125 rfl (take_c ((H51.fr 1 rfl).fr 1 rfl) hl (by omega)) ?_
            rintro _ w55 ⟨rfl, H54⟩
            refine st_call cf122 rfl (begin_c _ (nxt l k) _ H54) ?_
            rintro _ w57 ⟨b110_, rfl, H56⟩
            refine st H56 (asg rfl) ?_
            refine wl_nil ?_
            refine cw_seq ?_
            refine cw_seq ?_
            refine cw_region rfl ?_
            refine st H56 (mv rfl) ?_
            refine st_call cf156 rfl (next_c ((H56.fr 4 rfl).fr 4 rfl) hl (by omega)) ?_
            rintro _ w59 ⟨rfl, H58⟩
            refine st H58 (fld fs38_0 rfl rfl) ?_
            refine st H58 (nei rfl rfl) ?_
            refine st H58 (mv rfl) ?_
            refine wl_case (t := 67) rfl (fun hg60 => ?_) (fun hg60 => ?_)
            · have hp60 := hg60
              try simp at hp60
              refine gon rfl rfl hg60 ?_
              refine st H58 (mv rfl) ?_
              refine gon rfl rfl hg60 ?_
              refine st_call cf124 rfl (is_c _ ((H58.fr 1 rfl).fr 1 rfl) hl (by omega)) ?_
              rintro _ w62 ⟨rfl, H61⟩
              refine gon rfl rfl hg60 ?_
              refine st H61 (notb rfl) ?_
              refine st H61 (pk_t rfl hg60 rfl) ?_
              refine wl_nil ?_
              refine cw_cond rfl (fun hb63 => ?_) (fun hb63 => ?_)
              · have hp63 := hb63
                try simp at hp63
                refine cw_sched (Keep _ [_]) 11 (.q 0 (.q 1 (.q 2 (.q 3 (.q 4 (.q 5 (.a 6 (.a 7 (.a 8 (.a 9 (.q 10 (.a 11 .e)))))))))))) hm H61 (fun w h => ⟨_, (h.fr 2 rfl)⟩) (by kernel_rfl) (by kernel_rfl) rfl (fun w65 H64 => ?_)
                refine sw rfl rfl (mv rfl) ?_
                refine sw rfl rfl (mv rfl) ?_
                refine sw rfl rfl (nck rfl) ?_
                refine sw rfl rfl (fa fo151_1 rfl) ?_
                refine sw rfl rfl (ks fun L' => ld sc149 0 rfl rfl rfl) ?_
                refine sw rfl rfl (mv rfl) ?_
                refine sa rfl rfl ?_
                refine st_call cf185 rfl (expr_c R ((H64.fr 1 rfl).fr 1 rfl) hl (by omega) (fun hz => hf (by simp [stepS, hp3, hp8, hp13, hp18, hp53, hp60, hp63, hz]))) ?_
                rintro e w67 hpH66
                rcases hpH66 with ⟨x111, k111, hs111, hk111, b111_, rfl, H66⟩ | ⟨q111, hs111, rfl, kq111, H66⟩
                · refine wl_nil ⟨.inr ⟨_, (H66.fr 3 rfl)⟩, ?_⟩
                  refine sa rfl rfl ?_
                  refine st_bs H66 sl149 zc131 rfl rfl rfl rfl rfl fun b70 w69 H68 => ?_
                  refine wl_nil ⟨.inr ⟨_, (H68.fr 4 rfl)⟩, ?_⟩
                  refine sa rfl rfl ?_
                  refine st_app 5 0 ([b111_]) H68 sl149 zc131 rfl rfl rfl rfl rfl rfl rfl rfl (by intro y hy; simp at hy; subst hy; exact ⟨rfl, rfl⟩) (by first | omega | (simp <;> omega)) (by first | omega | (simp <;> omega)) fun A73 c74 w72 H71 => ?_
                  refine wl_nil ⟨.inr ⟨_, (H71.fr 5 rfl)⟩, ?_⟩
                  refine sa rfl rfl ?_
                  refine st H71 (nck rfl) ?_
                  refine wl_nil ⟨.inr ⟨_, (H71.fr 5 rfl)⟩, ?_⟩
                  refine sw rfl rfl (fa fo151_1 rfl) ?_
                  refine sa rfl rfl ?_
                  refine st_st 5 H71 rfl rfl rfl sz149 rfl rfl rfl rfl fun w76 H75 => ?_
                  refine wl_nil ⟨.inl rfl, ?_⟩
                  refine ws_nil ?_
                  refine cw_seq ?_
                  have HS112 := ((H75.fr 5 rfl).fr 6 rfl).pfo_app
                  refine cw_region rfl ?_
                  refine st HS112 (mv rfl) ?_
                  refine st HS112 (mv rfl) ?_
                  refine st_call cf128 rfl (done_c (((HS112.fr 1 rfl).fr 5 rfl).fr 5 rfl) hl (by omega)) ?_
                  rintro _ w78 ⟨rfl, H77⟩
                  refine st H77 (asg rfl) ?_
                  refine wl_nil ?_
                  refine cw_ret ?_
                  refine ret1 rfl rfl ?_
                  have HT113 := Own.tr (doneN l k111 (begN 16 (nxt l k) ⟨#[]⟩)) ((Fo.nil).app (.one x111)) (((H77.fr 3 rfl).fr 4 rfl).fr 4 rfl) rfl
                  exact Or.inl ⟨_, _, by simp [stepS, hp3, hp8, hp13, hp18, hp53, hp60, hp63, hs111, Fo.app, Fo.one], by omega, _, rfl, (((HT113.fr 2 rfl).fr 2 rfl).er 3)⟩
                · exact Or.inr ⟨q111, by simp [stepS, hp3, hp8, hp13, hp18, hp53, hp60, hp63, hs111], rfl, _, (((((H66.fr 1 rfl).fr 1 rfl).er 2).er 2).er 2)⟩
              · have hp63 := hb63
                try simp at hp63
                refine cw_skip ?_
                refine cw_seq ?_
                refine cw_region rfl ?_
                refine st H61 (mv rfl) ?_
                refine st H61 (mv rfl) ?_
                refine st_call cf128 rfl (done_c (((H61.fr 2 rfl).fr 2 rfl).fr 2 rfl) hl (by omega)) ?_
                rintro _ w80 ⟨rfl, H79⟩
                refine st H79 (asg rfl) ?_
                refine wl_nil ?_
                refine cw_ret ?_
                refine ret1 rfl rfl ?_
                have HT114 := Own.tr (doneN l (k + 1) (begN 16 (nxt l k) ⟨#[]⟩)) (.nil) (((H79.fr 4 rfl).fr 4 rfl).fr 4 rfl) rfl
                exact Or.inl ⟨_, _, by simp [stepS, hp3, hp8, hp13, hp18, hp53, hp60, hp63, Fo.app, Fo.one], by omega, _, rfl, ((HT114.fr 2 rfl).fr 2 rfl)⟩
            · have hp60 := hg60
              try simp at hp60
              refine goff rfl rfl hg60 ?_
              refine goff rfl rfl hg60 ?_
              refine goff rfl rfl hg60 ?_
              refine st H58 (pk_f rfl hg60 rfl) ?_
              refine wl_nil ?_
              refine cw_cond_f rfl rfl ?_
              refine cw_skip ?_
              refine cw_seq ?_
              refine cw_region rfl ?_
              refine st H58 (mv rfl) ?_
              refine st H58 (mv rfl) ?_
              refine st_call cf128 rfl (done_c (((H58.fr 2 rfl).fr 2 rfl).fr 2 rfl) hl (by omega)) ?_
              rintro _ w82 ⟨rfl, H81⟩
              refine st H81 (asg rfl) ?_
              refine wl_nil ?_
              refine cw_ret ?_
              refine ret1 rfl rfl ?_
              have HT115 := Own.tr (doneN l (k + 1) (begN 16 (nxt l k) ⟨#[]⟩)) (.nil) (((H81.fr 4 rfl).fr 4 rfl).fr 4 rfl) rfl
              exact Or.inl ⟨_, _, by simp [stepS, hp3, hp8, hp13, hp18, hp53, hp60, Fo.app, Fo.one], by omega, _, rfl, ((HT115.fr 2 rfl).fr 2 rfl)⟩
          · have hp53 := hb53
            try simp at hp53
            refine cw_seq ?_
            refine cw_quiet hm H51 (by kernel_rfl) rfl ?_
            refine sq (mv rfl) ?_
            refine sq_call (v := .bool (namedB l k)) cf155 rfl (fun wq Hq => (named_c ((Hq.fr 1 rfl).fr 1 rfl) hl (by omega)).mono fun e wz hz => ?_) ?_
            · obtain ⟨rfl, Hz⟩ := hz; exact ⟨rfl, ((Hz.fr 1 rfl).fr 1 rfl)⟩
            refine sq (mv rfl) ?_
            refine wq_case (t := 89) rfl (fun hg85 => ?_) (fun hg85 => ?_)
            · have hp85 := hg85
              try simp at hp85
              refine qgon rfl rfl hg85 ?_
              refine sq (mv rfl) ?_
              refine qgon rfl rfl hg85 ?_
              refine sq (nck rfl) ?_
              refine qgon rfl rfl hg85 ?_
              refine sq (fa fo126_1 rfl) ?_
              refine qgon rfl rfl hg85 ?_
              refine sq (ld sc3 0 rfl rfl rfl) ?_
              refine qgon rfl rfl hg85 ?_
              refine sq (add rfl rfl (by omega) (by omega)) ?_
              refine qgon rfl rfl hg85 ?_
              refine sq (mv rfl) ?_
              refine qgon rfl rfl hg85 ?_
              refine sq (nck rfl) ?_
              refine qgon rfl rfl hg85 ?_
              refine sq (fa fo126_0 rfl) ?_
              refine qgon rfl rfl hg85 ?_
              refine sq (ld sc31 0 rfl rfl rfl) ?_
              refine qgon rfl rfl hg85 ?_
              refine sq (lenl Tryz.underlying31 rfl) ?_
              refine qgon rfl rfl hg85 ?_
              refine sq (lti rfl rfl) ?_
              refine sq (pk_t rfl hg85 rfl) ?_
              refine sq (mv rfl) ?_
              refine wq_case (t := 102) rfl (fun hg86 => ?_) (fun hg86 => ?_)
              · have hp86 := hg86
                try simp at hp86
                have hlt2 : k + 1 < l.length := by omega
                obtain ⟨z, hz⟩ : ∃ z, l[k + 1]? = some z := ⟨l[k + 1]'(by omega), by simp [hlt2]⟩
                have hz2 : nxt l (k + 1) = z := by simp [nxt, hz]
                refine qgon rfl rfl hg86 ?_
                refine sq (mv rfl) ?_
                refine qgon rfl rfl hg86 ?_
                refine sq (nck rfl) ?_
                refine qgon rfl rfl hg86 ?_
                refine sq (fa fo126_0 rfl) ?_
                refine qgon rfl rfl hg86 ?_
                refine sq (ld sc31 0 rfl rfl rfl) ?_
                refine qgon rfl rfl hg86 ?_
                refine sq (mv rfl) ?_
                refine qgon rfl rfl hg86 ?_
                refine sq (nck rfl) ?_
                refine qgon rfl rfl hg86 ?_
                refine sq (fa fo126_1 rfl) ?_
                refine qgon rfl rfl hg86 ?_
                refine sq (ld sc3 0 rfl rfl rfl) ?_
                refine qgon rfl rfl hg86 ?_
                refine sq (add rfl rfl (by omega) (by omega)) ?_
                refine qgon rfl rfl hg86 ?_
                refine sq (ix (k + 1) sl31 1 rfl rfl rfl (by omega) (by omega)) ?_
                refine qgon rfl rfl hg86 ?_
                refine sq (faE fo38_0 rfl) ?_
                refine qgon rfl rfl hg86 ?_
                refine sq (ldEf sc3 1 rfl rfl hz rfl) ?_
                refine qgon rfl rfl hg86 ?_
                refine sq (eqi rfl rfl) ?_
                refine sq (pk_t rfl hg86 rfl) ?_
                refine sq (mv rfl) ?_
                refine wq_case (t := 117) rfl (fun hg87 => ?_) (fun hg87 => ?_)
                · have hp87 := hg87
                  try simp at hp87
                  refine qgon rfl rfl hg87 ?_
                  refine sq (mv rfl) ?_
                  refine qgon rfl rfl hg87 ?_
                  refine sq (nck rfl) ?_
                  refine qgon rfl rfl hg87 ?_
                  refine sq (fa fo126_0 rfl) ?_
                  refine qgon rfl rfl hg87 ?_
                  refine sq (ld sc31 0 rfl rfl rfl) ?_
                  refine qgon rfl rfl hg87 ?_
                  refine sq (mv rfl) ?_
                  refine qgon rfl rfl hg87 ?_
                  refine sq (nck rfl) ?_
                  refine qgon rfl rfl hg87 ?_
                  refine sq (fa fo126_1 rfl) ?_
                  refine qgon rfl rfl hg87 ?_
                  refine sq (ld sc3 0 rfl rfl rfl) ?_
                  refine qgon rfl rfl hg87 ?_
                  refine sq (add rfl rfl (by omega) (by omega)) ?_
                  refine qgon rfl rfl hg87 ?_
                  refine sq (ix (k + 1) sl31 1 rfl rfl rfl (by omega) (by omega)) ?_
                  refine qgon rfl rfl hg87 ?_
                  refine sq (faE fo38_1 rfl) ?_
                  refine qgon rfl rfl hg87 ?_
                  refine sq (ldEf sc9 1 rfl rfl hz rfl) ?_
                  refine qgon rfl rfl hg87 ?_
                  refine sq (eqs rfl rfl) ?_
                  refine sq (pk_t rfl hg87 rfl) ?_
                  refine sq (asg rfl) ?_
                  refine wq_nil fun w84 H83 => ?_
                  refine cw_cond rfl (fun hb88 => ?_) (fun hb88 => ?_)
                  · have hp88 := hb88
                    try simp at hp88
                    refine cw_seq ?_
                    refine cw_region rfl ?_
                    refine st H83 (mv rfl) ?_
                    refine st_call cf125 rfl (take_c ((H83.fr 1 rfl).fr 1 rfl) hl (by omega)) ?_
                    rintro _ w90 ⟨rfl, H89⟩
                    refine st_al H89 zc38 fun b93 w92 H91 => ?_
                    refine st_st 0 H91 rfl rfl rfl sz38 rfl rfl rfl rfl fun w95 H94 => ?_
                    refine wl_nil ?_
                    refine cw_seq ?_
                    refine cw_region rfl ?_
                    refine st H94 (mv rfl) ?_
                    refine st_call cf125 rfl (take_c ((H94.fr 2 rfl).fr 2 rfl) hl (by omega)) ?_
                    rintro _ w97 ⟨rfl, H96⟩
                    refine wl_nil ?_
                    refine cw_seq ?_
                    refine cw_region rfl ?_
                    refine st H96 (lda ag38 2 rfl rfl rfl rfl) ?_
                    refine st H96 (fa fo38_1 rfl) ?_
                    refine st H96 (ld sc9 2 rfl rfl rfl) ?_
                    refine st_call cf122 rfl (begin_c _ (nxt l k) _ H96) ?_
                    rintro _ w99 ⟨b116_, rfl, H98⟩
                    refine st H98 (asg rfl) ?_
                    refine wl_nil ?_
                    refine cw_seq ?_
                    refine cw_sched (Keep _ [_]) 11 (.q 0 (.q 1 (.q 2 (.q 3 (.q 4 (.q 5 (.a 6 (.a 7 (.a 8 (.a 9 (.q 10 (.a 11 .e)))))))))))) hm H98 (fun w h => ⟨_, h⟩) (by kernel_rfl) (by kernel_rfl) rfl (fun w101 H100 => ?_)
                    refine sw rfl rfl (mv rfl) ?_
                    refine sw rfl rfl (mv rfl) ?_
                    refine sw rfl rfl (nck rfl) ?_
                    refine sw rfl rfl (fa fo151_1 rfl) ?_
                    refine sw rfl rfl (ks fun L' => ld sc149 0 rfl rfl rfl) ?_
                    refine sw rfl rfl (mv rfl) ?_
                    refine sa rfl rfl ?_
                    refine st_call cf185 rfl (expr_c R ((H100.fr 4 rfl).fr 4 rfl) hl (by omega) (fun hz => hf (by simp [stepS, hp3, hp8, hp13, hp18, hp53, hp85, hp86, hlt2, hz2, hp87, hp88, hz]))) ?_
                    rintro e w103 hpH102
                    rcases hpH102 with ⟨x117, k117, hs117, hk117, b117_, rfl, H102⟩ | ⟨q117, hs117, rfl, kq117, H102⟩
                    · refine wl_nil ⟨.inr ⟨_, (H102.fr 3 rfl)⟩, ?_⟩
                      refine sa rfl rfl ?_
                      refine st_bs H102 sl149 zc131 rfl rfl rfl rfl rfl fun b106 w105 H104 => ?_
                      refine wl_nil ⟨.inr ⟨_, (H104.fr 4 rfl)⟩, ?_⟩
                      refine sa rfl rfl ?_
                      refine st_app 5 0 ([b117_]) H104 sl149 zc131 rfl rfl rfl rfl rfl rfl rfl rfl (by intro y hy; simp at hy; subst hy; exact ⟨rfl, rfl⟩) (by first | omega | (simp <;> omega)) (by first | omega | (simp <;> omega)) fun A109 c110 w108 H107 => ?_
                      refine wl_nil ⟨.inr ⟨_, (H107.fr 5 rfl)⟩, ?_⟩
                      refine sa rfl rfl ?_
                      refine st H107 (nck rfl) ?_
                      refine wl_nil ⟨.inr ⟨_, (H107.fr 5 rfl)⟩, ?_⟩
                      refine sw rfl rfl (fa fo151_1 rfl) ?_
                      refine sa rfl rfl ?_
                      refine st_st 5 H107 rfl rfl rfl sz149 rfl rfl rfl rfl fun w112 H111 => ?_
                      refine wl_nil ⟨.inl rfl, ?_⟩
                      refine ws_nil ?_
                      refine cw_seq ?_
                      have HS118 := ((H111.fr 5 rfl).fr 6 rfl).pfo_app
                      refine cw_region rfl ?_
                      refine st HS118 (mv rfl) ?_
                      refine st HS118 (mv rfl) ?_
                      refine st_call cf128 rfl (done_c (((HS118.fr 1 rfl).fr 5 rfl).fr 5 rfl) hl (by omega)) ?_
                      rintro _ w114 ⟨rfl, H113⟩
                      refine st H113 (asg rfl) ?_
                      refine wl_nil ?_
                      refine cw_ret ?_
                      refine ret1 rfl rfl ?_
                      have HT119 := Own.tr (doneN l k117 (begN 17 (nxt l k) (nxt l k).s)) ((Fo.nil).app (.one x117)) (((H113.fr 3 rfl).fr 4 rfl).fr 4 rfl) rfl
                      exact Or.inl ⟨_, _, by simp [stepS, hp3, hp8, hp13, hp18, hp53, hp85, hp86, hlt2, hz2, hp87, hp88, hs117, Fo.app, Fo.one], by omega, _, rfl, ((((HT119.fr 2 rfl).fr 2 rfl).er 3).er 3)⟩
                    · exact Or.inr ⟨q117, by simp [stepS, hp3, hp8, hp13, hp18, hp53, hp85, hp86, hlt2, hz2, hp87, hp88, hs117], rfl, _, ((((((H102.fr 1 rfl).fr 1 rfl).er 2).er 2).er 2).er 2)⟩
                  · have hp88 := hb88
                    try simp at hp88
                    refine cw_skip ?_
                    refine cw_seq ?_
                    refine cw_region rfl ?_
                    refine st H83 (mv rfl) ?_
                    refine st_call cf156 rfl (next_c ((H83.fr 1 rfl).fr 1 rfl) hl (by omega)) ?_
                    rintro _ w116 ⟨rfl, H115⟩
                    refine st_al H115 zc38 fun b119 w118 H117 => ?_
                    refine st_st 0 H117 rfl rfl rfl sz38 rfl rfl rfl rfl fun w121 H120 => ?_
                    refine wl_nil ?_
                    refine cw_seq ?_
                    refine cw_region rfl ?_
                    refine st H120 (mv rfl) ?_
                    refine st_call cf185 rfl (expr_c R ((H120.fr 2 rfl).fr 2 rfl) hl (by omega) (fun hz => hf (by simp [stepS, hp3, hp8, hp13, hp18, hp53, hp85, hp86, hlt2, hz2, hp87, hp88, hz]))) ?_
                    rintro e w123 hpH122
                    rcases hpH122 with ⟨x120, k120, hs120, hk120, b120_, rfl, H122⟩ | ⟨q120, hs120, rfl, kq120, H122⟩
                    · refine st H122 (asg rfl) ?_
                      refine wl_nil ?_
                      refine cw_seq ?_
                      refine cw_region rfl ?_
                      refine st H122 (asg rfl) ?_
                      refine wl_nil ?_
                      refine cw_seq ?_
                      refine cw_region rfl ?_
                      refine st H122 (mv rfl) ?_
                      refine st H122 (lda ag38 3 rfl rfl rfl rfl) ?_
                      refine st_call cf122 rfl (begin_c _ (nxt l k) _ H122) ?_
                      rintro _ w125 ⟨b121_, rfl, H124⟩
                      refine st H124 (asg rfl) ?_
                      refine wl_nil ?_
                      refine cw_seq ?_
                      refine cw_region rfl ?_
                      refine st H124 (mv rfl) ?_
                      refine st H124 (mv rfl) ?_
                      refine st H124 (nck rfl) ?_
                      refine st H124 (fa fo151_1 rfl) ?_
                      refine st H124 (ld sc149 0 rfl rfl rfl) ?_
                      refine st H124 (mv rfl) ?_
                      refine st_bs H124 sl149 zc131 rfl rfl rfl rfl rfl fun b128 w127 H126 => ?_
                      refine st_app 2 0 ([b120_]) H126 sl149 zc131 rfl rfl rfl rfl rfl rfl rfl rfl (by intro y hy; simp at hy; subst hy; exact ⟨rfl, rfl⟩) (by first | omega | (simp <;> omega)) (by first | omega | (simp <;> omega)) fun A131 c132 w130 H129 => ?_
                      refine st H129 (nck rfl) ?_
                      refine st H129 (fa fo151_1 rfl) ?_
                      refine st_st 2 H129 rfl rfl rfl sz149 rfl rfl rfl rfl fun w134 H133 => ?_
                      refine wl_nil ?_
                      refine cw_seq ?_
                      refine cw_seq ?_
                      have HS122 := ((H133.fr 6 rfl).fr 4 rfl).pfo_app
                      refine cw_region rfl ?_
                      refine st HS122 (mv rfl) ?_
                      refine st_call cf124 rfl (is_c _ ((HS122.fr 5 rfl).fr 5 rfl) hl (by omega)) ?_
                      rintro _ w136 ⟨rfl, H135⟩
                      refine wl_nil ?_
                      refine cw_cond rfl (fun hb137 => ?_) (fun hb137 => ?_)
                      · have hp137 := hb137
                        try simp at hp137
                        have hlt := isB_lt (by omega) hp137
                        refine cw_seq ?_
                        refine cw_region rfl ?_
                        refine st H135 (mv rfl) ?_
                        refine st_call cf125 rfl (take_c ((H135.fr 1 rfl).fr 1 rfl) hl (by omega)) ?_
                        rintro _ w139 ⟨rfl, H138⟩
                        refine wl_nil ?_
                        refine cw_seq ?_
                        refine cw_region rfl ?_
                        refine st H138 (mv rfl) ?_
                        refine st H138 (nck rfl) ?_
                        refine st H138 (fa fo151_0 rfl) ?_
                        refine st H138 (fa fo43_0 rfl) ?_
                        refine st_st 3 H138 rfl rfl rfl sz3 rfl rfl rfl rfl fun w141 H140 => ?_
                        refine wl_nil ?_
                        refine cw_sched (Keep _ [_]) 11 (.q 0 (.q 1 (.q 2 (.q 3 (.q 4 (.q 5 (.a 6 (.a 7 (.a 8 (.a 9 (.q 10 (.a 11 .e)))))))))))) hm H140 (fun w h => ⟨_, h⟩) (by kernel_rfl) (by kernel_rfl) rfl (fun w143 H142 => ?_)
                        refine sw rfl rfl (mv rfl) ?_
                        refine sw rfl rfl (mv rfl) ?_
                        refine sw rfl rfl (nck rfl) ?_
                        refine sw rfl rfl (fa fo151_1 rfl) ?_
                        refine sw rfl rfl (ks fun L' => ld sc149 0 rfl rfl rfl) ?_
                        refine sw rfl rfl (mv rfl) ?_
                        refine sa rfl rfl ?_
                        refine st_call cf185 rfl (expr_c R ((H142.fr 2 rfl).fr 2 rfl) hl (by omega) (fun hz => hf (by simp [stepS, hp3, hp8, hp13, hp18, hp53, hp85, hp86, hlt2, hz2, hp87, hp88, hs120, hp137, hz]))) ?_
                        rintro e w145 hpH144
                        rcases hpH144 with ⟨x123, k123, hs123, hk123, b123_, rfl, H144⟩ | ⟨q123, hs123, rfl, kq123, H144⟩
                        · refine wl_nil ⟨.inr ⟨_, (H144.fr 3 rfl)⟩, ?_⟩
                          refine sa rfl rfl ?_
                          refine st_bs H144 sl149 zc131 rfl rfl rfl rfl rfl fun b148 w147 H146 => ?_
                          refine wl_nil ⟨.inr ⟨_, (H146.fr 4 rfl)⟩, ?_⟩
                          refine sa rfl rfl ?_
                          refine st_app 6 0 ([b123_]) H146 sl149 zc131 rfl rfl rfl rfl rfl rfl rfl rfl (by intro y hy; simp at hy; subst hy; exact ⟨rfl, rfl⟩) (by first | omega | (simp <;> omega)) (by first | omega | (simp <;> omega)) fun A151 c152 w150 H149 => ?_
                          refine wl_nil ⟨.inr ⟨_, (H149.fr 5 rfl)⟩, ?_⟩
                          refine sa rfl rfl ?_
                          refine st H149 (nck rfl) ?_
                          refine wl_nil ⟨.inr ⟨_, (H149.fr 5 rfl)⟩, ?_⟩
                          refine sw rfl rfl (fa fo151_1 rfl) ?_
                          refine sa rfl rfl ?_
                          refine st_st 5 H149 rfl rfl rfl sz149 rfl rfl rfl rfl fun w154 H153 => ?_
                          refine wl_nil ⟨.inl rfl, ?_⟩
                          refine ws_nil ?_
                          refine cw_seq ?_
                          have HS124 := ((H153.fr 5 rfl).fr 6 rfl).pfo_app
                          refine cw_region rfl ?_
                          refine st HS124 (mv rfl) ?_
                          refine st HS124 (mv rfl) ?_
                          refine st_call cf128 rfl (done_c (((HS124.fr 1 rfl).fr 5 rfl).fr 5 rfl) hl (by omega)) ?_
                          rintro _ w156 ⟨rfl, H155⟩
                          refine st H155 (asg rfl) ?_
                          refine wl_nil ?_
                          refine cw_ret ?_
                          refine ret1 rfl rfl ?_
                          have HT125 := Own.tr (doneN l k123 (begN 18 (nxt l k) ⟨#[]⟩)) (((Fo.nil).app (.one x120)).app (.one x123)) (((H155.fr 3 rfl).fr 4 rfl).fr 4 rfl) rfl
                          exact Or.inl ⟨_, _, by simp [stepS, hp3, hp8, hp13, hp18, hp53, hp85, hp86, hlt2, hz2, hp87, hp88, hs120, hp137, hs123, Fo.app, Fo.one], by omega, _, rfl, (((((HT125.fr 2 rfl).fr 2 rfl).er 3).er 3).er 3)⟩
                        · exact Or.inr ⟨q123, by simp [stepS, hp3, hp8, hp13, hp18, hp53, hp85, hp86, hlt2, hz2, hp87, hp88, hs120, hp137, hs123], rfl, _, (((((((H144.fr 1 rfl).fr 1 rfl).er 2).er 2).er 2).er 2).er 2)⟩
                      · have hp137 := hb137
                        try simp at hp137
                        refine cw_skip ?_
                        refine cw_seq ?_
                        refine cw_region rfl ?_
                        refine st H135 (mv rfl) ?_
                        refine st H135 (mv rfl) ?_
                        refine st_call cf128 rfl (done_c (((H135.fr 3 rfl).fr 2 rfl).fr 2 rfl) hl (by omega)) ?_
                        rintro _ w158 ⟨rfl, H157⟩
                        refine st H157 (asg rfl) ?_
                        refine wl_nil ?_
                        refine cw_ret ?_
                        refine ret1 rfl rfl ?_
                        have HT126 := Own.tr (doneN l k120 (begN 19 (nxt l k) ⟨#[]⟩)) ((Fo.nil).app (.one x120)) (((H157.fr 3 rfl).fr 4 rfl).fr 4 rfl) rfl
                        exact Or.inl ⟨_, _, by simp [stepS, hp3, hp8, hp13, hp18, hp53, hp85, hp86, hlt2, hz2, hp87, hp88, hs120, hp137, Fo.app, Fo.one], by omega, _, rfl, ((((HT126.fr 2 rfl).fr 2 rfl).er 3).er 3)⟩
                    · exact Or.inr ⟨q120, by simp [stepS, hp3, hp8, hp13, hp18, hp53, hp85, hp86, hlt2, hz2, hp87, hp88, hs120], rfl, _, (((H122.fr 1 rfl).fr 1 rfl).er 2)⟩
                · have hp87 := hg87
                  try simp at hp87
                  refine qgoff rfl rfl hg87 ?_
                  refine qgoff rfl rfl hg87 ?_
                  refine qgoff rfl rfl hg87 ?_
                  refine qgoff rfl rfl hg87 ?_
                  refine qgoff rfl rfl hg87 ?_
                  refine qgoff rfl rfl hg87 ?_
                  refine qgoff rfl rfl hg87 ?_
                  refine qgoff rfl rfl hg87 ?_
                  refine qgoff rfl rfl hg87 ?_
                  refine qgoff rfl rfl hg87 ?_
                  refine qgoff rfl rfl hg87 ?_
                  refine qgoff rfl rfl hg87 ?_
                  refine qgoff rfl rfl hg87 ?_
                  refine sq (pk_f rfl hg87 rfl) ?_
                  refine sq (asg rfl) ?_
                  refine wq_nil fun w84 H83 => ?_
                  refine cw_cond_f rfl rfl ?_
                  refine cw_skip ?_
                  refine cw_seq ?_
                  refine cw_region rfl ?_
                  refine st H83 (mv rfl) ?_
                  refine st_call cf156 rfl (next_c ((H83.fr 1 rfl).fr 1 rfl) hl (by omega)) ?_
                  rintro _ w160 ⟨rfl, H159⟩
                  refine st_al H159 zc38 fun b163 w162 H161 => ?_
                  refine st_st 0 H161 rfl rfl rfl sz38 rfl rfl rfl rfl fun w165 H164 => ?_
                  refine wl_nil ?_
                  refine cw_seq ?_
                  refine cw_region rfl ?_
                  refine st H164 (mv rfl) ?_
                  refine st_call cf185 rfl (expr_c R ((H164.fr 2 rfl).fr 2 rfl) hl (by omega) (fun hz => hf (by simp [stepS, hp3, hp8, hp13, hp18, hp53, hp85, hp86, hlt2, hz2, hp87, hz]))) ?_
                  rintro e w167 hpH166
                  rcases hpH166 with ⟨x127, k127, hs127, hk127, b127_, rfl, H166⟩ | ⟨q127, hs127, rfl, kq127, H166⟩
                  · refine st H166 (asg rfl) ?_
                    refine wl_nil ?_
                    refine cw_seq ?_
                    refine cw_region rfl ?_
                    refine st H166 (asg rfl) ?_
                    refine wl_nil ?_
                    refine cw_seq ?_
                    refine cw_region rfl ?_
                    refine st H166 (mv rfl) ?_
                    refine st H166 (lda ag38 3 rfl rfl rfl rfl) ?_
                    refine st_call cf122 rfl (begin_c _ (nxt l k) _ H166) ?_
                    rintro _ w169 ⟨b128_, rfl, H168⟩
                    refine st H168 (asg rfl) ?_
                    refine wl_nil ?_
                    refine cw_seq ?_
                    refine cw_region rfl ?_
                    refine st H168 (mv rfl) ?_
                    refine st H168 (mv rfl) ?_
                    refine st H168 (nck rfl) ?_
                    refine st H168 (fa fo151_1 rfl) ?_
                    refine st H168 (ld sc149 0 rfl rfl rfl) ?_
                    refine st H168 (mv rfl) ?_
                    refine st_bs H168 sl149 zc131 rfl rfl rfl rfl rfl fun b172 w171 H170 => ?_
                    refine st_app 2 0 ([b127_]) H170 sl149 zc131 rfl rfl rfl rfl rfl rfl rfl rfl (by intro y hy; simp at hy; subst hy; exact ⟨rfl, rfl⟩) (by first | omega | (simp <;> omega)) (by first | omega | (simp <;> omega)) fun A175 c176 w174 H173 => ?_
                    refine st H173 (nck rfl) ?_
                    refine st H173 (fa fo151_1 rfl) ?_
                    refine st_st 2 H173 rfl rfl rfl sz149 rfl rfl rfl rfl fun w178 H177 => ?_
                    refine wl_nil ?_
                    refine cw_seq ?_
                    refine cw_seq ?_
                    have HS129 := ((H177.fr 6 rfl).fr 4 rfl).pfo_app
                    refine cw_region rfl ?_
                    refine st HS129 (mv rfl) ?_
                    refine st_call cf124 rfl (is_c _ ((HS129.fr 5 rfl).fr 5 rfl) hl (by omega)) ?_
                    rintro _ w180 ⟨rfl, H179⟩
                    refine wl_nil ?_
                    refine cw_cond rfl (fun hb181 => ?_) (fun hb181 => ?_)
                    · have hp181 := hb181
                      try simp at hp181
                      have hlt := isB_lt (by omega) hp181
                      refine cw_seq ?_
                      refine cw_region rfl ?_
                      refine st H179 (mv rfl) ?_
                      refine st_call cf125 rfl (take_c ((H179.fr 1 rfl).fr 1 rfl) hl (by omega)) ?_
                      rintro _ w183 ⟨rfl, H182⟩
                      refine wl_nil ?_
                      refine cw_seq ?_
                      refine cw_region rfl ?_
                      refine st H182 (mv rfl) ?_
                      refine st H182 (nck rfl) ?_
                      refine st H182 (fa fo151_0 rfl) ?_
                      refine st H182 (fa fo43_0 rfl) ?_
                      refine st_st 3 H182 rfl rfl rfl sz3 rfl rfl rfl rfl fun w185 H184 => ?_
                      refine wl_nil ?_
                      refine cw_sched (Keep _ [_]) 11 (.q 0 (.q 1 (.q 2 (.q 3 (.q 4 (.q 5 (.a 6 (.a 7 (.a 8 (.a 9 (.q 10 (.a 11 .e)))))))))))) hm H184 (fun w h => ⟨_, h⟩) (by kernel_rfl) (by kernel_rfl) rfl (fun w187 H186 => ?_)
                      refine sw rfl rfl (mv rfl) ?_
                      refine sw rfl rfl (mv rfl) ?_
                      refine sw rfl rfl (nck rfl) ?_
                      refine sw rfl rfl (fa fo151_1 rfl) ?_
                      refine sw rfl rfl (ks fun L' => ld sc149 0 rfl rfl rfl) ?_
                      refine sw rfl rfl (mv rfl) ?_
                      refine sa rfl rfl ?_
                      refine st_call cf185 rfl (expr_c R ((H186.fr 2 rfl).fr 2 rfl) hl (by omega) (fun hz => hf (by simp [stepS, hp3, hp8, hp13, hp18, hp53, hp85, hp86, hlt2, hz2, hp87, hs127, hp181, hz]))) ?_
                      rintro e w189 hpH188
                      rcases hpH188 with ⟨x130, k130, hs130, hk130, b130_, rfl, H188⟩ | ⟨q130, hs130, rfl, kq130, H188⟩
                      · refine wl_nil ⟨.inr ⟨_, (H188.fr 3 rfl)⟩, ?_⟩
                        refine sa rfl rfl ?_
                        refine st_bs H188 sl149 zc131 rfl rfl rfl rfl rfl fun b192 w191 H190 => ?_
                        refine wl_nil ⟨.inr ⟨_, (H190.fr 4 rfl)⟩, ?_⟩
                        refine sa rfl rfl ?_
                        refine st_app 6 0 ([b130_]) H190 sl149 zc131 rfl rfl rfl rfl rfl rfl rfl rfl (by intro y hy; simp at hy; subst hy; exact ⟨rfl, rfl⟩) (by first | omega | (simp <;> omega)) (by first | omega | (simp <;> omega)) fun A195 c196 w194 H193 => ?_
                        refine wl_nil ⟨.inr ⟨_, (H193.fr 5 rfl)⟩, ?_⟩
                        refine sa rfl rfl ?_
                        refine st H193 (nck rfl) ?_
                        refine wl_nil ⟨.inr ⟨_, (H193.fr 5 rfl)⟩, ?_⟩
                        refine sw rfl rfl (fa fo151_1 rfl) ?_
                        refine sa rfl rfl ?_
                        refine st_st 5 H193 rfl rfl rfl sz149 rfl rfl rfl rfl fun w198 H197 => ?_
                        refine wl_nil ⟨.inl rfl, ?_⟩
                        refine ws_nil ?_
                        refine cw_seq ?_
                        have HS131 := ((H197.fr 5 rfl).fr 6 rfl).pfo_app
                        refine cw_region rfl ?_
                        refine st HS131 (mv rfl) ?_
                        refine st HS131 (mv rfl) ?_
                        refine st_call cf128 rfl (done_c (((HS131.fr 1 rfl).fr 5 rfl).fr 5 rfl) hl (by omega)) ?_
                        rintro _ w200 ⟨rfl, H199⟩
                        refine st H199 (asg rfl) ?_
                        refine wl_nil ?_
                        refine cw_ret ?_
                        refine ret1 rfl rfl ?_
                        have HT132 := Own.tr (doneN l k130 (begN 18 (nxt l k) ⟨#[]⟩)) (((Fo.nil).app (.one x127)).app (.one x130)) (((H199.fr 3 rfl).fr 4 rfl).fr 4 rfl) rfl
                        exact Or.inl ⟨_, _, by simp [stepS, hp3, hp8, hp13, hp18, hp53, hp85, hp86, hlt2, hz2, hp87, hs127, hp181, hs130, Fo.app, Fo.one], by omega, _, rfl, (((((HT132.fr 2 rfl).fr 2 rfl).er 3).er 3).er 3)⟩
                      · exact Or.inr ⟨q130, by simp [stepS, hp3, hp8, hp13, hp18, hp53, hp85, hp86, hlt2, hz2, hp87, hs127, hp181, hs130], rfl, _, (((((((H188.fr 1 rfl).fr 1 rfl).er 2).er 2).er 2).er 2).er 2)⟩
                    · have hp181 := hb181
                      try simp at hp181
                      refine cw_skip ?_
                      refine cw_seq ?_
                      refine cw_region rfl ?_
                      refine st H179 (mv rfl) ?_
                      refine st H179 (mv rfl) ?_
                      refine st_call cf128 rfl (done_c (((H179.fr 3 rfl).fr 2 rfl).fr 2 rfl) hl (by omega)) ?_
                      rintro _ w202 ⟨rfl, H201⟩
                      refine st H201 (asg rfl) ?_
                      refine wl_nil ?_
                      refine cw_ret ?_
                      refine ret1 rfl rfl ?_
                      have HT133 := Own.tr (doneN l k127 (begN 19 (nxt l k) ⟨#[]⟩)) ((Fo.nil).app (.one x127)) (((H201.fr 3 rfl).fr 4 rfl).fr 4 rfl) rfl
                      exact Or.inl ⟨_, _, by simp [stepS, hp3, hp8, hp13, hp18, hp53, hp85, hp86, hlt2, hz2, hp87, hs127, hp181, Fo.app, Fo.one], by omega, _, rfl, ((((HT133.fr 2 rfl).fr 2 rfl).er 3).er 3)⟩
                  · exact Or.inr ⟨q127, by simp [stepS, hp3, hp8, hp13, hp18, hp53, hp85, hp86, hlt2, hz2, hp87, hs127], rfl, _, (((H166.fr 1 rfl).fr 1 rfl).er 2)⟩
              · have hp86 := hg86
                try simp at hp86
                have hlt2 : ¬ k + 1 < l.length := by omega
                refine qgoff rfl rfl hg86 ?_
                refine qgoff rfl rfl hg86 ?_
                refine qgoff rfl rfl hg86 ?_
                refine qgoff rfl rfl hg86 ?_
                refine qgoff rfl rfl hg86 ?_
                refine qgoff rfl rfl hg86 ?_
                refine qgoff rfl rfl hg86 ?_
                refine qgoff rfl rfl hg86 ?_
                refine qgoff rfl rfl hg86 ?_
                refine qgoff rfl rfl hg86 ?_
                refine qgoff rfl rfl hg86 ?_
                refine qgoff rfl rfl hg86 ?_
                refine qgoff rfl rfl hg86 ?_
                refine sq (pk_f rfl hg86 rfl) ?_
                refine sq (mv rfl) ?_
                refine qgoff rfl rfl rfl ?_
                refine qgoff rfl rfl rfl ?_
                refine qgoff rfl rfl rfl ?_
                refine qgoff rfl rfl rfl ?_
                refine qgoff rfl rfl rfl ?_
                refine qgoff rfl rfl rfl ?_
                refine qgoff rfl rfl rfl ?_
                refine qgoff rfl rfl rfl ?_
                refine qgoff rfl rfl rfl ?_
                refine qgoff rfl rfl rfl ?_
                refine qgoff rfl rfl rfl ?_
                refine qgoff rfl rfl rfl ?_
                refine qgoff rfl rfl rfl ?_
                refine sq (pk_f rfl rfl rfl) ?_
                refine sq (asg rfl) ?_
                refine wq_nil fun w84 H83 => ?_
                refine cw_cond_f rfl rfl ?_
                refine cw_skip ?_
                refine cw_seq ?_
                refine cw_region rfl ?_
                refine st H83 (mv rfl) ?_
                refine st_call cf156 rfl (next_c ((H83.fr 1 rfl).fr 1 rfl) hl (by omega)) ?_
                rintro _ w204 ⟨rfl, H203⟩
                refine st_al H203 zc38 fun b207 w206 H205 => ?_
                refine st_st 0 H205 rfl rfl rfl sz38 rfl rfl rfl rfl fun w209 H208 => ?_
                refine wl_nil ?_
                refine cw_seq ?_
                refine cw_region rfl ?_
                refine st H208 (mv rfl) ?_
                refine st_call cf185 rfl (expr_c R ((H208.fr 2 rfl).fr 2 rfl) hl (by omega) (fun hz => hf (by simp [stepS, hp3, hp8, hp13, hp18, hp53, hp85, hp86, hlt2, hz]))) ?_
                rintro e w211 hpH210
                rcases hpH210 with ⟨x134, k134, hs134, hk134, b134_, rfl, H210⟩ | ⟨q134, hs134, rfl, kq134, H210⟩
                · refine st H210 (asg rfl) ?_
                  refine wl_nil ?_
                  refine cw_seq ?_
                  refine cw_region rfl ?_
                  refine st H210 (asg rfl) ?_
                  refine wl_nil ?_
                  refine cw_seq ?_
                  refine cw_region rfl ?_
                  refine st H210 (mv rfl) ?_
                  refine st H210 (lda ag38 3 rfl rfl rfl rfl) ?_
                  refine st_call cf122 rfl (begin_c _ (nxt l k) _ H210) ?_
                  rintro _ w213 ⟨b135_, rfl, H212⟩
                  refine st H212 (asg rfl) ?_
                  refine wl_nil ?_
                  refine cw_seq ?_
                  refine cw_region rfl ?_
                  refine st H212 (mv rfl) ?_
                  refine st H212 (mv rfl) ?_
                  refine st H212 (nck rfl) ?_
                  refine st H212 (fa fo151_1 rfl) ?_
                  refine st H212 (ld sc149 0 rfl rfl rfl) ?_
                  refine st H212 (mv rfl) ?_
                  refine st_bs H212 sl149 zc131 rfl rfl rfl rfl rfl fun b216 w215 H214 => ?_
                  refine st_app 2 0 ([b134_]) H214 sl149 zc131 rfl rfl rfl rfl rfl rfl rfl rfl (by intro y hy; simp at hy; subst hy; exact ⟨rfl, rfl⟩) (by first | omega | (simp <;> omega)) (by first | omega | (simp <;> omega)) fun A219 c220 w218 H217 => ?_
                  refine st H217 (nck rfl) ?_
                  refine st H217 (fa fo151_1 rfl) ?_
                  refine st_st 2 H217 rfl rfl rfl sz149 rfl rfl rfl rfl fun w222 H221 => ?_
                  refine wl_nil ?_
                  refine cw_seq ?_
                  refine cw_seq ?_
                  have HS136 := ((H221.fr 6 rfl).fr 4 rfl).pfo_app
                  refine cw_region rfl ?_
                  refine st HS136 (mv rfl) ?_
                  refine st_call cf124 rfl (is_c _ ((HS136.fr 5 rfl).fr 5 rfl) hl (by omega)) ?_
                  rintro _ w224 ⟨rfl, H223⟩
                  refine wl_nil ?_
                  refine cw_cond rfl (fun hb225 => ?_) (fun hb225 => ?_)
                  · have hp225 := hb225
                    try simp at hp225
                    have hlt := isB_lt (by omega) hp225
                    refine cw_seq ?_
                    refine cw_region rfl ?_
                    refine st H223 (mv rfl) ?_
                    refine st_call cf125 rfl (take_c ((H223.fr 1 rfl).fr 1 rfl) hl (by omega)) ?_
                    rintro _ w227 ⟨rfl, H226⟩
                    refine wl_nil ?_
                    refine cw_seq ?_
                    refine cw_region rfl ?_
                    refine st H226 (mv rfl) ?_
                    refine st H226 (nck rfl) ?_
                    refine st H226 (fa fo151_0 rfl) ?_
                    refine st H226 (fa fo43_0 rfl) ?_
                    refine st_st 3 H226 rfl rfl rfl sz3 rfl rfl rfl rfl fun w229 H228 => ?_
                    refine wl_nil ?_
                    refine cw_sched (Keep _ [_]) 11 (.q 0 (.q 1 (.q 2 (.q 3 (.q 4 (.q 5 (.a 6 (.a 7 (.a 8 (.a 9 (.q 10 (.a 11 .e)))))))))))) hm H228 (fun w h => ⟨_, h⟩) (by kernel_rfl) (by kernel_rfl) rfl (fun w231 H230 => ?_)
                    refine sw rfl rfl (mv rfl) ?_
                    refine sw rfl rfl (mv rfl) ?_
                    refine sw rfl rfl (nck rfl) ?_
                    refine sw rfl rfl (fa fo151_1 rfl) ?_
                    refine sw rfl rfl (ks fun L' => ld sc149 0 rfl rfl rfl) ?_
                    refine sw rfl rfl (mv rfl) ?_
                    refine sa rfl rfl ?_
                    refine st_call cf185 rfl (expr_c R ((H230.fr 2 rfl).fr 2 rfl) hl (by omega) (fun hz => hf (by simp [stepS, hp3, hp8, hp13, hp18, hp53, hp85, hp86, hlt2, hs134, hp225, hz]))) ?_
                    rintro e w233 hpH232
                    rcases hpH232 with ⟨x137, k137, hs137, hk137, b137_, rfl, H232⟩ | ⟨q137, hs137, rfl, kq137, H232⟩
                    · refine wl_nil ⟨.inr ⟨_, (H232.fr 3 rfl)⟩, ?_⟩
                      refine sa rfl rfl ?_
                      refine st_bs H232 sl149 zc131 rfl rfl rfl rfl rfl fun b236 w235 H234 => ?_
                      refine wl_nil ⟨.inr ⟨_, (H234.fr 4 rfl)⟩, ?_⟩
                      refine sa rfl rfl ?_
                      refine st_app 6 0 ([b137_]) H234 sl149 zc131 rfl rfl rfl rfl rfl rfl rfl rfl (by intro y hy; simp at hy; subst hy; exact ⟨rfl, rfl⟩) (by first | omega | (simp <;> omega)) (by first | omega | (simp <;> omega)) fun A239 c240 w238 H237 => ?_
                      refine wl_nil ⟨.inr ⟨_, (H237.fr 5 rfl)⟩, ?_⟩
                      refine sa rfl rfl ?_
                      refine st H237 (nck rfl) ?_
                      refine wl_nil ⟨.inr ⟨_, (H237.fr 5 rfl)⟩, ?_⟩
                      refine sw rfl rfl (fa fo151_1 rfl) ?_
                      refine sa rfl rfl ?_
                      refine st_st 5 H237 rfl rfl rfl sz149 rfl rfl rfl rfl fun w242 H241 => ?_
                      refine wl_nil ⟨.inl rfl, ?_⟩
                      refine ws_nil ?_
                      refine cw_seq ?_
                      have HS138 := ((H241.fr 5 rfl).fr 6 rfl).pfo_app
                      refine cw_region rfl ?_
                      refine st HS138 (mv rfl) ?_
                      refine st HS138 (mv rfl) ?_
                      refine st_call cf128 rfl (done_c (((HS138.fr 1 rfl).fr 5 rfl).fr 5 rfl) hl (by omega)) ?_
                      rintro _ w244 ⟨rfl, H243⟩
                      refine st H243 (asg rfl) ?_
                      refine wl_nil ?_
                      refine cw_ret ?_
                      refine ret1 rfl rfl ?_
                      have HT139 := Own.tr (doneN l k137 (begN 18 (nxt l k) ⟨#[]⟩)) (((Fo.nil).app (.one x134)).app (.one x137)) (((H243.fr 3 rfl).fr 4 rfl).fr 4 rfl) rfl
                      exact Or.inl ⟨_, _, by simp [stepS, hp3, hp8, hp13, hp18, hp53, hp85, hp86, hlt2, hs134, hp225, hs137, Fo.app, Fo.one], by omega, _, rfl, (((((HT139.fr 2 rfl).fr 2 rfl).er 3).er 3).er 3)⟩
                    · exact Or.inr ⟨q137, by simp [stepS, hp3, hp8, hp13, hp18, hp53, hp85, hp86, hlt2, hs134, hp225, hs137], rfl, _, (((((((H232.fr 1 rfl).fr 1 rfl).er 2).er 2).er 2).er 2).er 2)⟩
                  · have hp225 := hb225
                    try simp at hp225
                    refine cw_skip ?_
                    refine cw_seq ?_
                    refine cw_region rfl ?_
                    refine st H223 (mv rfl) ?_
                    refine st H223 (mv rfl) ?_
                    refine st_call cf128 rfl (done_c (((H223.fr 3 rfl).fr 2 rfl).fr 2 rfl) hl (by omega)) ?_
                    rintro _ w246 ⟨rfl, H245⟩
                    refine st H245 (asg rfl) ?_
                    refine wl_nil ?_
                    refine cw_ret ?_
                    refine ret1 rfl rfl ?_
                    have HT140 := Own.tr (doneN l k134 (begN 19 (nxt l k) ⟨#[]⟩)) ((Fo.nil).app (.one x134)) (((H245.fr 3 rfl).fr 4 rfl).fr 4 rfl) rfl
                    exact Or.inl ⟨_, _, by simp [stepS, hp3, hp8, hp13, hp18, hp53, hp85, hp86, hlt2, hs134, hp225, Fo.app, Fo.one], by omega, _, rfl, ((((HT140.fr 2 rfl).fr 2 rfl).er 3).er 3)⟩
                · exact Or.inr ⟨q134, by simp [stepS, hp3, hp8, hp13, hp18, hp53, hp85, hp86, hlt2, hs134], rfl, _, (((H210.fr 1 rfl).fr 1 rfl).er 2)⟩
            · have hp85 := hg85
              try simp at hp85
              refine qgoff rfl rfl hg85 ?_
              refine qgoff rfl rfl hg85 ?_
              refine qgoff rfl rfl hg85 ?_
              refine qgoff rfl rfl hg85 ?_
              refine qgoff rfl rfl hg85 ?_
              refine qgoff rfl rfl hg85 ?_
              refine qgoff rfl rfl hg85 ?_
              refine qgoff rfl rfl hg85 ?_
              refine qgoff rfl rfl hg85 ?_
              refine qgoff rfl rfl hg85 ?_
              refine qgoff rfl rfl hg85 ?_
              refine sq (pk_f rfl hg85 rfl) ?_
              refine sq (mv rfl) ?_
              refine qgoff rfl rfl rfl ?_
              refine qgoff rfl rfl rfl ?_
              refine qgoff rfl rfl rfl ?_
              refine qgoff rfl rfl rfl ?_
              refine qgoff rfl rfl rfl ?_
              refine qgoff rfl rfl rfl ?_
              refine qgoff rfl rfl rfl ?_
              refine qgoff rfl rfl rfl ?_
              refine qgoff rfl rfl rfl ?_
              refine qgoff rfl rfl rfl ?_
              refine qgoff rfl rfl rfl ?_
              refine qgoff rfl rfl rfl ?_
              refine qgoff rfl rfl rfl ?_
              refine sq (pk_f rfl rfl rfl) ?_
              refine sq (mv rfl) ?_
              refine qgoff rfl rfl rfl ?_
              refine qgoff rfl rfl rfl ?_
              refine qgoff rfl rfl rfl ?_
              refine qgoff rfl rfl rfl ?_
              refine qgoff rfl rfl rfl ?_
              refine qgoff rfl rfl rfl ?_
              refine qgoff rfl rfl rfl ?_
              refine qgoff rfl rfl rfl ?_
              refine qgoff rfl rfl rfl ?_
              refine qgoff rfl rfl rfl ?_
              refine qgoff rfl rfl rfl ?_
              refine qgoff rfl rfl rfl ?_
              refine qgoff rfl rfl rfl ?_
              refine sq (pk_f rfl rfl rfl) ?_
              refine sq (asg rfl) ?_
              refine wq_nil fun w84 H83 => ?_
              refine cw_cond_f rfl rfl ?_
              refine cw_skip ?_
              refine cw_seq ?_
              refine cw_region rfl ?_
              refine st H83 (mv rfl) ?_
              refine st_call cf156 rfl (next_c ((H83.fr 1 rfl).fr 1 rfl) hl (by omega)) ?_
              rintro _ w248 ⟨rfl, H247⟩
              refine st_al H247 zc38 fun b251 w250 H249 => ?_
              refine st_st 0 H249 rfl rfl rfl sz38 rfl rfl rfl rfl fun w253 H252 => ?_
              refine wl_nil ?_
              refine cw_seq ?_
              refine cw_region rfl ?_
              refine st H252 (mv rfl) ?_
              refine st_call cf185 rfl (expr_c R ((H252.fr 2 rfl).fr 2 rfl) hl (by omega) (fun hz => hf (by simp [stepS, hp3, hp8, hp13, hp18, hp53, hp85, hz]))) ?_
              rintro e w255 hpH254
              rcases hpH254 with ⟨x141, k141, hs141, hk141, b141_, rfl, H254⟩ | ⟨q141, hs141, rfl, kq141, H254⟩
              · refine st H254 (asg rfl) ?_
                refine wl_nil ?_
                refine cw_seq ?_
                refine cw_region rfl ?_
                refine st H254 (asg rfl) ?_
                refine wl_nil ?_
                refine cw_seq ?_
                refine cw_region rfl ?_
                refine st H254 (mv rfl) ?_
                refine st H254 (lda ag38 3 rfl rfl rfl rfl) ?_
                refine st_call cf122 rfl (begin_c _ (nxt l k) _ H254) ?_
                rintro _ w257 ⟨b142_, rfl, H256⟩
                refine st H256 (asg rfl) ?_
                refine wl_nil ?_
                refine cw_seq ?_
                refine cw_region rfl ?_
                refine st H256 (mv rfl) ?_
                refine st H256 (mv rfl) ?_
                refine st H256 (nck rfl) ?_
                refine st H256 (fa fo151_1 rfl) ?_
                refine st H256 (ld sc149 0 rfl rfl rfl) ?_
                refine st H256 (mv rfl) ?_
                refine st_bs H256 sl149 zc131 rfl rfl rfl rfl rfl fun b260 w259 H258 => ?_
                refine st_app 2 0 ([b141_]) H258 sl149 zc131 rfl rfl rfl rfl rfl rfl rfl rfl (by intro y hy; simp at hy; subst hy; exact ⟨rfl, rfl⟩) (by first | omega | (simp <;> omega)) (by first | omega | (simp <;> omega)) fun A263 c264 w262 H261 => ?_
                refine st H261 (nck rfl) ?_
                refine st H261 (fa fo151_1 rfl) ?_
                refine st_st 2 H261 rfl rfl rfl sz149 rfl rfl rfl rfl fun w266 H265 => ?_
                refine wl_nil ?_
                refine cw_seq ?_
                refine cw_seq ?_
                have HS143 := ((H265.fr 6 rfl).fr 4 rfl).pfo_app
                refine cw_region rfl ?_
                refine st HS143 (mv rfl) ?_
                refine st_call cf124 rfl (is_c _ ((HS143.fr 5 rfl).fr 5 rfl) hl (by omega)) ?_
                rintro _ w268 ⟨rfl, H267⟩
                refine wl_nil ?_
                refine cw_cond rfl (fun hb269 => ?_) (fun hb269 => ?_)
                · have hp269 := hb269
                  try simp at hp269
                  have hlt := isB_lt (by omega) hp269
                  refine cw_seq ?_
                  refine cw_region rfl ?_
                  refine st H267 (mv rfl) ?_
                  refine st_call cf125 rfl (take_c ((H267.fr 1 rfl).fr 1 rfl) hl (by omega)) ?_
                  rintro _ w271 ⟨rfl, H270⟩
                  refine wl_nil ?_
                  refine cw_seq ?_
                  refine cw_region rfl ?_
                  refine st H270 (mv rfl) ?_
                  refine st H270 (nck rfl) ?_
                  refine st H270 (fa fo151_0 rfl) ?_
                  refine st H270 (fa fo43_0 rfl) ?_
                  refine st_st 3 H270 rfl rfl rfl sz3 rfl rfl rfl rfl fun w273 H272 => ?_
                  refine wl_nil ?_
                  refine cw_sched (Keep _ [_]) 11 (.q 0 (.q 1 (.q 2 (.q 3 (.q 4 (.q 5 (.a 6 (.a 7 (.a 8 (.a 9 (.q 10 (.a 11 .e)))))))))))) hm H272 (fun w h => ⟨_, h⟩) (by kernel_rfl) (by kernel_rfl) rfl (fun w275 H274 => ?_)
                  refine sw rfl rfl (mv rfl) ?_
                  refine sw rfl rfl (mv rfl) ?_
                  refine sw rfl rfl (nck rfl) ?_
                  refine sw rfl rfl (fa fo151_1 rfl) ?_
                  refine sw rfl rfl (ks fun L' => ld sc149 0 rfl rfl rfl) ?_
                  refine sw rfl rfl (mv rfl) ?_
                  refine sa rfl rfl ?_
                  refine st_call cf185 rfl (expr_c R ((H274.fr 2 rfl).fr 2 rfl) hl (by omega) (fun hz => hf (by simp [stepS, hp3, hp8, hp13, hp18, hp53, hp85, hs141, hp269, hz]))) ?_
                  rintro e w277 hpH276
                  rcases hpH276 with ⟨x144, k144, hs144, hk144, b144_, rfl, H276⟩ | ⟨q144, hs144, rfl, kq144, H276⟩
                  · refine wl_nil ⟨.inr ⟨_, (H276.fr 3 rfl)⟩, ?_⟩
                    refine sa rfl rfl ?_
                    refine st_bs H276 sl149 zc131 rfl rfl rfl rfl rfl fun b280 w279 H278 => ?_
                    refine wl_nil ⟨.inr ⟨_, (H278.fr 4 rfl)⟩, ?_⟩
                    refine sa rfl rfl ?_
                    refine st_app 6 0 ([b144_]) H278 sl149 zc131 rfl rfl rfl rfl rfl rfl rfl rfl (by intro y hy; simp at hy; subst hy; exact ⟨rfl, rfl⟩) (by first | omega | (simp <;> omega)) (by first | omega | (simp <;> omega)) fun A283 c284 w282 H281 => ?_
                    refine wl_nil ⟨.inr ⟨_, (H281.fr 5 rfl)⟩, ?_⟩
                    refine sa rfl rfl ?_
                    refine st H281 (nck rfl) ?_
                    refine wl_nil ⟨.inr ⟨_, (H281.fr 5 rfl)⟩, ?_⟩
                    refine sw rfl rfl (fa fo151_1 rfl) ?_
                    refine sa rfl rfl ?_
                    refine st_st 5 H281 rfl rfl rfl sz149 rfl rfl rfl rfl fun w286 H285 => ?_
                    refine wl_nil ⟨.inl rfl, ?_⟩
                    refine ws_nil ?_
                    refine cw_seq ?_
                    have HS145 := ((H285.fr 5 rfl).fr 6 rfl).pfo_app
                    refine cw_region rfl ?_
                    refine st HS145 (mv rfl) ?_
                    refine st HS145 (mv rfl) ?_
                    refine st_call cf128 rfl (done_c (((HS145.fr 1 rfl).fr 5 rfl).fr 5 rfl) hl (by omega)) ?_
                    rintro _ w288 ⟨rfl, H287⟩
                    refine st H287 (asg rfl) ?_
                    refine wl_nil ?_
                    refine cw_ret ?_
                    refine ret1 rfl rfl ?_
                    have HT146 := Own.tr (doneN l k144 (begN 18 (nxt l k) ⟨#[]⟩)) (((Fo.nil).app (.one x141)).app (.one x144)) (((H287.fr 3 rfl).fr 4 rfl).fr 4 rfl) rfl
                    exact Or.inl ⟨_, _, by simp [stepS, hp3, hp8, hp13, hp18, hp53, hp85, hs141, hp269, hs144, Fo.app, Fo.one], by omega, _, rfl, (((((HT146.fr 2 rfl).fr 2 rfl).er 3).er 3).er 3)⟩
                  · exact Or.inr ⟨q144, by simp [stepS, hp3, hp8, hp13, hp18, hp53, hp85, hs141, hp269, hs144], rfl, _, (((((((H276.fr 1 rfl).fr 1 rfl).er 2).er 2).er 2).er 2).er 2)⟩
                · have hp269 := hb269
                  try simp at hp269
                  refine cw_skip ?_
                  refine cw_seq ?_
                  refine cw_region rfl ?_
                  refine st H267 (mv rfl) ?_
                  refine st H267 (mv rfl) ?_
                  refine st_call cf128 rfl (done_c (((H267.fr 3 rfl).fr 2 rfl).fr 2 rfl) hl (by omega)) ?_
                  rintro _ w290 ⟨rfl, H289⟩
                  refine st H289 (asg rfl) ?_
                  refine wl_nil ?_
                  refine cw_ret ?_
                  refine ret1 rfl rfl ?_
                  have HT147 := Own.tr (doneN l k141 (begN 19 (nxt l k) ⟨#[]⟩)) ((Fo.nil).app (.one x141)) (((H289.fr 3 rfl).fr 4 rfl).fr 4 rfl) rfl
                  exact Or.inl ⟨_, _, by simp [stepS, hp3, hp8, hp13, hp18, hp53, hp85, hs141, hp269, Fo.app, Fo.one], by omega, _, rfl, ((((HT147.fr 2 rfl).fr 2 rfl).er 3).er 3)⟩
              · exact Or.inr ⟨q141, by simp [stepS, hp3, hp8, hp13, hp18, hp53, hp85, hs141], rfl, _, (((H254.fr 1 rfl).fr 1 rfl).er 2)⟩
theorem rc_all (hl : TkOk l) : ∀ n, RC g pb A c l nv (parS l n)
  | 0, _, _, _, _, _, _, _, hf => absurd rfl hf
  | n + 1, t, ht, k, w, L, H, hk, hf => by
    have R := rc_all hl n
    cases t with
    | row r => exact row_c R r ht H hl hk hf
    | unary => exact unary_c R H hl hk hf
    | post => exact post_c R H hl hk hf
    | prim => exact prim_c R H hl hk hf
    | block => exact block_c R H hl hk hf
    | stmt => exact stmt_c R H hl hk hf
    | branch => exact branch_c R H hl hk hf
end
end Go.Proofs.YtmkijgmfefkgeaaGreatDoor
