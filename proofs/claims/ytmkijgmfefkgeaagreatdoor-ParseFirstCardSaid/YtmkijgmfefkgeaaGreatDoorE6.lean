/- Parsing: the tree is laid; what was wrong is caught. -/
import Derived.Test.YtmkijgmfefkgeaaGreatDoorE5
import Derived.Test.YtmkijgmfefkgeaaGreatDoorG2
set_option autoImplicit false
set_option linter.unusedVariables false
set_option linter.unusedSimpArgs false
set_option linter.unusedSectionVars false
namespace Go.Proofs.YtmkijgmfefkgeaaGreatDoor
open Go
section
variable {g w : World} [Glo g] {L : List SP}
theorem lay_c {pb kk b : Nat} {sl : Value} (x : Tr) (H : Own g (bk pb 126 [sl, .int .i64 kk, .slice none 0 0] :: PFo (.one x) [b] :: L) w) (hsz : x.kids.size + 1 ≤ 8589934592) : Calls Pg 91 #[.pointer (some ⟨pb, 0, none⟩), .pointer (some ⟨b, 0, none⟩)] w fun e w' => e = .returned (.int .i64 (layT x 1 ([], 0)).2) ∧ ∃ ms A c, lnS ms = (layT x 1 ([], 0)).1 ∧ Own g (bk pb 126 [sl, .int .i64 kk, .slice A ms.length c] :: Rw 43 lnc 7 A c ms :: PK msF ms :: L) w' := by
  refine calls_cw (vs := [_, _]) Tryz.func91 rfl rfl rfl ?_
  refine cw_seq ?_
  refine cw_region rfl ?_
  refine st_box H rfl rfl fun b3 w2 H1 => ?_
  refine st H1 (asg rfl) ?_
  refine wl_nil ?_
  refine cw_seq ?_
  refine cw_region rfl ?_
  refine st_al H1 zc3 fun b6 w5 H4 => ?_
  refine st_st 0 H4 rfl rfl rfl sz3 rfl rfl rfl rfl fun w8 H7 => ?_
  refine wl_nil ?_
  refine cw_seq ?_
  refine cw_region rfl ?_
  refine st_al H7 zc148 fun b11 w10 H9 => ?_
  refine wl_nil ?_
  refine cw_seq ?_
  refine cw_region rfl ?_
  refine st H9 (mkf rfl rfl) ?_
  refine st_st 0 H9 rfl rfl rfl sz148 rfl rfl rfl rfl fun w13 H12 => ?_
  refine wl_nil ?_
  refine cw_seq ?_
  have HN := (H12.pk_nil (F := msF)).rw_nil (e := 43) (f := lnc) (sz := 7)
  refine cw_region rfl ?_
  refine st HN (ld sc148 2 rfl rfl rfl) ?_
  refine st HN (mv rfl) ?_
  refine st_callv rfl cf119 rfl rfl (lay1_c _ x (Nat.lt_succ_self _) _ _ _ _ _ _ _ _ _ _ _ _ [] none 0 0 (((((((HN.fr 6 rfl).fr 2 rfl).fr 2 rfl).fr 6 rfl).fr 4 rfl).fr 6 rfl).fr 6 rfl) (by simp; omega) (by simp) (by omega) (by omega) (by omega)) ?_
  rintro _ w15 ⟨rfl, ms2, A2, c2, hm2, hl2, hb2, H14⟩
  refine wl_nil ?_
  refine cw_seq ?_
  refine cw_region rfl ?_
  refine st H14 (ld sc3 0 rfl rfl rfl) ?_
  refine st H14 (asg rfl) ?_
  refine wl_nil ?_
  refine cw_ret ?_
  refine ret1 rfl rfl ?_
  exact ⟨rfl, ms2, A2, c2, hm2, ((((((H14.fr 5 rfl).fr 5 rfl).fr 5 rfl).er 3).er 3).er 3)⟩
theorem catch_none {b2 b3 b4 : Nat} (H : Own g L w) : CallsD Pg 90 #[.pointer (some ⟨b2, 0, none⟩), .pointer (some ⟨b3, 0, none⟩), .pointer (some ⟨b4, 0, none⟩)] .returning w fun e u' w' => u' = (rcv .returning).2 ∧ (e = .returned (.tuple #[]) ∧ Own g L w') := by
  refine callsD_cw (vs := [_, _, _]) Tryz.func90 rfl rfl rfl rfl rfl ?_
  refine cw_seq ?_
  refine cw_region rfl ?_
  refine st H (mv rfl) ?_
  refine st H (nin uf20 rfl) ?_
  refine wl_nil ?_
  refine cw_cond_f rfl rfl ?_
  refine cw_skip ?_
  refine end0 rfl ?_
  exact ⟨rfl, H⟩
theorem catch_one {b2 b3 b4 : Nat} {u0 v0 u1 u2 : Value} (q : Int) (H : Own g (bk b2 25 [u0] :: bk b3 3 [v0] :: bk b4 28 [u1, u2] :: L) w) : CallsD Pg 90 #[.pointer (some ⟨b2, 0, none⟩), .pointer (some ⟨b3, 0, none⟩), .pointer (some ⟨b4, 0, none⟩)] (.panicking (pw q)) w fun e u' w' => u' = (rcv (.panicking (pw q))).2 ∧ (e = .returned (.tuple #[]) ∧ Own g (bk b2 25 [.slice none 0 0] :: bk b3 3 [.int .i64 0] :: bk b4 28 [.int .i64 210, .int .i64 q] :: L) w') := by
  refine callsD_cw (vs := [_, _, _]) Tryz.func90 rfl rfl rfl rfl rfl ?_
  refine cw_seq ?_
  refine cw_region rfl ?_
  refine st H (mv rfl) ?_
  refine st H (nii uf20 rfl) ?_
  refine wl_nil ?_
  refine cw_cond_t rfl rfl ?_
  refine cw_seq ?_
  refine cw_region rfl ?_
  refine st H (mv rfl) ?_
  refine st H (ta uf128 rfl) ?_
  refine st H (mv rfl) ?_
  refine st H (ext rfl rfl) ?_
  refine st H (ext rfl rfl) ?_
  refine st_al H zc128 fun b3 w2 H1 => ?_
  refine st_st 0 H1 rfl rfl rfl sz128 rfl rfl rfl rfl fun w5 H4 => ?_
  refine st H4 (asg rfl) ?_
  refine wl_nil ?_
  refine cw_seq ?_
  refine cw_seq ?_
  refine cw_region rfl ?_
  refine st H4 (mv rfl) ?_
  refine st H4 (notb rfl) ?_
  refine wl_nil ?_
  refine cw_cond_f rfl rfl ?_
  refine cw_skip ?_
  refine cw_sched (Keep _ [_]) 6 (.q 0 (.q 1 (.q 2 (.q 3 (.a 4 (.a 5 (.a 6 .e))))))) hm H4 (fun w h => ⟨_, h⟩) (by kernel_rfl) (by kernel_rfl) rfl (fun w7 H6 => ?_)
  refine sw rfl rfl (bld zc25 pl25 rfl rfl) ?_
  refine sw rfl rfl (fa fo128_0 rfl) ?_
  refine sw rfl rfl (ks fun L' => ld sc3 0 rfl rfl rfl) ?_
  refine sw rfl rfl (bld zc28 pl28 rfl rfl) ?_
  refine sa rfl rfl ?_
  refine st_st 1 H6 rfl rfl rfl sz25 rfl rfl rfl rfl fun w9 H8 => ?_
  refine wl_nil ⟨.inr ⟨_, (H8.fr 1 rfl)⟩, ?_⟩
  refine sa rfl rfl ?_
  refine st_st 2 H8 rfl rfl rfl sz3 rfl rfl rfl rfl fun w11 H10 => ?_
  refine wl_nil ⟨.inr ⟨_, (H10.fr 2 rfl)⟩, ?_⟩
  refine sa rfl rfl ?_
  refine st_st 3 H10 rfl rfl rfl sz28 rfl rfl rfl rfl fun w13 H12 => ?_
  refine wl_nil ⟨.inl rfl, ?_⟩
  refine ws_nil ?_
  refine end0 rfl ?_
  exact ⟨rfl, (((H12.fr 1 rfl).fr 2 rfl).er 3)⟩
/-- What parsing tokens gives: the nodes, how deep; what is wrong, and where. -/
def parseS (l : List Tk) (n : Nat) : (List Ln × Int) × (Int × Int) := match fileS l n with
  | .ok x _ => (layT x 1 ([], 0), (0, 0))
  | .er q => (([], 0), (210, q))
  | .fu => (([], 0), (0, 0))
theorem leave_fin {fn : Func} {R : Ending → World → Prop} {E : En} {a : Act} {df : Deferred} {b2 b3 b4 : Nat} {v2 v3 u1 u2 : Value} (hfn : fn.results = #[.cell 2 25, .cell 3 3, .cell 4 28]) {n : Nat} (ha : Fits n [df] E a) (h2 : look 2 E = some (.pointer (some ⟨b2, 0, none⟩))) (h3 : look 3 E = some (.pointer (some ⟨b3, 0, none⟩))) (h4 : look 4 E = some (.pointer (some ⟨b4, 0, none⟩)))
    (H : Own g (bk b2 25 [v2] :: bk b3 3 [v3] :: bk b4 28 [u1, u2] :: L) w) (hR : R (.returned (.tuple #[.agg #[v2], v3, .agg #[u1, u2]])) w) : Leaves Pg fn a.tmps R [] .returning w := by
  refine ⟨_, run3 hfn ⟨_, h2, own_lda H 0 (vs := [_]) rfl ag25 rfl⟩ ⟨_, h3, own_ld1 H 1 rfl sc3 rfl⟩ ⟨_, h4, own_lda H 2 (vs := [_, _]) rfl ag28 rfl⟩ { a with defers := [] } ha.undfr, hR⟩
theorem inv90 {b2 b3 b4 : Nat} : (invoke (.fn (.func 90) #[.pointer (some ⟨b2, 0, none⟩), .pointer (some ⟨b3, 0, none⟩), .pointer (some ⟨b4, 0, none⟩)]) #[]).run Pg w = .ok (.enter 90 #[.pointer (some ⟨b2, 0, none⟩), .pointer (some ⟨b3, 0, none⟩), .pointer (some ⟨b4, 0, none⟩)]) w := by
  simp [invoke, cf90 _ w]
theorem parse_c {A : Option Addr} {c : Nat} {l : List Tk} (n : Nat) (H : Own g (Els g tkc 3 A l :: L) w) (hl : TkOk l) (hf : fileS l n ≠ .fu) (hsz : ∀ x k, fileS l n = .ok x k → x.kids.size + 1 ≤ 8589934592) : Calls Pg 48 #[.slice A l.length c] w fun e w' => ∃ ms A' c', e = .returned (.tuple #[.agg #[.slice A' ms.length c'], .int .i64 (parseS l n).1.2, .agg #[.int .i64 (parseS l n).2.1, .int .i64 (parseS l n).2.2]]) ∧ lnS ms = (parseS l n).1.1 ∧ Own g (Els g tkc 3 A l :: Rw 43 lnc 7 A' c' ms :: PK msF ms :: L) w' := by
  refine calls_wd (vs := [_]) Tryz.func48 rfl rfl rfl ?_
  refine wd_seq ?_
  refine cw_region rfl ?_
  refine st_al H zc25 fun b3 w2 H1 => ?_
  refine st_al H1 zc3 fun b6 w5 H4 => ?_
  refine st_al H4 zc28 fun b9 w8 H7 => ?_
  refine wl_nil ?_
  refine wd_seq ?_
  refine cw_region rfl ?_
  refine st H7 (mv rfl) ?_
  refine st H7 (bld zc126 pl126 rfl rfl) ?_
  refine st_box H7 rfl rfl fun b12 w11 H10 => ?_
  refine st H10 (asg rfl) ?_
  refine wl_nil ?_
  refine wd_seq_r rfl ?_
  refine wr H10 (mkf rfl rfl) ?_
  refine wr_defer rfl ?_
  refine wr_nil ?_
  refine wd_seq_r rfl ?_
  refine wr H10 (mv rfl) ?_
  refine wr H10 (mv rfl) ?_
  refine wr_call cf92 rfl (file_c n ((H10.fr 4 rfl).fr 1 rfl) hl hf) ?_
  rintro e w9 hp9
  rcases hp9 with ⟨x, k9, hs, hk9, b9, rfl, H9⟩ | ⟨q, hs, rfl, kq9, H9⟩
  · refine wr_wl (K := fun E w => WD Pg _ _ _ _ E w) ?_ (fun E w h a ha => h a ha)
    refine st_call cf91 rfl (lay_c _ ((H9.fr 2 rfl).fr 1 rfl) (hsz _ _ hs)) ?_
    rintro _ w14 ⟨rfl, ms, A2, c2, hms, H13⟩
    refine st_st 5 H13 rfl rfl rfl sz3 rfl rfl rfl rfl fun w16 H15 => ?_
    refine wl_nil ?_
    refine wd_seq ?_
    refine cw_sched (Keep _ [_, _]) 9 (.q 0 (.q 1 (.q 2 (.q 3 (.q 4 (.q 5 (.q 6 (.a 7 (.a 8 (.a 9 .e)))))))))) hm H15 (fun w h => ⟨_, ((h.fr 1 rfl).fr 1 rfl)⟩) (by kernel_rfl) (by kernel_rfl) rfl (fun w18 H17 => ?_)
    refine sw rfl rfl (mv rfl) ?_
    refine sw rfl rfl (nck rfl) ?_
    refine sw rfl rfl (fa fo126_2 rfl) ?_
    refine sw rfl rfl (ks fun L' => ld sc23 1 rfl rfl rfl) ?_
    refine sw rfl rfl (bld zc25 pl25 rfl rfl) ?_
    refine sw rfl rfl (ks fun L' => ld sc3 0 rfl rfl rfl) ?_
    refine sw rfl rfl (bld zc28 pl28 rfl rfl) ?_
    refine sa rfl rfl ?_
    refine st_st 6 H17 rfl rfl rfl sz25 rfl rfl rfl rfl fun w20 H19 => ?_
    refine wl_nil ⟨.inr ⟨_, ((H19.fr 2 rfl).fr 2 rfl)⟩, ?_⟩
    refine sa rfl rfl ?_
    refine st_st 1 H19 rfl rfl rfl sz3 rfl rfl rfl rfl fun w22 H21 => ?_
    refine wl_nil ⟨.inr ⟨_, ((H21.fr 2 rfl).fr 1 rfl)⟩, ?_⟩
    refine sa rfl rfl ?_
    refine st_st 6 H21 rfl rfl rfl sz28 rfl rfl rfl rfl fun w24 H23 => ?_
    refine wl_nil ⟨.inl rfl, ?_⟩
    refine ws_nil ?_
    refine wd_ret fun a ha => ?_
    show Leaves Pg _ a.tmps _ a.defers .returning _
    rw [ha.dfr]
    refine leaves_cons (by simp) inv90 ((catch_none H23).mono fun e u w10 hh => ?_)
    obtain ⟨rfl, rfl, H10⟩ := hh
    exact leave_fin rfl ha rfl rfl rfl ((H10.fr 1 rfl).fr 2 rfl) ⟨ms, A2, c2, by simp [parseS, hs], by simp [parseS, hs, hms], (((((((H10.fr 5 rfl).fr 5 rfl).fr 6 rfl).er 3).er 3).er 3).er 3)⟩
  · intro a ha
    show Leaves Pg _ a.tmps _ a.defers (.panicking (pw q)) _
    rw [ha.dfr]
    refine leaves_cons (by simp) inv90 ((catch_one q (((H9.fr 2 rfl).fr 3 rfl).fr 4 rfl)).mono fun e u w10 hh => ?_)
    obtain ⟨rfl, rfl, H10⟩ := hh
    have H11 := (H10.pk_nil (F := msF)).rw_nil (e := 43) (f := lnc) (sz := 7)
    exact leave_fin rfl ha rfl rfl rfl (((H11.fr 4 rfl).fr 4 rfl).fr 4 rfl) ⟨[], none, 0, by simp [parseS, hs], by simp [parseS, hs, lnS], (((((((H11.fr 1 rfl).fr 1 rfl).fr 6 rfl).er 3).er 3).er 3).er 3)⟩
end
end Go.Proofs.YtmkijgmfefkgeaaGreatDoor
