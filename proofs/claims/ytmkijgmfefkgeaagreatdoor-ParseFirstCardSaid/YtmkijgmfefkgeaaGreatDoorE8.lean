/- Text: a text is lexed and parsed. -/
import Derived.Test.YtmkijgmfefkgeaaGreatDoorE7
set_option autoImplicit false
set_option linter.unusedVariables false
set_option linter.unusedSimpArgs false
set_option linter.unusedSectionVars false
namespace Go.Proofs.YtmkijgmfefkgeaaGreatDoor
open Go
def txtS (s : ByteArray) (n : Nat) : List Ln × (Int × Int) := match lexS s with
  | .ok l => topS l n
  | .er e a => ([], (e, a))
section
variable {g w : World} {L : List SP} [Glo g]
theorem txt_c (s : ByteArray) (n : Nat) (H : Own g L w) (hsz : s.size ≤ 140737488355327) (hts : ∀ l, lexS s = .ok l → TkSz l) (hta : ∀ l, lexS s = .ok l → ∀ t ∈ l, t.a ≤ 1125899906842624) (hf : ∀ l, lexS s = .ok l → risesF (-1) l = true → fileS l n ≠ .fu) (hss : ∀ l, lexS s = .ok l → risesF (-1) l = true → ∀ x k, fileS l n = .ok x k → x.kids.size + 1 ≤ 8589934592) : Calls Pg 14 #[.string s] w fun e w' => ∃ ms A' c', e = .returned (.tuple #[.agg #[.slice A' ms.length c'], .agg #[.int .i64 (txtS s n).2.1, .int .i64 (txtS s n).2.2]]) ∧ lnS ms = (txtS s n).1 ∧ Own g (Rw 43 lnc 7 A' c' ms :: PK msF ms :: L) w' := by
  refine calls_cw (vs := [_]) Tryz.func14 rfl rfl rfl ?_
  refine cw_seq ?_
  refine cw_region rfl ?_
  refine st_al H zc25 fun b3 w2 H1 => ?_
  refine st_al H1 zc28 fun b6 w5 H4 => ?_
  refine wl_nil ?_
  refine cw_seq ?_
  refine cw_region rfl ?_
  refine st H4 (mv rfl) ?_
  refine st_call cf22 rfl (lex_c _ H4 hsz) ?_
  rintro e w8 hpH7
  rcases hpH7 with ⟨l, A1, c1, hlx, rfl, H7⟩ | ⟨er, ea, hlx, hne, rfl, H7⟩
  · refine st H7 (mv rfl) ?_
    refine st H7 (ext rfl rfl) ?_
    refine st H7 (ext rfl rfl) ?_
    refine st_al H7 zc28 fun b11 w10 H9 => ?_
    refine st H9 (asg rfl) ?_
    refine st_st 0 H9 rfl rfl rfl sz28 rfl rfl rfl rfl fun w13 H12 => ?_
    refine wl_nil ?_
    refine cw_seq ?_
    refine cw_seq ?_
    refine cw_region rfl ?_
    refine st H12 (fa fo28_0 rfl) ?_
    refine st H12 (ld sc26 0 rfl rfl rfl) ?_
    refine st H12 (nei rfl rfl) ?_
    refine wl_nil ?_
    refine cw_cond_f rfl (by decide) ?_
    refine cw_skip ?_
    refine cw_seq ?_
    have HL := (H12.fr 1 rfl).rw_els
    refine cw_region rfl ?_
    refine st HL (mv rfl) ?_
    refine st_call cf20 rfl (top_c n HL (hts _ hlx) (hta _ hlx) (fun h => hf _ hlx h) (fun h => hss _ hlx h)) ?_
    rintro _ w15 ⟨ms, A2, c2, rfl, hms, H14⟩
    refine st H14 (ext rfl rfl) ?_
    refine st H14 (ext rfl rfl) ?_
    refine st_st 5 H14 rfl rfl rfl sz25 rfl rfl rfl rfl fun w17 H16 => ?_
    refine st_st 5 H16 rfl rfl rfl sz28 rfl rfl rfl rfl fun w19 H18 => ?_
    refine wl_nil ?_
    refine cw_ret ?_
    refine ret2 rfl ⟨_, rfl, own_lda H18 1 (vs := [_]) rfl ag25 rfl⟩ ⟨_, rfl, own_lda H18 0 (vs := [_, _]) rfl ag28 rfl⟩ ?_
    exact ⟨ms, A2, c2, by simp [txtS, hlx], by simp [txtS, hlx, hms], ((((((H18.fr 4 rfl).fr 4 rfl).er 2).er 2).er 2).er 2)⟩
  · refine st H7 (mv rfl) ?_
    refine st H7 (ext rfl rfl) ?_
    refine st H7 (ext rfl rfl) ?_
    refine st_al H7 zc28 fun b22 w21 H20 => ?_
    refine st H20 (asg rfl) ?_
    refine st_st 0 H20 rfl rfl rfl sz28 rfl rfl rfl rfl fun w24 H23 => ?_
    refine wl_nil ?_
    refine cw_seq ?_
    refine cw_seq ?_
    refine cw_region rfl ?_
    refine st H23 (fa fo28_0 rfl) ?_
    refine st H23 (ld sc26 0 rfl rfl rfl) ?_
    refine st H23 (nei rfl rfl) ?_
    refine wl_nil ?_
    refine cw_cond rfl (fun hb25 => ?_) (fun hb25 => ?_)
    · have hp25 := hb25
      try simp at hp25
      refine cw_seq ?_
      refine cw_sched (Keep _ [_]) 3 (.q 0 (.q 1 (.a 2 (.a 3 .e)))) hm H23 (fun w h => ⟨_, h⟩) (by kernel_rfl) (by kernel_rfl) rfl (fun w27 H26 => ?_)
      refine sw rfl rfl (bld zc25 pl25 rfl rfl) ?_
      refine sw rfl rfl (ks fun L' => lda ag28 0 rfl rfl rfl rfl) ?_
      refine sa rfl rfl ?_
      refine st_st 2 H26 rfl rfl rfl sz25 rfl rfl rfl rfl fun w29 H28 => ?_
      refine wl_nil ⟨.inr ⟨_, (H28.fr 1 rfl)⟩, ?_⟩
      refine sa rfl rfl ?_
      refine st_st 2 H28 rfl rfl rfl sz28 rfl rfl rfl rfl fun w31 H30 => ?_
      refine wl_nil ⟨.inl rfl, ?_⟩
      refine ws_nil ?_
      refine cw_ret ?_
      refine ret2 rfl ⟨_, rfl, own_lda H30 1 (vs := [_]) rfl ag25 rfl⟩ ⟨_, rfl, own_lda H30 0 (vs := [_, _]) rfl ag28 rfl⟩ ?_
      have HN := (H30.pk_nil (F := msF)).rw_nil (e := 43) (f := lnc) (sz := 7)
      exact ⟨[], none, 0, by simp [txtS, hlx], by simp [txtS, hlx, lnS], (((((HN.fr 1 rfl).fr 1 rfl).er 2).er 2).er 2)⟩
    · exact absurd (of_decide_eq_false hb25) (by simpa using hne)
end
end Go.Proofs.YtmkijgmfefkgeaaGreatDoor
