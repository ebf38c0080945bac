/- The statement's own function: ParseSame. No condition. -/
import Derived.Test.YtmkijgmfefkgeaaGreatDoorN
import Derived.Test.YtmkijgmfefkgeaaGreatDoorQ
import Derived.Test.YtmkijgmfefkgeaaGreatDoorWK
set_option autoImplicit false
set_option linter.unusedVariables false
set_option linter.unusedSimpArgs false
set_option linter.unusedSectionVars false
namespace Go.Proofs.YtmkijgmfefkgeaaGreatDoor
open Go
section
variable {P : Program} {n : Nat} {D : List Deferred} {C : World → Prop} {E : En} {ty : TypeId}
theorem eqb {t u : TypeId} {x y : Operand} {a b : Bool} (ht : P.underlying t = some .bool) (hx : ev E x = some (.bool a)) (hy : ev E y = some (.bool b)) : RV P n D C E (.binOp .eql t x y u) ty (.bool (a == b)) := fun ac w ha _ => by
  have h : ∀ d : Nat, (Op.equalIn (d + 1) t (.bool a) (.bool b)).run P w = .ok (a == b) w := fun d => by simp [Op.equalIn, run_underlying ht]
  have h2 : (binOp .eql t (.bool a) (.bool b)).run P w = .ok (.bool (a == b)) w := by
    simp only [binOp]
    simp [Op.equal, Op.maxDepth, h 9999]
  simp only [execOp, ha.ev hx, ha.ev hy]
  simp [h2, eqGuard]
end
theorem sameF_self (p : Bool) (ms : List Lm) : sameF p ms ms = true := by simp [sameF_key]
section
variable {g w : World} {L : List SP} [Glo g]
theorem wakes_c (H : Own g L w) : Calls Pg 13 #[] w fun e w' => e = .returned (.bool true) ∧ Own g L w' := by
  refine calls_cw (vs := []) Tryz.func13 rfl rfl rfl ?_
  refine cw_seq ?_
  refine cw_region rfl ?_
  refine st H (asg rfl) ?_
  refine wl_nil ?_
  refine cw_seq ?_
  refine cw_region rfl ?_
  refine st_call cf14 rfl (text_tree_c wkT H (by decide)) ?_
  rintro _ w2 ⟨ms1, A1_, c1_, rfl, hms1, HX1⟩
  have HR1 := HX1.nr
  obtain ⟨hml1, hmk1⟩ := ln_small hms1
  have hlen : ms1.length = 10 := by have h := wk_len; rw [← hms1, lnS_len] at h; exact h
  obtain ⟨m7, hz7⟩ : ∃ m, ms1[7]? = some m := ⟨_, List.getElem?_eq_getElem (by omega)⟩
  have hk7 : m7.d.kind = 27 := by have h := wk_bin; rw [← hms1] at h; simpa [lnS, hz7] using h
  have hs1 := congrArg Prod.fst wk_spot
  have hs2 := congrArg Prod.snd wk_spot
  refine st HR1 (mv rfl) ?_
  refine st HR1 (ext rfl rfl) ?_
  refine st HR1 (ext rfl rfl) ?_
  refine st_al HR1 zc25 fun b5 w4 H3 => ?_
  refine st_al H3 zc28 fun b8 w7 H6 => ?_
  refine st_st 1 H6 rfl rfl rfl sz25 rfl rfl rfl rfl fun w10 H9 => ?_
  refine st_st 1 H9 rfl rfl rfl sz28 rfl rfl rfl rfl fun w12 H11 => ?_
  refine wl_nil ?_
  refine cw_seq ?_
  refine cw_region rfl ?_
  refine st H11 (lda ag28 0 rfl rfl rfl rfl) ?_
  refine st H11 (bld zc28 pl28 rfl rfl) ?_
  refine st H11 (eqs28 rfl rfl) ?_
  refine st H11 (mv rfl) ?_
  refine wl_case (t := 10) rfl (fun hg13 => ?_) (fun hg13 => ?_)
  · have hp13 := hg13
    try simp at hp13
    refine gon rfl rfl hg13 ?_
    refine st H11 (fa fo25_0 rfl) ?_
    refine gon rfl rfl hg13 ?_
    refine st H11 (ld sc23 1 rfl rfl rfl) ?_
    refine gon rfl rfl hg13 ?_
    refine st H11 (lenl Tryz.underlying23 rfl) ?_
    refine gon rfl rfl hg13 ?_
    refine st H11 (eqi rfl rfl) ?_
    refine st H11 (pk_t rfl hg13 rfl) ?_
    refine st H11 (mv rfl) ?_
    refine wl_case (t := 16) rfl (fun hg14 => ?_) (fun hg14 => ?_)
    · have hp14 := hg14
      try simp at hp14
      refine gon rfl rfl hg14 ?_
      refine st H11 (fa fo25_0 rfl) ?_
      refine gon rfl rfl hg14 ?_
      refine st H11 (ld sc23 1 rfl rfl rfl) ?_
      refine gon rfl rfl hg14 ?_
      refine st H11 (ixC (7) sl23 (nr_nodes 2 rfl) rfl rfl rfl (by omega)) ?_
      refine gon rfl rfl hg14 ?_
      refine st H11 (faE fo43_0 rfl) ?_
      refine gon rfl rfl hg14 ?_
      refine st H11 (ldEfC sc3 (nr_nodes 2 rfl) rfl hz7 rfl) ?_
      refine gon rfl rfl hg14 ?_
      refine st H11 (eqi rfl rfl) ?_
      refine st H11 (pk_t rfl hg14 rfl) ?_
      refine st H11 (mv rfl) ?_
      refine wl_case (t := 24) rfl (fun hg15 => ?_) (fun hg15 => ?_)
      · have hp15 := hg15
        try simp at hp15
        refine gon rfl rfl hg15 ?_
        refine st_call cf18 rfl (kept_c _ H11) ?_
        rintro _ w17 ⟨rfl, H16⟩
        refine st H16 (pk_t rfl hg15 rfl) ?_
        refine st H16 (asg rfl) ?_
        refine wl_nil ?_
        refine cw_ret ?_
        refine ret1 rfl rfl ?_
        exact ⟨by rw [wk_kept], (((H16.er 0).er 0).er 0)⟩
      · simp_all
    · simp_all
  · simp_all
theorem parseSame_c (a b : ByteArray) (H : Own g L w) : Calls Pg 7 #[.string a, .string b] w fun e w' => e = .returned (.bool true) ∧ Own g L w' := by
  refine calls_cw (vs := [_, _]) Tryz.func7 rfl rfl rfl ?_
  refine cw_seq ?_
  refine cw_region rfl ?_
  refine st H (asg rfl) ?_
  refine wl_nil ?_
  refine cw_seq ?_
  refine cw_seq ?_
  refine cw_region rfl ?_
  refine st_call cf13 rfl (wakes_c H) ?_
  rintro _ w2 ⟨rfl, H1⟩
  refine st H1 (notb rfl) ?_
  refine wl_nil ?_
  refine cw_cond_f rfl rfl ?_
  refine cw_skip ?_
  refine cw_seq ?_
  refine cw_seq ?_
  refine cw_region rfl ?_
  refine st H1 (mv rfl) ?_
  refine st H1 (lens Tryz.underlying9 rfl) ?_
  refine st H1 (gti rfl rfl) ?_
  refine st H1 (mv rfl) ?_
  refine wl_case (t := 14) rfl (fun hg3 => ?_) (fun hg3 => ?_)
  · have hp3 := hg3
    try simp at hp3
    refine goff rfl rfl hg3 ?_
    refine goff rfl rfl hg3 ?_
    refine goff rfl rfl hg3 ?_
    refine st H1 (pk_t rfl hg3 rfl) ?_
    refine wl_nil ?_
    refine cw_cond_t rfl rfl ?_
    refine cw_seq ?_
    refine cw_region rfl ?_
    refine st H1 (asg rfl) ?_
    refine wl_nil ?_
    refine cw_ret ?_
    refine ret1 rfl rfl ?_
    exact ⟨by first | rfl | rw [sameF_self], H1⟩
  · have hp3 := hg3
    try simp at hp3
    refine gon rfl rfl hg3 ?_
    refine st H1 (mv rfl) ?_
    refine gon rfl rfl hg3 ?_
    refine st H1 (lens Tryz.underlying9 rfl) ?_
    refine gon rfl rfl hg3 ?_
    refine st H1 (gti rfl rfl) ?_
    refine st H1 (pk_f rfl hg3 rfl) ?_
    refine wl_nil ?_
    refine cw_cond rfl (fun hb4 => ?_) (fun hb4 => ?_)
    · have hp4 := hb4
      try simp at hp4
      refine cw_seq ?_
      refine cw_region rfl ?_
      refine st H1 (asg rfl) ?_
      refine wl_nil ?_
      refine cw_ret ?_
      refine ret1 rfl rfl ?_
      exact ⟨by first | rfl | rw [sameF_self], H1⟩
    · have hp4 := hb4
      try simp at hp4
      refine cw_skip ?_
      refine cw_seq ?_
      refine cw_region rfl ?_
      refine st H1 (mv rfl) ?_
      refine st_call cf14 rfl (text_tree_c _ H1 (by omega)) ?_
      rintro _ w6 ⟨ms1, A1_, c1_, rfl, hms1, HX1⟩
      have HR1 := HX1.nr
      obtain ⟨hml1, hmk1⟩ := ln_small hms1
      refine st HR1 (mv rfl) ?_
      refine st HR1 (ext rfl rfl) ?_
      refine st HR1 (ext rfl rfl) ?_
      refine st_al HR1 zc25 fun b9 w8 H7 => ?_
      refine st_al H7 zc28 fun b12 w11 H10 => ?_
      refine st_st 1 H10 rfl rfl rfl sz25 rfl rfl rfl rfl fun w14 H13 => ?_
      refine st_st 1 H13 rfl rfl rfl sz28 rfl rfl rfl rfl fun w16 H15 => ?_
      refine wl_nil ?_
      refine cw_seq ?_
      refine cw_region rfl ?_
      refine st H15 (mv rfl) ?_
      refine st_call cf14 rfl (text_tree_c _ H15 (by omega)) ?_
      rintro _ w18 ⟨ms2, A2_, c2_, rfl, hms2, HX2⟩
      have HR2 := HX2.nr
      obtain ⟨hml2, hmk2⟩ := ln_small hms2
      refine st HR2 (mv rfl) ?_
      refine st HR2 (ext rfl rfl) ?_
      refine st HR2 (ext rfl rfl) ?_
      refine st_al HR2 zc25 fun b21 w20 H19 => ?_
      refine st_al H19 zc28 fun b24 w23 H22 => ?_
      refine st_st 1 H22 rfl rfl rfl sz25 rfl rfl rfl rfl fun w26 H25 => ?_
      refine st_st 1 H25 rfl rfl rfl sz28 rfl rfl rfl rfl fun w28 H27 => ?_
      refine wl_nil ?_
      refine cw_seq ?_
      refine cw_quiet hm H27 (by kernel_rfl) rfl ?_
      refine sq (lda ag25 4 rfl rfl rfl rfl) ?_
      refine sq (lda ag25 1 rfl rfl rfl rfl) ?_
      refine sq_call (v := .bool (sameF false ms1 ms2)) cf24 rfl (fun wq Hq => (sameTree_c (nr_nodes 5 rfl) (nr_nodes 2 rfl) (fun m hm => nr_kids 5 rfl hm) (fun m hm => nr_kids 2 rfl hm) Hq hml1 hml2 hmk1 hmk2).mono fun e wz hz => ?_) ?_
      · obtain ⟨rfl, Hz⟩ := hz; exact ⟨rfl, ((((((Hz.fr 5 rfl).fr 5 rfl).fr 5 rfl).fr 5 rfl).fr 5 rfl).fr 5 rfl)⟩
      refine sq (lda ag25 4 rfl rfl rfl rfl) ?_
      refine sq (lda ag25 1 rfl rfl rfl rfl) ?_
      refine sq_call (v := .bool (sameF false ms1 ms2)) cf17 rfl (fun wq Hq => (refSame_c _ (nr_nodes 5 rfl) (nr_nodes 2 rfl) (fun m hm => nr_kids 5 rfl hm) (fun m hm => nr_kids 2 rfl hm) Hq hml1 hml2 hmk1 hmk2).mono fun e wz hz => ?_) ?_
      · obtain ⟨rfl, Hz⟩ := hz; exact ⟨rfl, ((((((Hz.fr 5 rfl).fr 5 rfl).fr 5 rfl).fr 5 rfl).fr 5 rfl).fr 5 rfl)⟩
      refine sq (eqb Tryz.underlying4 rfl rfl) ?_
      refine sq (mv rfl) ?_
      refine wq_case (t := 36) rfl (fun hg31 => ?_) (fun hg31 => ?_)
      · have hp31 := hg31
        try simp at hp31
        refine qgon rfl rfl hg31 ?_
        refine sq (lda ag25 4 rfl rfl rfl rfl) ?_
        refine qgon rfl rfl hg31 ?_
        refine sq (lda ag25 4 rfl rfl rfl rfl) ?_
        refine qgon rfl rfl hg31 ?_
        refine sq_call (v := .bool (sameF false ms1 ms1)) cf24 rfl (fun wq Hq => (sameTree_c (nr_nodes 5 rfl) (nr_nodes 5 rfl) (fun m hm => nr_kids 5 rfl hm) (fun m hm => nr_kids 5 rfl hm) Hq hml1 hml1 hmk1 hmk1).mono fun e wz hz => ?_) ?_
        · obtain ⟨rfl, Hz⟩ := hz; exact ⟨rfl, ((((((Hz.fr 5 rfl).fr 5 rfl).fr 5 rfl).fr 5 rfl).fr 5 rfl).fr 5 rfl)⟩
        refine sq (pk_t rfl hg31 rfl) ?_
        refine sq (asg rfl) ?_
        refine wq_nil fun w30 H29 => ?_
        refine cw_ret ?_
        refine ret1 rfl rfl ?_
        exact ⟨by first | rfl | rw [sameF_self], ((((((H29.er 0).er 0).er 0).er 0).er 0).er 0)⟩
      · simp at hg31
end
end Go.Proofs.YtmkijgmfefkgeaaGreatDoor
