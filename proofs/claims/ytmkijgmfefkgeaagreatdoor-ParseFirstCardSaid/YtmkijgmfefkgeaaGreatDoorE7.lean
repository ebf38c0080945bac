/- Parse: tokens are checked, parsed, and held against the limits. -/
import Derived.Test.YtmkijgmfefkgeaaGreatDoorE6
import Derived.Test.YtmkijgmfefkgeaaGreatDoorL3
set_option autoImplicit false
set_option linter.unusedVariables false
set_option linter.unusedSimpArgs false
set_option linter.unusedSectionVars false
namespace Go.Proofs.YtmkijgmfefkgeaaGreatDoor
open Go
/-- Do places rise, from 0 on? -/
def risesF : Int → List Tk → Bool
  | _, [] => true
  | p, t :: r => decide (0 ≤ t.a) && decide (p < t.a) && risesF t.a r
def prevA (l : List Tk) : Nat → Int
  | 0 => -1
  | j + 1 => match l[j]? with
    | some t => t.a
    | none => -1
def topS (l : List Tk) (n : Nat) : List Ln × (Int × Int) :=
  if checkS l ≠ 0 then ([], (2, 0)) else if risesF (-1) l = false then ([], (2, 0))
  else if ((parseS l n).2.1 = 0 ∧ (parseS l n).2.2 = 0) ∧ (2048 < (parseS l n).1.1.length ∨ 24 < (parseS l n).1.2) then ([], (3, 0)) else ((parseS l n).1.1, (parseS l n).2)
theorem rises_nn : ∀ (l : List Tk) (p : Int), risesF p l = true → ∀ t ∈ l, 0 ≤ t.a
  | [], _, _, _, h => by cases h
  | x :: r, p, h, t, ht => by
    simp only [risesF, Bool.and_eq_true, decide_eq_true_eq] at h
    rcases List.mem_cons.1 ht with rfl | ht
    · exact h.1.1
    · exact rises_nn r _ h.2 t ht
section
variable {g w : World} {L : List SP} [Glo g]
theorem top_c {A : Option Addr} {c : Nat} {l : List Tk} (n : Nat) (H : Own g (Els g tkc 3 A l :: L) w) (hl : TkSz l) (hla : ∀ t ∈ l, t.a ≤ 1125899906842624) (hf : risesF (-1) l = true → fileS l n ≠ .fu) (hss : risesF (-1) l = true → ∀ x k, fileS l n = .ok x k → x.kids.size + 1 ≤ 8589934592) : Calls Pg 20 #[.slice A l.length c] w fun e w' => ∃ ms A' c', e = .returned (.tuple #[.agg #[.slice A' ms.length c'], .agg #[.int .i64 (topS l n).2.1, .int .i64 (topS l n).2.2]]) ∧ lnS ms = (topS l n).1 ∧ Own g (Els g tkc 3 A l :: Rw 43 lnc 7 A' c' ms :: PK msF ms :: L) w' := by
  refine calls_cw (vs := [_]) Tryz.func20 rfl rfl rfl ?_
  have hl1 := hl.1
  refine cw_seq ?_
  refine cw_region rfl ?_
  refine st_al H zc25 fun b3 w2 H1 => ?_
  refine st_al H1 zc28 fun b6 w5 H4 => ?_
  refine wl_nil ?_
  refine cw_seq ?_
  refine cw_seq ?_
  refine cw_region rfl ?_
  refine st H4 (mv rfl) ?_
  refine st_call cf23 rfl (check_c (H4.fr 2 rfl) hl) ?_
  rintro _ w8 ⟨rfl, H7⟩
  refine st H7 (nei rfl rfl) ?_
  refine wl_nil ?_
  refine cw_cond rfl (fun hb9 => ?_) (fun hb9 => ?_)
  · have hp9 := hb9
    try simp at hp9
    have hch : ¬ checkS l = 0 := by omega
    refine cw_seq ?_
    refine cw_region rfl ?_
    refine st H7 (bld zc25 pl25 rfl rfl) ?_
    refine st H7 (bld zc28 pl28 rfl rfl) ?_
    refine st_st 2 H7 rfl rfl rfl sz25 rfl rfl rfl rfl fun w11 H10 => ?_
    refine st_st 2 H10 rfl rfl rfl sz28 rfl rfl rfl rfl fun w13 H12 => ?_
    refine wl_nil ?_
    refine cw_ret ?_
    refine ret2 rfl ⟨_, rfl, own_lda H12 1 (vs := [_]) rfl ag25 rfl⟩ ⟨_, rfl, own_lda H12 0 (vs := [_, _]) rfl ag28 rfl⟩ ?_
    have ht : topS l n = ([], (2, 0)) := by simp [topS, hp9, hch]
    have HN1 := (H12.pk_nil (F := msF)).rw_nil (e := 43) (f := lnc) (sz := 7)
    exact ⟨[], none, 0, by rw [ht]; rfl, by rw [ht]; rfl, (((((HN1.fr 1 rfl).fr 1 rfl).fr 4 rfl).er 3).er 3)⟩
  · have hp9 := hb9
    try simp at hp9
    have hch : checkS l = 0 := by omega
    refine cw_skip ?_
    refine cw_seq ?_
    refine cw_seq ?_
    refine cw_region rfl ?_
    refine st H7 (mv rfl) ?_
    refine st H7 (lenl Tryz.underlying31 rfl) ?_
    refine st H7 (mv rfl) ?_
    refine wl_nil ?_
    refine cw_block ?_
    refine cw_loop (σ := Nat) (fun i => [(0, .slice A l.length c), (2, .pointer (some ⟨b3, 0, none⟩)), (3, .pointer (some ⟨b6, 0, none⟩)), (14, .slice A l.length c), (15, .int .i64 l.length), (16, .int .i64 i)]) (fun i w => Own g (bk b3 25 [.slice none 0 0] :: bk b6 28 [.int .i64 0, .int .i64 0] :: Els g tkc 3 A l :: L) w ∧ i ≤ l.length ∧ risesF (-1) l = risesF (prevA l i) (l.drop i)) (fun i => l.length - i) 0 ⟨rfl, rfl, rfl, rfl, rfl, rfl, trivial⟩ ⟨((H7.fr 1 rfl).fr 2 rfl), by omega, rfl⟩ ?_
    rintro i w15 ⟨H14, hi, hx⟩
    refine cw_seq ?_
    refine cw_region rfl ?_
    refine st H14 (lti rfl rfl) ?_
    refine wl_nil ?_
    refine cw_seq ?_
    refine cw_cond rfl (fun hb16 => ?_) (fun hb16 => ?_)
    · have hp16 := hb16
      try simp at hp16
      obtain ⟨z, hz⟩ : ∃ z, l[i]? = some z := ⟨l[i]'(by omega), by simp [show i < l.length by omega]⟩
      have hd : l.drop i = z :: l.drop (i + 1) := by rw [List.drop_eq_getElem_cons (by omega)]; congr 1; rw [List.getElem?_eq_getElem (by omega)] at hz; exact Option.some.inj hz
      have hpn : prevA l (i + 1) = z.a := by simp [prevA, hz]
      refine cw_skip ?_
      refine cw_seq ?_
      refine cw_block ?_
      refine cw_seq ?_
      refine cw_region rfl ?_
      refine st H14 (mv rfl) ?_
      refine st H14 (ix (i) sl31 2 rfl rfl rfl (by omega) (by omega)) ?_
      refine st H14 (ldE ag38 2 rfl rfl hz) ?_
      refine st_al H14 zc38 fun b19 w18 H17 => ?_
      refine st H17 (asg rfl) ?_
      refine st_st 0 H17 rfl rfl rfl sz38 rfl rfl rfl rfl fun w21 H20 => ?_
      refine wl_nil ?_
      refine cw_seq ?_
      refine cw_quiet hm H20 (by kernel_rfl) rfl ?_
      refine sq (fa fo38_2 rfl) ?_
      refine sq (ld sc3 0 rfl rfl rfl) ?_
      refine sq (lti rfl rfl) ?_
      refine sq (mv rfl) ?_
      refine wq_case (t := 24) rfl (fun hg24 => ?_) (fun hg24 => ?_)
      · have hp24 := hg24
        try simp at hp24
        have hbad : risesF (-1) l = false := by rw [hx, hd, risesF]; simp; omega
        refine qgoff rfl rfl hg24 ?_
        refine qgoff rfl rfl hg24 ?_
        refine qgoff rfl rfl hg24 ?_
        refine qgoffu rfl rfl ?_
        refine qgoffu rfl rfl ?_
        refine qgoffu rfl rfl ?_
        refine qgoffu rfl rfl ?_
        refine qgoffu rfl rfl ?_
        refine qgoffu rfl rfl ?_
        refine qgoffu rfl rfl ?_
        refine qgoffu rfl rfl ?_
        refine qgoffu rfl rfl ?_
        refine qgoff rfl rfl hg24 ?_
        refine sq (pk_t rfl hg24 rfl) ?_
        refine wq_nil fun w23 H22 => ?_
        refine cw_cond_t rfl rfl ?_
        refine cw_seq ?_
        refine cw_region rfl ?_
        refine st H22 (bld zc25 pl25 rfl rfl) ?_
        refine st H22 (bld zc28 pl28 rfl rfl) ?_
        refine st_st 1 H22 rfl rfl rfl sz25 rfl rfl rfl rfl fun w26 H25 => ?_
        refine st_st 2 H25 rfl rfl rfl sz28 rfl rfl rfl rfl fun w28 H27 => ?_
        refine wl_nil ?_
        refine cw_ret ?_
        refine ret2 rfl ⟨_, rfl, own_lda H27 1 (vs := [_]) rfl ag25 rfl⟩ ⟨_, rfl, own_lda H27 0 (vs := [_, _]) rfl ag28 rfl⟩ ?_
        have ht : topS l n = ([], (2, 0)) := by simp [topS, hp9, hch, hp16, hbad, hp24]
        have HN2 := (H27.pk_nil (F := msF)).rw_nil (e := 43) (f := lnc) (sz := 7)
        exact ⟨[], none, 0, by rw [ht]; rfl, by rw [ht]; rfl, ((((((HN2.fr 1 rfl).fr 1 rfl).fr 5 rfl).er 3).er 3).er 3)⟩
      · have hp24 := hg24
        try simp at hp24
        refine qgon rfl rfl hg24 ?_
        refine sq (mv rfl) ?_
        refine qgon rfl rfl hg24 ?_
        refine sq (gti rfl rfl) ?_
        refine qgon rfl rfl hg24 ?_
        refine sq (mv rfl) ?_
        refine wq_case (t := 27) rfl (fun hg29 => ?_) (fun hg29 => ?_)
        · have hp29 := hg29
          try simp at hp29
          obtain ⟨zp, hzp⟩ : ∃ z, l[i - 1]? = some z := ⟨l[i - 1]'(by omega), by simp [show i - 1 < l.length by omega]⟩
          have hpv : prevA l i = zp.a := by
            obtain ⟨j, rfl⟩ : ∃ j, i = j + 1 := ⟨i - 1, by omega⟩
            simp only [Nat.add_sub_cancel] at hzp
            simp [prevA, hzp]
          refine qgon rfl rfl hg29 ?_
          refine sq (mv rfl) ?_
          refine qgon rfl rfl hg29 ?_
          refine sq (mv rfl) ?_
          refine qgon rfl rfl hg29 ?_
          refine sq (sub rfl rfl (by omega) (by omega)) ?_
          refine qgon rfl rfl hg29 ?_
          refine sq (ix (i - 1) sl31 3 rfl rfl rfl (by omega) (by omega)) ?_
          refine qgon rfl rfl hg29 ?_
          refine sq (faE fo38_2 rfl) ?_
          refine qgon rfl rfl hg29 ?_
          refine sq (ldEf sc3 3 rfl rfl hzp rfl) ?_
          refine qgon rfl rfl hg29 ?_
          refine sq (fa fo38_2 rfl) ?_
          refine qgon rfl rfl hg29 ?_
          refine sq (ld sc3 0 rfl rfl rfl) ?_
          refine qgon rfl rfl hg29 ?_
          refine sq (gei rfl rfl) ?_
          refine qgon rfl rfl hg24 ?_
          refine sq (pk_t rfl hg29 rfl) ?_
          refine sq (pk_f rfl hg24 rfl) ?_
          refine wq_nil fun w23 H22 => ?_
          refine cw_cond rfl (fun hb30 => ?_) (fun hb30 => ?_)
          · have hp30 := hb30
            try simp at hp30
            have hbad : risesF (-1) l = false := by rw [hx, hd, risesF, hpv]; simp; omega
            refine cw_seq ?_
            refine cw_region rfl ?_
            refine st H22 (bld zc25 pl25 rfl rfl) ?_
            refine st H22 (bld zc28 pl28 rfl rfl) ?_
            refine st_st 1 H22 rfl rfl rfl sz25 rfl rfl rfl rfl fun w32 H31 => ?_
            refine st_st 2 H31 rfl rfl rfl sz28 rfl rfl rfl rfl fun w34 H33 => ?_
            refine wl_nil ?_
            refine cw_ret ?_
            refine ret2 rfl ⟨_, rfl, own_lda H33 1 (vs := [_]) rfl ag25 rfl⟩ ⟨_, rfl, own_lda H33 0 (vs := [_, _]) rfl ag28 rfl⟩ ?_
            have ht : topS l n = ([], (2, 0)) := by simp [topS, hp9, hch, hp16, hp24, hp29, hp30, hbad]
            have HN3 := (H33.pk_nil (F := msF)).rw_nil (e := 43) (f := lnc) (sz := 7)
            exact ⟨[], none, 0, by rw [ht]; rfl, by rw [ht]; rfl, ((((((HN3.fr 1 rfl).fr 1 rfl).fr 5 rfl).er 3).er 3).er 3)⟩
          · have hp30 := hb30
            try simp at hp30
            refine cw_skip ?_
            refine cw_region rfl ?_
            refine st H22 (add rfl rfl (by omega) (by omega)) ?_
            refine st H22 (mv rfl) ?_
            refine wl_nil ?_
            exact ⟨i + 1, ⟨rfl, rfl, rfl, rfl, rfl, rfl, trivial⟩, ⟨((((H22.fr 3 rfl).fr 3 rfl).fr 3 rfl).er 3), by omega, by rw [hx, hd, risesF, hpn]; simp [show 0 ≤ z.a by omega, show prevA l i < z.a by rw [hpv]; omega]⟩, by omega⟩
        · have hp29 := hg29
          try simp at hp29
          have hi0 : i = 0 := by omega
          have hpv : prevA l i = -1 := by rw [hi0]; rfl
          refine qgoff rfl rfl hg29 ?_
          refine qgoff rfl rfl hg29 ?_
          refine qgoff rfl rfl hg29 ?_
          refine qgoff rfl rfl hg29 ?_
          refine qgoff rfl rfl hg29 ?_
          refine qgoff rfl rfl hg29 ?_
          refine qgoff rfl rfl hg29 ?_
          refine qgoff rfl rfl hg29 ?_
          refine qgoff rfl rfl hg29 ?_
          refine qgon rfl rfl hg24 ?_
          refine sq (pk_f rfl hg29 rfl) ?_
          refine sq (pk_f rfl hg24 rfl) ?_
          refine wq_nil fun w23 H22 => ?_
          refine cw_cond_f rfl rfl ?_
          refine cw_skip ?_
          refine cw_region rfl ?_
          refine st H22 (add rfl rfl (by omega) (by omega)) ?_
          refine st H22 (mv rfl) ?_
          refine wl_nil ?_
          exact ⟨i + 1, ⟨rfl, rfl, rfl, rfl, rfl, rfl, trivial⟩, ⟨((((H22.fr 3 rfl).fr 3 rfl).fr 3 rfl).er 3), by omega, by rw [hx, hd, risesF, hpn]; simp [show 0 ≤ z.a by omega, show prevA l i < z.a by rw [hpv]; omega]⟩, by omega⟩
    · have hp16 := hb16
      try simp at hp16
      have hri : risesF (-1) l = true := by rw [hx, List.drop_eq_nil_of_le (by omega)]; rfl
      have hok : TkOk l := ⟨hl.1, fun t ht => ⟨rises_nn l _ hri t ht, hla t ht, hl.2 t ht⟩⟩
      refine cw_exit ?_
      refine cw_seq ?_
      refine cw_region rfl ?_
      refine st H14 (mv rfl) ?_
      refine st_call cf48 rfl (parse_c n (H14.fr 2 rfl) hok (hf hri) (hss hri)) ?_
      rintro _ w36 ⟨ms, A2, c2, rfl, hms, H35⟩
      refine st H35 (mv rfl) ?_
      refine st H35 (ext rfl rfl) ?_
      refine st H35 (ext rfl rfl) ?_
      refine st H35 (ext rfl rfl) ?_
      refine st_al H35 zc25 fun b39 w38 H37 => ?_
      refine st_al H37 zc28 fun b42 w41 H40 => ?_
      refine st_st 1 H40 rfl rfl rfl sz25 rfl rfl rfl rfl fun w44 H43 => ?_
      refine st H43 (asg rfl) ?_
      refine st_st 1 H43 rfl rfl rfl sz28 rfl rfl rfl rfl fun w46 H45 => ?_
      refine wl_nil ?_
      refine cw_seq ?_
      refine cw_seq ?_
      have hml : (parseS l n).1.1.length = ms.length := by rw [← hms]; exact lnS_len ms
      refine cw_region rfl ?_
      refine st H45 (lda ag28 0 rfl rfl rfl rfl) ?_
      refine st H45 (bld zc28 pl28 rfl rfl) ?_
      refine st H45 (eqs28 rfl rfl) ?_
      refine st H45 (mv rfl) ?_
      refine wl_case (t := 51) rfl (fun hg47 => ?_) (fun hg47 => ?_)
      · have hp47 := hg47
        try simp at hp47
        refine gon rfl rfl hg47 ?_
        refine st H45 (fa fo25_0 rfl) ?_
        refine gon rfl rfl hg47 ?_
        refine st H45 (ld sc23 1 rfl rfl rfl) ?_
        refine gon rfl rfl hg47 ?_
        refine st H45 (lenl Tryz.underlying23 rfl) ?_
        refine gon rfl rfl hg47 ?_
        refine st H45 (gti rfl rfl) ?_
        refine gon rfl rfl hg47 ?_
        refine st H45 (mv rfl) ?_
        refine wl_case (t := 56) rfl (fun hg48 => ?_) (fun hg48 => ?_)
        · have hp48 := hg48
          try simp at hp48
          have hbig : 2048 < ms.length := by omega
          refine goff rfl rfl hg48 ?_
          refine goff rfl rfl hg48 ?_
          refine gon rfl rfl hg47 ?_
          refine st H45 (pk_t rfl hg48 rfl) ?_
          refine st H45 (pk_t rfl hg47 rfl) ?_
          refine wl_nil ?_
          refine cw_cond_t rfl rfl ?_
          refine cw_seq ?_
          refine cw_region rfl ?_
          refine st H45 (bld zc25 pl25 rfl rfl) ?_
          refine st H45 (bld zc28 pl28 rfl rfl) ?_
          refine st_st 5 H45 rfl rfl rfl sz25 rfl rfl rfl rfl fun w50 H49 => ?_
          refine st_st 6 H49 rfl rfl rfl sz28 rfl rfl rfl rfl fun w52 H51 => ?_
          refine wl_nil ?_
          refine cw_ret ?_
          refine ret2 rfl ⟨_, rfl, own_lda H51 1 (vs := [_]) rfl ag25 rfl⟩ ⟨_, rfl, own_lda H51 0 (vs := [_, _]) rfl ag28 rfl⟩ ?_
          have ht : topS l n = ([], (3, 0)) := by simp [topS, hml, hp9, hch, hp16, hri, hp47, hbig, hp48]
          have HN4 := (H51.pk_nil (F := msF)).rw_nil (e := 43) (f := lnc) (sz := 7)
          exact ⟨[], none, 0, by rw [ht]; rfl, by rw [ht]; rfl, (((((((((HN4.fr 1 rfl).fr 1 rfl).fr 6 rfl).er 3).er 3).er 3).er 3).er 3).er 3)⟩
        · have hp48 := hg48
          try simp at hp48
          have hbig : ¬ 2048 < ms.length := by omega
          refine gon rfl rfl hg48 ?_
          refine st H45 (mv rfl) ?_
          refine gon rfl rfl hg48 ?_
          refine st H45 (gti rfl rfl) ?_
          refine gon rfl rfl hg47 ?_
          refine st H45 (pk_f rfl hg48 rfl) ?_
          refine st H45 (pk_t rfl hg47 rfl) ?_
          refine wl_nil ?_
          refine cw_cond rfl (fun hb53 => ?_) (fun hb53 => ?_)
          · have hp53 := hb53
            try simp at hp53
            refine cw_seq ?_
            refine cw_region rfl ?_
            refine st H45 (bld zc25 pl25 rfl rfl) ?_
            refine st H45 (bld zc28 pl28 rfl rfl) ?_
            refine st_st 5 H45 rfl rfl rfl sz25 rfl rfl rfl rfl fun w55 H54 => ?_
            refine st_st 6 H54 rfl rfl rfl sz28 rfl rfl rfl rfl fun w57 H56 => ?_
            refine wl_nil ?_
            refine cw_ret ?_
            refine ret2 rfl ⟨_, rfl, own_lda H56 1 (vs := [_]) rfl ag25 rfl⟩ ⟨_, rfl, own_lda H56 0 (vs := [_, _]) rfl ag28 rfl⟩ ?_
            have ht : topS l n = ([], (3, 0)) := by simp [topS, hml, hp9, hch, hp16, hri, hp47, hbig, hp48, hp53]
            have HN5 := (H56.pk_nil (F := msF)).rw_nil (e := 43) (f := lnc) (sz := 7)
            exact ⟨[], none, 0, by rw [ht]; rfl, by rw [ht]; rfl, (((((((((HN5.fr 1 rfl).fr 1 rfl).fr 6 rfl).er 3).er 3).er 3).er 3).er 3).er 3)⟩
          · have hp53 := hb53
            try simp at hp53
            refine cw_skip ?_
            refine cw_seq ?_
            refine cw_sched (Keep _ [_, _]) 3 (.q 0 (.q 1 (.a 2 (.a 3 .e)))) hm H45 (fun w h => ⟨_, ((h.fr 1 rfl).fr 1 rfl)⟩) (by kernel_rfl) (by kernel_rfl) rfl (fun w59 H58 => ?_)
            refine sw rfl rfl (ks fun L' => lda ag25 1 rfl rfl rfl rfl) ?_
            refine sw rfl rfl (ks fun L' => lda ag28 0 rfl rfl rfl rfl) ?_
            refine sa rfl rfl ?_
            refine st_st 5 H58 rfl rfl rfl sz25 rfl rfl rfl rfl fun w61 H60 => ?_
            refine wl_nil ⟨.inr ⟨_, ((H60.fr 2 rfl).fr 2 rfl)⟩, ?_⟩
            refine sa rfl rfl ?_
            refine st_st 6 H60 rfl rfl rfl sz28 rfl rfl rfl rfl fun w63 H62 => ?_
            refine wl_nil ⟨.inl rfl, ?_⟩
            refine ws_nil ?_
            refine cw_ret ?_
            refine ret2 rfl ⟨_, rfl, own_lda H62 1 (vs := [_]) rfl ag25 rfl⟩ ⟨_, rfl, own_lda H62 0 (vs := [_, _]) rfl ag28 rfl⟩ ?_
            have hno : ¬ (((parseS l n).2.1 = 0 ∧ (parseS l n).2.2 = 0) ∧ (2048 < (parseS l n).1.1.length ∨ 24 < (parseS l n).1.2)) := by rw [hml]; omega
            have ht : topS l n = ((parseS l n).1.1, (parseS l n).2) := by rw [topS, if_neg (by simp [hch]), if_neg (by simp [hri]), if_neg hno]
            exact ⟨ms, A2, c2, by rw [ht], by rw [ht]; exact hms, (((((((H62.fr 6 rfl).fr 6 rfl).fr 6 rfl).er 3).er 3).er 3).er 3)⟩
      · have hp47 := hg47
        try simp at hp47
        refine goff rfl rfl hg47 ?_
        refine goff rfl rfl hg47 ?_
        refine goff rfl rfl hg47 ?_
        refine goff rfl rfl hg47 ?_
        refine goff rfl rfl hg47 ?_
        refine goffu rfl rfl ?_
        refine goffu rfl rfl ?_
        refine goff rfl rfl hg47 ?_
        refine st H45 (pk_f rfl hg47 rfl) ?_
        refine wl_nil ?_
        refine cw_cond_f rfl rfl ?_
        refine cw_skip ?_
        refine cw_seq ?_
        refine cw_sched (Keep _ [_, _]) 3 (.q 0 (.q 1 (.a 2 (.a 3 .e)))) hm H45 (fun w h => ⟨_, ((h.fr 1 rfl).fr 1 rfl)⟩) (by kernel_rfl) (by kernel_rfl) rfl (fun w65 H64 => ?_)
        refine sw rfl rfl (ks fun L' => lda ag25 1 rfl rfl rfl rfl) ?_
        refine sw rfl rfl (ks fun L' => lda ag28 0 rfl rfl rfl rfl) ?_
        refine sa rfl rfl ?_
        refine st_st 5 H64 rfl rfl rfl sz25 rfl rfl rfl rfl fun w67 H66 => ?_
        refine wl_nil ⟨.inr ⟨_, ((H66.fr 2 rfl).fr 2 rfl)⟩, ?_⟩
        refine sa rfl rfl ?_
        refine st_st 6 H66 rfl rfl rfl sz28 rfl rfl rfl rfl fun w69 H68 => ?_
        refine wl_nil ⟨.inl rfl, ?_⟩
        refine ws_nil ?_
        refine cw_ret ?_
        refine ret2 rfl ⟨_, rfl, own_lda H68 1 (vs := [_]) rfl ag25 rfl⟩ ⟨_, rfl, own_lda H68 0 (vs := [_, _]) rfl ag28 rfl⟩ ?_
        have hno : ¬ (((parseS l n).2.1 = 0 ∧ (parseS l n).2.2 = 0) ∧ (2048 < (parseS l n).1.1.length ∨ 24 < (parseS l n).1.2)) := by rw [hml]; omega
        have ht : topS l n = ((parseS l n).1.1, (parseS l n).2) := by rw [topS, if_neg (by simp [hch]), if_neg (by simp [hri]), if_neg hno]
        exact ⟨ms, A2, c2, by rw [ht], by rw [ht]; exact hms, (((((((H68.fr 6 rfl).fr 6 rfl).fr 6 rfl).er 3).er 3).er 3).er 3)⟩
end
end Go.Proofs.YtmkijgmfefkgeaaGreatDoor
