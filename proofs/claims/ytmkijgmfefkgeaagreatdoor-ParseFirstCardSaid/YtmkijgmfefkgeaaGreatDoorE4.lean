/- The parser: functions, declarations, files. -/
import Derived.Test.YtmkijgmfefkgeaaGreatDoorE3
set_option autoImplicit false
set_option linter.unusedVariables false
set_option linter.unusedSimpArgs false
set_option linter.unusedSectionVars false
namespace Go.Proofs.YtmkijgmfefkgeaaGreatDoor
open Go
section
variable {g w : World} [Glo g] {L : List SP} {pb c k : Nat} {A : Option Addr} {l : List Tk} {nv : Value}
set_option maxHeartbeats 1000000 in
theorem function_c (n : Nat) (H : Own g (PT g pb A c l k nv L) w) (hl : TkOk l) (hk : k < l.length) (hf : functionS l n k ≠ .fu) : Calls Pg 164 #[.pointer (some ⟨pb, 0, none⟩)] w (PO g pb A c l nv L (functionS l n k)) := by
  refine calls_cw (vs := [_]) Tryz.func164 rfl rfl rfl ?_
  have hl1 := hl.1
  refine cw_seq ?_
  try dsimp only [PT, List.eraseIdx] at H
  refine cw_region rfl ?_
  refine st H (asg rfl) ?_
  refine wl_nil ?_
  refine cw_seq ?_
  try dsimp only [PT, List.eraseIdx] at H
  refine cw_region rfl ?_
  refine st H (mv rfl) ?_
  refine st_call cf125 rfl (take_c ((H.fr 1 rfl).fr 1 rfl) hl (by omega)) ?_
  rintro _ w2 ⟨rfl, H1⟩
  refine st_al H1 zc38 fun b5 w4 H3 => ?_
  refine st_st 0 H3 rfl rfl rfl sz38 rfl rfl rfl rfl fun w7 H6 => ?_
  refine wl_nil ?_
  refine cw_seq ?_
  try dsimp only [PT, List.eraseIdx] at H6
  refine cw_region rfl ?_
  refine st H6 (asg rfl) ?_
  refine wl_nil ?_
  refine cw_seq ?_
  refine cw_seq ?_
  have HN1 := H6.pfo_nil.rw_nil (e := 131) (f := ptrc) (sz := 1)
  try dsimp only [PT, List.eraseIdx] at HN1
  refine cw_region rfl ?_
  refine st HN1 (mv rfl) ?_
  refine st_call cf124 rfl (is_c _ ((HN1.fr 4 rfl).fr 4 rfl) hl (by omega)) ?_
  rintro _ w9 ⟨rfl, H8⟩
  refine wl_nil ?_
  refine cw_cond rfl (fun hb10 => ?_) (fun hb10 => ?_)
  · have hp10 := hb10
    try simp at hp10
    have hlt := isB_lt (by omega) hp10
    refine cw_seq ?_
    try dsimp only [PT, List.eraseIdx] at H8
    refine cw_region rfl ?_
    refine st H8 (mv rfl) ?_
    refine st_call cf125 rfl (take_c ((H8.fr 1 rfl).fr 1 rfl) hl (by omega)) ?_
    rintro _ w12 ⟨rfl, H11⟩
    refine wl_nil ?_
    refine cw_seq ?_
    try dsimp only [PT, List.eraseIdx] at H11
    refine cw_region rfl ?_
    refine st H11 (mv rfl) ?_
    refine st_call cf121 rfl (name_c ((H11.fr 1 rfl).fr 1 rfl) hl (by omega)) ?_
    rintro e w14 hpH13
    rcases hpH13 with ⟨x2, k2, hs2, hk2, rfl, H13⟩ | ⟨q2, hs2, rfl, kq2, H13⟩
    · refine st_al H13 zc38 fun b17 w16 H15 => ?_
      refine st_st 0 H15 rfl rfl rfl sz38 rfl rfl rfl rfl fun w19 H18 => ?_
      refine wl_nil ?_
      refine cw_seq ?_
      try dsimp only [PT, List.eraseIdx] at H18
      refine cw_region rfl ?_
      refine st H18 (lda ag38 0 rfl rfl rfl rfl) ?_
      refine st H18 (fa fo38_1 rfl) ?_
      refine st H18 (ld sc9 0 rfl rfl rfl) ?_
      refine st_call cf122 rfl (begin_c _ (x2) _ H18) ?_
      rintro _ w21 ⟨b3_, rfl, H20⟩
      refine st H20 (asg rfl) ?_
      refine wl_nil ?_
      refine cw_seq ?_
      try dsimp only [PT, List.eraseIdx] at H20
      refine cw_region rfl ?_
      refine st H20 (mv rfl) ?_
      refine st_call cf121 rfl (name_c ((H20.fr 5 rfl).fr 5 rfl) hl (by omega)) ?_
      rintro e w23 hpH22
      rcases hpH22 with ⟨x4, k4, hs4, hk4, rfl, H22⟩ | ⟨q4, hs4, rfl, kq4, H22⟩
      · refine st_al H22 zc38 fun b26 w25 H24 => ?_
        refine st_st 0 H24 rfl rfl rfl sz38 rfl rfl rfl rfl fun w28 H27 => ?_
        refine wl_nil ?_
        refine cw_seq ?_
        try dsimp only [PT, List.eraseIdx] at H27
        refine cw_region rfl ?_
        refine st H27 (mv rfl) ?_
        refine st H27 (mv rfl) ?_
        refine st H27 (lda ag38 0 rfl rfl rfl rfl) ?_
        refine st H27 (fa fo38_1 rfl) ?_
        refine st H27 (ld sc9 0 rfl rfl rfl) ?_
        refine st_call cf122 rfl (begin_c _ (x4) _ H27) ?_
        rintro _ w30 ⟨b5_, rfl, H29⟩
        refine st_call cf128 rfl (done_c ((H29.fr 5 rfl).fr 5 rfl) hl (by omega)) ?_
        rintro _ w32 ⟨rfl, H31⟩
        refine st_bs H31 sl149 zc131 rfl rfl rfl rfl rfl fun b35 w34 H33 => ?_
        refine st H33 (nck rfl) ?_
        refine st H33 (fa fo151_1 rfl) ?_
        refine st_st 7 H33 rfl rfl rfl sz149 rfl rfl rfl rfl fun w37 H36 => ?_
        refine wl_nil ?_
        refine cw_seq ?_
        have HT6 := Own.tr (doneN l k4 (begN 11 x4 x4.s)) (.nil) (((H36.fr 6 rfl).fr 6 rfl).fr 6 rfl) rfl
        have HR7 := (HT6.fr 2 rfl).row1
        try dsimp only [PT, List.eraseIdx] at HR7
        refine cw_region rfl ?_
        refine st HR7 (mv rfl) ?_
        refine st HR7 (mv rfl) ?_
        refine st HR7 (mv rfl) ?_
        refine st_call cf128 rfl (done_c (((HR7.fr 2 rfl).fr 4 rfl).fr 4 rfl) hl (by omega)) ?_
        rintro _ w39 ⟨rfl, H38⟩
        refine st_bs H38 sl149 zc131 rfl rfl rfl rfl rfl fun b42 w41 H40 => ?_
        refine st_app 10 0 ([b3_]) H40 sl149 zc131 rfl rfl rfl rfl rfl rfl rfl rfl (by intro y hy; simp at hy; subst hy; exact ⟨rfl, rfl⟩) (by first | omega | (simp <;> omega)) (by first | omega | (simp <;> omega)) fun A45 c46 w44 H43 => ?_
        refine st H43 (asg rfl) ?_
        refine wl_nil ?_
        have HT8 := Own.tr (doneN l k4 (begN 8 x2 x2.s)) (.one ⟨doneN l k4 (begN 11 x4 x4.s), .nil⟩) (((H43.fr 6 rfl).fr 6 rfl).fr 6 rfl) rfl
        have HS9 := (HT8.fr 9 rfl).pfo_app
        try dsimp only [PT, List.eraseIdx] at HS9
        refine cw_region rfl ?_
        refine st HS9 (mv rfl) ?_
        refine st_call cf120 rfl (need_c _ ((HS9.fr 4 rfl).fr 4 rfl) hl (by omega)) ?_
        rintro e w48 hpH47
        rcases hpH47 with ⟨x10, k10, hs10, hk10, rfl, H47⟩ | ⟨q10, hs10, rfl, kq10, H47⟩
        · refine wl_nil ?_
          refine cw_seq ?_
          try dsimp only [PT, List.eraseIdx] at H47
          refine cw_region rfl ?_
          refine st H47 (mv rfl) ?_
          refine st_call cf121 rfl (name_c ((H47.fr 1 rfl).fr 1 rfl) hl (by omega)) ?_
          rintro e w50 hpH49
          rcases hpH49 with ⟨x11, k11, hs11, hk11, rfl, H49⟩ | ⟨q11, hs11, rfl, kq11, H49⟩
          · refine st_al H49 zc38 fun b53 w52 H51 => ?_
            refine st_st 0 H51 rfl rfl rfl sz38 rfl rfl rfl rfl fun w55 H54 => ?_
            refine wl_nil ?_
            refine cw_seq ?_
            try dsimp only [PT, List.eraseIdx] at H54
            refine cw_region rfl ?_
            refine st H54 (lda ag38 10 rfl rfl rfl rfl) ?_
            refine st H54 (fa fo38_1 rfl) ?_
            refine st H54 (ld sc9 0 rfl rfl rfl) ?_
            refine st_call cf122 rfl (begin_c _ (nxt l k) _ H54) ?_
            rintro _ w57 ⟨b12_, rfl, H56⟩
            refine st H56 (asg rfl) ?_
            refine wl_nil ?_
            refine cw_seq ?_
            try dsimp only [PT, List.eraseIdx] at H56
            refine cw_region rfl ?_
            refine st H56 (mv rfl) ?_
            refine st H56 (mv rfl) ?_
            refine st H56 (fa fo38_2 rfl) ?_
            refine st H56 (ld sc3 3 rfl rfl rfl) ?_
            refine st H56 (mv rfl) ?_
            refine st H56 (nck rfl) ?_
            refine st H56 (fa fo151_0 rfl) ?_
            refine st H56 (fa fo43_4 rfl) ?_
            refine st_st 0 H56 rfl rfl rfl sz3 rfl rfl rfl rfl fun w59 H58 => ?_
            refine st H58 (nck rfl) ?_
            refine st H58 (fa fo151_1 rfl) ?_
            refine st_st 0 H58 rfl rfl rfl sz149 rfl rfl rfl rfl fun w61 H60 => ?_
            refine wl_nil ?_
            refine cw_seq ?_
            try dsimp only [PT, List.eraseIdx] at H60
            refine cw_region rfl ?_
            refine st H60 (mv rfl) ?_
            refine st_call cf120 rfl (need_c _ ((H60.fr 5 rfl).fr 5 rfl) hl (by omega)) ?_
            rintro e w63 hpH62
            rcases hpH62 with ⟨x13, k13, hs13, hk13, rfl, H62⟩ | ⟨q13, hs13, rfl, kq13, H62⟩
            · refine wl_nil ?_
              refine cw_seq ?_
              try dsimp only [PT, List.eraseIdx] at H62
              refine cw_region rfl ?_
              refine st H62 (mv rfl) ?_
              refine st H62 (mv rfl) ?_
              refine st H62 (mv rfl) ?_
              refine st H62 (mkf rfl rfl) ?_
              refine st_call cf187 rfl (commas_c (ps := [] ++ [b3_]) (d := { begN 7 (nxt l k) x11.s with pos := x11.a }) (x := .one ⟨doneN l k4 (begN 8 x2 x2.s), .one ⟨doneN l k4 (begN 11 x4 x4.s), .nil⟩⟩) (one_param hl) cf188 (((((H62.fr 6 rfl).fr 7 rfl).fr 4 rfl).fr 4 rfl).fr 4 rfl) hl (by omega) (by first | simp | omega) (fun hz => hf (by simp [functionS, hp10, hs2, hs4, hs10, hs11, hs13, hz]))) ?_
              rintro e w65 hpH64
              rcases hpH64 with ⟨x14, k14, hs14, hk14, rfl, A14_, c14_, qs14, hq14, H64⟩ | ⟨q14, hs14, rfl, kq14, H64⟩
              · try simp at hq14
                refine wl_nil ?_
                refine cw_seq ?_
                refine cw_seq ?_
                try dsimp only [PT, List.eraseIdx] at H64
                refine cw_region rfl ?_
                refine st H64 (mv rfl) ?_
                refine st_call cf124 rfl (is_c _ ((H64.fr 1 rfl).fr 1 rfl) hl (by omega)) ?_
                rintro _ w67 ⟨rfl, H66⟩
                refine st H66 (notb rfl) ?_
                refine wl_nil ?_
                refine cw_cond rfl (fun hb68 => ?_) (fun hb68 => ?_)
                · have hp68 := hb68
                  try simp at hp68
                  try dsimp only [PT, List.eraseIdx] at H66
                  refine cw_sched (Keep _ [_]) 11 (.q 0 (.q 1 (.q 2 (.q 3 (.q 4 (.q 5 (.a 6 (.a 7 (.a 8 (.a 9 (.q 10 (.a 11 .e)))))))))))) hm H66 (fun w h => ⟨_, (h.fr 2 rfl)⟩) (by kernel_rfl) (by kernel_rfl) rfl (fun w70 H69 => ?_)
                  refine sw rfl rfl (mv rfl) ?_
                  refine sw rfl rfl (mv rfl) ?_
                  refine sw rfl rfl (nck rfl) ?_
                  refine sw rfl rfl (fa fo151_1 rfl) ?_
                  refine sw rfl rfl (ks fun L' => ld sc149 0 rfl rfl rfl) ?_
                  refine sw rfl rfl (mv rfl) ?_
                  refine sa rfl rfl ?_
                  refine st_call cf184 rfl (kindOf_c ((H69.fr 1 rfl).fr 1 rfl) hl (by omega)) ?_
                  rintro e w72 hpH71
                  rcases hpH71 with ⟨x15, k15, hs15, hk15, b15_, rfl, H71⟩ | ⟨q15, hs15, rfl, kq15, H71⟩
                  · refine wl_nil ⟨.inr ⟨_, (H71.fr 3 rfl)⟩, ?_⟩
                    refine sa rfl rfl ?_
                    refine st_bs H71 sl149 zc131 rfl rfl rfl rfl rfl fun b75 w74 H73 => ?_
                    refine wl_nil ⟨.inr ⟨_, (H73.fr 4 rfl)⟩, ?_⟩
                    refine sa rfl rfl ?_
                    refine st_app 5 0 ([b15_]) H73 sl149 zc131 rfl rfl rfl rfl rfl rfl rfl rfl (by intro y hy; simp at hy; subst hy; exact ⟨rfl, rfl⟩) (by first | omega | (simp <;> omega)) (by first | omega | (simp <;> omega)) fun A78 c79 w77 H76 => ?_
                    refine wl_nil ⟨.inr ⟨_, (H76.fr 5 rfl)⟩, ?_⟩
                    refine sa rfl rfl ?_
                    refine st H76 (nck rfl) ?_
                    refine wl_nil ⟨.inr ⟨_, (H76.fr 5 rfl)⟩, ?_⟩
                    refine sw rfl rfl (fa fo151_1 rfl) ?_
                    refine sa rfl rfl ?_
                    refine st_st 5 H76 rfl rfl rfl sz149 rfl rfl rfl rfl fun w81 H80 => ?_
                    refine wl_nil ⟨.inl rfl, ?_⟩
                    refine ws_nil ?_
                    refine cw_seq ?_
                    have HS16 := ((H80.fr 5 rfl).fr 6 rfl).pfo_app
                    try dsimp only [PT, List.eraseIdx] at HS16
                    refine cw_sched (Keep _ [_]) 11 (.q 0 (.q 1 (.q 2 (.q 3 (.q 4 (.q 5 (.a 6 (.a 7 (.a 8 (.a 9 (.q 10 (.a 11 .e)))))))))))) hm HS16 (fun w h => ⟨_, (h.fr 1 rfl)⟩) (by kernel_rfl) (by kernel_rfl) rfl (fun w83 H82 => ?_)
                    refine sw rfl rfl (mv rfl) ?_
                    refine sw rfl rfl (mv rfl) ?_
                    refine sw rfl rfl (nck rfl) ?_
                    refine sw rfl rfl (fa fo151_1 rfl) ?_
                    refine sw rfl rfl (ks fun L' => ld sc149 0 rfl rfl rfl) ?_
                    refine sw rfl rfl (mv rfl) ?_
                    refine sa rfl rfl ?_
                    refine st_call cf189 rfl (rec_block (rc_all hl n) ((H82.fr 5 rfl).fr 5 rfl) (by omega) (fun hz => hf (by simp [functionS, hp10, hs2, hs4, hs10, hs11, hs13, hs14, hp68, hs15, hz]))) ?_
                    rintro e w85 hpH84
                    rcases hpH84 with ⟨x17, k17, hs17, hk17, b17_, rfl, H84⟩ | ⟨q17, hs17, rfl, kq17, H84⟩
                    · refine wl_nil ⟨.inr ⟨_, (H84.fr 4 rfl)⟩, ?_⟩
                      refine sa rfl rfl ?_
                      refine st_bs H84 sl149 zc131 rfl rfl rfl rfl rfl fun b88 w87 H86 => ?_
                      refine wl_nil ⟨.inr ⟨_, (H86.fr 5 rfl)⟩, ?_⟩
                      refine sa rfl rfl ?_
                      refine st_app 6 0 ([b17_]) H86 sl149 zc131 rfl rfl rfl rfl rfl rfl rfl rfl (by intro y hy; simp at hy; subst hy; exact ⟨rfl, rfl⟩) (by first | omega | (simp <;> omega)) (by first | omega | (simp <;> omega)) fun A91 c92 w90 H89 => ?_
                      refine wl_nil ⟨.inr ⟨_, (H89.fr 6 rfl)⟩, ?_⟩
                      refine sa rfl rfl ?_
                      refine st H89 (nck rfl) ?_
                      refine wl_nil ⟨.inr ⟨_, (H89.fr 6 rfl)⟩, ?_⟩
                      refine sw rfl rfl (fa fo151_1 rfl) ?_
                      refine sa rfl rfl ?_
                      refine st_st 6 H89 rfl rfl rfl sz149 rfl rfl rfl rfl fun w94 H93 => ?_
                      refine wl_nil ⟨.inl rfl, ?_⟩
                      refine ws_nil ?_
                      refine cw_seq ?_
                      have HS18 := ((H93.fr 5 rfl).fr 6 rfl).pfo_app
                      try dsimp only [PT, List.eraseIdx] at HS18
                      refine cw_region rfl ?_
                      refine st HS18 (mv rfl) ?_
                      refine st HS18 (mv rfl) ?_
                      refine st_call cf128 rfl (done_c (((HS18.fr 1 rfl).fr 5 rfl).fr 5 rfl) hl (by omega)) ?_
                      rintro _ w96 ⟨rfl, H95⟩
                      refine st H95 (asg rfl) ?_
                      refine wl_nil ?_
                      refine cw_ret ?_
                      refine ret1 rfl rfl ?_
                      have HT19 := Own.tr (doneN l k17 { begN 7 (nxt l k) x11.s with pos := x11.a }) ((x14.app (.one x15)).app (.one x17)) (((H95.fr 3 rfl).fr 4 rfl).fr 4 rfl) rfl
                      exact Or.inl ⟨_, _, by simp [functionS, hp10, hs2, hs4, hs10, hs11, hs13, hs14, hp68, hs15, hs17], by omega, _, rfl, (((((((((((((HT19.fr 2 rfl).fr 2 rfl).er 3).er 3).er 3).er 3).er 3).er 3).er 3).er 3).er 3).er 3).er 3)⟩
                    · exact Or.inr ⟨q17, by simp [functionS, hp10, hs2, hs4, hs10, hs11, hs13, hs14, hp68, hs15, hs17], rfl, _, (((((((((((((((H84.fr 1 rfl).fr 1 rfl).er 2).er 2).er 2).er 2).er 2).er 2).er 2).er 2).er 2).er 2).er 2).er 2).er 2)⟩
                  · exact Or.inr ⟨q15, by simp [functionS, hp10, hs2, hs4, hs10, hs11, hs13, hs14, hp68, hs15], rfl, _, ((((((((((((((H71.fr 1 rfl).fr 1 rfl).er 2).er 2).er 2).er 2).er 2).er 2).er 2).er 2).er 2).er 2).er 2).er 2)⟩
                · have hp68 := hb68
                  try simp at hp68
                  refine cw_skip ?_
                  refine cw_seq ?_
                  try dsimp only [PT, List.eraseIdx] at H66
                  refine cw_sched (Keep _ [_]) 11 (.q 0 (.q 1 (.q 2 (.q 3 (.q 4 (.q 5 (.a 6 (.a 7 (.a 8 (.a 9 (.q 10 (.a 11 .e)))))))))))) hm H66 (fun w h => ⟨_, (h.fr 2 rfl)⟩) (by kernel_rfl) (by kernel_rfl) rfl (fun w98 H97 => ?_)
                  refine sw rfl rfl (mv rfl) ?_
                  refine sw rfl rfl (mv rfl) ?_
                  refine sw rfl rfl (nck rfl) ?_
                  refine sw rfl rfl (fa fo151_1 rfl) ?_
                  refine sw rfl rfl (ks fun L' => ld sc149 0 rfl rfl rfl) ?_
                  refine sw rfl rfl (mv rfl) ?_
                  refine sa rfl rfl ?_
                  refine st_call cf189 rfl (rec_block (rc_all hl n) ((H97.fr 1 rfl).fr 1 rfl) (by omega) (fun hz => hf (by simp [functionS, hp10, hs2, hs4, hs10, hs11, hs13, hs14, hp68, hz]))) ?_
                  rintro e w100 hpH99
                  rcases hpH99 with ⟨x20, k20, hs20, hk20, b20_, rfl, H99⟩ | ⟨q20, hs20, rfl, kq20, H99⟩
                  · refine wl_nil ⟨.inr ⟨_, (H99.fr 3 rfl)⟩, ?_⟩
                    refine sa rfl rfl ?_
                    refine st_bs H99 sl149 zc131 rfl rfl rfl rfl rfl fun b103 w102 H101 => ?_
                    refine wl_nil ⟨.inr ⟨_, (H101.fr 4 rfl)⟩, ?_⟩
                    refine sa rfl rfl ?_
                    refine st_app 5 0 ([b20_]) H101 sl149 zc131 rfl rfl rfl rfl rfl rfl rfl rfl (by intro y hy; simp at hy; subst hy; exact ⟨rfl, rfl⟩) (by first | omega | (simp <;> omega)) (by first | omega | (simp <;> omega)) fun A106 c107 w105 H104 => ?_
                    refine wl_nil ⟨.inr ⟨_, (H104.fr 5 rfl)⟩, ?_⟩
                    refine sa rfl rfl ?_
                    refine st H104 (nck rfl) ?_
                    refine wl_nil ⟨.inr ⟨_, (H104.fr 5 rfl)⟩, ?_⟩
                    refine sw rfl rfl (fa fo151_1 rfl) ?_
                    refine sa rfl rfl ?_
                    refine st_st 5 H104 rfl rfl rfl sz149 rfl rfl rfl rfl fun w109 H108 => ?_
                    refine wl_nil ⟨.inl rfl, ?_⟩
                    refine ws_nil ?_
                    refine cw_seq ?_
                    have HS21 := ((H108.fr 5 rfl).fr 6 rfl).pfo_app
                    try dsimp only [PT, List.eraseIdx] at HS21
                    refine cw_region rfl ?_
                    refine st HS21 (mv rfl) ?_
                    refine st HS21 (mv rfl) ?_
                    refine st_call cf128 rfl (done_c (((HS21.fr 1 rfl).fr 5 rfl).fr 5 rfl) hl (by omega)) ?_
                    rintro _ w111 ⟨rfl, H110⟩
                    refine st H110 (asg rfl) ?_
                    refine wl_nil ?_
                    refine cw_ret ?_
                    refine ret1 rfl rfl ?_
                    have HT22 := Own.tr (doneN l k20 { begN 7 (nxt l k) x11.s with pos := x11.a }) (x14.app (.one x20)) (((H110.fr 3 rfl).fr 4 rfl).fr 4 rfl) rfl
                    exact Or.inl ⟨_, _, by simp [functionS, hp10, hs2, hs4, hs10, hs11, hs13, hs14, hp68, hs20], by omega, _, rfl, ((((((((((((HT22.fr 2 rfl).fr 2 rfl).er 3).er 3).er 3).er 3).er 3).er 3).er 3).er 3).er 3).er 3)⟩
                  · exact Or.inr ⟨q20, by simp [functionS, hp10, hs2, hs4, hs10, hs11, hs13, hs14, hp68, hs20], rfl, _, ((((((((((((((H99.fr 1 rfl).fr 1 rfl).er 2).er 2).er 2).er 2).er 2).er 2).er 2).er 2).er 2).er 2).er 2).er 2)⟩
              · exact Or.inr ⟨q14, by simp [functionS, hp10, hs2, hs4, hs10, hs11, hs13, hs14], rfl, _, (((((((((((H64.fr 1 rfl).fr 1 rfl).er 2).er 2).er 2).er 2).er 2).er 2).er 2).er 2).er 2)⟩
            · exact Or.inr ⟨q13, by simp [functionS, hp10, hs2, hs4, hs10, hs11, hs13], rfl, _, ((((((((((((((H62.fr 1 rfl).fr 1 rfl).er 2).er 2).er 2).er 2).er 2).er 2).er 2).er 2).er 2).er 2).er 2).er 2)⟩
          · exact Or.inr ⟨q11, by simp [functionS, hp10, hs2, hs4, hs10, hs11], rfl, _, ((((((((((H49.fr 1 rfl).fr 1 rfl).er 2).er 2).er 2).er 2).er 2).er 2).er 2).er 2)⟩
        · exact Or.inr ⟨q10, by simp [functionS, hp10, hs2, hs4, hs10], rfl, _, ((((((((((H47.fr 1 rfl).fr 1 rfl).er 2).er 2).er 2).er 2).er 2).er 2).er 2).er 2)⟩
      · exact Or.inr ⟨q4, by simp [functionS, hp10, hs2, hs4], rfl, _, (((((((((H22.fr 1 rfl).fr 1 rfl).er 2).er 2).er 2).er 2).er 2).er 2).er 2)⟩
    · exact Or.inr ⟨q2, by simp [functionS, hp10, hs2], rfl, _, (((((H13.fr 1 rfl).fr 1 rfl).er 2).er 2).er 2)⟩
  · have hp10 := hb10
    try simp at hp10
    refine cw_skip ?_
    refine cw_seq ?_
    try dsimp only [PT, List.eraseIdx] at H8
    refine cw_region rfl ?_
    refine st H8 (mv rfl) ?_
    refine st_call cf121 rfl (name_c ((H8.fr 1 rfl).fr 1 rfl) hl (by omega)) ?_
    rintro e w113 hpH112
    rcases hpH112 with ⟨x23, k23, hs23, hk23, rfl, H112⟩ | ⟨q23, hs23, rfl, kq23, H112⟩
    · refine st_al H112 zc38 fun b116 w115 H114 => ?_
      refine st_st 0 H114 rfl rfl rfl sz38 rfl rfl rfl rfl fun w118 H117 => ?_
      refine wl_nil ?_
      refine cw_seq ?_
      try dsimp only [PT, List.eraseIdx] at H117
      refine cw_region rfl ?_
      refine st H117 (lda ag38 5 rfl rfl rfl rfl) ?_
      refine st H117 (fa fo38_1 rfl) ?_
      refine st H117 (ld sc9 0 rfl rfl rfl) ?_
      refine st_call cf122 rfl (begin_c _ (nxt l k) _ H117) ?_
      rintro _ w120 ⟨b24_, rfl, H119⟩
      refine st H119 (asg rfl) ?_
      refine wl_nil ?_
      refine cw_seq ?_
      try dsimp only [PT, List.eraseIdx] at H119
      refine cw_region rfl ?_
      refine st H119 (mv rfl) ?_
      refine st H119 (mv rfl) ?_
      refine st H119 (fa fo38_2 rfl) ?_
      refine st H119 (ld sc3 3 rfl rfl rfl) ?_
      refine st H119 (mv rfl) ?_
      refine st H119 (nck rfl) ?_
      refine st H119 (fa fo151_0 rfl) ?_
      refine st H119 (fa fo43_4 rfl) ?_
      refine st_st 0 H119 rfl rfl rfl sz3 rfl rfl rfl rfl fun w122 H121 => ?_
      refine st H121 (nck rfl) ?_
      refine st H121 (fa fo151_1 rfl) ?_
      refine st_st 0 H121 rfl rfl rfl sz149 rfl rfl rfl rfl fun w124 H123 => ?_
      refine wl_nil ?_
      refine cw_seq ?_
      try dsimp only [PT, List.eraseIdx] at H123
      refine cw_region rfl ?_
      refine st H123 (mv rfl) ?_
      refine st_call cf120 rfl (need_c _ ((H123.fr 5 rfl).fr 5 rfl) hl (by omega)) ?_
      rintro e w126 hpH125
      rcases hpH125 with ⟨x25, k25, hs25, hk25, rfl, H125⟩ | ⟨q25, hs25, rfl, kq25, H125⟩
      · refine wl_nil ?_
        refine cw_seq ?_
        try dsimp only [PT, List.eraseIdx] at H125
        refine cw_region rfl ?_
        refine st H125 (mv rfl) ?_
        refine st H125 (mv rfl) ?_
        refine st H125 (mv rfl) ?_
        refine st H125 (mkf rfl rfl) ?_
        refine st_call cf187 rfl (commas_c (ps := []) (d := { begN 7 (nxt l k) x23.s with pos := x23.a }) (x := .nil) (one_param hl) cf188 (((((H125.fr 7 rfl).fr 7 rfl).fr 4 rfl).fr 4 rfl).fr 4 rfl) hl (by omega) (by first | simp | omega) (fun hz => hf (by simp [functionS, hp10, hs23, hs25, hz]))) ?_
        rintro e w128 hpH127
        rcases hpH127 with ⟨x26, k26, hs26, hk26, rfl, A26_, c26_, qs26, hq26, H127⟩ | ⟨q26, hs26, rfl, kq26, H127⟩
        · try simp at hq26
          refine wl_nil ?_
          refine cw_seq ?_
          refine cw_seq ?_
          try dsimp only [PT, List.eraseIdx] at H127
          refine cw_region rfl ?_
          refine st H127 (mv rfl) ?_
          refine st_call cf124 rfl (is_c _ ((H127.fr 1 rfl).fr 1 rfl) hl (by omega)) ?_
          rintro _ w130 ⟨rfl, H129⟩
          refine st H129 (notb rfl) ?_
          refine wl_nil ?_
          refine cw_cond rfl (fun hb131 => ?_) (fun hb131 => ?_)
          · have hp131 := hb131
            try simp at hp131
            try dsimp only [PT, List.eraseIdx] at H129
            refine cw_sched (Keep _ [_]) 11 (.q 0 (.q 1 (.q 2 (.q 3 (.q 4 (.q 5 (.a 6 (.a 7 (.a 8 (.a 9 (.q 10 (.a 11 .e)))))))))))) hm H129 (fun w h => ⟨_, (h.fr 2 rfl)⟩) (by kernel_rfl) (by kernel_rfl) rfl (fun w133 H132 => ?_)
            refine sw rfl rfl (mv rfl) ?_
            refine sw rfl rfl (mv rfl) ?_
            refine sw rfl rfl (nck rfl) ?_
            refine sw rfl rfl (fa fo151_1 rfl) ?_
            refine sw rfl rfl (ks fun L' => ld sc149 0 rfl rfl rfl) ?_
            refine sw rfl rfl (mv rfl) ?_
            refine sa rfl rfl ?_
            refine st_call cf184 rfl (kindOf_c ((H132.fr 1 rfl).fr 1 rfl) hl (by omega)) ?_
            rintro e w135 hpH134
            rcases hpH134 with ⟨x27, k27, hs27, hk27, b27_, rfl, H134⟩ | ⟨q27, hs27, rfl, kq27, H134⟩
            · refine wl_nil ⟨.inr ⟨_, (H134.fr 3 rfl)⟩, ?_⟩
              refine sa rfl rfl ?_
              refine st_bs H134 sl149 zc131 rfl rfl rfl rfl rfl fun b138 w137 H136 => ?_
              refine wl_nil ⟨.inr ⟨_, (H136.fr 4 rfl)⟩, ?_⟩
              refine sa rfl rfl ?_
              refine st_app 5 0 ([b27_]) H136 sl149 zc131 rfl rfl rfl rfl rfl rfl rfl rfl (by intro y hy; simp at hy; subst hy; exact ⟨rfl, rfl⟩) (by first | omega | (simp <;> omega)) (by first | omega | (simp <;> omega)) fun A141 c142 w140 H139 => ?_
              refine wl_nil ⟨.inr ⟨_, (H139.fr 5 rfl)⟩, ?_⟩
              refine sa rfl rfl ?_
              refine st H139 (nck rfl) ?_
              refine wl_nil ⟨.inr ⟨_, (H139.fr 5 rfl)⟩, ?_⟩
              refine sw rfl rfl (fa fo151_1 rfl) ?_
              refine sa rfl rfl ?_
              refine st_st 5 H139 rfl rfl rfl sz149 rfl rfl rfl rfl fun w144 H143 => ?_
              refine wl_nil ⟨.inl rfl, ?_⟩
              refine ws_nil ?_
              refine cw_seq ?_
              have HS28 := ((H143.fr 5 rfl).fr 6 rfl).pfo_app
              try dsimp only [PT, List.eraseIdx] at HS28
              refine cw_sched (Keep _ [_]) 11 (.q 0 (.q 1 (.q 2 (.q 3 (.q 4 (.q 5 (.a 6 (.a 7 (.a 8 (.a 9 (.q 10 (.a 11 .e)))))))))))) hm HS28 (fun w h => ⟨_, (h.fr 1 rfl)⟩) (by kernel_rfl) (by kernel_rfl) rfl (fun w146 H145 => ?_)
              refine sw rfl rfl (mv rfl) ?_
              refine sw rfl rfl (mv rfl) ?_
              refine sw rfl rfl (nck rfl) ?_
              refine sw rfl rfl (fa fo151_1 rfl) ?_
              refine sw rfl rfl (ks fun L' => ld sc149 0 rfl rfl rfl) ?_
              refine sw rfl rfl (mv rfl) ?_
              refine sa rfl rfl ?_
              refine st_call cf189 rfl (rec_block (rc_all hl n) ((H145.fr 5 rfl).fr 5 rfl) (by omega) (fun hz => hf (by simp [functionS, hp10, hs23, hs25, hs26, hp131, hs27, hz]))) ?_
              rintro e w148 hpH147
              rcases hpH147 with ⟨x29, k29, hs29, hk29, b29_, rfl, H147⟩ | ⟨q29, hs29, rfl, kq29, H147⟩
              · refine wl_nil ⟨.inr ⟨_, (H147.fr 4 rfl)⟩, ?_⟩
                refine sa rfl rfl ?_
                refine st_bs H147 sl149 zc131 rfl rfl rfl rfl rfl fun b151 w150 H149 => ?_
                refine wl_nil ⟨.inr ⟨_, (H149.fr 5 rfl)⟩, ?_⟩
                refine sa rfl rfl ?_
                refine st_app 6 0 ([b29_]) H149 sl149 zc131 rfl rfl rfl rfl rfl rfl rfl rfl (by intro y hy; simp at hy; subst hy; exact ⟨rfl, rfl⟩) (by first | omega | (simp <;> omega)) (by first | omega | (simp <;> omega)) fun A154 c155 w153 H152 => ?_
                refine wl_nil ⟨.inr ⟨_, (H152.fr 6 rfl)⟩, ?_⟩
                refine sa rfl rfl ?_
                refine st H152 (nck rfl) ?_
                refine wl_nil ⟨.inr ⟨_, (H152.fr 6 rfl)⟩, ?_⟩
                refine sw rfl rfl (fa fo151_1 rfl) ?_
                refine sa rfl rfl ?_
                refine st_st 6 H152 rfl rfl rfl sz149 rfl rfl rfl rfl fun w157 H156 => ?_
                refine wl_nil ⟨.inl rfl, ?_⟩
                refine ws_nil ?_
                refine cw_seq ?_
                have HS30 := ((H156.fr 5 rfl).fr 6 rfl).pfo_app
                try dsimp only [PT, List.eraseIdx] at HS30
                refine cw_region rfl ?_
                refine st HS30 (mv rfl) ?_
                refine st HS30 (mv rfl) ?_
                refine st_call cf128 rfl (done_c (((HS30.fr 1 rfl).fr 5 rfl).fr 5 rfl) hl (by omega)) ?_
                rintro _ w159 ⟨rfl, H158⟩
                refine st H158 (asg rfl) ?_
                refine wl_nil ?_
                refine cw_ret ?_
                refine ret1 rfl rfl ?_
                have HT31 := Own.tr (doneN l k29 { begN 7 (nxt l k) x23.s with pos := x23.a }) ((x26.app (.one x27)).app (.one x29)) (((H158.fr 3 rfl).fr 4 rfl).fr 4 rfl) rfl
                exact Or.inl ⟨_, _, by simp [functionS, hp10, hs23, hs25, hs26, hp131, hs27, hs29], by omega, _, rfl, ((((((((HT31.fr 2 rfl).fr 2 rfl).er 3).er 3).er 3).er 3).er 3).er 3)⟩
              · exact Or.inr ⟨q29, by simp [functionS, hp10, hs23, hs25, hs26, hp131, hs27, hs29], rfl, _, ((((((((((H147.fr 1 rfl).fr 1 rfl).er 2).er 2).er 2).er 2).er 2).er 2).er 2).er 2)⟩
            · exact Or.inr ⟨q27, by simp [functionS, hp10, hs23, hs25, hs26, hp131, hs27], rfl, _, (((((((((H134.fr 1 rfl).fr 1 rfl).er 2).er 2).er 2).er 2).er 2).er 2).er 2)⟩
          · have hp131 := hb131
            try simp at hp131
            refine cw_skip ?_
            refine cw_seq ?_
            try dsimp only [PT, List.eraseIdx] at H129
            refine cw_sched (Keep _ [_]) 11 (.q 0 (.q 1 (.q 2 (.q 3 (.q 4 (.q 5 (.a 6 (.a 7 (.a 8 (.a 9 (.q 10 (.a 11 .e)))))))))))) hm H129 (fun w h => ⟨_, (h.fr 2 rfl)⟩) (by kernel_rfl) (by kernel_rfl) rfl (fun w161 H160 => ?_)
            refine sw rfl rfl (mv rfl) ?_
            refine sw rfl rfl (mv rfl) ?_
            refine sw rfl rfl (nck rfl) ?_
            refine sw rfl rfl (fa fo151_1 rfl) ?_
            refine sw rfl rfl (ks fun L' => ld sc149 0 rfl rfl rfl) ?_
            refine sw rfl rfl (mv rfl) ?_
            refine sa rfl rfl ?_
            refine st_call cf189 rfl (rec_block (rc_all hl n) ((H160.fr 1 rfl).fr 1 rfl) (by omega) (fun hz => hf (by simp [functionS, hp10, hs23, hs25, hs26, hp131, hz]))) ?_
            rintro e w163 hpH162
            rcases hpH162 with ⟨x32, k32, hs32, hk32, b32_, rfl, H162⟩ | ⟨q32, hs32, rfl, kq32, H162⟩
            · refine wl_nil ⟨.inr ⟨_, (H162.fr 3 rfl)⟩, ?_⟩
              refine sa rfl rfl ?_
              refine st_bs H162 sl149 zc131 rfl rfl rfl rfl rfl fun b166 w165 H164 => ?_
              refine wl_nil ⟨.inr ⟨_, (H164.fr 4 rfl)⟩, ?_⟩
              refine sa rfl rfl ?_
              refine st_app 5 0 ([b32_]) H164 sl149 zc131 rfl rfl rfl rfl rfl rfl rfl rfl (by intro y hy; simp at hy; subst hy; exact ⟨rfl, rfl⟩) (by first | omega | (simp <;> omega)) (by first | omega | (simp <;> omega)) fun A169 c170 w168 H167 => ?_
              refine wl_nil ⟨.inr ⟨_, (H167.fr 5 rfl)⟩, ?_⟩
              refine sa rfl rfl ?_
              refine st H167 (nck rfl) ?_
              refine wl_nil ⟨.inr ⟨_, (H167.fr 5 rfl)⟩, ?_⟩
              refine sw rfl rfl (fa fo151_1 rfl) ?_
              refine sa rfl rfl ?_
              refine st_st 5 H167 rfl rfl rfl sz149 rfl rfl rfl rfl fun w172 H171 => ?_
              refine wl_nil ⟨.inl rfl, ?_⟩
              refine ws_nil ?_
              refine cw_seq ?_
              have HS33 := ((H171.fr 5 rfl).fr 6 rfl).pfo_app
              try dsimp only [PT, List.eraseIdx] at HS33
              refine cw_region rfl ?_
              refine st HS33 (mv rfl) ?_
              refine st HS33 (mv rfl) ?_
              refine st_call cf128 rfl (done_c (((HS33.fr 1 rfl).fr 5 rfl).fr 5 rfl) hl (by omega)) ?_
              rintro _ w174 ⟨rfl, H173⟩
              refine st H173 (asg rfl) ?_
              refine wl_nil ?_
              refine cw_ret ?_
              refine ret1 rfl rfl ?_
              have HT34 := Own.tr (doneN l k32 { begN 7 (nxt l k) x23.s with pos := x23.a }) (x26.app (.one x32)) (((H173.fr 3 rfl).fr 4 rfl).fr 4 rfl) rfl
              exact Or.inl ⟨_, _, by simp [functionS, hp10, hs23, hs25, hs26, hp131, hs32], by omega, _, rfl, (((((((HT34.fr 2 rfl).fr 2 rfl).er 3).er 3).er 3).er 3).er 3)⟩
            · exact Or.inr ⟨q32, by simp [functionS, hp10, hs23, hs25, hs26, hp131, hs32], rfl, _, (((((((((H162.fr 1 rfl).fr 1 rfl).er 2).er 2).er 2).er 2).er 2).er 2).er 2)⟩
        · exact Or.inr ⟨q26, by simp [functionS, hp10, hs23, hs25, hs26], rfl, _, ((((((H127.fr 1 rfl).fr 1 rfl).er 2).er 2).er 2).er 2)⟩
      · exact Or.inr ⟨q25, by simp [functionS, hp10, hs23, hs25], rfl, _, (((((((((H125.fr 1 rfl).fr 1 rfl).er 2).er 2).er 2).er 2).er 2).er 2).er 2)⟩
    · exact Or.inr ⟨q23, by simp [functionS, hp10, hs23], rfl, _, (((((H112.fr 1 rfl).fr 1 rfl).er 2).er 2).er 2)⟩
theorem decl_c (n : Nat) (H : Own g (PT g pb A c l k nv L) w) (hl : TkOk l) (hk : k ≤ l.length) (hf : declS l n k ≠ .fu) : Calls Pg 129 #[.pointer (some ⟨pb, 0, none⟩)] w (PO g pb A c l nv L (declS l n k)) := by
  refine calls_cw (vs := [_]) Tryz.func129 rfl rfl rfl ?_
  have hl1 := hl.1
  refine cw_seq ?_
  refine cw_region rfl ?_
  refine st H (asg rfl) ?_
  refine wl_nil ?_
  refine cw_seq ?_
  refine cw_block ?_
  refine cw_seq ?_
  refine cw_region rfl ?_
  refine st H (mv rfl) ?_
  refine st_call cf124 rfl (is_c _ ((H.fr 1 rfl).fr 1 rfl) hl (by omega)) ?_
  rintro _ w2 ⟨rfl, H1⟩
  refine st H1 (asg rfl) ?_
  refine wl_nil ?_
  refine cw_cond rfl (fun hb3 => ?_) (fun hb3 => ?_)
  · have hp3 := hb3
    try simp at hp3
    have hlt : k < l.length := isB_lt hk (by assumption)
    refine cw_seq ?_
    refine cw_region rfl ?_
    refine st H1 (mv rfl) ?_
    refine st_call cf159 rfl (worded_c _ ((H1.fr 1 rfl).fr 1 rfl) hl (by omega)) ?_
    rintro e w5 hpH4
    rcases hpH4 with ⟨x35, k35, hs35, hk35, b35_, rfl, H4⟩ | ⟨q35, hs35, rfl, kq35, H4⟩
    · refine st H4 (asg rfl) ?_
      refine wl_nil ?_
      refine cw_seq ?_
      refine cw_region rfl ?_
      refine st H4 (mv rfl) ?_
      refine st_call cf120 rfl (need_c _ ((H4.fr 1 rfl).fr 1 rfl) hl (by omega)) ?_
      rintro e w7 hpH6
      rcases hpH6 with ⟨x36, k36, hs36, hk36, rfl, H6⟩ | ⟨q36, hs36, rfl, kq36, H6⟩
      · refine wl_nil ?_
        refine cw_seq ?_
        refine cw_sched (Keep _ [_]) 11 (.q 0 (.q 1 (.q 2 (.q 3 (.q 4 (.q 5 (.a 6 (.a 7 (.a 8 (.a 9 (.q 10 (.a 11 .e)))))))))))) hm H6 (fun w h => ⟨_, (h.fr 2 rfl)⟩) (by kernel_rfl) (by kernel_rfl) rfl (fun w9 H8 => ?_)
        refine sw rfl rfl (mv rfl) ?_
        refine sw rfl rfl (mv rfl) ?_
        refine sw rfl rfl (nck rfl) ?_
        refine sw rfl rfl (fa fo151_1 rfl) ?_
        refine sw rfl rfl (ks fun L' => ld sc149 0 rfl rfl rfl) ?_
        refine sw rfl rfl (mv rfl) ?_
        refine sa rfl rfl ?_
        refine st_call cf160 rfl (value_p_c ((H8.fr 1 rfl).fr 1 rfl) hl (by omega)) ?_
        rintro e w11 hpH10
        rcases hpH10 with ⟨x37, k37, hs37, hk37, b37_, rfl, H10⟩ | ⟨q37, hs37, rfl, kq37, H10⟩
        · refine wl_nil ⟨.inr ⟨_, (H10.fr 3 rfl)⟩, ?_⟩
          refine sa rfl rfl ?_
          refine st_bs H10 sl149 zc131 rfl rfl rfl rfl rfl fun b14 w13 H12 => ?_
          refine wl_nil ⟨.inr ⟨_, (H12.fr 4 rfl)⟩, ?_⟩
          refine sa rfl rfl ?_
          refine st_app 5 0 ([b37_]) H12 sl149 zc131 rfl rfl rfl rfl rfl rfl rfl rfl (by intro y hy; simp at hy; subst hy; exact ⟨rfl, rfl⟩) (by first | omega | (simp <;> omega)) (by first | omega | (simp <;> omega)) fun A17 c18 w16 H15 => ?_
          refine wl_nil ⟨.inr ⟨_, (H15.fr 5 rfl)⟩, ?_⟩
          refine sa rfl rfl ?_
          refine st H15 (nck rfl) ?_
          refine wl_nil ⟨.inr ⟨_, (H15.fr 5 rfl)⟩, ?_⟩
          refine sw rfl rfl (fa fo151_1 rfl) ?_
          refine sa rfl rfl ?_
          refine st_st 5 H15 rfl rfl rfl sz149 rfl rfl rfl rfl fun w20 H19 => ?_
          refine wl_nil ⟨.inl rfl, ?_⟩
          refine ws_nil ?_
          refine cw_seq ?_
          have HS38 := ((H19.fr 5 rfl).fr 6 rfl).pfo_app
          refine cw_region rfl ?_
          refine st HS38 (mv rfl) ?_
          refine st HS38 (mv rfl) ?_
          refine st_call cf128 rfl (done_c (((HS38.fr 1 rfl).fr 5 rfl).fr 5 rfl) hl (by omega)) ?_
          rintro _ w22 ⟨rfl, H21⟩
          refine st H21 (asg rfl) ?_
          refine wl_nil ?_
          refine cw_ret ?_
          refine ret1 rfl rfl ?_
          have HT39 := Own.tr (doneN l k37 x35) ((Fo.nil).app (.one x37)) (((H21.fr 3 rfl).fr 4 rfl).fr 4 rfl) rfl
          exact Or.inl ⟨_, _, by simp [declS, hp3, hs35, hs36, hs37, Fo.app, Fo.one], by omega, _, rfl, (((HT39.fr 2 rfl).fr 2 rfl).er 3)⟩
        · exact Or.inr ⟨q37, by simp [declS, hp3, hs35, hs36, hs37], rfl, _, (((((H10.fr 1 rfl).fr 1 rfl).er 2).er 2).er 2)⟩
      · exact Or.inr ⟨q36, by simp [declS, hp3, hs35, hs36], rfl, _, (((((H6.fr 1 rfl).fr 1 rfl).er 2).er 2).er 2)⟩
    · exact Or.inr ⟨q35, by simp [declS, hp3, hs35], rfl, _, ((H4.fr 1 rfl).fr 1 rfl)⟩
  · have hp3 := hb3
    try simp at hp3
    refine cw_seq ?_
    refine cw_region rfl ?_
    refine st H1 (mv rfl) ?_
    refine st_call cf124 rfl (is_c _ ((H1.fr 1 rfl).fr 1 rfl) hl (by omega)) ?_
    rintro _ w24 ⟨rfl, H23⟩
    refine st H23 (asg rfl) ?_
    refine wl_nil ?_
    refine cw_cond rfl (fun hb25 => ?_) (fun hb25 => ?_)
    · have hp25 := hb25
      try simp at hp25
      have hlt : k < l.length := isB_lt hk (by assumption)
      refine cw_seq ?_
      refine cw_region rfl ?_
      refine st H23 (mv rfl) ?_
      refine st_call cf161 rfl (variable_c (rc_all hl n) ((H23.fr 1 rfl).fr 1 rfl) hl (by omega) (fun hz => hf (by simp [declS, hp3, hp25, hz]))) ?_
      rintro e w27 hpH26
      rcases hpH26 with ⟨x40, k40, hs40, hk40, b40_, rfl, H26⟩ | ⟨q40, hs40, rfl, kq40, H26⟩
      · refine st H26 (asg rfl) ?_
        refine wl_nil ?_
        refine cw_ret ?_
        refine ret1 rfl rfl ?_
        exact Or.inl ⟨_, _, by simp [declS, hp3, hp25, hs40], by omega, _, rfl, (((H26.fr 2 rfl).fr 2 rfl).fr 2 rfl)⟩
      · exact Or.inr ⟨q40, by simp [declS, hp3, hp25, hs40], rfl, _, ((H26.fr 1 rfl).fr 1 rfl)⟩
    · have hp25 := hb25
      try simp at hp25
      refine cw_seq ?_
      refine cw_region rfl ?_
      refine st H23 (mv rfl) ?_
      refine st_call cf124 rfl (is_c _ ((H23.fr 1 rfl).fr 1 rfl) hl (by omega)) ?_
      rintro _ w29 ⟨rfl, H28⟩
      refine st H28 (asg rfl) ?_
      refine wl_nil ?_
      refine cw_cond rfl (fun hb30 => ?_) (fun hb30 => ?_)
      · have hp30 := hb30
        try simp at hp30
        have hlt : k < l.length := isB_lt hk (by assumption)
        refine cw_seq ?_
        refine cw_region rfl ?_
        refine st H28 (mv rfl) ?_
        refine st_call cf159 rfl (worded_c _ ((H28.fr 1 rfl).fr 1 rfl) hl (by omega)) ?_
        rintro e w32 hpH31
        rcases hpH31 with ⟨x41, k41, hs41, hk41, b41_, rfl, H31⟩ | ⟨q41, hs41, rfl, kq41, H31⟩
        · refine st H31 (asg rfl) ?_
          refine wl_nil ?_
          refine cw_seq ?_
          refine cw_region rfl ?_
          refine st H31 (mv rfl) ?_
          refine st_call cf120 rfl (need_c _ ((H31.fr 1 rfl).fr 1 rfl) hl (by omega)) ?_
          rintro e w34 hpH33
          rcases hpH33 with ⟨x42, k42, hs42, hk42, rfl, H33⟩ | ⟨q42, hs42, rfl, kq42, H33⟩
          · refine wl_nil ?_
            refine cw_seq ?_
            refine cw_region rfl ?_
            refine st H33 (mv rfl) ?_
            refine st_call cf120 rfl (need_c _ ((H33.fr 1 rfl).fr 1 rfl) hl (by omega)) ?_
            rintro e w36 hpH35
            rcases hpH35 with ⟨x43, k43, hs43, hk43, rfl, H35⟩ | ⟨q43, hs43, rfl, kq43, H35⟩
            · refine wl_nil ?_
              refine cw_seq ?_
              refine cw_region rfl ?_
              refine st H35 (mv rfl) ?_
              refine st H35 (mv rfl) ?_
              refine st H35 (mv rfl) ?_
              refine st H35 (mkf rfl rfl) ?_
              refine st_call cf162 rfl (list_c (ps := []) (one_field hl) cf163 (((((H35.fr 4 rfl).fr 4 rfl).fr 4 rfl).fr 4 rfl).fr 4 rfl) hl (by omega) (by first | simp | omega) (fun hz => hf (by simp [declS, hp3, hp25, hp30, hs41, hs42, hs43, hz]))) ?_
              rintro e w38 hpH37
              rcases hpH37 with ⟨x44, k44, hs44, hk44, rfl, A44_, c44_, qs44, hq44, H37⟩ | ⟨q44, hs44, rfl, kq44, H37⟩
              · try simp at hq44
                refine wl_nil ?_
                refine cw_seq ?_
                refine cw_region rfl ?_
                refine st H37 (mv rfl) ?_
                refine st H37 (mv rfl) ?_
                refine st_call cf128 rfl (done_c (((H37.fr 2 rfl).fr 2 rfl).fr 2 rfl) hl (by omega)) ?_
                rintro _ w40 ⟨rfl, H39⟩
                refine st H39 (asg rfl) ?_
                refine wl_nil ?_
                refine cw_ret ?_
                refine ret1 rfl rfl ?_
                have HT45 := Own.tr (doneN l k44 x41) (x44) (((H39.fr 4 rfl).fr 4 rfl).fr 4 rfl) rfl
                exact Or.inl ⟨_, _, by simp [declS, hp3, hp25, hp30, hs41, hs42, hs43, hs44, Fo.app, Fo.one], by omega, _, rfl, ((HT45.fr 2 rfl).fr 2 rfl)⟩
              · exact Or.inr ⟨q44, by simp [declS, hp3, hp25, hp30, hs41, hs42, hs43, hs44], rfl, _, ((H37.fr 1 rfl).fr 1 rfl)⟩
            · exact Or.inr ⟨q43, by simp [declS, hp3, hp25, hp30, hs41, hs42, hs43], rfl, _, (((((H35.fr 1 rfl).fr 1 rfl).er 2).er 2).er 2)⟩
          · exact Or.inr ⟨q42, by simp [declS, hp3, hp25, hp30, hs41, hs42], rfl, _, (((((H33.fr 1 rfl).fr 1 rfl).er 2).er 2).er 2)⟩
        · exact Or.inr ⟨q41, by simp [declS, hp3, hp25, hp30, hs41], rfl, _, ((H31.fr 1 rfl).fr 1 rfl)⟩
      · have hp30 := hb30
        try simp at hp30
        refine cw_seq ?_
        refine cw_region rfl ?_
        refine st H28 (mv rfl) ?_
        refine st_call cf124 rfl (is_c _ ((H28.fr 1 rfl).fr 1 rfl) hl (by omega)) ?_
        rintro _ w42 ⟨rfl, H41⟩
        refine st H41 (asg rfl) ?_
        refine wl_nil ?_
        refine cw_cond rfl (fun hb43 => ?_) (fun hb43 => ?_)
        · have hp43 := hb43
          try simp at hp43
          have hlt : k < l.length := isB_lt hk (by assumption)
          refine cw_seq ?_
          refine cw_region rfl ?_
          refine st H41 (mv rfl) ?_
          refine st_call cf164 rfl (function_c n ((H41.fr 1 rfl).fr 1 rfl) hl (by omega) (fun hz => hf (by simp [declS, hp3, hp25, hp30, hp43, hz]))) ?_
          rintro e w45 hpH44
          rcases hpH44 with ⟨x46, k46, hs46, hk46, b46_, rfl, H44⟩ | ⟨q46, hs46, rfl, kq46, H44⟩
          · refine st H44 (asg rfl) ?_
            refine wl_nil ?_
            refine cw_ret ?_
            refine ret1 rfl rfl ?_
            exact Or.inl ⟨_, _, by simp [declS, hp3, hp25, hp30, hp43, hs46], by omega, _, rfl, (((H44.fr 2 rfl).fr 2 rfl).fr 2 rfl)⟩
          · exact Or.inr ⟨q46, by simp [declS, hp3, hp25, hp30, hp43, hs46], rfl, _, ((H44.fr 1 rfl).fr 1 rfl)⟩
        · have hp43 := hb43
          try simp at hp43
          refine cw_skip ?_
          refine cw_seq ?_
          refine cw_region rfl ?_
          refine st H41 (mv rfl) ?_
          refine st_call cf154 rfl (fail_c ((H41.fr 1 rfl).fr 1 rfl) hl (by omega)) ?_
          rintro _ w47 ⟨rfl, H46⟩
          exact Or.inr ⟨(nxt l k).a, by simp [declS, hp3, hp25, hp30, hp43], rfl, _, ((H46.fr 1 rfl).fr 1 rfl)⟩
theorem file_c (n : Nat) (H : Own g (PT g pb A c l 0 nv L) w) (hl : TkOk l) (hf : fileS l n ≠ .fu) : Calls Pg 92 #[.pointer (some ⟨pb, 0, none⟩)] w (PO g pb A c l nv L (fileS l n)) := by
  refine calls_cw (vs := [_]) Tryz.func92 rfl rfl rfl ?_
  have hl1 := hl.1
  refine cw_seq ?_
  refine cw_region rfl ?_
  refine st H (asg rfl) ?_
  refine wl_nil ?_
  refine cw_seq ?_
  refine cw_region rfl ?_
  refine st H (mv rfl) ?_
  refine st_call cf120 rfl (need_c _ ((H.fr 1 rfl).fr 1 rfl) hl (by omega)) ?_
  rintro e w2 hpH1
  rcases hpH1 with ⟨x47, k47, hs47, hk47, rfl, H1⟩ | ⟨q47, hs47, rfl, kq47, H1⟩
  · refine st_al H1 zc38 fun b5 w4 H3 => ?_
    refine st_st 0 H3 rfl rfl rfl sz38 rfl rfl rfl rfl fun w7 H6 => ?_
    refine wl_nil ?_
    refine cw_seq ?_
    refine cw_region rfl ?_
    refine st H6 (mv rfl) ?_
    refine st_call cf121 rfl (name_c ((H6.fr 2 rfl).fr 2 rfl) hl (by omega)) ?_
    rintro e w9 hpH8
    rcases hpH8 with ⟨x48, k48, hs48, hk48, rfl, H8⟩ | ⟨q48, hs48, rfl, kq48, H8⟩
    · refine st_al H8 zc38 fun b12 w11 H10 => ?_
      refine st_st 0 H10 rfl rfl rfl sz38 rfl rfl rfl rfl fun w14 H13 => ?_
      refine wl_nil ?_
      refine cw_seq ?_
      refine cw_region rfl ?_
      refine st H13 (lda ag38 3 rfl rfl rfl rfl) ?_
      refine st H13 (fa fo38_1 rfl) ?_
      refine st H13 (ld sc9 0 rfl rfl rfl) ?_
      refine st_call cf122 rfl (begin_c _ (x47) _ H13) ?_
      rintro _ w16 ⟨b49_, rfl, H15⟩
      refine st H15 (asg rfl) ?_
      refine wl_nil ?_
      refine cw_seq ?_
      refine cw_region rfl ?_
      refine st H15 (mv rfl) ?_
      refine st H15 (fa fo38_2 rfl) ?_
      refine st H15 (ld sc3 3 rfl rfl rfl) ?_
      refine st H15 (nck rfl) ?_
      refine st H15 (fa fo151_0 rfl) ?_
      refine st H15 (fa fo43_4 rfl) ?_
      refine st_st 0 H15 rfl rfl rfl sz3 rfl rfl rfl rfl fun w18 H17 => ?_
      refine wl_nil ?_
      refine cw_seq ?_
      refine cw_region rfl ?_
      refine st H17 (mv rfl) ?_
      refine st_call cf123 rfl (closed_c ((H17.fr 5 rfl).fr 5 rfl) hl (by omega)) ?_
      rintro e w20 hpH19
      rcases hpH19 with ⟨x50, k50, hs50, hk50, rfl, H19⟩ | ⟨q50, hs50, rfl, kq50, H19⟩
      · refine wl_nil ?_
        refine cw_seq ?_
        refine cw_block ?_
        refine cw_loop (σ := Nat) (fun s => [(0, .pointer (some ⟨pb, 0, none⟩)), (5, .pointer (some ⟨b49_, 0, none⟩))]) (fun s w => ∃ k' y qs A2 c2, Own g (PT g pb A c l k' nv (bk b49_ 151 (ndc { begN 1 x47 x48.s with pos := x48.a } A2 qs.length c2) :: Rw 131 ptrc 1 A2 c2 qs :: PFo y qs :: L)) w ∧ k' ≤ l.length ∧ qs.length + s ≤ l.length + 1 ∧ importsS l (l.length + 1) k50 .nil = importsS l s k' y) (fun s => s) (l.length + 1) ⟨rfl, rfl, trivial⟩ ⟨_, _, [], _, _, (((((((H19.fr 4 rfl).fr 4 rfl).fr 4 rfl).fr 4 rfl).fr 4 rfl).er 5).er 5), by omega, by simp, rfl⟩ ?_
        rintro s w22 ⟨k', y, qs, A2, c2, H21, hk', hq, hx⟩
        have hf2 : importsS l s k' y ≠ .fu := fun hz => hf (by simp [fileS, hs47, hs48, hs50, hx.trans hz])
        obtain ⟨f, rfl⟩ : ∃ j, s = j + 1 := by
          cases s with
          | zero => exact absurd rfl hf2
          | succ j => exact ⟨j, rfl⟩
        refine cw_seq ?_
        refine cw_seq ?_
        refine cw_region rfl ?_
        refine st H21 (mv rfl) ?_
        refine st_call cf124 rfl (is_c _ ((H21.fr 1 rfl).fr 1 rfl) hl (by omega)) ?_
        rintro _ w24 ⟨rfl, H23⟩
        refine wl_nil ?_
        refine cw_cond rfl (fun hb25 => ?_) (fun hb25 => ?_)
        · have hp25 := hb25
          try simp at hp25
          have hlt := isB_lt hk' hp25
          refine cw_skip ?_
          refine cw_block ?_
          refine cw_seq ?_
          refine cw_region rfl ?_
          refine st H23 (mv rfl) ?_
          refine st_call cf125 rfl (take_c ((H23.fr 1 rfl).fr 1 rfl) hl (by omega)) ?_
          rintro _ w27 ⟨rfl, H26⟩
          refine st_al H26 zc38 fun b30 w29 H28 => ?_
          refine st_st 0 H28 rfl rfl rfl sz38 rfl rfl rfl rfl fun w32 H31 => ?_
          refine wl_nil ?_
          refine cw_seq ?_
          refine cw_region rfl ?_
          refine st H31 (mv rfl) ?_
          refine st_call cf126 rfl (kind_c _ ((H31.fr 2 rfl).fr 2 rfl) hl (by omega) (by decide)) ?_
          rintro e w34 hpH33
          rcases hpH33 with ⟨x51, k51, hs51, hk51, rfl, H33⟩ | ⟨q51, hs51, rfl, kq51, H33⟩
          · refine st_al H33 zc38 fun b37 w36 H35 => ?_
            refine st_st 0 H35 rfl rfl rfl sz38 rfl rfl rfl rfl fun w39 H38 => ?_
            refine wl_nil ?_
            refine cw_seq ?_
            refine cw_region rfl ?_
            refine st H38 (lda ag38 0 rfl rfl rfl rfl) ?_
            refine st_call cf127 rfl (value_c (x51) H38 (by rw [kind_x hs51]; exact tok_size hl _)) ?_
            rintro _ w41 ⟨er52, rfl, H40⟩
            refine st H40 (mv rfl) ?_
            refine st H40 (ext rfl rfl) ?_
            refine st H40 (ext rfl rfl) ?_
            refine st H40 (asg rfl) ?_
            refine st H40 (asg rfl) ?_
            refine wl_nil ?_
            refine cw_seq ?_
            refine cw_region rfl ?_
            refine st H40 (lda ag38 3 rfl rfl rfl rfl) ?_
            refine st H40 (mv rfl) ?_
            refine st_call cf122 rfl (begin_c _ (nxt l k') _ H40) ?_
            rintro _ w43 ⟨b53_, rfl, H42⟩
            refine st H42 (asg rfl) ?_
            refine wl_nil ?_
            refine cw_seq ?_
            refine cw_region rfl ?_
            refine st H42 (mv rfl) ?_
            refine st H42 (fa fo38_2 rfl) ?_
            refine st H42 (ld sc3 3 rfl rfl rfl) ?_
            refine st H42 (nck rfl) ?_
            refine st H42 (fa fo151_0 rfl) ?_
            refine st H42 (fa fo43_4 rfl) ?_
            refine st_st 0 H42 rfl rfl rfl sz3 rfl rfl rfl rfl fun w45 H44 => ?_
            refine wl_nil ?_
            refine cw_seq ?_
            refine cw_sched (Keep _ [_]) 12 (.q 0 (.q 1 (.q 2 (.q 3 (.q 4 (.q 5 (.q 6 (.a 7 (.a 8 (.a 9 (.a 10 (.q 11 (.a 12 .e))))))))))))) hm H44 (fun w h => ⟨_, (h.fr 7 rfl)⟩) (by kernel_rfl) (by kernel_rfl) rfl (fun w47 H46 => ?_)
            refine sw rfl rfl (mv rfl) ?_
            refine sw rfl rfl (mv rfl) ?_
            refine sw rfl rfl (nck rfl) ?_
            refine sw rfl rfl (fa fo151_1 rfl) ?_
            refine sw rfl rfl (ks fun L' => ld sc149 0 rfl rfl rfl) ?_
            refine sw rfl rfl (mv rfl) ?_
            refine sw rfl rfl (mv rfl) ?_
            refine sa rfl rfl ?_
            refine st_call cf128 rfl (done_c ((H46.fr 5 rfl).fr 5 rfl) hl (by omega)) ?_
            rintro _ w49 ⟨rfl, H48⟩
            refine wl_nil ⟨.inr ⟨_, (H48.fr 7 rfl)⟩, ?_⟩
            refine sa rfl rfl ?_
            refine st_bs H48 sl149 zc131 rfl rfl rfl rfl rfl fun b52 w51 H50 => ?_
            refine wl_nil ⟨.inr ⟨_, (H50.fr 8 rfl)⟩, ?_⟩
            refine sa rfl rfl ?_
            refine st_app 9 0 ([b53_]) H50 sl149 zc131 rfl rfl rfl rfl rfl rfl rfl rfl (by intro y hy; simp at hy; subst hy; exact ⟨rfl, rfl⟩) (by first | omega | (simp <;> omega)) (by first | omega | (simp <;> omega)) fun A55 c56 w54 H53 => ?_
            refine wl_nil ⟨.inr ⟨_, (H53.fr 9 rfl)⟩, ?_⟩
            refine sa rfl rfl ?_
            refine st H53 (nck rfl) ?_
            refine wl_nil ⟨.inr ⟨_, (H53.fr 9 rfl)⟩, ?_⟩
            refine sw rfl rfl (fa fo151_1 rfl) ?_
            refine sa rfl rfl ?_
            refine st_st 9 H53 rfl rfl rfl sz149 rfl rfl rfl rfl fun w58 H57 => ?_
            refine wl_nil ⟨.inl rfl, ?_⟩
            refine ws_nil ?_
            have HT54 := Own.tr (doneN l k51 { begN 2 (nxt l k') (valV x51) with pos := x51.a }) (.nil) (((H57.fr 7 rfl).fr 7 rfl).fr 7 rfl) rfl
            have HS55 := (HT54.fr 8 rfl).pfo_app
            refine cw_region rfl ?_
            refine st HS55 (mv rfl) ?_
            refine st_call cf123 rfl (closed_c ((HS55.fr 5 rfl).fr 5 rfl) hl (by omega)) ?_
            rintro e w60 hpH59
            rcases hpH59 with ⟨x56, k56, hs56, hk56, rfl, H59⟩ | ⟨q56, hs56, rfl, kq56, H59⟩
            · refine wl_nil ?_
              exact ⟨f, ⟨rfl, rfl, trivial⟩, ⟨_, _, _, _, _, ((((((((H59.fr 2 rfl).fr 4 rfl).fr 4 rfl).fr 4 rfl).fr 4 rfl).er 5).er 5).er 5), by omega, by first | omega | (simp <;> omega), by rw [hx]; simp [importsS, hs47, hs48, hs50, hp25, hs51, hs56]⟩, by omega⟩
            · have hi0 : importsS l (l.length + 1) k50 .nil = .er q56 := by rw [hx]; simp [importsS, hs47, hs48, hs50, hp25, hs51, hs56]
              exact Or.inr ⟨q56, by simp [fileS, hs47, hs48, hs50, hi0], rfl, _, ((((((((H59.fr 1 rfl).fr 1 rfl).er 2).er 2).er 2).er 2).er 2).er 2)⟩
          · have hi0 : importsS l (l.length + 1) k50 .nil = .er q51 := by rw [hx]; simp [importsS, hs47, hs48, hs50, hp25, hs51]
            exact Or.inr ⟨q51, by simp [fileS, hs47, hs48, hs50, hi0], rfl, _, ((((((H33.fr 1 rfl).fr 1 rfl).er 2).er 2).er 2).er 2)⟩
        · have hp25 := hb25
          try simp at hp25
          have hi : importsS l (l.length + 1) k50 .nil = .ok y k' := by rw [hx]; simp [importsS, hs47, hs48, hs50, hp25]
          refine cw_exit ?_
          refine cw_seq ?_
          refine cw_block ?_
          refine cw_loop (σ := Nat) (fun s => [(0, .pointer (some ⟨pb, 0, none⟩)), (5, .pointer (some ⟨b49_, 0, none⟩))]) (fun s w => ∃ k2 z qs2 A3 c3, Own g (PT g pb A c l k2 nv (bk b49_ 151 (ndc { begN 1 x47 x48.s with pos := x48.a } A3 qs2.length c3) :: Rw 131 ptrc 1 A3 c3 qs2 :: PFo z qs2 :: L)) w ∧ k2 ≤ l.length ∧ qs2.length + s ≤ l.length + l.length + 2 ∧ declsS l n (l.length + 1) k' y = declsS l n s k2 z) (fun s => s) (l.length + 1) ⟨rfl, rfl, trivial⟩ ⟨_, _, _, _, _, (((((H23.fr 4 rfl).fr 4 rfl).fr 4 rfl).fr 4 rfl).fr 4 rfl), by omega, by omega, rfl⟩ ?_
          rintro s w62 ⟨k2, z, qs2, A3, c3, H61, hk2, hq2, hx2⟩
          have hf4 : declsS l n s k2 z ≠ .fu := fun hz => hf (by simp [fileS, hs47, hs48, hs50, hi, hx2.trans hz])
          obtain ⟨f2, rfl⟩ : ∃ j, s = j + 1 := by
            cases s with
            | zero => exact absurd rfl hf4
            | succ j => exact ⟨j, rfl⟩
          refine cw_seq ?_
          refine cw_seq ?_
          refine cw_quiet hm H61 (by kernel_rfl) rfl ?_
          refine sq (mv rfl) ?_
          refine sq (nck rfl) ?_
          refine sq (fa fo126_1 rfl) ?_
          refine sq (ld sc3 0 rfl rfl rfl) ?_
          refine sq (mv rfl) ?_
          refine sq (nck rfl) ?_
          refine sq (fa fo126_0 rfl) ?_
          refine sq (ld sc31 0 rfl rfl rfl) ?_
          refine sq (lenl Tryz.underlying31 rfl) ?_
          refine sq (lti rfl rfl) ?_
          refine wq_nil fun w64 H63 => ?_
          refine cw_cond rfl (fun hb65 => ?_) (fun hb65 => ?_)
          · have hp65 := hb65
            try simp at hp65
            have hlt2 : k2 < l.length := by omega
            refine cw_skip ?_
            refine cw_block ?_
            refine cw_seq ?_
            refine cw_sched (Keep _ [_]) 11 (.q 0 (.q 1 (.q 2 (.q 3 (.q 4 (.q 5 (.a 6 (.a 7 (.a 8 (.a 9 (.q 10 (.a 11 .e)))))))))))) hm H63 (fun w h => ⟨_, (h.fr 2 rfl)⟩) (by kernel_rfl) (by kernel_rfl) rfl (fun w67 H66 => ?_)
            refine sw rfl rfl (mv rfl) ?_
            refine sw rfl rfl (mv rfl) ?_
            refine sw rfl rfl (nck rfl) ?_
            refine sw rfl rfl (fa fo151_1 rfl) ?_
            refine sw rfl rfl (ks fun L' => ld sc149 0 rfl rfl rfl) ?_
            refine sw rfl rfl (mv rfl) ?_
            refine sa rfl rfl ?_
            refine st_call cf129 rfl (decl_c n ((H66.fr 1 rfl).fr 1 rfl) hl (by omega) (fun hz => hf4 (by simp [declsS, hs47, hs48, hs50, hi, hp65, hlt2, hz]))) ?_
            rintro e w69 hpH68
            rcases hpH68 with ⟨x57, k57, hs57, hk57, b57_, rfl, H68⟩ | ⟨q57, hs57, rfl, kq57, H68⟩
            · refine wl_nil ⟨.inr ⟨_, (H68.fr 3 rfl)⟩, ?_⟩
              refine sa rfl rfl ?_
              refine st_bs H68 sl149 zc131 rfl rfl rfl rfl rfl fun b72 w71 H70 => ?_
              refine wl_nil ⟨.inr ⟨_, (H70.fr 4 rfl)⟩, ?_⟩
              refine sa rfl rfl ?_
              refine st_app 5 0 ([b57_]) H70 sl149 zc131 rfl rfl rfl rfl rfl rfl rfl rfl (by intro y hy; simp at hy; subst hy; exact ⟨rfl, rfl⟩) (by first | omega | (simp <;> omega)) (by first | omega | (simp <;> omega)) fun A75 c76 w74 H73 => ?_
              refine wl_nil ⟨.inr ⟨_, (H73.fr 5 rfl)⟩, ?_⟩
              refine sa rfl rfl ?_
              refine st H73 (nck rfl) ?_
              refine wl_nil ⟨.inr ⟨_, (H73.fr 5 rfl)⟩, ?_⟩
              refine sw rfl rfl (fa fo151_1 rfl) ?_
              refine sa rfl rfl ?_
              refine st_st 5 H73 rfl rfl rfl sz149 rfl rfl rfl rfl fun w78 H77 => ?_
              refine wl_nil ⟨.inl rfl, ?_⟩
              refine ws_nil ?_
              have HS58 := ((H77.fr 5 rfl).fr 6 rfl).pfo_app
              refine cw_region rfl ?_
              refine st HS58 (mv rfl) ?_
              refine st_call cf123 rfl (closed_c ((HS58.fr 5 rfl).fr 5 rfl) hl (by omega)) ?_
              rintro e w80 hpH79
              rcases hpH79 with ⟨x59, k59, hs59, hk59, rfl, H79⟩ | ⟨q59, hs59, rfl, kq59, H79⟩
              · refine wl_nil ?_
                exact ⟨f2, ⟨rfl, rfl, trivial⟩, ⟨_, _, _, _, _, ((((((H79.fr 2 rfl).fr 4 rfl).fr 4 rfl).fr 4 rfl).fr 4 rfl).er 5), by omega, by first | omega | (simp <;> omega), by rw [hx2]; simp [declsS, hs47, hs48, hs50, hi, hp65, hlt2, hs57, hs59]⟩, by omega⟩
              · have hi0 : declsS l n (l.length + 1) k' y = .er q59 := by rw [hx2]; simp [declsS, hs47, hs48, hs50, hi, hp65, hlt2, hs57, hs59]
                exact Or.inr ⟨q59, by simp [fileS, hs47, hs48, hs50, hi, hi0], rfl, _, ((((((H79.fr 1 rfl).fr 1 rfl).er 2).er 2).er 2).er 2)⟩
            · have hi0 : declsS l n (l.length + 1) k' y = .er q57 := by rw [hx2]; simp [declsS, hs47, hs48, hs50, hi, hp65, hlt2, hs57]
              exact Or.inr ⟨q57, by simp [fileS, hs47, hs48, hs50, hi, hi0], rfl, _, (((((H68.fr 1 rfl).fr 1 rfl).er 2).er 2).er 2)⟩
          · have hp65 := hb65
            try simp at hp65
            have hg0 : ¬ k2 < l.length := by omega
            have hj : declsS l n (l.length + 1) k' y = .ok z k2 := by rw [hx2]; simp [declsS, hg0, hs47, hs48, hs50, hi, hp65]
            refine cw_exit ?_
            refine cw_seq ?_
            refine cw_region rfl ?_
            refine st H63 (mv rfl) ?_
            refine st H63 (mv rfl) ?_
            refine st_call cf128 rfl (done_c (((H63.fr 2 rfl).fr 2 rfl).fr 2 rfl) hl (by omega)) ?_
            rintro _ w82 ⟨rfl, H81⟩
            refine st H81 (asg rfl) ?_
            refine wl_nil ?_
            refine cw_ret ?_
            refine ret1 rfl rfl ?_
            have HT60 := Own.tr (doneN l k2 { begN 1 x47 x48.s with pos := x48.a }) (z) (((H81.fr 4 rfl).fr 4 rfl).fr 4 rfl) rfl
            exact Or.inl ⟨_, _, by simp [fileS, hs47, hs48, hs50, hi, hj, Fo.app, Fo.one], by omega, _, rfl, ((HT60.fr 2 rfl).fr 2 rfl)⟩
      · exact Or.inr ⟨q50, by simp [fileS, hs47, hs48, hs50], rfl, _, (((((((H19.fr 1 rfl).fr 1 rfl).er 2).er 2).er 2).er 2).er 2)⟩
    · exact Or.inr ⟨q48, by simp [fileS, hs47, hs48], rfl, _, (((H8.fr 1 rfl).fr 1 rfl).er 2)⟩
  · exact Or.inr ⟨q47, by simp [fileS, hs47], rfl, _, ((H1.fr 1 rfl).fr 1 rfl)⟩
end
end Go.Proofs.YtmkijgmfefkgeaaGreatDoor
