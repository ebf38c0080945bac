/- The parser: parts that do not call themselves. -/
import Derived.Test.YtmkijgmfefkgeaaGreatDoorE
import Derived.Test.YtmkijgmfefkgeaaGreatDoorV
set_option autoImplicit false
set_option linter.unusedVariables false
set_option linter.unusedSimpArgs false
set_option linter.unusedSectionVars false
namespace Go.Proofs.YtmkijgmfefkgeaaGreatDoor
open Go
section
variable {g w : World} [Glo g] {L : List SP} {pb c k : Nat} {A : Option Addr} {l : List Tk} {nv : Value}
theorem worded_c (n : Int) (H : Own g (PT g pb A c l k nv L) w) (hl : TkOk l) (hk : k < l.length) : Calls Pg 159 #[.pointer (some ⟨pb, 0, none⟩), .int .i64 n] w (PB g pb A c l nv L (wordedS l k n)) := by
  refine calls_cw (vs := [_, _]) Tryz.func159 rfl rfl rfl ?_
  refine cw_seq ?_
  refine cw_region rfl ?_
  refine st H (asg rfl) ?_
  refine wl_nil ?_
  refine cw_seq ?_
  refine cw_region rfl ?_
  refine st H (mv rfl) ?_
  refine st_call cf125 rfl (take_c ((H.fr 1 rfl).fr 1 rfl) hl (by omega)) ?_
  rintro _ w2 ⟨rfl, H1⟩
  refine st_al H1 zc38 fun b5 w4 H3 => ?_
  refine st_st 0 H3 rfl rfl rfl sz38 rfl rfl rfl rfl fun w7 H6 => ?_
  refine wl_nil ?_
  refine cw_seq ?_
  refine cw_region rfl ?_
  refine st H6 (mv rfl) ?_
  refine st_call cf121 rfl (name_c ((H6.fr 2 rfl).fr 2 rfl) hl (by omega)) ?_
  rintro e w9 hpH8
  rcases hpH8 with ⟨x1, k1, hs1, hk1, rfl, H8⟩ | ⟨q1, hs1, rfl, kq1, H8⟩
  · refine st_al H8 zc38 fun b12 w11 H10 => ?_
    refine st_st 0 H10 rfl rfl rfl sz38 rfl rfl rfl rfl fun w14 H13 => ?_
    refine wl_nil ?_
    refine cw_seq ?_
    refine cw_region rfl ?_
    refine st H13 (mv rfl) ?_
    refine st H13 (lda ag38 3 rfl rfl rfl rfl) ?_
    refine st H13 (fa fo38_1 rfl) ?_
    refine st H13 (ld sc9 0 rfl rfl rfl) ?_
    refine st_call cf122 rfl (begin_c _ (nxt l k) _ H13) ?_
    rintro _ w16 ⟨b2_, rfl, H15⟩
    refine st H15 (asg rfl) ?_
    refine wl_nil ?_
    refine cw_seq ?_
    refine cw_region rfl ?_
    refine st H15 (mv rfl) ?_
    refine st H15 (fa fo38_2 rfl) ?_
    refine st H15 (ld sc3 3 rfl rfl rfl) ?_
    refine st H15 (nck rfl) ?_
    refine st H15 (fa fo151_0 rfl) ?_
    refine st H15 (fa fo43_4 rfl) ?_
    refine st_st 0 H15 rfl rfl rfl sz3 rfl rfl rfl rfl fun w18 H17 => ?_
    refine wl_nil ?_
    refine cw_seq ?_
    refine cw_region rfl ?_
    refine st H17 (mv rfl) ?_
    refine st H17 (asg rfl) ?_
    refine wl_nil ?_
    refine cw_ret ?_
    refine ret1 rfl rfl ?_
    exact Or.inl ⟨{ begN n (nxt l k) x1.s with pos := x1.a }, _, by simp [wordedS, hs1], by omega, _, rfl, (((((((H17.fr 2 rfl).fr 2 rfl).fr 2 rfl).fr 5 rfl).fr 5 rfl).er 5).er 5)⟩
  · exact Or.inr ⟨q1, by simp [wordedS, hs1], rfl, _, (((H8.fr 1 rfl).fr 1 rfl).er 2)⟩
theorem number_c (H : Own g (PT g pb A c l k nv L) w) (hl : TkOk l) (hk : k ≤ l.length) : Calls Pg 182 #[.pointer (some ⟨pb, 0, none⟩)] w (PO g pb A c l nv L (numberS l k)) := by
  refine calls_cw (vs := [_]) Tryz.func182 rfl rfl rfl ?_
  refine cw_seq ?_
  refine cw_region rfl ?_
  refine st H (asg rfl) ?_
  refine wl_nil ?_
  refine cw_seq ?_
  refine cw_region rfl ?_
  refine st H (mv rfl) ?_
  refine st_call cf126 rfl (kind_c _ ((H.fr 1 rfl).fr 1 rfl) hl (by omega) (by decide)) ?_
  rintro e w2 hpH1
  rcases hpH1 with ⟨x3, k3, hs3, hk3, rfl, H1⟩ | ⟨q3, hs3, rfl, kq3, H1⟩
  · refine st_al H1 zc38 fun b5 w4 H3 => ?_
    refine st_st 0 H3 rfl rfl rfl sz38 rfl rfl rfl rfl fun w7 H6 => ?_
    refine wl_nil ?_
    refine cw_seq ?_
    refine cw_region rfl ?_
    refine st H6 (lda ag38 0 rfl rfl rfl rfl) ?_
    refine st_call cf122 rfl (begin_c _ (x3) _ H6) ?_
    rintro _ w9 ⟨b4_, rfl, H8⟩
    refine st H8 (asg rfl) ?_
    refine wl_nil ?_
    refine cw_seq ?_
    refine cw_region rfl ?_
    refine st H8 (mv rfl) ?_
    refine st H8 (lda ag38 3 rfl rfl rfl rfl) ?_
    refine st_call cf103 rfl (number_lex_c (x3) H8 (by rw [kind_x hs3]; exact tok_size hl _)) ?_
    rintro _ w11 ⟨er5, rfl, H10⟩
    refine st H10 (mv rfl) ?_
    refine st H10 (ext rfl rfl) ?_
    refine st H10 (ext rfl rfl) ?_
    refine st H10 (nck rfl) ?_
    refine st H10 (fa fo151_0 rfl) ?_
    refine st H10 (fa fo43_2 rfl) ?_
    refine st_st 0 H10 rfl rfl rfl sz2 rfl rfl rfl rfl fun w13 H12 => ?_
    refine wl_nil ?_
    refine cw_seq ?_
    refine cw_region rfl ?_
    refine st H12 (mv rfl) ?_
    refine st H12 (mv rfl) ?_
    refine st_call cf128 rfl (done_c ((H12.fr 5 rfl).fr 5 rfl) hl (by omega)) ?_
    rintro _ w15 ⟨rfl, H14⟩
    refine st H14 (asg rfl) ?_
    refine wl_nil ?_
    refine cw_ret ?_
    refine ret1 rfl rfl ?_
    have HT6 := Own.tr (doneN l k3 { begN 20 x3 ⟨#[]⟩ with num := numV x3 }) (.nil) (((H14.fr 4 rfl).fr 4 rfl).fr 4 rfl) rfl
    exact Or.inl ⟨_, _, by simp [numberS, hs3], by omega, _, rfl, (((HT6.fr 2 rfl).fr 2 rfl).er 3)⟩
  · exact Or.inr ⟨q3, by simp [numberS, hs3], rfl, _, ((H1.fr 1 rfl).fr 1 rfl)⟩
theorem literal_c (H : Own g (PT g pb A c l k nv L) w) (hl : TkOk l) (hk : k ≤ l.length) : Calls Pg 183 #[.pointer (some ⟨pb, 0, none⟩)] w fun e w' => (∃ x k', literalS l k = .ok (some x) k' ∧ k' ≤ l.length ∧ ∃ b, e = .returned (.pointer (some ⟨b, 0, none⟩)) ∧ Own g (PT g pb A c l k' nv (PFo (.one x) [b] :: L)) w') ∨ (literalS l k = .ok none k ∧ e = .returned (.pointer none) ∧ Own g (PT g pb A c l k nv L) w') ∨ (∃ q, literalS l k = .er q ∧ e = .panicked (pw q) ∧ ∃ k', Own g (PT g pb A c l k' nv L) w') := by
  refine calls_cw (vs := [_]) Tryz.func183 rfl rfl rfl ?_
  refine cw_seq ?_
  refine cw_region rfl ?_
  refine st H (asg rfl) ?_
  refine wl_nil ?_
  refine cw_seq ?_
  refine cw_seq ?_
  refine cw_region rfl ?_
  refine st H (mv rfl) ?_
  refine st_call cf156 rfl (next_c ((H.fr 1 rfl).fr 1 rfl) hl (by omega)) ?_
  rintro _ w2 ⟨rfl, H1⟩
  refine st_al H1 zc38 fun b5 w4 H3 => ?_
  refine st_st 0 H3 rfl rfl rfl sz38 rfl rfl rfl rfl fun w7 H6 => ?_
  refine wl_nil ?_
  refine cw_block ?_
  refine cw_seq ?_
  refine cw_region rfl ?_
  refine st H6 (fa fo38_0 rfl) ?_
  refine st H6 (ld sc3 0 rfl rfl rfl) ?_
  refine st H6 (eqi rfl rfl) ?_
  refine st H6 (asg rfl) ?_
  refine wl_nil ?_
  refine cw_cond rfl (fun hb8 => ?_) (fun hb8 => ?_)
  · have hp8 := hb8
    try simp at hp8
    refine cw_seq ?_
    refine cw_region rfl ?_
    refine st H6 (mv rfl) ?_
    refine st_call cf182 rfl (number_c ((H6.fr 2 rfl).fr 2 rfl) hl (by omega)) ?_
    rintro e w10 hpH9
    rcases hpH9 with ⟨x7, k7, hs7, hk7, b7_, rfl, H9⟩ | ⟨q7, hs7, rfl, kq7, H9⟩
    · refine st H9 (asg rfl) ?_
      refine wl_nil ?_
      refine cw_ret ?_
      refine ret1 rfl rfl ?_
      exact Or.inl ⟨_, _, by simp [literalS, hp8, hs7], by omega, _, rfl, ((((H9.fr 2 rfl).fr 2 rfl).fr 2 rfl).er 3)⟩
    · exact Or.inr (Or.inr ⟨q7, by simp [literalS, hp8, hs7], rfl, _, (((H9.fr 1 rfl).fr 1 rfl).er 2)⟩)
  · have hp8 := hb8
    try simp at hp8
    refine cw_seq ?_
    refine cw_region rfl ?_
    refine st H6 (fa fo38_0 rfl) ?_
    refine st H6 (ld sc3 0 rfl rfl rfl) ?_
    refine st H6 (eqi rfl rfl) ?_
    refine st H6 (asg rfl) ?_
    refine wl_nil ?_
    refine cw_cond rfl (fun hb11 => ?_) (fun hb11 => ?_)
    · have hp11 := hb11
      try simp at hp11
      have hlt := kind_lt hk hp11 (by decide)
      refine cw_seq ?_
      refine cw_region rfl ?_
      refine st H6 (mv rfl) ?_
      refine st_call cf125 rfl (take_c ((H6.fr 2 rfl).fr 2 rfl) hl (by omega)) ?_
      rintro _ w13 ⟨rfl, H12⟩
      refine st_call cf127 rfl (value_c (nxt l k) H12 (tok_size hl _)) ?_
      rintro _ w15 ⟨er8, rfl, H14⟩
      refine st H14 (mv rfl) ?_
      refine st H14 (ext rfl rfl) ?_
      refine st H14 (ext rfl rfl) ?_
      refine st H14 (asg rfl) ?_
      refine st H14 (asg rfl) ?_
      refine wl_nil ?_
      refine cw_seq ?_
      refine cw_region rfl ?_
      refine st H14 (mv rfl) ?_
      refine st H14 (lda ag38 2 rfl rfl rfl rfl) ?_
      refine st H14 (mv rfl) ?_
      refine st_call cf122 rfl (begin_c _ (nxt l k) _ H14) ?_
      rintro _ w17 ⟨b9_, rfl, H16⟩
      refine st_call cf128 rfl (done_c ((H16.fr 4 rfl).fr 4 rfl) hl (by omega)) ?_
      rintro _ w19 ⟨rfl, H18⟩
      refine st H18 (asg rfl) ?_
      refine wl_nil ?_
      refine cw_ret ?_
      refine ret1 rfl rfl ?_
      have HT10 := Own.tr (doneN l (k + 1) (begN 21 (nxt l k) (valV (nxt l k)))) (.nil) (((H18.fr 4 rfl).fr 4 rfl).fr 4 rfl) rfl
      exact Or.inl ⟨_, _, by simp [literalS, hp8, hp11], by omega, _, rfl, (((HT10.fr 2 rfl).fr 2 rfl).er 3)⟩
    · have hp11 := hb11
      try simp at hp11
      refine cw_seq ?_
      refine cw_seq ?_
      refine cw_region rfl ?_
      refine st H6 (mv rfl) ?_
      refine st_call cf124 rfl (is_c _ ((H6.fr 2 rfl).fr 2 rfl) hl (by omega)) ?_
      rintro _ w21 ⟨rfl, H20⟩
      refine st H20 (asg rfl) ?_
      refine wl_nil ?_
      refine cw_cond rfl (fun hb22 => ?_) (fun hb22 => ?_)
      · have hp22 := hb22
        try simp at hp22
        refine cw_skip ?_
        refine cw_cond_t rfl hb22 ?_
        have hlt : k < l.length := by first | exact isB_lt hk (by assumption)
        refine cw_seq ?_
        refine cw_sched (Keep _ [_]) 7 (.q 0 (.q 1 (.q 3 (.q 4 (.a 2 (.a 5 (.a 6 (.a 7 .e)))))))) hm H20 (fun w h => ⟨_, (h.fr 2 rfl)⟩) (by kernel_rfl) (by kernel_rfl) rfl (fun w24 H23 => ?_)
        refine sw rfl rfl (mv rfl) ?_
        refine sw rfl rfl (mv rfl) ?_
        refine sw rfl rfl (fa fo38_1 rfl) ?_
        refine sw rfl rfl (ks fun L' => ld sc9 0 rfl rfl rfl) ?_
        refine sa rfl rfl ?_
        refine st_call cf125 rfl (take_c ((H23.fr 1 rfl).fr 1 rfl) hl (by omega)) ?_
        rintro _ w26 ⟨rfl, H25⟩
        refine wl_nil ⟨.inr ⟨_, (H25.fr 2 rfl)⟩, ?_⟩
        refine sa rfl rfl ?_
        refine st_call cf122 rfl (begin_c _ (nxt l k) _ H25) ?_
        rintro _ w28 ⟨b11_, rfl, H27⟩
        refine wl_nil ⟨.inr ⟨_, (H27.fr 5 rfl)⟩, ?_⟩
        refine sa rfl rfl ?_
        refine st_call cf128 rfl (done_c ((H27.fr 4 rfl).fr 4 rfl) hl (by omega)) ?_
        rintro _ w30 ⟨rfl, H29⟩
        refine wl_nil ⟨.inr ⟨_, (H29.fr 5 rfl)⟩, ?_⟩
        refine sa rfl rfl ?_
        refine st H29 (asg rfl) ?_
        refine wl_nil ⟨.inl rfl, ?_⟩
        refine ws_nil ?_
        refine cw_ret ?_
        refine ret1 rfl rfl ?_
        have HT12 := Own.tr (doneN l (k + 1) (begN 22 (nxt l k) (nxt l k).s)) (.nil) (((H29.fr 4 rfl).fr 4 rfl).fr 4 rfl) rfl
        exact Or.inl ⟨_, _, by simp [literalS, hp8, hp11, hp22], by omega, _, rfl, (((HT12.fr 2 rfl).fr 2 rfl).er 3)⟩
      · have hp22 := hb22
        try simp at hp22
        refine cw_region rfl ?_
        refine st H20 (mv rfl) ?_
        refine st_call cf124 rfl (is_c _ ((H20.fr 1 rfl).fr 1 rfl) hl (by omega)) ?_
        rintro _ w32 ⟨rfl, H31⟩
        refine st H31 (asg rfl) ?_
        refine wl_nil ?_
        refine cw_cond rfl (fun hb33 => ?_) (fun hb33 => ?_)
        · have hp33 := hb33
          try simp at hp33
          have hlt : k < l.length := by first | exact isB_lt hk (by assumption)
          refine cw_seq ?_
          refine cw_sched (Keep _ [_]) 7 (.q 0 (.q 1 (.q 3 (.q 4 (.a 2 (.a 5 (.a 6 (.a 7 .e)))))))) hm H31 (fun w h => ⟨_, (h.fr 2 rfl)⟩) (by kernel_rfl) (by kernel_rfl) rfl (fun w35 H34 => ?_)
          refine sw rfl rfl (mv rfl) ?_
          refine sw rfl rfl (mv rfl) ?_
          refine sw rfl rfl (fa fo38_1 rfl) ?_
          refine sw rfl rfl (ks fun L' => ld sc9 0 rfl rfl rfl) ?_
          refine sa rfl rfl ?_
          refine st_call cf125 rfl (take_c ((H34.fr 1 rfl).fr 1 rfl) hl (by omega)) ?_
          rintro _ w37 ⟨rfl, H36⟩
          refine wl_nil ⟨.inr ⟨_, (H36.fr 2 rfl)⟩, ?_⟩
          refine sa rfl rfl ?_
          refine st_call cf122 rfl (begin_c _ (nxt l k) _ H36) ?_
          rintro _ w39 ⟨b13_, rfl, H38⟩
          refine wl_nil ⟨.inr ⟨_, (H38.fr 5 rfl)⟩, ?_⟩
          refine sa rfl rfl ?_
          refine st_call cf128 rfl (done_c ((H38.fr 4 rfl).fr 4 rfl) hl (by omega)) ?_
          rintro _ w41 ⟨rfl, H40⟩
          refine wl_nil ⟨.inr ⟨_, (H40.fr 5 rfl)⟩, ?_⟩
          refine sa rfl rfl ?_
          refine st H40 (asg rfl) ?_
          refine wl_nil ⟨.inl rfl, ?_⟩
          refine ws_nil ?_
          refine cw_ret ?_
          refine ret1 rfl rfl ?_
          have HT14 := Own.tr (doneN l (k + 1) (begN 22 (nxt l k) (nxt l k).s)) (.nil) (((H40.fr 4 rfl).fr 4 rfl).fr 4 rfl) rfl
          exact Or.inl ⟨_, _, by simp [literalS, hp8, hp11, hp22, hp33], by omega, _, rfl, (((HT14.fr 2 rfl).fr 2 rfl).er 3)⟩
        · have hp33 := hb33
          try simp at hp33
          refine cw_skip ?_
          refine cw_seq ?_
          refine cw_region rfl ?_
          refine st H31 (asg rfl) ?_
          refine wl_nil ?_
          refine cw_ret ?_
          refine ret1 rfl rfl ?_
          exact Or.inr (Or.inl ⟨by simp [literalS, hp8, hp11, hp22, hp33], rfl, (((H31.fr 1 rfl).fr 1 rfl).er 2)⟩)
theorem kindOf_c (H : Own g (PT g pb A c l k nv L) w) (hl : TkOk l) (hk : k ≤ l.length) : Calls Pg 184 #[.pointer (some ⟨pb, 0, none⟩)] w (PO g pb A c l nv L (kindOfS l k)) := by
  refine calls_cw (vs := [_]) Tryz.func184 rfl rfl rfl ?_
  refine cw_seq ?_
  refine cw_region rfl ?_
  refine st H (asg rfl) ?_
  refine wl_nil ?_
  refine cw_seq ?_
  refine cw_seq ?_
  refine cw_region rfl ?_
  refine st H (bla Tryz.underlying201 zc201 sz9 rfl rfl) ?_
  refine st H (mv rfl) ?_
  refine wl_nil ?_
  refine cw_block ?_
  refine cw_loop (σ := Nat) (fun i => [(0, .pointer (some ⟨pb, 0, none⟩)), (2, .pointer none), (9, .agg ([.string kInt, .string kBool, .string kString] : List Value).toArray), (10, .int .i64 i)]) (fun i w => Own g (PT g pb A c l k nv L) w ∧ i ≤ 3 ∧ firstB l k [kInt, kBool, kString] = firstB l k (([kInt, kBool, kString] : List ByteArray).drop i)) (fun i => 3 - i) 0 ⟨rfl, rfl, rfl, rfl, trivial⟩ ⟨((H.fr 1 rfl).fr 1 rfl), by omega, rfl⟩ ?_
  rintro i w2 ⟨H1, hi, hx⟩
  refine cw_seq ?_
  refine cw_region rfl ?_
  refine st H1 (lti rfl rfl) ?_
  refine wl_nil ?_
  refine cw_seq ?_
  refine cw_cond rfl (fun hb3 => ?_) (fun hb3 => ?_)
  · have hp3 := hb3
    try simp at hp3
    have hi3 : i < 3 := by omega
    obtain ⟨z, hz1, hz, hd⟩ : ∃ z, ([kInt, kBool, kString] : List ByteArray)[i]? = some z ∧ ([.string kInt, .string kBool, .string kString] : List Value)[i]? = some (.string z) ∧ ([kInt, kBool, kString] : List ByteArray).drop i = z :: ([kInt, kBool, kString] : List ByteArray).drop (i + 1) := by
      rcases i with _ | _ | _ | i
      · exact ⟨_, rfl, rfl, rfl⟩
      · exact ⟨_, rfl, rfl, rfl⟩
      · exact ⟨_, rfl, rfl, rfl⟩
      · omega
    refine cw_skip ?_
    refine cw_seq ?_
    refine cw_block ?_
    refine cw_seq ?_
    refine cw_region rfl ?_
    refine st H1 (ixa Tryz.underlying201 sc9 rfl rfl (i) rfl (by omega) hz) ?_
    refine st H1 (asg rfl) ?_
    refine wl_nil ?_
    refine cw_seq ?_
    refine cw_region rfl ?_
    refine st H1 (mv rfl) ?_
    refine st H1 (mv rfl) ?_
    refine st_call cf124 rfl (is_c _ ((H1.fr 1 rfl).fr 1 rfl) hl (by omega)) ?_
    rintro _ w5 ⟨rfl, H4⟩
    refine wl_nil ?_
    refine cw_cond rfl (fun hb6 => ?_) (fun hb6 => ?_)
    · have hp6 := hb6
      try simp at hp6
      have hlt := isB_lt hk hp6
      rw [hd] at hx
      have hf : firstB l k [kInt, kBool, kString] = some z := by rw [hx]; simp [firstB, hp6]
      refine cw_seq ?_
      refine cw_region rfl ?_
      refine st H4 (mv rfl) ?_
      refine st H4 (mv rfl) ?_
      refine st_call cf125 rfl (take_c ((H4.fr 1 rfl).fr 1 rfl) hl (by omega)) ?_
      rintro _ w8 ⟨rfl, H7⟩
      refine st H7 (mv rfl) ?_
      refine st_call cf122 rfl (begin_c _ (nxt l k) _ H7) ?_
      rintro _ w10 ⟨b15_, rfl, H9⟩
      refine st_call cf128 rfl (done_c ((H9.fr 4 rfl).fr 4 rfl) hl (by omega)) ?_
      rintro _ w12 ⟨rfl, H11⟩
      refine st H11 (asg rfl) ?_
      refine wl_nil ?_
      refine cw_ret ?_
      refine ret1 rfl rfl ?_
      have HT16 := Own.tr (doneN l (k + 1) (begN 10 (nxt l k) z)) (.nil) (((H11.fr 4 rfl).fr 4 rfl).fr 4 rfl) rfl
      exact Or.inl ⟨_, _, by simp [kindOfS, hf, hp3, hp6], by omega, _, rfl, ((HT16.fr 2 rfl).fr 2 rfl)⟩
    · have hp6 := hb6
      try simp at hp6
      refine cw_skip ?_
      refine cw_region rfl ?_
      refine st H4 (add rfl rfl (by omega) (by omega)) ?_
      refine st H4 (mv rfl) ?_
      refine wl_nil ?_
      exact ⟨i + 1, ⟨rfl, rfl, rfl, rfl, trivial⟩, ⟨((H4.fr 1 rfl).fr 1 rfl), by omega, by rw [hx, hd]; simp [firstB, hp3, hp6]⟩, by omega⟩
  · have hp3 := hb3
    try simp at hp3
    have hi3 : i = 3 := by omega
    subst hi3
    have hf : firstB l k [kInt, kBool, kString] = none := by rw [hx]; rfl
    refine cw_exit ?_
    refine cw_seq ?_
    refine cw_region rfl ?_
    refine st H1 (mv rfl) ?_
    refine st_call cf121 rfl (name_c ((H1.fr 1 rfl).fr 1 rfl) hl (by omega)) ?_
    rintro e w14 hpH13
    rcases hpH13 with ⟨x17, k17, hs17, hk17, rfl, H13⟩ | ⟨q17, hs17, rfl, kq17, H13⟩
    · refine st_al H13 zc38 fun b17 w16 H15 => ?_
      refine st_st 0 H15 rfl rfl rfl sz38 rfl rfl rfl rfl fun w19 H18 => ?_
      refine wl_nil ?_
      refine cw_seq ?_
      refine cw_region rfl ?_
      refine st H18 (mv rfl) ?_
      refine st H18 (lda ag38 0 rfl rfl rfl rfl) ?_
      refine st H18 (fa fo38_1 rfl) ?_
      refine st H18 (ld sc9 0 rfl rfl rfl) ?_
      refine st_call cf122 rfl (begin_c _ (x17) _ H18) ?_
      rintro _ w21 ⟨b18_, rfl, H20⟩
      refine st_call cf128 rfl (done_c ((H20.fr 5 rfl).fr 5 rfl) hl (by omega)) ?_
      rintro _ w23 ⟨rfl, H22⟩
      refine st H22 (asg rfl) ?_
      refine wl_nil ?_
      refine cw_seq ?_
      refine cw_seq ?_
      refine cw_region rfl ?_
      refine st H22 (mv rfl) ?_
      refine st_call cf124 rfl (is_c _ ((H22.fr 1 rfl).fr 1 rfl) hl (by omega)) ?_
      rintro _ w25 ⟨rfl, H24⟩
      refine st H24 (notb rfl) ?_
      refine wl_nil ?_
      refine cw_cond rfl (fun hb26 => ?_) (fun hb26 => ?_)
      · have hp26 := hb26
        try simp at hp26
        refine cw_seq ?_
        refine cw_region rfl ?_
        refine st H24 (mv rfl) ?_
        refine st H24 (asg rfl) ?_
        refine wl_nil ?_
        refine cw_ret ?_
        refine ret1 rfl rfl ?_
        have HT19 := Own.tr (doneN l k17 (begN 11 x17 x17.s)) (.nil) (((H24.fr 4 rfl).fr 4 rfl).fr 4 rfl) rfl
        exact Or.inl ⟨_, _, by simp [kindOfS, hf, hp3, hs17, hp26], by omega, _, rfl, (((HT19.fr 2 rfl).fr 2 rfl).er 3)⟩
      · have hp26 := hb26
        try simp at hp26
        have hlt := isB_lt (by omega) hp26
        refine cw_skip ?_
        refine cw_seq ?_
        refine cw_region rfl ?_
        refine st H24 (mv rfl) ?_
        refine st_call cf125 rfl (take_c ((H24.fr 1 rfl).fr 1 rfl) hl (by omega)) ?_
        rintro _ w28 ⟨rfl, H27⟩
        refine wl_nil ?_
        refine cw_seq ?_
        refine cw_region rfl ?_
        refine st H27 (mv rfl) ?_
        refine st_call cf121 rfl (name_c ((H27.fr 1 rfl).fr 1 rfl) hl (by omega)) ?_
        rintro e w30 hpH29
        rcases hpH29 with ⟨x20, k20, hs20, hk20, rfl, H29⟩ | ⟨q20, hs20, rfl, kq20, H29⟩
        · refine st_al H29 zc38 fun b33 w32 H31 => ?_
          refine st_st 0 H31 rfl rfl rfl sz38 rfl rfl rfl rfl fun w35 H34 => ?_
          refine wl_nil ?_
          refine cw_seq ?_
          refine cw_region rfl ?_
          refine st H34 (lda ag38 6 rfl rfl rfl rfl) ?_
          refine st H34 (fa fo38_1 rfl) ?_
          refine st H34 (ld sc9 0 rfl rfl rfl) ?_
          refine st_call cf122 rfl (begin_c _ (x17) _ H34) ?_
          rintro _ w37 ⟨b21_, rfl, H36⟩
          refine st H36 (asg rfl) ?_
          refine wl_nil ?_
          refine cw_seq ?_
          refine cw_sched (Keep _ [_]) 17 (.q 0 (.q 1 (.q 2 (.q 3 (.q 4 (.q 5 (.q 7 (.q 8 (.q 9 (.b 6 (.a 10 (.q 11 (.q 12 (.q 13 (.a 14 (.a 15 (.q 16 (.a 17 .e)))))))) 10 (.q 11 (.q 12 (.q 13 (.b 6 (.a 14 (.a 15 (.q 16 (.a 17 .e)))) 14 (.a 6 (.a 15 (.q 16 (.a 17 .e)))))))))))))))))) hm H36 (fun w h => ⟨_, (h.fr 3 rfl)⟩) (by kernel_rfl) (by kernel_rfl) rfl (fun w39 H38 => ?_)
          refine sw rfl rfl (mv rfl) ?_
          refine sw rfl rfl (mv rfl) ?_
          refine sw rfl rfl (mv rfl) ?_
          refine sw rfl rfl (fa fo38_2 rfl) ?_
          refine sw rfl rfl (ks fun L' => ld sc3 0 rfl rfl rfl) ?_
          refine sw rfl rfl (mv rfl) ?_
          refine sw rfl rfl (nck rfl) ?_
          refine sw rfl rfl (fa fo151_0 rfl) ?_
          refine sw rfl rfl (fa fo43_0 rfl) ?_
          refine sb ?_ ?_
          · refine sa rfl rfl ?_
            refine st_bs H38 sl149 zc131 rfl rfl rfl rfl rfl fun b42 w41 H40 => ?_
            refine wl_nil ⟨.inr ⟨_, (H40.fr 4 rfl)⟩, ?_⟩
            refine sa rfl rfl ?_
            refine st_st 7 H40 rfl rfl rfl sz3 rfl rfl rfl rfl fun w44 H43 => ?_
            refine wl_nil ⟨.inr ⟨_, (H43.fr 5 rfl)⟩, ?_⟩
            refine sw rfl rfl (nck rfl) ?_
            refine sw rfl rfl (fa fo151_0 rfl) ?_
            refine sw rfl rfl (fa fo43_4 rfl) ?_
            refine sa rfl rfl ?_
            refine st_st 2 H43 rfl rfl rfl sz3 rfl rfl rfl rfl fun w46 H45 => ?_
            refine wl_nil ⟨.inr ⟨_, (H45.fr 5 rfl)⟩, ?_⟩
            refine sa rfl rfl ?_
            refine st H45 (nck rfl) ?_
            refine wl_nil ⟨.inr ⟨_, (H45.fr 5 rfl)⟩, ?_⟩
            refine sw rfl rfl (fa fo151_1 rfl) ?_
            refine sa rfl rfl ?_
            refine st_st 0 H45 rfl rfl rfl sz149 rfl rfl rfl rfl fun w48 H47 => ?_
            refine wl_nil ⟨.inl rfl, ?_⟩
            refine ws_nil ?_
            refine cw_seq ?_
            refine cw_region rfl ?_
            refine st H47 (mv rfl) ?_
            refine st H47 (mv rfl) ?_
            refine st_call cf128 rfl (done_c ((H47.fr 7 rfl).fr 7 rfl) hl (by omega)) ?_
            rintro _ w50 ⟨rfl, H49⟩
            refine st H49 (asg rfl) ?_
            refine wl_nil ?_
            refine cw_ret ?_
            refine ret1 rfl rfl ?_
            have HR22 := (H49.fr 4 rfl).row1
            have HA22 := Own.tr { doneN l k17 (begN 11 x17 x17.s) with kind := 23 } .nil (((HR22.fr 9 rfl).fr 9 rfl).fr 6 rfl) rfl
            have HB22 := Own.tr (doneN l k20 { begN 12 x17 x20.s with pos := x20.a }) (.one ⟨{ doneN l k17 (begN 11 x17 x17.s) with kind := 23 }, .nil⟩) ((HA22.fr 1 rfl).fr 4 rfl) rfl
            exact Or.inl ⟨_, _, by simp [kindOfS, hf, hp3, hs17, hp26, hs20], by omega, _, rfl, ((((((HB22.fr 2 rfl).fr 2 rfl).er 3).er 3).er 3).er 3)⟩
          · refine sa rfl rfl ?_
            refine st_st 6 H38 rfl rfl rfl sz3 rfl rfl rfl rfl fun w52 H51 => ?_
            refine wl_nil ⟨.inr ⟨_, (H51.fr 4 rfl)⟩, ?_⟩
            refine sw rfl rfl (nck rfl) ?_
            refine sw rfl rfl (fa fo151_0 rfl) ?_
            refine sw rfl rfl (fa fo43_4 rfl) ?_
            refine sb ?_ ?_
            · refine sa rfl rfl ?_
              refine st_bs H51 sl149 zc131 rfl rfl rfl rfl rfl fun b55 w54 H53 => ?_
              refine wl_nil ⟨.inr ⟨_, (H53.fr 5 rfl)⟩, ?_⟩
              refine sa rfl rfl ?_
              refine st_st 2 H53 rfl rfl rfl sz3 rfl rfl rfl rfl fun w57 H56 => ?_
              refine wl_nil ⟨.inr ⟨_, (H56.fr 5 rfl)⟩, ?_⟩
              refine sa rfl rfl ?_
              refine st H56 (nck rfl) ?_
              refine wl_nil ⟨.inr ⟨_, (H56.fr 5 rfl)⟩, ?_⟩
              refine sw rfl rfl (fa fo151_1 rfl) ?_
              refine sa rfl rfl ?_
              refine st_st 0 H56 rfl rfl rfl sz149 rfl rfl rfl rfl fun w59 H58 => ?_
              refine wl_nil ⟨.inl rfl, ?_⟩
              refine ws_nil ?_
              refine cw_seq ?_
              refine cw_region rfl ?_
              refine st H58 (mv rfl) ?_
              refine st H58 (mv rfl) ?_
              refine st_call cf128 rfl (done_c ((H58.fr 7 rfl).fr 7 rfl) hl (by omega)) ?_
              rintro _ w61 ⟨rfl, H60⟩
              refine st H60 (asg rfl) ?_
              refine wl_nil ?_
              refine cw_ret ?_
              refine ret1 rfl rfl ?_
              have HR23 := (H60.fr 3 rfl).row1
              have HA23 := Own.tr { doneN l k17 (begN 11 x17 x17.s) with kind := 23 } .nil (((HR23.fr 9 rfl).fr 9 rfl).fr 6 rfl) rfl
              have HB23 := Own.tr (doneN l k20 { begN 12 x17 x20.s with pos := x20.a }) (.one ⟨{ doneN l k17 (begN 11 x17 x17.s) with kind := 23 }, .nil⟩) ((HA23.fr 1 rfl).fr 4 rfl) rfl
              exact Or.inl ⟨_, _, by simp [kindOfS, hf, hp3, hs17, hp26, hs20], by omega, _, rfl, ((((((HB23.fr 2 rfl).fr 2 rfl).er 3).er 3).er 3).er 3)⟩
            · refine sa rfl rfl ?_
              refine st_st 1 H51 rfl rfl rfl sz3 rfl rfl rfl rfl fun w63 H62 => ?_
              refine wl_nil ⟨.inr ⟨_, (H62.fr 4 rfl)⟩, ?_⟩
              refine sa rfl rfl ?_
              refine st_bs H62 sl149 zc131 rfl rfl rfl rfl rfl fun b66 w65 H64 => ?_
              refine wl_nil ⟨.inr ⟨_, (H64.fr 5 rfl)⟩, ?_⟩
              refine sa rfl rfl ?_
              refine st H64 (nck rfl) ?_
              refine wl_nil ⟨.inr ⟨_, (H64.fr 5 rfl)⟩, ?_⟩
              refine sw rfl rfl (fa fo151_1 rfl) ?_
              refine sa rfl rfl ?_
              refine st_st 1 H64 rfl rfl rfl sz149 rfl rfl rfl rfl fun w68 H67 => ?_
              refine wl_nil ⟨.inl rfl, ?_⟩
              refine ws_nil ?_
              refine cw_seq ?_
              refine cw_region rfl ?_
              refine st H67 (mv rfl) ?_
              refine st H67 (mv rfl) ?_
              refine st_call cf128 rfl (done_c ((H67.fr 7 rfl).fr 7 rfl) hl (by omega)) ?_
              rintro _ w70 ⟨rfl, H69⟩
              refine st H69 (asg rfl) ?_
              refine wl_nil ?_
              refine cw_ret ?_
              refine ret1 rfl rfl ?_
              have HR24 := (H69.fr 3 rfl).row1
              have HA24 := Own.tr { doneN l k17 (begN 11 x17 x17.s) with kind := 23 } .nil (((HR24.fr 9 rfl).fr 9 rfl).fr 6 rfl) rfl
              have HB24 := Own.tr (doneN l k20 { begN 12 x17 x20.s with pos := x20.a }) (.one ⟨{ doneN l k17 (begN 11 x17 x17.s) with kind := 23 }, .nil⟩) ((HA24.fr 1 rfl).fr 4 rfl) rfl
              exact Or.inl ⟨_, _, by simp [kindOfS, hf, hp3, hs17, hp26, hs20], by omega, _, rfl, ((((((HB24.fr 2 rfl).fr 2 rfl).er 3).er 3).er 3).er 3)⟩
        · exact Or.inr ⟨q20, by simp [kindOfS, hf, hp3, hs17, hp26, hs20], rfl, _, ((((((H29.fr 1 rfl).fr 1 rfl).er 2).er 2).er 2).er 2)⟩
    · exact Or.inr ⟨q17, by simp [kindOfS, hf, hp3, hs17], rfl, _, ((H13.fr 1 rfl).fr 1 rfl)⟩
theorem value_p_c (H : Own g (PT g pb A c l k nv L) w) (hl : TkOk l) (hk : k ≤ l.length) : Calls Pg 160 #[.pointer (some ⟨pb, 0, none⟩)] w (PO g pb A c l nv L (valueS l k)) := by
  refine calls_cw (vs := [_]) Tryz.func160 rfl rfl rfl ?_
  refine cw_seq ?_
  refine cw_region rfl ?_
  refine st H (asg rfl) ?_
  refine wl_nil ?_
  refine cw_seq ?_
  refine cw_seq ?_
  refine cw_region rfl ?_
  refine st H (mv rfl) ?_
  refine st_call cf124 rfl (is_c _ ((H.fr 1 rfl).fr 1 rfl) hl (by omega)) ?_
  rintro _ w2 ⟨rfl, H1⟩
  refine wl_nil ?_
  refine cw_cond rfl (fun hb3 => ?_) (fun hb3 => ?_)
  · have hp3 := hb3
    try simp at hp3
    have hlt := isB_lt hk hp3
    refine cw_seq ?_
    refine cw_region rfl ?_
    refine st H1 (mv rfl) ?_
    refine st_call cf125 rfl (take_c ((H1.fr 1 rfl).fr 1 rfl) hl (by omega)) ?_
    rintro _ w5 ⟨rfl, H4⟩
    refine st_al H4 zc38 fun b8 w7 H6 => ?_
    refine st_st 0 H6 rfl rfl rfl sz38 rfl rfl rfl rfl fun w10 H9 => ?_
    refine wl_nil ?_
    refine cw_seq ?_
    refine cw_region rfl ?_
    refine st H9 (lda ag38 0 rfl rfl rfl rfl) ?_
    refine st_call cf122 rfl (begin_c _ (nxt l k) _ H9) ?_
    rintro _ w12 ⟨b25_, rfl, H11⟩
    refine st H11 (asg rfl) ?_
    refine wl_nil ?_
    refine cw_seq ?_
    refine cw_region rfl ?_
    refine st H11 (mv rfl) ?_
    refine st H11 (mv rfl) ?_
    refine st_call cf182 rfl (number_c ((H11.fr 5 rfl).fr 5 rfl) hl (by omega)) ?_
    rintro e w14 hpH13
    rcases hpH13 with ⟨x26, k26, hs26, hk26, b26_, rfl, H13⟩ | ⟨q26, hs26, rfl, kq26, H13⟩
    · refine st_bs H13 sl149 zc131 rfl rfl rfl rfl rfl fun b17 w16 H15 => ?_
      refine st H15 (nck rfl) ?_
      refine st H15 (fa fo151_1 rfl) ?_
      refine st_st 4 H15 rfl rfl rfl sz149 rfl rfl rfl rfl fun w19 H18 => ?_
      refine wl_nil ?_
      refine cw_seq ?_
      have HR27 := (H18.fr 1 rfl).row1
      refine cw_region rfl ?_
      refine st HR27 (mv rfl) ?_
      refine st HR27 (mv rfl) ?_
      refine st_call cf128 rfl (done_c (((HR27.fr 1 rfl).fr 3 rfl).fr 3 rfl) hl (by omega)) ?_
      rintro _ w21 ⟨rfl, H20⟩
      refine st H20 (asg rfl) ?_
      refine wl_nil ?_
      refine cw_ret ?_
      refine ret1 rfl rfl ?_
      have HT28 := Own.tr (doneN l k26 (begN 26 (nxt l k) gMinus)) (.one x26) (((H20.fr 4 rfl).fr 4 rfl).fr 4 rfl) rfl
      exact Or.inl ⟨_, _, by simp [valueS, hp3, hs26], by omega, _, rfl, (((((HT28.fr 2 rfl).fr 2 rfl).er 3).er 3).er 3)⟩
    · exact Or.inr ⟨q26, by simp [valueS, hp3, hs26], rfl, _, ((((((H13.fr 1 rfl).fr 1 rfl).er 2).er 2).er 2).er 2)⟩
  · have hp3 := hb3
    try simp at hp3
    refine cw_skip ?_
    refine cw_seq ?_
    refine cw_seq ?_
    refine cw_region rfl ?_
    refine st H1 (mv rfl) ?_
    refine st_call cf183 rfl (literal_c ((H1.fr 1 rfl).fr 1 rfl) hl (by omega)) ?_
    rintro e w23 hpH22
    rcases hpH22 with ⟨x29, k29, hs29, hk29, b29_, rfl, H22⟩ | ⟨hs29, rfl, H22⟩ | ⟨q29, hs29, rfl, kq29, H22⟩
    · refine st H22 (asg rfl) ?_
      refine wl_nil ?_
      refine cw_seq ?_
      refine cw_region rfl ?_
      refine st H22 (mv rfl) ?_
      refine st H22 (pnn pp131 rfl rfl) ?_
      refine wl_nil ?_
      refine cw_cond_t rfl rfl ?_
      refine cw_seq ?_
      refine cw_region rfl ?_
      refine st H22 (mv rfl) ?_
      refine st H22 (asg rfl) ?_
      refine wl_nil ?_
      refine cw_ret ?_
      refine ret1 rfl rfl ?_
      exact Or.inl ⟨_, _, by simp [valueS, hp3, hs29], by omega, _, rfl, (((H22.fr 2 rfl).fr 2 rfl).fr 2 rfl)⟩
    · refine st H22 (asg rfl) ?_
      refine wl_nil ?_
      refine cw_seq ?_
      refine cw_region rfl ?_
      refine st H22 (mv rfl) ?_
      refine st H22 (pnn pp131 rfl rfl) ?_
      refine wl_nil ?_
      refine cw_cond_f rfl rfl ?_
      refine cw_skip ?_
      refine cw_seq ?_
      refine cw_region rfl ?_
      refine st H22 (mv rfl) ?_
      refine st_call cf154 rfl (fail_c ((H22.fr 1 rfl).fr 1 rfl) hl (by omega)) ?_
      rintro _ w25 ⟨rfl, H24⟩
      exact Or.inr ⟨(nxt l k).a, by simp [valueS, hp3, hs29], rfl, _, ((H24.fr 1 rfl).fr 1 rfl)⟩
    · exact Or.inr ⟨q29, by simp [valueS, hp3, hs29], rfl, _, ((H22.fr 1 rfl).fr 1 rfl)⟩
theorem typed_c (n : Int) (H : Own g (PT g pb A c l k nv L) w) (hl : TkOk l) (hk : k ≤ l.length) : Calls Pg 186 #[.pointer (some ⟨pb, 0, none⟩), .int .i64 n] w (PO g pb A c l nv L (typedS l n k)) := by
  refine calls_cw (vs := [_, _]) Tryz.func186 rfl rfl rfl ?_
  refine cw_seq ?_
  refine cw_region rfl ?_
  refine st H (asg rfl) ?_
  refine wl_nil ?_
  refine cw_seq ?_
  refine cw_region rfl ?_
  refine st H (mv rfl) ?_
  refine st_call cf121 rfl (name_c ((H.fr 1 rfl).fr 1 rfl) hl (by omega)) ?_
  rintro e w2 hpH1
  rcases hpH1 with ⟨x30, k30, hs30, hk30, rfl, H1⟩ | ⟨q30, hs30, rfl, kq30, H1⟩
  · refine st_al H1 zc38 fun b5 w4 H3 => ?_
    refine st_st 0 H3 rfl rfl rfl sz38 rfl rfl rfl rfl fun w7 H6 => ?_
    refine wl_nil ?_
    refine cw_seq ?_
    refine cw_region rfl ?_
    refine st H6 (mv rfl) ?_
    refine st H6 (lda ag38 0 rfl rfl rfl rfl) ?_
    refine st H6 (fa fo38_1 rfl) ?_
    refine st H6 (ld sc9 0 rfl rfl rfl) ?_
    refine st_call cf122 rfl (begin_c _ (x30) _ H6) ?_
    rintro _ w9 ⟨b31_, rfl, H8⟩
    refine st H8 (asg rfl) ?_
    refine wl_nil ?_
    refine cw_seq ?_
    refine cw_sched (Keep _ [_]) 11 (.q 0 (.q 1 (.q 2 (.q 3 (.q 4 (.q 5 (.a 6 (.a 7 (.a 8 (.a 9 (.q 10 (.a 11 .e)))))))))))) hm H8 (fun w h => ⟨_, h⟩) (by kernel_rfl) (by kernel_rfl) rfl (fun w11 H10 => ?_)
    refine sw rfl rfl (mv rfl) ?_
    refine sw rfl rfl (mv rfl) ?_
    refine sw rfl rfl (nck rfl) ?_
    refine sw rfl rfl (fa fo151_1 rfl) ?_
    refine sw rfl rfl (ks fun L' => ld sc149 0 rfl rfl rfl) ?_
    refine sw rfl rfl (mv rfl) ?_
    refine sa rfl rfl ?_
    refine st_call cf184 rfl (kindOf_c ((H10.fr 5 rfl).fr 5 rfl) hl (by omega)) ?_
    rintro e w13 hpH12
    rcases hpH12 with ⟨x32, k32, hs32, hk32, b32_, rfl, H12⟩ | ⟨q32, hs32, rfl, kq32, H12⟩
    · refine wl_nil ⟨.inr ⟨_, (H12.fr 3 rfl)⟩, ?_⟩
      refine sa rfl rfl ?_
      refine st_bs H12 sl149 zc131 rfl rfl rfl rfl rfl fun b16 w15 H14 => ?_
      refine wl_nil ⟨.inr ⟨_, (H14.fr 4 rfl)⟩, ?_⟩
      refine sa rfl rfl ?_
      refine st_app 5 0 ([b32_]) H14 sl149 zc131 rfl rfl rfl rfl rfl rfl rfl rfl (by intro y hy; simp at hy; subst hy; exact ⟨rfl, rfl⟩) (by simp) (by simp) fun A19 c20 w18 H17 => ?_
      refine wl_nil ⟨.inr ⟨_, (H17.fr 5 rfl)⟩, ?_⟩
      refine sa rfl rfl ?_
      refine st H17 (nck rfl) ?_
      refine wl_nil ⟨.inr ⟨_, (H17.fr 5 rfl)⟩, ?_⟩
      refine sw rfl rfl (fa fo151_1 rfl) ?_
      refine sa rfl rfl ?_
      refine st_st 5 H17 rfl rfl rfl sz149 rfl rfl rfl rfl fun w22 H21 => ?_
      refine wl_nil ⟨.inl rfl, ?_⟩
      refine ws_nil ?_
      refine cw_seq ?_
      have HS33 := ((H21.fr 5 rfl).fr 6 rfl).pfo_app
      refine cw_region rfl ?_
      refine st HS33 (mv rfl) ?_
      refine st HS33 (mv rfl) ?_
      refine st_call cf128 rfl (done_c (((HS33.fr 1 rfl).fr 5 rfl).fr 5 rfl) hl (by omega)) ?_
      rintro _ w24 ⟨rfl, H23⟩
      refine st H23 (asg rfl) ?_
      refine wl_nil ?_
      refine cw_ret ?_
      refine ret1 rfl rfl ?_
      have HT34 := Own.tr (doneN l k32 (begN n x30 x30.s)) ((Fo.nil).app (.one x32)) (((H23.fr 3 rfl).fr 4 rfl).fr 4 rfl) rfl
      exact Or.inl ⟨_, _, by simp [typedS, hs30, hs32, Fo.app], by omega, _, rfl, ((((HT34.fr 2 rfl).fr 2 rfl).er 3).er 3)⟩
    · exact Or.inr ⟨q32, by simp [typedS, hs30, hs32], rfl, _, ((((((H12.fr 1 rfl).fr 1 rfl).er 2).er 2).er 2).er 2)⟩
  · exact Or.inr ⟨q30, by simp [typedS, hs30], rfl, _, ((H1.fr 1 rfl).fr 1 rfl)⟩
theorem field_c (H : Own g (PT g pb A c l k nv L) w) (hl : TkOk l) (hk : k ≤ l.length) : Calls Pg 163 #[.pointer (some ⟨pb, 0, none⟩)] w (PO g pb A c l nv L (typedS l 6 k)) := by
  refine calls_cw (vs := [_]) Tryz.func163 rfl rfl rfl ?_
  refine cw_seq ?_
  refine cw_region rfl ?_
  refine st H (asg rfl) ?_
  refine wl_nil ?_
  refine cw_seq ?_
  refine cw_region rfl ?_
  refine st H (mv rfl) ?_
  refine st_call cf186 rfl (typed_c _ ((H.fr 1 rfl).fr 1 rfl) hl (by omega)) ?_
  rintro e w2 hpH1
  rcases hpH1 with ⟨x35, k35, hs35, hk35, b35_, rfl, H1⟩ | ⟨q35, hs35, rfl, kq35, H1⟩
  · refine st H1 (asg rfl) ?_
    refine wl_nil ?_
    refine cw_ret ?_
    refine ret1 rfl rfl ?_
    exact Or.inl ⟨_, _, hs35, by omega, _, rfl, (((H1.fr 2 rfl).fr 2 rfl).fr 2 rfl)⟩
  · exact Or.inr ⟨q35, by simp [hs35], rfl, _, ((H1.fr 1 rfl).fr 1 rfl)⟩
theorem param_c (H : Own g (PT g pb A c l k nv L) w) (hl : TkOk l) (hk : k ≤ l.length) : Calls Pg 188 #[.pointer (some ⟨pb, 0, none⟩)] w (PO g pb A c l nv L (typedS l 9 k)) := by
  refine calls_cw (vs := [_]) Tryz.func188 rfl rfl rfl ?_
  refine cw_seq ?_
  refine cw_region rfl ?_
  refine st H (asg rfl) ?_
  refine wl_nil ?_
  refine cw_seq ?_
  refine cw_region rfl ?_
  refine st H (mv rfl) ?_
  refine st_call cf186 rfl (typed_c _ ((H.fr 1 rfl).fr 1 rfl) hl (by omega)) ?_
  rintro e w2 hpH1
  rcases hpH1 with ⟨x36, k36, hs36, hk36, b36_, rfl, H1⟩ | ⟨q36, hs36, rfl, kq36, H1⟩
  · refine st H1 (asg rfl) ?_
    refine wl_nil ?_
    refine cw_ret ?_
    refine ret1 rfl rfl ?_
    exact Or.inl ⟨_, _, hs36, by omega, _, rfl, (((H1.fr 2 rfl).fr 2 rfl).fr 2 rfl)⟩
  · exact Or.inr ⟨q36, by simp [hs36], rfl, _, ((H1.fr 1 rfl).fr 1 rfl)⟩
end
end Go.Proofs.YtmkijgmfefkgeaaGreatDoor
