/- The lexer's small parts: digits, letters, numbers. -/
import Derived.Test.YtmkijgmfefkgeaaGreatDoorH2
set_option autoImplicit false
set_option linter.unusedVariables false
set_option linter.unusedSimpArgs false
set_option linter.unusedSectionVars false
namespace Go.Proofs.YtmkijgmfefkgeaaGreatDoor
open Go
noncomputable def inf183 : TypeInfo := (Pg.info? 183).getD default
theorem ii183 : Pg.info? 183 = some inf183 ∧ inf183.comparable = true := ⟨by kernel_rfl, by kernel_rfl⟩
def Digs (s : ByteArray) : Prop := ∀ i, i < s.size → 48 ≤ byteAt s i ∧ byteAt s i ≤ 57
theorem decV_nn {s : ByteArray} (hd : Digs s) : ∀ i, i ≤ s.size → 0 ≤ decV s i
  | 0, _ => Int.le_refl _
  | i + 1, h => by have := decV_nn hd i (by omega); have := hd i (by omega); unfold decV; omega
theorem decV_mono {s : ByteArray} (hd : Digs s) (i : Nat) : ∀ k, i + k ≤ s.size → decV s i ≤ decV s (i + k)
  | 0, _ => Int.le_refl _
  | k + 1, h => by
    have h1 := decV_mono hd i k (by omega)
    have h2 := decV_nn hd (i + k) (by omega)
    have h3 := hd (i + k) (by omega)
    show decV s i ≤ 10 * decV s (i + k) + (byteAt s (i + k) - 48)
    omega
theorem byteAt_get {s : ByteArray} {i : Nat} (h : i < s.size) : byteAt s i = ((s.data.toList[i]'(by simpa using h)).toNat : Int) := by
  simp [byteAt, ByteArray.getElem?_lt' s i h, ByteArray.getElem_eq_getElem_data]
theorem parse_digs {s : ByteArray} (hd : Digs s) : ∀ (k i acc : Nat), i + k = s.size → (acc : Int) = decV s i → acc < 18446744073709551616 →
    Lib.parseUint10 acc (s.data.toList.drop i) = if decV s s.size < 18446744073709551616 then .ok (decV s s.size).toNat else .range
  | 0, i, acc, h, ha, hl => by
    have e : s.data.toList.drop i = [] := List.drop_eq_nil_of_le (by have h0 : s.data.toList.length = s.size := by simp
                                                                     omega)
    have hi : i = s.size := by omega
    subst hi
    rw [e, Lib.parseUint10, if_pos (by omega)]
    congr 1
    omega
  | k + 1, i, acc, h, ha, hl => by
    have hlt : i < s.data.toList.length := by simp; omega
    rw [List.drop_eq_getElem_cons hlt]
    have hb := hd i (by omega)
    have hg := byteAt_get (s := s) (i := i) (by omega)
    have hs : decV s (i + 1) = 10 * decV s i + (byteAt s i - 48) := rfl
    have hm := decV_mono hd (i + 1) k (by omega)
    rw [show i + 1 + k = s.size by omega] at hm
    generalize s.data.toList[i]'hlt = c at *
    rw [hg] at hb hs
    rw [Lib.parseUint10, if_pos (by omega)]
    by_cases h1 : 1844674407370955162 ≤ acc
    · rw [if_pos h1, if_neg (by omega)]
    · rw [if_neg h1]
      by_cases h2 : 18446744073709551616 ≤ acc * 10 + (c.toNat - 48)
      · rw [if_pos h2, if_neg (by omega)]
      · rw [if_neg h2]
        exact parse_digs hd k (i + 1) _ (by omega) (by rw [hs]; omega) (by omega)
section
variable {g w : World} {L : List SP} [Glo g]
theorem parseUintD_c (s : ByteArray) (H : Own g L w) (hne : s.size ≠ 0) (hd : Digs s) (hm : s.size ≤ 140737488355327) : Calls Pg 193 #[.string s, .int .i64 10, .int .i64 64] w fun e w' => (decV s s.size < 18446744073709551616 ∧ e = .returned (.tuple #[.int .u64 (decV s s.size), .nilIface]) ∧ Own g L w') ∨ (18446744073709551616 ≤ decV s s.size ∧ e = .returned (.tuple #[.int .u64 18446744073709551615, .iface 183 (.int .i64 1)]) ∧ Own g L w') := by
  refine (parseUint_c s H hne (by omega)).mono fun e w' ⟨he, H'⟩ => ?_
  have h := parse_digs hd s.size 0 0 (by omega) rfl (by decide)
  rw [List.drop_zero] at h
  rw [h] at he
  by_cases hv : decV s s.size < 18446744073709551616
  · rw [if_pos hv] at he
    refine .inl ⟨hv, ?_, H'⟩
    rw [he]
    have h0 := decV_nn hd s.size (Nat.le_refl _)
    simp only [Lib.uintTuple]
    rw [Int.toNat_of_nonneg h0]
  · rw [if_neg hv] at he
    exact .inr ⟨by omega, he, H'⟩
theorem rangeError_c (f s : ByteArray) (H : Own g L w) (hm : s.size ≤ 140737488355327) : Calls Pg 195 #[.string f, .string s] w fun e w' => ∃ N, e = .returned (.pointer (some ⟨N, 0, none⟩)) ∧ Own g L w' := by
  obtain ⟨u, x, hv⟩ := H.v2
  exact (Any.strconv_rangeError lx280 f s _ w (by omega) hv (.inr ⟨u, x, rfl⟩)).mono fun e w' ⟨b, h1, _, _, h4⟩ => ⟨b, h1, H.below h4⟩
theorem parseInt0_c (s : ByteArray) (H : Own g L w) (hne : s.size ≠ 0) (hd : Digs s) (hsz : s.size ≤ 140737488355327) : Calls Pg 166 #[.string s, .int .i64 10, .int .i64 64] w fun e w' => (decV s s.size ≤ 9223372036854775807 ∧ e = .returned (.tuple #[.int .i64 (decV s s.size), .nilIface]) ∧ Own g L w') ∨ (9223372036854775807 < decV s s.size ∧ (∃ v, e = .returned (.tuple #[.int .i64 v, .iface 183 (.int .i64 1)])) ∧ Own g L w') := by
  refine calls_cw (vs := [_, _, _]) Tryz.func166 rfl rfl rfl ?_
  have hd0 := hd 0 (by omega)
  have hnn := decV_nn hd s.size (Nat.le_refl _)
  refine cw_seq ?_
  refine cw_region rfl ?_
  refine st H (asg rfl) ?_
  refine st H (asg rfl) ?_
  refine wl_nil ?_
  refine cw_seq ?_
  refine cw_seq ?_
  refine cw_region rfl ?_
  refine st H (mv rfl) ?_
  refine st H (eqs rfl rfl) ?_
  refine wl_nil ?_
  refine cw_cond rfl (fun hb1 => ?_) (fun hb1 => ?_)
  · have h0 := of_decide_eq_true hb1
    subst h0
    try exact absurd rfl hne
  · have hp1 := hb1
    try simp at hp1
    refine cw_skip ?_
    refine cw_seq ?_
    refine cw_region rfl ?_
    refine st H (asg rfl) ?_
    refine wl_nil ?_
    refine cw_seq ?_
    refine cw_seq ?_
    refine cw_region rfl ?_
    refine st H (mv rfl) ?_
    refine st H (ixs Tryz.underlying9 rfl rfl (0) rfl (by omega)) ?_
    refine wl_nil ?_
    refine cw_block ?_
    refine cw_seq ?_
    refine cw_region rfl ?_
    refine st H (eqi rfl rfl) ?_
    refine st H (asg rfl) ?_
    refine wl_nil ?_
    refine cw_cond rfl (fun hb2 => ?_) (fun hb2 => ?_)
    · have h0 := of_decide_eq_true hb2
      omega
    · have hp2 := hb2
      try simp at hp2
      refine cw_seq ?_
      refine cw_region rfl ?_
      refine st H (eqi rfl rfl) ?_
      refine st H (asg rfl) ?_
      refine wl_nil ?_
      refine cw_cond rfl (fun hb3 => ?_) (fun hb3 => ?_)
      · have h0 := of_decide_eq_true hb3
        omega
      · have hp3 := hb3
        try simp at hp3
        refine cw_skip ?_
        refine cw_seq ?_
        refine cw_region rfl ?_
        refine st H (asg rfl) ?_
        refine wl_nil ?_
        refine cw_seq ?_
        refine cw_region rfl ?_
        refine st H (mv rfl) ?_
        refine st H (mv rfl) ?_
        refine st H (mv rfl) ?_
        refine st_call cf193 rfl (parseUintD_c _ H hne hd hsz) ?_
        rintro e w5 hpH4
        rcases hpH4 with ⟨hv, rfl, H4⟩ | ⟨hv, rfl, H4⟩
        · refine st H4 (mv rfl) ?_
          refine st H4 (ext rfl rfl) ?_
          refine st H4 (ext rfl rfl) ?_
          refine st H4 (asg rfl) ?_
          refine st H4 (asg rfl) ?_
          refine wl_nil ?_
          refine cw_seq ?_
          refine cw_seq ?_
          refine cw_region rfl ?_
          refine st H4 (mv rfl) ?_
          refine st H4 (nin Tryz.underlying98 rfl) ?_
          refine st H4 (mv rfl) ?_
          refine goff rfl rfl rfl ?_
          refine goff rfl rfl rfl ?_
          refine goff rfl rfl rfl ?_
          refine st H4 (pk_f rfl rfl rfl) ?_
          refine wl_nil ?_
          refine cw_cond_f rfl rfl ?_
          refine cw_skip ?_
          refine cw_seq ?_
          refine cw_seq ?_
          refine cw_region rfl ?_
          refine st H4 (mv rfl) ?_
          refine st H4 (eqi rfl rfl) ?_
          refine wl_nil ?_
          refine cw_cond_f rfl (by decide) ?_
          refine cw_skip ?_
          refine cw_seq ?_
          refine cw_region rfl ?_
          refine st H4 (mv rfl) ?_
          refine st H4 (sub rfl rfl (by omega) (by omega)) ?_
          refine st H4 (cv Tryz.underlying3 Tryz.underlying182 rfl) ?_
          refine st H4 (shl63 rfl rfl) ?_
          refine st H4 (asg rfl) ?_
          refine wl_nil ?_
          refine cw_seq ?_
          refine cw_seq ?_
          refine cw_region rfl ?_
          refine st H4 (mv rfl) ?_
          refine st H4 (notb rfl) ?_
          refine st H4 (mv rfl) ?_
          refine gon rfl rfl rfl ?_
          refine st H4 (mv rfl) ?_
          refine gon rfl rfl rfl ?_
          refine st H4 (mv rfl) ?_
          refine gon rfl rfl rfl ?_
          refine st H4 (gei rfl rfl) ?_
          refine st H4 (pk_t rfl rfl rfl) ?_
          refine wl_nil ?_
          refine cw_cond rfl (fun hb6 => ?_) (fun hb6 => ?_)
          · have hp6 := hb6
            try simp at hp6
            refine cw_seq ?_
            refine cw_region rfl ?_
            refine st H4 (mv rfl) ?_
            refine st H4 (subw rfl rfl) ?_
            refine st H4 (cv Tryz.underlying145 Tryz.underlying2 rfl) ?_
            refine st H4 (mki nif183 rfl) ?_
            refine st H4 (asg rfl) ?_
            refine st H4 (asg rfl) ?_
            refine wl_nil ?_
            refine cw_ret ?_
            refine ret2 rfl rfl rfl ?_
            exact Or.inr ⟨by first | omega | (simp at *; omega), ⟨_, rfl⟩, H4⟩
          · have hp6 := hb6
            try simp at hp6
            refine cw_skip ?_
            refine cw_seq ?_
            refine cw_seq ?_
            refine cw_region rfl ?_
            refine st H4 (mv rfl) ?_
            refine st H4 (mv rfl) ?_
            refine goff rfl rfl rfl ?_
            refine goff rfl rfl rfl ?_
            refine goff rfl rfl rfl ?_
            refine st H4 (pk_f rfl rfl rfl) ?_
            refine wl_nil ?_
            refine cw_cond_f rfl rfl ?_
            refine cw_skip ?_
            refine cw_seq ?_
            refine cw_region rfl ?_
            refine st H4 (mv rfl) ?_
            refine st H4 (cv Tryz.underlying145 Tryz.underlying2 rfl) ?_
            refine st H4 (asg rfl) ?_
            refine wl_nil ?_
            refine cw_seq ?_
            refine cw_seq ?_
            refine cw_region rfl ?_
            refine st H4 (mv rfl) ?_
            refine wl_nil ?_
            refine cw_cond_f rfl rfl ?_
            refine cw_skip ?_
            refine cw_seq ?_
            refine cw_region rfl ?_
            refine st H4 (mv rfl) ?_
            refine st H4 (asg rfl) ?_
            refine st H4 (asg rfl) ?_
            refine wl_nil ?_
            refine cw_ret ?_
            refine ret2 rfl rfl rfl ?_
            exact Or.inl ⟨by first | omega | (simp at *; omega), by rw [wrap_i64 (by omega) (by first | omega | (simp at *; omega))], H4⟩
        · refine st H4 (mv rfl) ?_
          refine st H4 (ext rfl rfl) ?_
          refine st H4 (ext rfl rfl) ?_
          refine st H4 (asg rfl) ?_
          refine st H4 (asg rfl) ?_
          refine wl_nil ?_
          refine cw_seq ?_
          refine cw_seq ?_
          refine cw_region rfl ?_
          refine st H4 (mv rfl) ?_
          refine st H4 (nii Tryz.underlying98 rfl) ?_
          refine st H4 (mv rfl) ?_
          refine gon rfl rfl rfl ?_
          refine st H4 (mv rfl) ?_
          refine gon rfl rfl rfl ?_
          refine st H4 (mki nif183 rfl) ?_
          refine gon rfl rfl rfl ?_
          refine st H4 (neI Tryz.underlying98 ii183.1 ii183.2 Tryz.underlying183 rfl rfl) ?_
          refine st H4 (pk_t rfl rfl rfl) ?_
          refine wl_nil ?_
          refine cw_cond_f rfl (by decide) ?_
          refine cw_skip ?_
          refine cw_seq ?_
          refine cw_seq ?_
          refine cw_region rfl ?_
          refine st H4 (mv rfl) ?_
          refine st H4 (eqi rfl rfl) ?_
          refine wl_nil ?_
          refine cw_cond_f rfl (by decide) ?_
          refine cw_skip ?_
          refine cw_seq ?_
          refine cw_region rfl ?_
          refine st H4 (mv rfl) ?_
          refine st H4 (sub rfl rfl (by omega) (by omega)) ?_
          refine st H4 (cv Tryz.underlying3 Tryz.underlying182 rfl) ?_
          refine st H4 (shl63 rfl rfl) ?_
          refine st H4 (asg rfl) ?_
          refine wl_nil ?_
          refine cw_seq ?_
          refine cw_seq ?_
          refine cw_region rfl ?_
          refine st H4 (mv rfl) ?_
          refine st H4 (notb rfl) ?_
          refine st H4 (mv rfl) ?_
          refine gon rfl rfl rfl ?_
          refine st H4 (mv rfl) ?_
          refine gon rfl rfl rfl ?_
          refine st H4 (mv rfl) ?_
          refine gon rfl rfl rfl ?_
          refine st H4 (gei rfl rfl) ?_
          refine st H4 (pk_t rfl rfl rfl) ?_
          refine wl_nil ?_
          refine cw_cond_t rfl (by decide) ?_
          refine cw_seq ?_
          refine cw_region rfl ?_
          refine st H4 (mv rfl) ?_
          refine st H4 (subw rfl rfl) ?_
          refine st H4 (cv Tryz.underlying145 Tryz.underlying2 rfl) ?_
          refine st H4 (mki nif183 rfl) ?_
          refine st H4 (asg rfl) ?_
          refine st H4 (asg rfl) ?_
          refine wl_nil ?_
          refine cw_ret ?_
          refine ret2 rfl rfl rfl ?_
          exact Or.inr ⟨by first | omega | (simp at *; omega), ⟨_, rfl⟩, H4⟩
theorem toError_c (f s : ByteArray) (a b : Int) (H : Own g L w) (hsz : s.size ≤ 140737488355327) : Calls Pg 167 #[.string f, .string s, .int .i64 a, .int .i64 b, .iface 183 (.int .i64 1)] w fun e w' => ∃ x, e = .returned (.iface 186 x) ∧ Own g L w' := by
  refine calls_cw (vs := [_, _, _, _, _]) Tryz.func167 rfl rfl rfl ?_
  refine cw_seq ?_
  refine cw_region rfl ?_
  refine st H (asg rfl) ?_
  refine wl_nil ?_
  refine cw_seq ?_
  refine cw_seq ?_
  refine cw_region rfl ?_
  refine st H (mv rfl) ?_
  refine wl_nil ?_
  refine cw_block ?_
  refine cw_seq ?_
  refine cw_region rfl ?_
  refine st H (mki nif183 rfl) ?_
  refine st H (eqI Tryz.underlying98 ii183.1 ii183.2 Tryz.underlying183 rfl rfl) ?_
  refine st H (asg rfl) ?_
  refine wl_nil ?_
  refine cw_cond_f rfl (by decide) ?_
  refine cw_seq ?_
  refine cw_region rfl ?_
  refine st H (mki nif183 rfl) ?_
  refine st H (eqI Tryz.underlying98 ii183.1 ii183.2 Tryz.underlying183 rfl rfl) ?_
  refine st H (asg rfl) ?_
  refine wl_nil ?_
  refine cw_cond_t rfl (by decide) ?_
  refine cw_seq ?_
  refine cw_region rfl ?_
  refine st H (mv rfl) ?_
  refine st H (mv rfl) ?_
  refine st_call cf195 rfl (rangeError_c _ _ H hsz) ?_
  rintro _ w2 ⟨eb, rfl, H1⟩
  refine st H1 (mki nif186 rfl) ?_
  refine st H1 (asg rfl) ?_
  refine wl_nil ?_
  refine cw_ret ?_
  refine ret1 rfl rfl ?_
  exact ⟨_, rfl, H1⟩
theorem parseInt_c (s : ByteArray) (H : Own g L w) (hne : s.size ≠ 0) (hd : Digs s) (hsz : s.size ≤ 140737488355327) : Calls Pg 131 #[.string s, .int .i64 10, .int .i64 64] w fun e w' => (decV s s.size ≤ 9223372036854775807 ∧ e = .returned (.tuple #[.int .i64 (decV s s.size), .nilIface]) ∧ Own g L w') ∨ (9223372036854775807 < decV s s.size ∧ (∃ v x, e = .returned (.tuple #[.int .i64 v, .iface 186 x])) ∧ Own g L w') := by
  refine calls_cw (vs := [_, _, _]) Tryz.func131 rfl rfl rfl ?_
  refine cw_seq ?_
  refine cw_region rfl ?_
  refine st H (asg rfl) ?_
  refine st H (asg rfl) ?_
  refine wl_nil ?_
  refine cw_seq ?_
  refine cw_region rfl ?_
  refine st H (mv rfl) ?_
  refine st H (mv rfl) ?_
  refine st H (mv rfl) ?_
  refine st_call cf166 rfl (parseInt0_c _ H hne hd hsz) ?_
  rintro e w2 hpH1
  rcases hpH1 with ⟨hv, rfl, H1⟩ | ⟨hv, ⟨v0, rfl⟩, H1⟩
  · refine st H1 (mv rfl) ?_
    refine st H1 (ext rfl rfl) ?_
    refine st H1 (ext rfl rfl) ?_
    refine st H1 (asg rfl) ?_
    refine st H1 (asg rfl) ?_
    refine wl_nil ?_
    refine cw_seq ?_
    refine cw_seq ?_
    refine cw_region rfl ?_
    refine st H1 (mv rfl) ?_
    refine st H1 (nin Tryz.underlying98 rfl) ?_
    refine wl_nil ?_
    refine cw_cond_f rfl rfl ?_
    refine cw_skip ?_
    refine cw_seq ?_
    refine cw_region rfl ?_
    refine st H1 (mv rfl) ?_
    refine st H1 (asg rfl) ?_
    refine st H1 (asg rfl) ?_
    refine wl_nil ?_
    refine cw_ret ?_
    refine ret2 rfl rfl rfl ?_
    exact Or.inl ⟨hv, rfl, H1⟩
  · refine st H1 (mv rfl) ?_
    refine st H1 (ext rfl rfl) ?_
    refine st H1 (ext rfl rfl) ?_
    refine st H1 (asg rfl) ?_
    refine st H1 (asg rfl) ?_
    refine wl_nil ?_
    refine cw_seq ?_
    refine cw_seq ?_
    refine cw_region rfl ?_
    refine st H1 (mv rfl) ?_
    refine st H1 (nii Tryz.underlying98 rfl) ?_
    refine wl_nil ?_
    refine cw_cond_t rfl rfl ?_
    refine cw_seq ?_
    refine cw_region rfl ?_
    refine st H1 (mv rfl) ?_
    refine st H1 (mv rfl) ?_
    refine st H1 (mv rfl) ?_
    refine st H1 (mv rfl) ?_
    refine st H1 (mv rfl) ?_
    refine st_call cf167 rfl (toError_c _ _ _ _ H1 hsz) ?_
    rintro _ w4 ⟨ex, rfl, H3⟩
    refine st H3 (asg rfl) ?_
    refine st H3 (asg rfl) ?_
    refine wl_nil ?_
    refine cw_ret ?_
    refine ret2 rfl rfl rfl ?_
    exact Or.inr ⟨hv, ⟨_, _, rfl⟩, H3⟩
theorem digit_c (c : Int) (H : Own g L w) : Calls Pg 97 #[.int .u8 c] w fun e w' => e = .returned (.bool (digitB c)) ∧ Own g L w' := by
  refine calls_cw (vs := [_]) Tryz.func97 rfl rfl rfl ?_
  refine cw_seq ?_
  refine cw_region rfl ?_
  refine st H (asg rfl) ?_
  refine wl_nil ?_
  refine cw_seq ?_
  refine cw_region rfl ?_
  refine st H (mv rfl) ?_
  refine st H (gei rfl rfl) ?_
  refine st H (mv rfl) ?_
  refine wl_case (t := 5) rfl (fun hg1 => ?_) (fun hg1 => ?_)
  · have hp1 := hg1
    try simp at hp1
    refine gon rfl rfl hg1 ?_
    refine st H (mv rfl) ?_
    refine gon rfl rfl hg1 ?_
    refine st H (lei rfl rfl) ?_
    refine st H (pk_t rfl hg1 rfl) ?_
    refine st H (asg rfl) ?_
    refine wl_nil ?_
    refine cw_ret ?_
    refine ret1 rfl rfl ?_
    exact ⟨by simp [digitB, hp1] <;> omega, H⟩
  · have hp1 := hg1
    try simp at hp1
    refine goff rfl rfl hg1 ?_
    refine goff rfl rfl hg1 ?_
    refine st H (pk_f rfl hg1 rfl) ?_
    refine st H (asg rfl) ?_
    refine wl_nil ?_
    refine cw_ret ?_
    refine ret1 rfl rfl ?_
    exact ⟨by simp [digitB, hp1] <;> omega, H⟩
theorem blank_c (c : Int) (H : Own g L w) : Calls Pg 51 #[.int .u8 c] w fun e w' => e = .returned (.bool (blankB c)) ∧ Own g L w' := by
  refine calls_cw (vs := [_]) Tryz.func51 rfl rfl rfl ?_
  refine cw_seq ?_
  refine cw_region rfl ?_
  refine st H (asg rfl) ?_
  refine wl_nil ?_
  refine cw_seq ?_
  refine cw_region rfl ?_
  refine st H (mv rfl) ?_
  refine st H (eqi rfl rfl) ?_
  refine st H (mv rfl) ?_
  refine wl_case (t := 5) rfl (fun hg1 => ?_) (fun hg1 => ?_)
  · have hp1 := hg1
    try simp at hp1
    refine goff rfl rfl hg1 ?_
    refine goff rfl rfl hg1 ?_
    refine st H (pk_t rfl hg1 rfl) ?_
    refine st H (mv rfl) ?_
    refine goff rfl rfl rfl ?_
    refine goff rfl rfl rfl ?_
    refine st H (pk_t rfl rfl rfl) ?_
    refine st H (asg rfl) ?_
    refine wl_nil ?_
    refine cw_ret ?_
    refine ret1 rfl rfl ?_
    exact ⟨by simp [blankB, hp1], H⟩
  · have hp1 := hg1
    try simp at hp1
    refine gon rfl rfl hg1 ?_
    refine st H (mv rfl) ?_
    refine gon rfl rfl hg1 ?_
    refine st H (eqi rfl rfl) ?_
    refine st H (pk_f rfl hg1 rfl) ?_
    refine st H (mv rfl) ?_
    refine wl_case (t := 9) rfl (fun hg2 => ?_) (fun hg2 => ?_)
    · have hp2 := hg2
      try simp at hp2
      refine goff rfl rfl hg2 ?_
      refine goff rfl rfl hg2 ?_
      refine st H (pk_t rfl hg2 rfl) ?_
      refine st H (asg rfl) ?_
      refine wl_nil ?_
      refine cw_ret ?_
      refine ret1 rfl rfl ?_
      exact ⟨by simp [blankB, hp1, hp2], H⟩
    · have hp2 := hg2
      try simp at hp2
      refine gon rfl rfl hg2 ?_
      refine st H (mv rfl) ?_
      refine gon rfl rfl hg2 ?_
      refine st H (eqi rfl rfl) ?_
      refine st H (pk_f rfl hg2 rfl) ?_
      refine st H (asg rfl) ?_
      refine wl_nil ?_
      refine cw_ret ?_
      refine ret1 rfl rfl ?_
      exact ⟨by simp [blankB, hp1, hp2], H⟩
theorem feed_c (c : Int) (H : Own g L w) : Calls Pg 53 #[.int .u8 c] w fun e w' => e = .returned (.bool (decide (c ≠ 10))) ∧ Own g L w' := by
  refine calls_cw (vs := [_]) Tryz.func53 rfl rfl rfl ?_
  refine cw_seq ?_
  refine cw_region rfl ?_
  refine st H (asg rfl) ?_
  refine wl_nil ?_
  refine cw_seq ?_
  refine cw_region rfl ?_
  refine st H (mv rfl) ?_
  refine st H (nei rfl rfl) ?_
  refine st H (asg rfl) ?_
  refine wl_nil ?_
  refine cw_ret ?_
  refine ret1 rfl rfl ?_
  exact ⟨rfl, H⟩
theorem letter_c (c : Int) (H : Own g L w) (h0 : 0 ≤ c) (h1 : c ≤ 255) : Calls Pg 95 #[.int .u8 c] w fun e w' => e = .returned (.bool (letterB c)) ∧ Own g L w' := by
  refine calls_cw (vs := [_]) Tryz.func95 rfl rfl rfl ?_
  have hlo : ((decide (97 ≤ or8 c 32) && decide (or8 c 32 ≤ 122)) || decide (c = 95)) = letterB c := by
    have h2 := letter_or ⟨c.toNat, by omega⟩
    simpa [show ((c.toNat : Nat) : Int) = c by omega] using h2
  refine cw_seq ?_
  refine cw_region rfl ?_
  refine st H (asg rfl) ?_
  refine wl_nil ?_
  refine cw_seq ?_
  refine cw_region rfl ?_
  refine st H (mv rfl) ?_
  refine st H (orb rfl rfl) ?_
  refine st H (gei rfl rfl) ?_
  refine st H (mv rfl) ?_
  refine wl_case (t := 6) rfl (fun hg1 => ?_) (fun hg1 => ?_)
  · have hp1 := hg1
    try simp at hp1
    refine gon rfl rfl hg1 ?_
    refine st H (mv rfl) ?_
    refine gon rfl rfl hg1 ?_
    refine st H (orb rfl rfl) ?_
    refine gon rfl rfl hg1 ?_
    refine st H (lei rfl rfl) ?_
    refine st H (pk_t rfl hg1 rfl) ?_
    refine st H (mv rfl) ?_
    refine wl_case (t := 11) rfl (fun hg2 => ?_) (fun hg2 => ?_)
    · have hp2 := hg2
      try simp at hp2
      refine goff rfl rfl hg2 ?_
      refine goff rfl rfl hg2 ?_
      refine st H (pk_t rfl hg2 rfl) ?_
      refine st H (asg rfl) ?_
      refine wl_nil ?_
      refine cw_ret ?_
      refine ret1 rfl rfl ?_
      exact ⟨by rw [← hlo]; simp [hp1, hp2] <;> omega, H⟩
    · have hp2 := hg2
      try simp at hp2
      refine gon rfl rfl hg2 ?_
      refine st H (mv rfl) ?_
      refine gon rfl rfl hg2 ?_
      refine st H (eqi rfl rfl) ?_
      refine st H (pk_f rfl hg2 rfl) ?_
      refine st H (asg rfl) ?_
      refine wl_nil ?_
      refine cw_ret ?_
      refine ret1 rfl rfl ?_
      exact ⟨by rw [← hlo]; simp [hp1, hp2] <;> omega, H⟩
  · have hp1 := hg1
    try simp at hp1
    refine goff rfl rfl hg1 ?_
    refine goff rfl rfl hg1 ?_
    refine goff rfl rfl hg1 ?_
    refine st H (pk_f rfl hg1 rfl) ?_
    refine st H (mv rfl) ?_
    refine gon rfl rfl rfl ?_
    refine st H (mv rfl) ?_
    refine gon rfl rfl rfl ?_
    refine st H (eqi rfl rfl) ?_
    refine st H (pk_f rfl rfl rfl) ?_
    refine st H (asg rfl) ?_
    refine wl_nil ?_
    refine cw_ret ?_
    refine ret1 rfl rfl ?_
    exact ⟨by rw [← hlo]; simp [hp1] <;> omega, H⟩
theorem word_c (c : Int) (H : Own g L w) (h0 : 0 ≤ c) (h1 : c ≤ 255) : Calls Pg 96 #[.int .u8 c] w fun e w' => e = .returned (.bool (letterB c || digitB c)) ∧ Own g L w' := by
  refine calls_cw (vs := [_]) Tryz.func96 rfl rfl rfl ?_
  refine cw_seq ?_
  refine cw_region rfl ?_
  refine st H (asg rfl) ?_
  refine wl_nil ?_
  refine cw_seq ?_
  refine cw_region rfl ?_
  refine st H (mv rfl) ?_
  refine st_call cf95 rfl (letter_c _ H h0 h1) ?_
  rintro _ w2 ⟨rfl, H1⟩
  refine st H1 (mv rfl) ?_
  refine wl_case (t := 5) rfl (fun hg3 => ?_) (fun hg3 => ?_)
  · have hp3 := hg3
    try simp at hp3
    refine goff rfl rfl hg3 ?_
    refine goff rfl rfl hg3 ?_
    refine st H1 (pk_t rfl hg3 rfl) ?_
    refine st H1 (asg rfl) ?_
    refine wl_nil ?_
    refine cw_ret ?_
    refine ret1 rfl rfl ?_
    exact ⟨by simp [hp3], H1⟩
  · have hp3 := hg3
    try simp at hp3
    refine gon rfl rfl hg3 ?_
    refine st H1 (mv rfl) ?_
    refine gon rfl rfl hg3 ?_
    refine st_call cf97 rfl (digit_c _ H1) ?_
    rintro _ w5 ⟨rfl, H4⟩
    refine st H4 (pk_f rfl hg3 rfl) ?_
    refine st H4 (asg rfl) ?_
    refine wl_nil ?_
    refine cw_ret ?_
    refine ret1 rfl rfl ?_
    exact ⟨by simp [hp3], H4⟩
theorem whole_c (s : ByteArray) (H : Own g L w) (hne : s.size ≠ 0) (hd : Digs s) (hsz : s.size ≤ 140737488355327) (hr : runS digitB s 0 = s.size) : Calls Pg 98 #[.string s] w fun e w' => (∃ v, wholeS s = some v ∧ e = .returned (.tuple #[.int .i64 v, .int .i64 0]) ∧ Own g L w') ∨ (wholeS s = none ∧ e = .returned (.tuple #[.int .i64 0, .int .i64 201]) ∧ Own g L w') := by
  refine calls_cw (vs := [_]) Tryz.func98 rfl rfl rfl ?_
  have hd0 := hd 0 (by omega)
  have hg0 : digitB (byteAt s 0) = true := by simp [digitB]; omega
  refine cw_seq ?_
  refine cw_region rfl ?_
  refine st H (asg rfl) ?_
  refine st H (asg rfl) ?_
  refine wl_nil ?_
  refine cw_seq ?_
  refine cw_region rfl ?_
  refine st H (mv rfl) ?_
  refine st_call cf131 rfl (parseInt_c _ H hne hd hsz) ?_
  rintro e w2 hpH1
  rcases hpH1 with ⟨hv, rfl, H1⟩ | ⟨hv, ⟨v0, x0, rfl⟩, H1⟩
  · refine st H1 (mv rfl) ?_
    refine st H1 (ext rfl rfl) ?_
    refine st H1 (ext rfl rfl) ?_
    refine st H1 (asg rfl) ?_
    refine st H1 (asg rfl) ?_
    refine wl_nil ?_
    refine cw_seq ?_
    refine cw_seq ?_
    refine cw_region rfl ?_
    refine st H1 (mv rfl) ?_
    refine st H1 (nin Tryz.underlying98 rfl) ?_
    refine st H1 (mv rfl) ?_
    refine gon rfl rfl rfl ?_
    refine st H1 (mv rfl) ?_
    refine gon rfl rfl rfl ?_
    refine st H1 (ixs Tryz.underlying9 rfl rfl (0) rfl (by omega)) ?_
    refine gon rfl rfl rfl ?_
    refine st_call cf97 rfl (digit_c _ H1) ?_
    rintro _ w4 ⟨rfl, H3⟩
    refine gon rfl rfl rfl ?_
    refine st H3 (notb rfl) ?_
    refine st H3 (pk_f rfl rfl rfl) ?_
    refine st H3 (mv rfl) ?_
    refine wl_case (t := 19) rfl (fun hg5 => ?_) (fun hg5 => ?_)
    · have hp5 := hg5
      try simp at hp5
      refine goff rfl rfl hg5 ?_
      refine goff rfl rfl hg5 ?_
      refine goff rfl rfl hg5 ?_
      refine goff rfl rfl hg5 ?_
      refine goffu rfl rfl ?_
      refine goffu rfl rfl ?_
      refine goffu rfl rfl ?_
      refine goff rfl rfl hg5 ?_
      refine st H3 (pk_t rfl hg5 rfl) ?_
      refine wl_nil ?_
      refine cw_cond_t rfl rfl ?_
      refine cw_seq ?_
      refine cw_region rfl ?_
      refine st H3 (asg rfl) ?_
      refine st H3 (asg rfl) ?_
      refine wl_nil ?_
      refine cw_ret ?_
      refine ret2 rfl rfl rfl ?_
      exact Or.inr ⟨by unfold wholeS; simp_all <;> omega, rfl, H3⟩
    · have hp5 := hg5
      try simp at hp5
      refine gon rfl rfl hg5 ?_
      refine st H3 (mv rfl) ?_
      refine gon rfl rfl hg5 ?_
      refine st H3 (ixs Tryz.underlying9 rfl rfl (0) rfl (by omega)) ?_
      refine gon rfl rfl hg5 ?_
      refine st H3 (eqi rfl rfl) ?_
      refine gon rfl rfl hg5 ?_
      refine st H3 (mv rfl) ?_
      refine wl_case (t := 23) rfl (fun hg6 => ?_) (fun hg6 => ?_)
      · have hp6 := hg6
        try simp at hp6
        refine gon rfl rfl hg6 ?_
        refine st H3 (mv rfl) ?_
        refine gon rfl rfl hg6 ?_
        refine st H3 (lens Tryz.underlying9 rfl) ?_
        refine gon rfl rfl hg6 ?_
        refine st H3 (gti rfl rfl) ?_
        refine gon rfl rfl hg5 ?_
        refine st H3 (pk_t rfl hg6 rfl) ?_
        refine st H3 (pk_f rfl hg5 rfl) ?_
        refine wl_nil ?_
        refine cw_cond rfl (fun hb7 => ?_) (fun hb7 => ?_)
        · have hp7 := hb7
          try simp at hp7
          refine cw_seq ?_
          refine cw_region rfl ?_
          refine st H3 (asg rfl) ?_
          refine st H3 (asg rfl) ?_
          refine wl_nil ?_
          refine cw_ret ?_
          refine ret2 rfl rfl rfl ?_
          exact Or.inr ⟨by unfold wholeS; simp_all <;> omega, rfl, H3⟩
        · have hp7 := hb7
          try simp at hp7
          refine cw_skip ?_
          refine cw_seq ?_
          refine cw_region rfl ?_
          refine st H3 (mv rfl) ?_
          refine st H3 (asg rfl) ?_
          refine st H3 (asg rfl) ?_
          refine wl_nil ?_
          refine cw_ret ?_
          refine ret2 rfl rfl rfl ?_
          exact Or.inl ⟨_, by unfold wholeS; simp_all <;> omega, rfl, H3⟩
      · have hp6 := hg6
        try simp at hp6
        refine goff rfl rfl hg6 ?_
        refine goff rfl rfl hg6 ?_
        refine goff rfl rfl hg6 ?_
        refine gon rfl rfl hg5 ?_
        refine st H3 (pk_f rfl hg6 rfl) ?_
        refine st H3 (pk_f rfl hg5 rfl) ?_
        refine wl_nil ?_
        refine cw_cond_f rfl rfl ?_
        refine cw_skip ?_
        refine cw_seq ?_
        refine cw_region rfl ?_
        refine st H3 (mv rfl) ?_
        refine st H3 (asg rfl) ?_
        refine st H3 (asg rfl) ?_
        refine wl_nil ?_
        refine cw_ret ?_
        refine ret2 rfl rfl rfl ?_
        exact Or.inl ⟨_, by unfold wholeS; simp_all <;> omega, rfl, H3⟩
  · refine st H1 (mv rfl) ?_
    refine st H1 (ext rfl rfl) ?_
    refine st H1 (ext rfl rfl) ?_
    refine st H1 (asg rfl) ?_
    refine st H1 (asg rfl) ?_
    refine wl_nil ?_
    refine cw_seq ?_
    refine cw_seq ?_
    refine cw_region rfl ?_
    refine st H1 (mv rfl) ?_
    refine st H1 (nii Tryz.underlying98 rfl) ?_
    refine st H1 (mv rfl) ?_
    refine goff rfl rfl rfl ?_
    refine goff rfl rfl rfl ?_
    refine goff rfl rfl rfl ?_
    refine goff rfl rfl rfl ?_
    refine st H1 (pk_t rfl rfl rfl) ?_
    refine st H1 (mv rfl) ?_
    refine goff rfl rfl rfl ?_
    refine goff rfl rfl rfl ?_
    refine goff rfl rfl rfl ?_
    refine goff rfl rfl rfl ?_
    refine goffu rfl rfl ?_
    refine goffu rfl rfl ?_
    refine goffu rfl rfl ?_
    refine goff rfl rfl rfl ?_
    refine st H1 (pk_t rfl rfl rfl) ?_
    refine wl_nil ?_
    refine cw_cond_t rfl rfl ?_
    refine cw_seq ?_
    refine cw_region rfl ?_
    refine st H1 (asg rfl) ?_
    refine st H1 (asg rfl) ?_
    refine wl_nil ?_
    refine cw_ret ?_
    refine ret2 rfl rfl rfl ?_
    exact Or.inr ⟨by unfold wholeS; simp_all <;> omega, rfl, H1⟩
/-- What says of a byte whether it is so. -/
def PredC (g : World) (f : Nat) (p : Int → Bool) : Prop := ∀ c w L, Own g L w → 0 ≤ c → c ≤ 255 → Calls Pg f #[.int .u8 c] w fun e w' => e = .returned (.bool (p c)) ∧ Own g L w'
theorem runF_le (p : Int → Bool) (s : ByteArray) : ∀ f i, runF p s f i ≤ f
  | 0, _ => Nat.le_refl _
  | f + 1, i => by
    unfold runF
    split
    · split
      · have := runF_le p s f (i + 1); omega
      · omega
    · omega
theorem run_c {f0 : Nat} {p : Int → Bool} (hp : PredC g f0 p) (hcf : CF Pg f0) (s : ByteArray) (at_ : Nat) (H : Own g L w) (hat : at_ ≤ s.size) (hsz : s.size ≤ 140737488355327) : Calls Pg 50 #[.string s, .int .i64 at_, .func (.func f0) #[] #[]] w fun e w' => e = .returned (.int .i64 (runS p s at_)) ∧ Own g L w' := by
  refine calls_cw (vs := [_, _, _]) Tryz.func50 rfl rfl rfl ?_
  refine cw_seq ?_
  refine cw_region rfl ?_
  refine st H (asg rfl) ?_
  refine wl_nil ?_
  refine cw_seq ?_
  refine cw_region rfl ?_
  refine st H (asg rfl) ?_
  refine wl_nil ?_
  refine cw_seq ?_
  refine cw_block ?_
  refine cw_loop (σ := Nat) (fun n => [(0, .string s), (1, .int .i64 at_), (2, .func (.func f0) #[] #[]), (7, .int .i64 n)]) (fun n w => Own g L w ∧ at_ + n ≤ s.size ∧ runF p s (s.size - at_) at_ = n + runF p s (s.size - at_ - n) (at_ + n)) (fun n => s.size - n) 0 ⟨rfl, rfl, rfl, rfl, trivial⟩ ⟨H, by omega, by simp⟩ ?_
  rintro n w2 ⟨H1, hn, hx⟩
  refine cw_seq ?_
  refine cw_seq ?_
  refine cw_region rfl ?_
  refine st H1 (mv rfl) ?_
  refine st H1 (mv rfl) ?_
  refine st H1 (add rfl rfl (by omega) (by omega)) ?_
  refine st H1 (mv rfl) ?_
  refine st H1 (lens Tryz.underlying9 rfl) ?_
  refine st H1 (lti rfl rfl) ?_
  refine st H1 (mv rfl) ?_
  refine wl_case (t := 14) rfl (fun hg3 => ?_) (fun hg3 => ?_)
  · have hp3 := hg3
    try simp at hp3
    refine gon rfl rfl hg3 ?_
    refine st H1 (mv rfl) ?_
    refine gon rfl rfl hg3 ?_
    refine st H1 (mv rfl) ?_
    refine gon rfl rfl hg3 ?_
    refine st H1 (mv rfl) ?_
    refine gon rfl rfl hg3 ?_
    refine st H1 (mv rfl) ?_
    refine gon rfl rfl hg3 ?_
    refine st H1 (add rfl rfl (by omega) (by omega)) ?_
    refine gon rfl rfl hg3 ?_
    refine st H1 (ixs Tryz.underlying9 rfl rfl (at_ + n) (by omega) (by omega)) ?_
    refine gon rfl rfl hg3 ?_
    refine st_callv rfl hcf rfl rfl (hp _ _ _ H1 (byteAt_nn _ _).1 (byteAt_nn _ _).2) ?_
    rintro _ w5 ⟨rfl, H4⟩
    refine st H4 (pk_t rfl hg3 rfl) ?_
    refine wl_nil ?_
    refine cw_cond rfl (fun hb6 => ?_) (fun hb6 => ?_)
    · have hp6 := hb6
      try simp at hp6
      refine cw_skip ?_
      refine cw_block ?_
      refine cw_region rfl ?_
      refine st H4 (mv rfl) ?_
      refine st H4 (add rfl rfl (by omega) (by omega)) ?_
      refine st H4 (asg rfl) ?_
      refine wl_nil ?_
      exact ⟨n + 1, ⟨rfl, rfl, rfl, rfl, trivial⟩, ⟨H4, by omega, by rw [hx, show s.size - at_ - n = s.size - at_ - (n + 1) + 1 by omega, runF, if_pos (by omega), if_pos (by assumption)]; simp only [show at_ + n + 1 = at_ + (n + 1) by omega]; omega⟩, by omega⟩
    · have hp6 := hb6
      try simp at hp6
      refine cw_exit ?_
      refine cw_seq ?_
      refine cw_region rfl ?_
      refine st H4 (mv rfl) ?_
      refine st H4 (asg rfl) ?_
      refine wl_nil ?_
      refine cw_ret ?_
      refine ret1 rfl rfl ?_
      exact ⟨by rw [runS, hx]; rw [show s.size - at_ - n = s.size - at_ - (n + 1) + 1 by omega, runF, if_pos (by omega), if_neg (by simp_all)]; simp, H4⟩
  · have hp3 := hg3
    try simp at hp3
    refine goff rfl rfl hg3 ?_
    refine goff rfl rfl hg3 ?_
    refine goff rfl rfl hg3 ?_
    refine goff rfl rfl hg3 ?_
    refine goff rfl rfl hg3 ?_
    refine goff rfl rfl hg3 ?_
    refine goff rfl rfl hg3 ?_
    refine st H1 (pk_f rfl hg3 rfl) ?_
    refine wl_nil ?_
    refine cw_cond_f rfl rfl ?_
    refine cw_exit ?_
    refine cw_seq ?_
    refine cw_region rfl ?_
    refine st H1 (mv rfl) ?_
    refine st H1 (asg rfl) ?_
    refine wl_nil ?_
    refine cw_ret ?_
    refine ret1 rfl rfl ?_
    exact ⟨by rw [runS, hx]; rw [show s.size - at_ - n = 0 by omega]; simp [runF], H1⟩
end
end Go.Proofs.YtmkijgmfefkgeaaGreatDoor
