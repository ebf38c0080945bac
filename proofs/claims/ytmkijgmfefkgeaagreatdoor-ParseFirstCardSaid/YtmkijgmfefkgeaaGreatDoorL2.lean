/- The lexer's tokens. -/
import Derived.Test.YtmkijgmfefkgeaaGreatDoorL
set_option autoImplicit false
set_option linter.unusedVariables false
set_option linter.unusedSimpArgs false
set_option linter.unusedSectionVars false
namespace Go.Proofs.YtmkijgmfefkgeaaGreatDoor
open Go
theorem runS_le (p : Int → Bool) (s : ByteArray) (i : Nat) (h : i ≤ s.size) : i + runS p s i ≤ s.size := by
  have := runF_le p s (s.size - i) i
  unfold runS
  omega
theorem runF_all (p : Int → Bool) (s : ByteArray) : ∀ f i j, j < runF p s f i → p (byteAt s (i + j)) = true
  | 0, i, j, h => by simp [runF] at h
  | f + 1, i, j, h => by
    unfold runF at h
    split at h
    · split at h
      · cases j with
        | zero => assumption
        | succ j =>
          have := runF_all p s f (i + 1) j (by omega)
          rwa [show i + 1 + j = i + (j + 1) by omega] at this
      · omega
    · omega
theorem runS_all {p : Int → Bool} {s : ByteArray} {j : Nat} (h : j < runS p s 0) : p (byteAt s j) = true := by
  have := runF_all p s (s.size - 0) 0 j h
  simpa using this
theorem runS_pos {p : Int → Bool} {s : ByteArray} (h0 : s.size ≠ 0) (h : p (byteAt s 0) = true) : 1 ≤ runS p s 0 := by
  unfold runS
  obtain ⟨k, hk⟩ : ∃ k, s.size - 0 = k + 1 := ⟨s.size - 1, by omega⟩
  rw [hk, runF, if_pos (by omega), if_pos h]
  omega
theorem runF_full {p : Int → Bool} {s : ByteArray} (h : ∀ i, i < s.size → p (byteAt s i) = true) : ∀ f i, i + f = s.size → runF p s f i = f
  | 0, _, _ => rfl
  | f + 1, i, hi => by
    rw [runF, if_pos (by omega), if_pos (h i (by omega)), runF_full h f (i + 1) (by omega)]
theorem runS_full {p : Int → Bool} {s : ByteArray} (h : ∀ i, i < s.size → p (byteAt s i) = true) : runS p s 0 = s.size := by
  unfold runS
  rw [runF_full h _ _ (by omega)]
  omega
theorem byteAt_ext {s : ByteArray} {n j : Nat} (hn : n ≤ s.size) (hj : j < n) : byteAt (s.extract 0 n) j = byteAt s j := by
  have h1 : j < (s.extract 0 n).size := by simp; omega
  rw [byteAt_get h1, byteAt_get (show j < s.size by omega)]
  simp [ByteArray.data_extract]
theorem ext_size {s : ByteArray} {n : Nat} (hn : n ≤ s.size) : (s.extract 0 n).size = n := by simp; omega
theorem digs_ext {s : ByteArray} : Digs (s.extract 0 (runS digitB s 0)) := by
  have hle := runS_le digitB s 0 (by omega)
  intro i hi
  rw [ext_size (by omega)] at hi
  rw [byteAt_ext (by omega) hi]
  have := runS_all hi
  simp only [digitB, Bool.and_eq_true, decide_eq_true_eq] at this
  exact this
theorem run_ext {s : ByteArray} : runS digitB (s.extract 0 (runS digitB s 0)) 0 = (s.extract 0 (runS digitB s 0)).size :=
  runS_full fun i hi => by
    have := digs_ext i hi
    simp [digitB, this.1, this.2]
theorem ext2 {s : ByteArray} (h : 1 < s.size) (a b : UInt8) : (s.extract 0 2 = ⟨#[a, b]⟩) = (byteAt s 0 = (a.toNat : Int) ∧ byteAt s 1 = (b.toNat : Int)) := by
  have h0 := byteAt_get (s := s) (i := 0) (by omega)
  have h1 := byteAt_get (s := s) (i := 1) (by omega)
  have e : s.extract 0 2 = ⟨#[s.data.toList[0]'(by simp; omega), s.data.toList[1]'(by simp; omega)]⟩ := by
    apply ByteArray.ext
    apply Array.ext'
    simp only [ByteArray.data_extract, Array.toList_extract]
    have key2 : ∀ (l : List UInt8) (h : 1 < l.length), l.extract 0 2 = [l[0]'(by omega), l[1]'h] := by
      intro l h
      match l, h with
      | x :: y :: r, _ => simp [List.extract]
    exact key2 _ (by simpa using h)
  rw [e, h0, h1]
  generalize s.data.toList[0]'_ = x
  generalize s.data.toList[1]'_ = y
  have key : ∀ u v : UInt8, ((u.toNat : Int) = (v.toNat : Int)) = (u = v) := fun u v => by
    apply propext
    constructor
    · intro h; exact UInt8.toNat_inj.1 (by omega)
    · intro h; rw [h]
  rw [key, key]
  apply propext
  constructor
  · intro h
    have h2 := congrArg (fun z : ByteArray => z.data.toList) h
    simpa using h2
  · rintro ⟨rfl, rfl⟩; rfl
theorem sign1_idx (n : Fin 256) : decide (0 ≤ Lib.indexByte [40, 41, 123, 125, 91, 93, 44, 46, 58, 61, 43, 45, 42, 47, 37, 60, 62, 33] ((n.val : Int)).toNat.toUInt8) = sign1B n.val := by
  revert n
  decide +kernel
theorem sign1_of (s : ByteArray) (i : Nat) : decide (0 ≤ Lib.indexByte [40, 41, 123, 125, 91, 93, 44, 46, 58, 61, 43, 45, 42, 47, 37, 60, 62, 33] (byteAt s i).toNat.toUInt8) = sign1B (byteAt s i) := by
  have h := byteAt_nn s i
  have h2 := sign1_idx ⟨(byteAt s i).toNat, by omega⟩
  simp only at h2
  rwa [Int.toNat_of_nonneg h.1] at h2
theorem sign2_eq {s : ByteArray} (h : 1 < s.size) : sign2B s = (decide (s.extract 0 2 = ⟨#[58, 61]⟩) || decide (s.extract 0 2 = ⟨#[61, 61]⟩) || decide (s.extract 0 2 = ⟨#[33, 61]⟩) || decide (s.extract 0 2 = ⟨#[60, 61]⟩) || decide (s.extract 0 2 = ⟨#[62, 61]⟩) || decide (s.extract 0 2 = ⟨#[38, 38]⟩) || decide (s.extract 0 2 = ⟨#[124, 124]⟩)) := by
  simp [sign2B, ext2 h, h, Bool.decide_and]
/-- Which texts stand in ')', ']', and the brace that closes. -/
theorem closing_in (l : ByteArray) : ((Lib.contains [41, 93, 125] l.data.toList && decide (l ≠ ⟨#[]⟩)) = (decide (l = ⟨#[41]⟩) || decide (l = ⟨#[93]⟩) || decide (l = ⟨#[125]⟩) || decide (l = ⟨#[41, 93]⟩) || decide (l = ⟨#[93, 125]⟩) || decide (l = ⟨#[41, 93, 125]⟩))) := by
  have key : ∀ m : List UInt8, (l = ⟨m.toArray⟩) = (l.data.toList = m) := fun m => by
    apply propext
    constructor
    · intro h; rw [h]
    · intro h; apply ByteArray.ext; apply Array.ext'; simpa using h
  have k1 := key []
  have k2 := key [41]
  have k3 := key [93]
  have k4 := key [125]
  have k5 := key [41, 93]
  have k6 := key [93, 125]
  have k7 := key [41, 93, 125]
  simp only [ne_eq] at *
  simp only [show (⟨#[]⟩ : ByteArray) = ⟨([] : List UInt8).toArray⟩ from rfl, show (⟨#[41]⟩ : ByteArray) = ⟨([41] : List UInt8).toArray⟩ from rfl, show (⟨#[93]⟩ : ByteArray) = ⟨([93] : List UInt8).toArray⟩ from rfl, show (⟨#[125]⟩ : ByteArray) = ⟨([125] : List UInt8).toArray⟩ from rfl, show (⟨#[41, 93]⟩ : ByteArray) = ⟨([41, 93] : List UInt8).toArray⟩ from rfl, show (⟨#[93, 125]⟩ : ByteArray) = ⟨([93, 125] : List UInt8).toArray⟩ from rfl, show (⟨#[41, 93, 125]⟩ : ByteArray) = ⟨([41, 93, 125] : List UInt8).toArray⟩ from rfl, k1, k2, k3, k4, k5, k6, k7]
  generalize l.data.toList = m
  match m with
  | [] => simp [Lib.contains, Lib.index]
  | [a] => simp only [Lib.contains, Lib.index, List.isPrefixOf, List.isEmpty]; by_cases h1 : a = 41 <;> by_cases h2 : a = 93 <;> by_cases h3 : a = 125 <;> simp_all
  | [a, b] => simp only [Lib.contains, Lib.index, List.isPrefixOf, List.isEmpty]; by_cases h1 : a = 41 <;> by_cases h2 : a = 93 <;> by_cases h3 : a = 125 <;> by_cases h4 : b = 93 <;> by_cases h5 : b = 125 <;> simp_all
  | [a, b, c] => simp only [Lib.contains, Lib.index, List.isPrefixOf, List.isEmpty]; by_cases h1 : a = 41 <;> by_cases h2 : a = 93 <;> by_cases h3 : a = 125 <;> by_cases h4 : b = 93 <;> by_cases h5 : b = 125 <;> by_cases h6 : c = 125 <;> simp_all
  | a :: b :: c :: d :: r => simp [Lib.contains, Lib.index, List.isPrefixOf]
section
variable {g w : World} {L : List SP} [Glo g]
theorem digit_p : PredC g 97 digitB := fun c w L H _ _ => digit_c c H
theorem word_p : PredC g 96 (fun c => letterB c || digitB c) := fun c w L H h0 h1 => word_c c H h0 h1
theorem blank_p : PredC g 51 blankB := fun c w L H _ _ => blank_c c H
theorem feed_p : PredC g 53 (fun c => decide (c ≠ 10)) := fun c w L H _ _ => feed_c c H
theorem text_c (s : ByteArray) (H : Own g L w) (hne : s.size ≠ 0) (hsz : s.size ≤ 140737488355327) : Calls Pg 99 #[.string s] w fun e w' => e = .returned (.int .i64 (textS s)) ∧ Own g L w' := by
  refine calls_cw (vs := [_]) Tryz.func99 rfl rfl rfl ?_
  refine cw_seq ?_
  refine cw_region rfl ?_
  refine st H (asg rfl) ?_
  refine wl_nil ?_
  refine cw_seq ?_
  refine cw_seq ?_
  refine cw_region rfl ?_
  refine st H (asg rfl) ?_
  refine wl_nil ?_
  refine cw_block ?_
  refine cw_loop (σ := Nat × Nat) (fun s0 => [(0, .string s), (3, .int .i64 s0.2)]) (fun s0 w => Own g L w ∧ s0.2 ≤ s.size ∧ s.size ≤ s0.1 + s0.2 ∧ textS s = textF s s0.1 s0.2) (fun s0 => s.size - s0.2) (s.size, 1) ⟨rfl, rfl, trivial⟩ ⟨H, by simp only; omega, by simp only; omega, rfl⟩ ?_
  rintro s0 w2 ⟨H1, hi, hf, hx⟩
  obtain ⟨f, i⟩ := s0
  simp only at *
  refine cw_seq ?_
  refine cw_seq ?_
  refine cw_region rfl ?_
  refine st H1 (mv rfl) ?_
  refine st H1 (mv rfl) ?_
  refine st H1 (lens Tryz.underlying9 rfl) ?_
  refine st H1 (lti rfl rfl) ?_
  refine wl_nil ?_
  refine cw_cond rfl (fun hb3 => ?_) (fun hb3 => ?_)
  · have hp3 := hb3
    try simp at hp3
    have hi0 : i < s.size := by omega
    obtain ⟨f, rfl⟩ : ∃ k, f = k + 1 := ⟨f - 1, by omega⟩
    refine cw_skip ?_
    refine cw_seq ?_
    refine cw_block ?_
    refine cw_seq ?_
    refine cw_region rfl ?_
    refine st H1 (mv rfl) ?_
    refine st H1 (mv rfl) ?_
    refine st H1 (ixs Tryz.underlying9 rfl rfl (i) (by omega) (by omega)) ?_
    refine st H1 (asg rfl) ?_
    refine wl_nil ?_
    refine cw_block ?_
    refine cw_seq ?_
    refine cw_region rfl ?_
    refine st H1 (mv rfl) ?_
    refine st H1 (eqi rfl rfl) ?_
    refine st H1 (asg rfl) ?_
    refine wl_nil ?_
    refine cw_cond rfl (fun hb4 => ?_) (fun hb4 => ?_)
    · have hp4 := hb4
      try simp at hp4
      refine cw_seq ?_
      refine cw_region rfl ?_
      refine st H1 (mv rfl) ?_
      refine st H1 (add rfl rfl (by omega) (by omega)) ?_
      refine st H1 (asg rfl) ?_
      refine wl_nil ?_
      refine cw_ret ?_
      refine ret1 rfl rfl ?_
      exact ⟨by rw [hx]; simp [textF, hp3, hi0, hp4] <;> first | omega | (exfalso; omega) | (intros; exfalso; omega), H1⟩
    · have hp4 := hb4
      try simp at hp4
      refine cw_seq ?_
      refine cw_region rfl ?_
      refine st H1 (mv rfl) ?_
      refine st H1 (eqi rfl rfl) ?_
      refine st H1 (mv rfl) ?_
      refine wl_case (t := 22) rfl (fun hg5 => ?_) (fun hg5 => ?_)
      · have hp5 := hg5
        try simp at hp5
        refine gon rfl rfl hg5 ?_
        refine st H1 (mv rfl) ?_
        refine gon rfl rfl hg5 ?_
        refine st H1 (add rfl rfl (by omega) (by omega)) ?_
        refine gon rfl rfl hg5 ?_
        refine st H1 (mv rfl) ?_
        refine gon rfl rfl hg5 ?_
        refine st H1 (lens Tryz.underlying9 rfl) ?_
        refine gon rfl rfl hg5 ?_
        refine st H1 (lti rfl rfl) ?_
        refine st H1 (pk_t rfl hg5 rfl) ?_
        refine st H1 (mv rfl) ?_
        refine wl_case (t := 29) rfl (fun hg6 => ?_) (fun hg6 => ?_)
        · have hp6 := hg6
          try simp at hp6
          have hi1 : i + 1 < s.size := by omega
          refine gon rfl rfl hg6 ?_
          refine st H1 (mv rfl) ?_
          refine gon rfl rfl hg6 ?_
          refine st H1 (mv rfl) ?_
          refine gon rfl rfl hg6 ?_
          refine st H1 (add rfl rfl (by omega) (by omega)) ?_
          refine gon rfl rfl hg6 ?_
          refine st H1 (ixs Tryz.underlying9 rfl rfl (i + 1) (by omega) (by omega)) ?_
          refine gon rfl rfl hg6 ?_
          refine st H1 (eqi rfl rfl) ?_
          refine gon rfl rfl hg6 ?_
          refine st H1 (mv rfl) ?_
          refine wl_case (t := 35) rfl (fun hg7 => ?_) (fun hg7 => ?_)
          · have hp7 := hg7
            try simp at hp7
            refine goff rfl rfl hg7 ?_
            refine goff rfl rfl hg7 ?_
            refine goff rfl rfl hg7 ?_
            refine goff rfl rfl hg7 ?_
            refine goff rfl rfl hg7 ?_
            refine gon rfl rfl hg6 ?_
            refine st H1 (pk_t rfl hg7 rfl) ?_
            refine gon rfl rfl hg6 ?_
            refine st H1 (mv rfl) ?_
            refine goff rfl rfl rfl ?_
            refine goff rfl rfl rfl ?_
            refine goff rfl rfl rfl ?_
            refine goff rfl rfl rfl ?_
            refine goff rfl rfl rfl ?_
            refine gon rfl rfl hg6 ?_
            refine st H1 (pk_t rfl rfl rfl) ?_
            refine st H1 (pk_t rfl hg6 rfl) ?_
            refine st H1 (asg rfl) ?_
            refine wl_nil ?_
            refine cw_cond_t rfl rfl ?_
            refine cw_region rfl ?_
            refine st H1 (mv rfl) ?_
            refine st H1 (add rfl rfl (by omega) (by omega)) ?_
            refine st H1 (asg rfl) ?_
            refine wl_nil ?_
            refine cw_region rfl ?_
            refine st H1 (mv rfl) ?_
            refine st H1 (add rfl rfl (by omega) (by omega)) ?_
            refine st H1 (asg rfl) ?_
            refine wl_nil ?_
            exact ⟨(f, i + 2), ⟨rfl, rfl, trivial⟩, ⟨H1, by simp only; omega, by simp only; omega, by rw [hx]; simp [textF, hp3, hi0, hp4, hp5, hi1, hp6, hp7] <;> first | omega | (exfalso; omega) | (intros; exfalso; omega)⟩, by simp only; omega⟩
          · have hp7 := hg7
            try simp at hp7
            refine gon rfl rfl hg7 ?_
            refine st H1 (mv rfl) ?_
            refine gon rfl rfl hg7 ?_
            refine st H1 (mv rfl) ?_
            refine gon rfl rfl hg7 ?_
            refine st H1 (add rfl rfl (by omega) (by omega)) ?_
            refine gon rfl rfl hg7 ?_
            refine st H1 (ixs Tryz.underlying9 rfl rfl (i + 1) (by omega) (by omega)) ?_
            refine gon rfl rfl hg7 ?_
            refine st H1 (eqi rfl rfl) ?_
            refine gon rfl rfl hg6 ?_
            refine st H1 (pk_f rfl hg7 rfl) ?_
            refine gon rfl rfl hg6 ?_
            refine st H1 (mv rfl) ?_
            refine wl_case (t := 42) rfl (fun hg8 => ?_) (fun hg8 => ?_)
            · have hp8 := hg8
              try simp at hp8
              refine goff rfl rfl hg8 ?_
              refine goff rfl rfl hg8 ?_
              refine goff rfl rfl hg8 ?_
              refine goff rfl rfl hg8 ?_
              refine goff rfl rfl hg8 ?_
              refine gon rfl rfl hg6 ?_
              refine st H1 (pk_t rfl hg8 rfl) ?_
              refine st H1 (pk_t rfl hg6 rfl) ?_
              refine st H1 (asg rfl) ?_
              refine wl_nil ?_
              refine cw_cond_t rfl rfl ?_
              refine cw_region rfl ?_
              refine st H1 (mv rfl) ?_
              refine st H1 (add rfl rfl (by omega) (by omega)) ?_
              refine st H1 (asg rfl) ?_
              refine wl_nil ?_
              refine cw_region rfl ?_
              refine st H1 (mv rfl) ?_
              refine st H1 (add rfl rfl (by omega) (by omega)) ?_
              refine st H1 (asg rfl) ?_
              refine wl_nil ?_
              exact ⟨(f, i + 2), ⟨rfl, rfl, trivial⟩, ⟨H1, by simp only; omega, by simp only; omega, by rw [hx]; simp [textF, hp3, hi0, hp4, hp5, hi1, hp6, hp7, hp8] <;> first | omega | (exfalso; omega) | (intros; exfalso; omega)⟩, by simp only; omega⟩
            · have hp8 := hg8
              try simp at hp8
              refine gon rfl rfl hg8 ?_
              refine st H1 (mv rfl) ?_
              refine gon rfl rfl hg8 ?_
              refine st H1 (mv rfl) ?_
              refine gon rfl rfl hg8 ?_
              refine st H1 (add rfl rfl (by omega) (by omega)) ?_
              refine gon rfl rfl hg8 ?_
              refine st H1 (ixs Tryz.underlying9 rfl rfl (i + 1) (by omega) (by omega)) ?_
              refine gon rfl rfl hg8 ?_
              refine st H1 (eqi rfl rfl) ?_
              refine gon rfl rfl hg6 ?_
              refine st H1 (pk_f rfl hg8 rfl) ?_
              refine st H1 (pk_t rfl hg6 rfl) ?_
              refine st H1 (asg rfl) ?_
              refine wl_nil ?_
              refine cw_cond rfl (fun hb9 => ?_) (fun hb9 => ?_)
              · have hp9 := hb9
                try simp at hp9
                refine cw_region rfl ?_
                refine st H1 (mv rfl) ?_
                refine st H1 (add rfl rfl (by omega) (by omega)) ?_
                refine st H1 (asg rfl) ?_
                refine wl_nil ?_
                refine cw_region rfl ?_
                refine st H1 (mv rfl) ?_
                refine st H1 (add rfl rfl (by omega) (by omega)) ?_
                refine st H1 (asg rfl) ?_
                refine wl_nil ?_
                exact ⟨(f, i + 2), ⟨rfl, rfl, trivial⟩, ⟨H1, by simp only; omega, by simp only; omega, by rw [hx]; simp [textF, hp3, hi0, hp4, hp5, hi1, hp6, hp7, hp8, hp9] <;> first | omega | (exfalso; omega) | (intros; exfalso; omega)⟩, by simp only; omega⟩
              · have hp9 := hb9
                try simp at hp9
                refine cw_seq ?_
                refine cw_seq ?_
                refine cw_region rfl ?_
                refine st H1 (mv rfl) ?_
                refine st H1 (eqi rfl rfl) ?_
                refine st H1 (asg rfl) ?_
                refine wl_nil ?_
                refine cw_cond rfl (fun hb10 => ?_) (fun hb10 => ?_)
                · have hp10 := hb10
                  try simp at hp10
                  refine cw_skip ?_
                  refine cw_cond_t rfl hb10 ?_
                  refine cw_seq ?_
                  refine cw_region rfl ?_
                  refine st H1 (asg rfl) ?_
                  refine wl_nil ?_
                  refine cw_ret ?_
                  refine ret1 rfl rfl ?_
                  exact ⟨by rw [hx]; simp [textF, hp3, hi0, hp4, hp5, hi1, hp6, hp7, hp8, hp9, hp10] <;> first | omega | (exfalso; omega) | (intros; exfalso; omega), H1⟩
                · have hp10 := hb10
                  try simp at hp10
                  refine cw_seq ?_
                  refine cw_region rfl ?_
                  refine st H1 (mv rfl) ?_
                  refine st H1 (lti rfl rfl) ?_
                  refine st H1 (asg rfl) ?_
                  refine wl_nil ?_
                  refine cw_cond rfl (fun hb11 => ?_) (fun hb11 => ?_)
                  · have hp11 := hb11
                    try simp at hp11
                    refine cw_skip ?_
                    refine cw_cond_t rfl hb11 ?_
                    refine cw_seq ?_
                    refine cw_region rfl ?_
                    refine st H1 (asg rfl) ?_
                    refine wl_nil ?_
                    refine cw_ret ?_
                    refine ret1 rfl rfl ?_
                    exact ⟨by rw [hx]; simp [textF, hp3, hi0, hp4, hp5, hi1, hp6, hp7, hp8, hp9, hp10, hp11] <;> first | omega | (exfalso; omega) | (intros; exfalso; omega), H1⟩
                  · have hp11 := hb11
                    try simp at hp11
                    refine cw_region rfl ?_
                    refine st H1 (mv rfl) ?_
                    refine st H1 (gti rfl rfl) ?_
                    refine st H1 (asg rfl) ?_
                    refine wl_nil ?_
                    refine cw_cond rfl (fun hb12 => ?_) (fun hb12 => ?_)
                    · have hp12 := hb12
                      try simp at hp12
                      refine cw_seq ?_
                      refine cw_region rfl ?_
                      refine st H1 (asg rfl) ?_
                      refine wl_nil ?_
                      refine cw_ret ?_
                      refine ret1 rfl rfl ?_
                      exact ⟨by rw [hx]; simp [textF, hp3, hi0, hp4, hp5, hi1, hp6, hp7, hp8, hp9, hp10, hp11, hp12] <;> first | omega | (exfalso; omega) | (intros; exfalso; omega), H1⟩
                    · have hp12 := hb12
                      try simp at hp12
                      refine cw_skip ?_
                      refine cw_region rfl ?_
                      refine st H1 (mv rfl) ?_
                      refine st H1 (add rfl rfl (by omega) (by omega)) ?_
                      refine st H1 (asg rfl) ?_
                      refine wl_nil ?_
                      exact ⟨(f, i + 1), ⟨rfl, rfl, trivial⟩, ⟨H1, by simp only; omega, by simp only; omega, by rw [hx]; simp [textF, hp3, hi0, hp4, hp5, hi1, hp6, hp7, hp8, hp9, hp10, hp11, hp12] <;> first | omega | (exfalso; omega) | (intros; exfalso; omega)⟩, by simp only; omega⟩
        · have hp6 := hg6
          try simp at hp6
          have hi1 : ¬ i + 1 < s.size := by omega
          refine goff rfl rfl hg6 ?_
          refine goff rfl rfl hg6 ?_
          refine goff rfl rfl hg6 ?_
          refine goff rfl rfl hg6 ?_
          refine goff rfl rfl hg6 ?_
          refine goff rfl rfl hg6 ?_
          refine goffu rfl rfl ?_
          refine goffu rfl rfl ?_
          refine goffu rfl rfl ?_
          refine goffu rfl rfl ?_
          refine goffu rfl rfl ?_
          refine goff rfl rfl hg6 ?_
          refine goff rfl rfl hg6 ?_
          refine goffu rfl rfl ?_
          refine goffu rfl rfl ?_
          refine goffu rfl rfl ?_
          refine goffu rfl rfl ?_
          refine goffu rfl rfl ?_
          refine goff rfl rfl hg6 ?_
          refine st H1 (pk_f rfl hg6 rfl) ?_
          refine st H1 (asg rfl) ?_
          refine wl_nil ?_
          refine cw_cond_f rfl rfl ?_
          refine cw_seq ?_
          refine cw_seq ?_
          refine cw_region rfl ?_
          refine st H1 (mv rfl) ?_
          refine st H1 (eqi rfl rfl) ?_
          refine st H1 (asg rfl) ?_
          refine wl_nil ?_
          refine cw_cond rfl (fun hb13 => ?_) (fun hb13 => ?_)
          · have hp13 := hb13
            try simp at hp13
            refine cw_skip ?_
            refine cw_cond_t rfl hb13 ?_
            refine cw_seq ?_
            refine cw_region rfl ?_
            refine st H1 (asg rfl) ?_
            refine wl_nil ?_
            refine cw_ret ?_
            refine ret1 rfl rfl ?_
            exact ⟨by rw [hx]; simp [textF, hp3, hi0, hp4, hp5, hi1, hp6, hp13] <;> first | omega | (exfalso; omega) | (intros; exfalso; omega), H1⟩
          · have hp13 := hb13
            try simp at hp13
            refine cw_seq ?_
            refine cw_region rfl ?_
            refine st H1 (mv rfl) ?_
            refine st H1 (lti rfl rfl) ?_
            refine st H1 (asg rfl) ?_
            refine wl_nil ?_
            refine cw_cond rfl (fun hb14 => ?_) (fun hb14 => ?_)
            · have hp14 := hb14
              try simp at hp14
              refine cw_skip ?_
              refine cw_cond_t rfl hb14 ?_
              refine cw_seq ?_
              refine cw_region rfl ?_
              refine st H1 (asg rfl) ?_
              refine wl_nil ?_
              refine cw_ret ?_
              refine ret1 rfl rfl ?_
              exact ⟨by rw [hx]; simp [textF, hp3, hi0, hp4, hp5, hi1, hp6, hp13, hp14] <;> first | omega | (exfalso; omega) | (intros; exfalso; omega), H1⟩
            · have hp14 := hb14
              try simp at hp14
              refine cw_region rfl ?_
              refine st H1 (mv rfl) ?_
              refine st H1 (gti rfl rfl) ?_
              refine st H1 (asg rfl) ?_
              refine wl_nil ?_
              refine cw_cond rfl (fun hb15 => ?_) (fun hb15 => ?_)
              · have hp15 := hb15
                try simp at hp15
                refine cw_seq ?_
                refine cw_region rfl ?_
                refine st H1 (asg rfl) ?_
                refine wl_nil ?_
                refine cw_ret ?_
                refine ret1 rfl rfl ?_
                exact ⟨by rw [hx]; simp [textF, hp3, hi0, hp4, hp5, hi1, hp6, hp13, hp14, hp15] <;> first | omega | (exfalso; omega) | (intros; exfalso; omega), H1⟩
              · have hp15 := hb15
                try simp at hp15
                refine cw_skip ?_
                refine cw_region rfl ?_
                refine st H1 (mv rfl) ?_
                refine st H1 (add rfl rfl (by omega) (by omega)) ?_
                refine st H1 (asg rfl) ?_
                refine wl_nil ?_
                exact ⟨(f, i + 1), ⟨rfl, rfl, trivial⟩, ⟨H1, by simp only; omega, by simp only; omega, by rw [hx]; simp [textF, hp3, hi0, hp4, hp5, hi1, hp6, hp13, hp14, hp15] <;> first | omega | (exfalso; omega) | (intros; exfalso; omega)⟩, by simp only; omega⟩
      · have hp5 := hg5
        try simp at hp5
        refine goff rfl rfl hg5 ?_
        refine goff rfl rfl hg5 ?_
        refine goff rfl rfl hg5 ?_
        refine goff rfl rfl hg5 ?_
        refine goff rfl rfl hg5 ?_
        refine st H1 (pk_f rfl hg5 rfl) ?_
        refine st H1 (mv rfl) ?_
        refine goff rfl rfl rfl ?_
        refine goff rfl rfl rfl ?_
        refine goff rfl rfl rfl ?_
        refine goff rfl rfl rfl ?_
        refine goff rfl rfl rfl ?_
        refine goff rfl rfl rfl ?_
        refine goffu rfl rfl ?_
        refine goffu rfl rfl ?_
        refine goffu rfl rfl ?_
        refine goffu rfl rfl ?_
        refine goffu rfl rfl ?_
        refine goff rfl rfl rfl ?_
        refine goff rfl rfl rfl ?_
        refine goffu rfl rfl ?_
        refine goffu rfl rfl ?_
        refine goffu rfl rfl ?_
        refine goffu rfl rfl ?_
        refine goffu rfl rfl ?_
        refine goff rfl rfl rfl ?_
        refine st H1 (pk_f rfl rfl rfl) ?_
        refine st H1 (asg rfl) ?_
        refine wl_nil ?_
        refine cw_cond_f rfl rfl ?_
        refine cw_seq ?_
        refine cw_seq ?_
        refine cw_region rfl ?_
        refine st H1 (mv rfl) ?_
        refine st H1 (eqi rfl rfl) ?_
        refine st H1 (asg rfl) ?_
        refine wl_nil ?_
        refine cw_cond rfl (fun hb16 => ?_) (fun hb16 => ?_)
        · have hp16 := hb16
          try simp at hp16
          refine cw_skip ?_
          refine cw_cond_t rfl hb16 ?_
          refine cw_seq ?_
          refine cw_region rfl ?_
          refine st H1 (asg rfl) ?_
          refine wl_nil ?_
          refine cw_ret ?_
          refine ret1 rfl rfl ?_
          exact ⟨by rw [hx]; simp [textF, hp3, hi0, hp4, hp5, hp16] <;> first | omega | (exfalso; omega) | (intros; exfalso; omega), H1⟩
        · have hp16 := hb16
          try simp at hp16
          refine cw_seq ?_
          refine cw_region rfl ?_
          refine st H1 (mv rfl) ?_
          refine st H1 (lti rfl rfl) ?_
          refine st H1 (asg rfl) ?_
          refine wl_nil ?_
          refine cw_cond rfl (fun hb17 => ?_) (fun hb17 => ?_)
          · have hp17 := hb17
            try simp at hp17
            refine cw_skip ?_
            refine cw_cond_t rfl hb17 ?_
            refine cw_seq ?_
            refine cw_region rfl ?_
            refine st H1 (asg rfl) ?_
            refine wl_nil ?_
            refine cw_ret ?_
            refine ret1 rfl rfl ?_
            exact ⟨by rw [hx]; simp [textF, hp3, hi0, hp4, hp5, hp16, hp17] <;> first | omega | (exfalso; omega) | (intros; exfalso; omega), H1⟩
          · have hp17 := hb17
            try simp at hp17
            refine cw_region rfl ?_
            refine st H1 (mv rfl) ?_
            refine st H1 (gti rfl rfl) ?_
            refine st H1 (asg rfl) ?_
            refine wl_nil ?_
            refine cw_cond rfl (fun hb18 => ?_) (fun hb18 => ?_)
            · have hp18 := hb18
              try simp at hp18
              refine cw_seq ?_
              refine cw_region rfl ?_
              refine st H1 (asg rfl) ?_
              refine wl_nil ?_
              refine cw_ret ?_
              refine ret1 rfl rfl ?_
              exact ⟨by rw [hx]; simp [textF, hp3, hi0, hp4, hp5, hp16, hp17, hp18] <;> first | omega | (exfalso; omega) | (intros; exfalso; omega), H1⟩
            · have hp18 := hb18
              try simp at hp18
              refine cw_skip ?_
              refine cw_region rfl ?_
              refine st H1 (mv rfl) ?_
              refine st H1 (add rfl rfl (by omega) (by omega)) ?_
              refine st H1 (asg rfl) ?_
              refine wl_nil ?_
              exact ⟨(f, i + 1), ⟨rfl, rfl, trivial⟩, ⟨H1, by simp only; omega, by simp only; omega, by rw [hx]; simp [textF, hp3, hi0, hp4, hp5, hp16, hp17, hp18] <;> first | omega | (exfalso; omega) | (intros; exfalso; omega)⟩, by simp only; omega⟩
  · have hp3 := hb3
    try simp at hp3
    have hi0 : ¬ i < s.size := by omega
    refine cw_exit ?_
    refine cw_seq ?_
    refine cw_region rfl ?_
    refine st H1 (asg rfl) ?_
    refine wl_nil ?_
    refine cw_ret ?_
    refine ret1 rfl rfl ?_
    exact ⟨by rw [hx]; cases f <;> simp [textF, hi0], H1⟩
theorem sign_c (s : ByteArray) (H : Own g L w) (hne : s.size ≠ 0) (hsz : s.size ≤ 140737488355327) : Calls Pg 100 #[.string s] w fun e w' => e = .returned (.int .i64 (signS s)) ∧ Own g L w' := by
  refine calls_cw (vs := [_]) Tryz.func100 rfl rfl rfl ?_
  have hs1 := sign1_of s 0
  refine cw_seq ?_
  refine cw_region rfl ?_
  refine st H (asg rfl) ?_
  refine wl_nil ?_
  refine cw_seq ?_
  refine cw_seq ?_
  refine cw_region rfl ?_
  refine st H (mv rfl) ?_
  refine st H (lens Tryz.underlying9 rfl) ?_
  refine st H (gti rfl rfl) ?_
  refine wl_nil ?_
  refine cw_cond rfl (fun hb1 => ?_) (fun hb1 => ?_)
  · have hp1 := hb1
    try simp at hp1
    have h1s : 1 < s.size := by omega
    refine cw_seq ?_
    refine cw_region rfl ?_
    refine st H (mv rfl) ?_
    refine st H (slst Tryz.underlying9 rfl rfl (2) (by omega) (by omega)) ?_
    refine wl_nil ?_
    refine cw_block ?_
    refine cw_seq ?_
    refine cw_seq ?_
    refine cw_region rfl ?_
    refine st H (eqs rfl rfl) ?_
    refine st H (asg rfl) ?_
    refine wl_nil ?_
    refine cw_cond rfl (fun hb2 => ?_) (fun hb2 => ?_)
    · have hp2 := hb2
      try simp at hp2
      refine cw_skip ?_
      refine cw_cond_t rfl hb2 ?_
      refine cw_seq ?_
      refine cw_region rfl ?_
      refine st H (asg rfl) ?_
      refine wl_nil ?_
      refine cw_ret ?_
      refine ret1 rfl rfl ?_
      exact ⟨by rw [signS, ← hs1]; simp [sign2_eq h1s, hp1, h1s, hp2], H⟩
    · have hp2 := hb2
      try simp at hp2
      refine cw_seq ?_
      refine cw_region rfl ?_
      refine st H (eqs rfl rfl) ?_
      refine st H (asg rfl) ?_
      refine wl_nil ?_
      refine cw_cond rfl (fun hb3 => ?_) (fun hb3 => ?_)
      · have hp3 := hb3
        try simp at hp3
        refine cw_skip ?_
        refine cw_cond_t rfl hb3 ?_
        refine cw_seq ?_
        refine cw_region rfl ?_
        refine st H (asg rfl) ?_
        refine wl_nil ?_
        refine cw_ret ?_
        refine ret1 rfl rfl ?_
        exact ⟨by rw [signS, ← hs1]; simp [sign2_eq h1s, hp1, h1s, hp2, hp3], H⟩
      · have hp3 := hb3
        try simp at hp3
        refine cw_seq ?_
        refine cw_region rfl ?_
        refine st H (eqs rfl rfl) ?_
        refine st H (asg rfl) ?_
        refine wl_nil ?_
        refine cw_cond rfl (fun hb4 => ?_) (fun hb4 => ?_)
        · have hp4 := hb4
          try simp at hp4
          refine cw_skip ?_
          refine cw_cond_t rfl hb4 ?_
          refine cw_seq ?_
          refine cw_region rfl ?_
          refine st H (asg rfl) ?_
          refine wl_nil ?_
          refine cw_ret ?_
          refine ret1 rfl rfl ?_
          exact ⟨by rw [signS, ← hs1]; simp [sign2_eq h1s, hp1, h1s, hp2, hp3, hp4], H⟩
        · have hp4 := hb4
          try simp at hp4
          refine cw_seq ?_
          refine cw_region rfl ?_
          refine st H (eqs rfl rfl) ?_
          refine st H (asg rfl) ?_
          refine wl_nil ?_
          refine cw_cond rfl (fun hb5 => ?_) (fun hb5 => ?_)
          · have hp5 := hb5
            try simp at hp5
            refine cw_skip ?_
            refine cw_cond_t rfl hb5 ?_
            refine cw_seq ?_
            refine cw_region rfl ?_
            refine st H (asg rfl) ?_
            refine wl_nil ?_
            refine cw_ret ?_
            refine ret1 rfl rfl ?_
            exact ⟨by rw [signS, ← hs1]; simp [sign2_eq h1s, hp1, h1s, hp2, hp3, hp4, hp5], H⟩
          · have hp5 := hb5
            try simp at hp5
            refine cw_seq ?_
            refine cw_region rfl ?_
            refine st H (eqs rfl rfl) ?_
            refine st H (asg rfl) ?_
            refine wl_nil ?_
            refine cw_cond rfl (fun hb6 => ?_) (fun hb6 => ?_)
            · have hp6 := hb6
              try simp at hp6
              refine cw_skip ?_
              refine cw_cond_t rfl hb6 ?_
              refine cw_seq ?_
              refine cw_region rfl ?_
              refine st H (asg rfl) ?_
              refine wl_nil ?_
              refine cw_ret ?_
              refine ret1 rfl rfl ?_
              exact ⟨by rw [signS, ← hs1]; simp [sign2_eq h1s, hp1, h1s, hp2, hp3, hp4, hp5, hp6], H⟩
            · have hp6 := hb6
              try simp at hp6
              refine cw_seq ?_
              refine cw_region rfl ?_
              refine st H (eqs rfl rfl) ?_
              refine st H (asg rfl) ?_
              refine wl_nil ?_
              refine cw_cond rfl (fun hb7 => ?_) (fun hb7 => ?_)
              · have hp7 := hb7
                try simp at hp7
                refine cw_skip ?_
                refine cw_cond_t rfl hb7 ?_
                refine cw_seq ?_
                refine cw_region rfl ?_
                refine st H (asg rfl) ?_
                refine wl_nil ?_
                refine cw_ret ?_
                refine ret1 rfl rfl ?_
                exact ⟨by rw [signS, ← hs1]; simp [sign2_eq h1s, hp1, h1s, hp2, hp3, hp4, hp5, hp6, hp7], H⟩
              · have hp7 := hb7
                try simp at hp7
                refine cw_region rfl ?_
                refine st H (eqs rfl rfl) ?_
                refine st H (asg rfl) ?_
                refine wl_nil ?_
                refine cw_cond rfl (fun hb8 => ?_) (fun hb8 => ?_)
                · have hp8 := hb8
                  try simp at hp8
                  refine cw_seq ?_
                  refine cw_region rfl ?_
                  refine st H (asg rfl) ?_
                  refine wl_nil ?_
                  refine cw_ret ?_
                  refine ret1 rfl rfl ?_
                  exact ⟨by rw [signS, ← hs1]; simp [sign2_eq h1s, hp1, h1s, hp2, hp3, hp4, hp5, hp6, hp7, hp8], H⟩
                · have hp8 := hb8
                  try simp at hp8
                  refine cw_skip ?_
                  refine cw_seq ?_
                  refine cw_seq ?_
                  refine cw_region rfl ?_
                  refine st H (mv rfl) ?_
                  refine st H (ixs Tryz.underlying9 rfl rfl (0) rfl (by omega)) ?_
                  refine st_call cf132 rfl (stringsIndexByte_c _ _ H) ?_
                  rintro _ w10 ⟨rfl, H9⟩
                  refine st H9 (gei rfl rfl) ?_
                  refine wl_nil ?_
                  refine cw_cond rfl (fun hb11 => ?_) (fun hb11 => ?_)
                  · have hp11 := hb11
                    try simp at hp11
                    refine cw_seq ?_
                    refine cw_region rfl ?_
                    refine st H9 (asg rfl) ?_
                    refine wl_nil ?_
                    refine cw_ret ?_
                    refine ret1 rfl rfl ?_
                    exact ⟨by rw [signS, ← hs1]; simp [sign2_eq h1s, hp1, h1s, hp2, hp3, hp4, hp5, hp6, hp7, hp8, hp11], H9⟩
                  · have hp11 := hb11
                    try simp at hp11
                    have hni := Int.not_le.2 hp11
                    refine cw_skip ?_
                    refine cw_seq ?_
                    refine cw_region rfl ?_
                    refine st H9 (asg rfl) ?_
                    refine wl_nil ?_
                    refine cw_ret ?_
                    refine ret1 rfl rfl ?_
                    exact ⟨by rw [signS, ← hs1]; simp [sign2_eq h1s, hp1, h1s, hp2, hp3, hp4, hp5, hp6, hp7, hp8, hp11, hni], H9⟩
  · have hp1 := hb1
    try simp at hp1
    have h1s : ¬ 1 < s.size := by omega
    refine cw_skip ?_
    refine cw_seq ?_
    refine cw_seq ?_
    refine cw_region rfl ?_
    refine st H (mv rfl) ?_
    refine st H (ixs Tryz.underlying9 rfl rfl (0) rfl (by omega)) ?_
    refine st_call cf132 rfl (stringsIndexByte_c _ _ H) ?_
    rintro _ w13 ⟨rfl, H12⟩
    refine st H12 (gei rfl rfl) ?_
    refine wl_nil ?_
    refine cw_cond rfl (fun hb14 => ?_) (fun hb14 => ?_)
    · have hp14 := hb14
      try simp at hp14
      refine cw_seq ?_
      refine cw_region rfl ?_
      refine st H12 (asg rfl) ?_
      refine wl_nil ?_
      refine cw_ret ?_
      refine ret1 rfl rfl ?_
      exact ⟨by rw [signS, ← hs1]; simp [sign2B, hp1, h1s, hp14], H12⟩
    · have hp14 := hb14
      try simp at hp14
      have hni := Int.not_le.2 hp14
      refine cw_skip ?_
      refine cw_seq ?_
      refine cw_region rfl ?_
      refine st H12 (asg rfl) ?_
      refine wl_nil ?_
      refine cw_ret ?_
      refine ret1 rfl rfl ?_
      exact ⟨by rw [signS, ← hs1]; simp [sign2B, hp1, h1s, hp14, hni], H12⟩
theorem closing_c (t : Tk) (H : Own g L w) : Calls Pg 54 #[.agg #[.int .i64 t.k, .string t.s, .int .i64 t.a]] w fun e w' => e = .returned (.bool (closingB t)) ∧ Own g L w' := by
  refine calls_cw (vs := [_]) Tryz.func54 rfl rfl rfl ?_
  have hcl := closing_in t.s
  refine cw_seq ?_
  refine cw_region rfl ?_
  refine st_box H rfl rfl fun b3 w2 H1 => ?_
  refine st H1 (asg rfl) ?_
  refine wl_nil ?_
  refine cw_seq ?_
  refine cw_seq ?_
  refine cw_region rfl ?_
  refine st H1 (fa fo38_0 rfl) ?_
  refine st H1 (ld sc3 0 rfl rfl rfl) ?_
  refine wl_nil ?_
  refine cw_block ?_
  refine cw_seq ?_
  refine cw_seq ?_
  refine cw_region rfl ?_
  refine st H1 (eqi rfl rfl) ?_
  refine st H1 (asg rfl) ?_
  refine wl_nil ?_
  refine cw_cond rfl (fun hb4 => ?_) (fun hb4 => ?_)
  · have hp4 := hb4
    try simp at hp4
    refine cw_skip ?_
    refine cw_cond_t rfl hb4 ?_
    refine cw_seq ?_
    refine cw_region rfl ?_
    refine st H1 (asg rfl) ?_
    refine wl_nil ?_
    refine cw_ret ?_
    refine ret1 rfl rfl ?_
    exact ⟨by simp [closingB, ← hcl, hp4], (H1.er 0)⟩
  · have hp4 := hb4
    try simp at hp4
    refine cw_seq ?_
    refine cw_region rfl ?_
    refine st H1 (eqi rfl rfl) ?_
    refine st H1 (asg rfl) ?_
    refine wl_nil ?_
    refine cw_cond rfl (fun hb5 => ?_) (fun hb5 => ?_)
    · have hp5 := hb5
      try simp at hp5
      refine cw_skip ?_
      refine cw_cond_t rfl hb5 ?_
      refine cw_seq ?_
      refine cw_region rfl ?_
      refine st H1 (asg rfl) ?_
      refine wl_nil ?_
      refine cw_ret ?_
      refine ret1 rfl rfl ?_
      exact ⟨by simp [closingB, ← hcl, hp4, hp5], (H1.er 0)⟩
    · have hp5 := hb5
      try simp at hp5
      refine cw_region rfl ?_
      refine st H1 (eqi rfl rfl) ?_
      refine st H1 (asg rfl) ?_
      refine wl_nil ?_
      refine cw_cond rfl (fun hb6 => ?_) (fun hb6 => ?_)
      · have hp6 := hb6
        try simp at hp6
        refine cw_seq ?_
        refine cw_region rfl ?_
        refine st H1 (asg rfl) ?_
        refine wl_nil ?_
        refine cw_ret ?_
        refine ret1 rfl rfl ?_
        exact ⟨by simp [closingB, ← hcl, hp4, hp5, hp6], (H1.er 0)⟩
      · have hp6 := hb6
        try simp at hp6
        refine cw_skip ?_
        refine cw_seq ?_
        refine cw_region rfl ?_
        refine st H1 (fa fo38_0 rfl) ?_
        refine st H1 (ld sc3 0 rfl rfl rfl) ?_
        refine st H1 (eqi rfl rfl) ?_
        refine st H1 (mv rfl) ?_
        refine wl_case (t := 12) rfl (fun hg7 => ?_) (fun hg7 => ?_)
        · have hp7 := hg7
          try simp at hp7
          refine gon rfl rfl hg7 ?_
          refine st H1 (fa fo38_1 rfl) ?_
          refine gon rfl rfl hg7 ?_
          refine st H1 (ld sc9 0 rfl rfl rfl) ?_
          refine gon rfl rfl hg7 ?_
          refine st_call cf94 rfl (stringsContains_c _ _ H1 (by decide)) ?_
          rintro _ w9 ⟨rfl, H8⟩
          refine st H8 (pk_t rfl hg7 rfl) ?_
          refine st H8 (mv rfl) ?_
          refine wl_case (t := 17) rfl (fun hg10 => ?_) (fun hg10 => ?_)
          · have hp10 := hg10
            try simp at hp10
            refine gon rfl rfl hg10 ?_
            refine st H8 (fa fo38_1 rfl) ?_
            refine gon rfl rfl hg10 ?_
            refine st H8 (ld sc9 0 rfl rfl rfl) ?_
            refine gon rfl rfl hg10 ?_
            refine st H8 (nes rfl rfl) ?_
            refine st H8 (pk_t rfl hg10 rfl) ?_
            refine st H8 (asg rfl) ?_
            refine wl_nil ?_
            refine cw_ret ?_
            refine ret1 rfl rfl ?_
            exact ⟨by simp [closingB, ← hcl, hp4, hp5, hp6, hp7, hp10], (H8.er 0)⟩
          · have hp10 := hg10
            try simp at hp10
            refine goff rfl rfl hg10 ?_
            refine goff rfl rfl hg10 ?_
            refine goff rfl rfl hg10 ?_
            refine st H8 (pk_f rfl hg10 rfl) ?_
            refine st H8 (asg rfl) ?_
            refine wl_nil ?_
            refine cw_ret ?_
            refine ret1 rfl rfl ?_
            exact ⟨by simp [closingB, ← hcl, hp4, hp5, hp6, hp7, hp10], (H8.er 0)⟩
        · have hp7 := hg7
          try simp at hp7
          refine goff rfl rfl hg7 ?_
          refine goff rfl rfl hg7 ?_
          refine goff rfl rfl hg7 ?_
          refine st H1 (pk_f rfl hg7 rfl) ?_
          refine st H1 (mv rfl) ?_
          refine goff rfl rfl rfl ?_
          refine goff rfl rfl rfl ?_
          refine goff rfl rfl rfl ?_
          refine st H1 (pk_f rfl rfl rfl) ?_
          refine st H1 (asg rfl) ?_
          refine wl_nil ?_
          refine cw_ret ?_
          refine ret1 rfl rfl ?_
          exact ⟨by simp [closingB, ← hcl, hp4, hp5, hp6, hp7], (H1.er 0)⟩
set_option maxHeartbeats 1000000 in
theorem textF_le (s : ByteArray) : ∀ f i, textF s f i ≤ s.size
  | 0, _ => Nat.zero_le _
  | f + 1, i => by
    unfold textF
    split
    · split
      · omega
      · split
        · split
          · exact textF_le s f (i + 2)
          · exact Nat.zero_le _
        · split
          · exact Nat.zero_le _
          · exact textF_le s f (i + 1)
    · exact Nat.zero_le _
theorem lt34 : letterB 34 = false := by decide
theorem dg34 : digitB 34 = false := by decide
theorem lt59 : letterB 59 = false := by decide
theorem dg59 : digitB 59 = false := by decide
theorem signS_le {s : ByteArray} (h : s.size ≠ 0) : signS s ≤ s.size := by
  unfold signS
  split
  · rename_i h2
    simp only [sign2B, Bool.and_eq_true, decide_eq_true_eq] at h2
    omega
  · split <;> omega
theorem token_c (s : ByteArray) (H : Own g L w) (hne : s.size ≠ 0) (hsz : s.size ≤ 140737488355327) : Calls Pg 55 #[.string s] w fun e w' => (∃ k n, tokS s = .tok k n ∧ 1 ≤ n ∧ n ≤ s.size ∧ e = .returned (.tuple #[.agg #[.int .i64 k, .string (s.extract 0 n), .int .i64 0], .int .i64 0]) ∧ Own g L w') ∨ (∃ er, tokS s = .er er ∧ (er = 3 ∨ er = 200 ∨ er = 201) ∧ e = .returned (.tuple #[.agg #[.int .i64 0, .string ⟨#[]⟩, .int .i64 0], .int .i64 er]) ∧ Own g L w') := by
  refine calls_cw (vs := [_]) Tryz.func55 rfl rfl rfl ?_
  refine cw_seq ?_
  refine cw_region rfl ?_
  refine st_al H zc38 fun b3 w2 H1 => ?_
  refine st H1 (asg rfl) ?_
  refine wl_nil ?_
  refine cw_seq ?_
  refine cw_region rfl ?_
  refine st H1 (asg rfl) ?_
  refine st H1 (asg rfl) ?_
  refine st H1 (asg rfl) ?_
  refine wl_nil ?_
  refine cw_seq ?_
  refine cw_seq ?_
  refine cw_region rfl ?_
  refine st H1 (mv rfl) ?_
  refine st H1 (ixs Tryz.underlying9 rfl rfl (0) rfl (by omega)) ?_
  refine st H1 (asg rfl) ?_
  refine wl_nil ?_
  refine cw_block ?_
  refine cw_seq ?_
  refine cw_region rfl ?_
  refine st H1 (mv rfl) ?_
  refine st_call cf95 rfl (letter_c _ H1 (byteAt_nn _ _).1 (byteAt_nn _ _).2) ?_
  rintro _ w5 ⟨rfl, H4⟩
  refine st H4 (asg rfl) ?_
  refine wl_nil ?_
  refine cw_cond rfl (fun hb6 => ?_) (fun hb6 => ?_)
  · have hp6 := hb6
    try simp at hp6
    have hnp : 1 ≤ runS (fun c => letterB c || digitB c) s 0 := runS_pos hne (by simp [hp6])
    have hnl := runS_le (fun c => letterB c || digitB c) s 0 (by omega)
    refine cw_seq ?_
    refine cw_region rfl ?_
    refine st H4 (asg rfl) ?_
    refine wl_nil ?_
    refine cw_seq ?_
    refine cw_region rfl ?_
    refine st H4 (mv rfl) ?_
    refine st_call cf50 rfl (run_c word_p cf96 s (0) H4 (by omega) hsz) ?_
    rintro _ w8 ⟨rfl, H7⟩
    refine st H7 (asg rfl) ?_
    refine wl_nil ?_
    refine cw_seq ?_
    refine cw_region rfl ?_
    refine st H7 (mv rfl) ?_
    refine st H7 (gti rfl rfl) ?_
    refine wl_nil ?_
    refine cw_cond rfl (fun hb9 => ?_) (fun hb9 => ?_)
    · have hp9 := hb9
      try simp at hp9
      have hn24 : 24 < runS (fun c => letterB c || digitB c) s 0 := by omega
      refine cw_region rfl ?_
      refine st H7 (asg rfl) ?_
      refine wl_nil ?_
      refine cw_seq ?_
      refine cw_seq ?_
      refine cw_region rfl ?_
      refine st H7 (mv rfl) ?_
      refine st H7 (eqi rfl rfl) ?_
      refine st H7 (mv rfl) ?_
      refine wl_case (t := 51) rfl (fun hg10 => ?_) (fun hg10 => ?_)
      · have h0 := of_decide_eq_true hg10
        omega
      · have hp10 := hg10
        try simp at hp10
        have hn0 : ¬ runS (fun c => letterB c || digitB c) s 0 = 0 := by have h0 := of_decide_eq_false hg10; omega
        refine goff rfl rfl hg10 ?_
        refine goff rfl rfl hg10 ?_
        refine st H7 (pk_f rfl hg10 rfl) ?_
        refine wl_nil ?_
        refine cw_cond_f rfl rfl ?_
        refine cw_skip ?_
        refine cw_seq ?_
        refine cw_seq ?_
        refine cw_region rfl ?_
        refine st H7 (mv rfl) ?_
        refine st H7 (nei rfl rfl) ?_
        refine wl_nil ?_
        refine cw_cond_t rfl (by decide) ?_
        refine cw_seq ?_
        refine cw_region rfl ?_
        refine st H7 (bld zc38 pl38 rfl rfl) ?_
        refine st H7 (mv rfl) ?_
        refine st_st 0 H7 rfl rfl rfl sz38 rfl rfl rfl rfl fun w12 H11 => ?_
        refine st H11 (asg rfl) ?_
        refine wl_nil ?_
        refine cw_ret ?_
        refine ret2 rfl ⟨_, rfl, own_lda H11 0 (vs := [_, _, _]) rfl ag38 rfl⟩ rfl ?_
        exact Or.inr ⟨_, by simp [tokS, lt34, dg34, lt59, dg59, hp6, hp9, hn24, hn0, hp10], by decide, rfl, (H11.er 0)⟩
    · have hp9 := hb9
      try simp at hp9
      have hn24 : ¬ 24 < runS (fun c => letterB c || digitB c) s 0 := by omega
      refine cw_skip ?_
      refine cw_seq ?_
      refine cw_seq ?_
      refine cw_region rfl ?_
      refine st H7 (mv rfl) ?_
      refine st H7 (eqi rfl rfl) ?_
      refine st H7 (mv rfl) ?_
      refine wl_case (t := 51) rfl (fun hg13 => ?_) (fun hg13 => ?_)
      · have h0 := of_decide_eq_true hg13
        omega
      · have hp13 := hg13
        try simp at hp13
        have hn0 : ¬ runS (fun c => letterB c || digitB c) s 0 = 0 := by have h0 := of_decide_eq_false hg13; omega
        refine goff rfl rfl hg13 ?_
        refine goff rfl rfl hg13 ?_
        refine st H7 (pk_f rfl hg13 rfl) ?_
        refine wl_nil ?_
        refine cw_cond_f rfl rfl ?_
        refine cw_skip ?_
        refine cw_seq ?_
        refine cw_seq ?_
        refine cw_region rfl ?_
        refine st H7 (mv rfl) ?_
        refine st H7 (nei rfl rfl) ?_
        refine wl_nil ?_
        refine cw_cond_f rfl (by decide) ?_
        refine cw_skip ?_
        refine cw_seq ?_
        refine cw_region rfl ?_
        refine st H7 (mv rfl) ?_
        refine st H7 (mv rfl) ?_
        refine st H7 (mv rfl) ?_
        refine st H7 (slst Tryz.underlying9 rfl rfl (runS (fun c => letterB c || digitB c) s 0) (by first | rfl | omega) (by omega)) ?_
        refine st H7 (bld zc38 pl38 rfl rfl) ?_
        refine st_st 0 H7 rfl rfl rfl sz38 rfl rfl rfl rfl fun w15 H14 => ?_
        refine st H14 (asg rfl) ?_
        refine wl_nil ?_
        refine cw_ret ?_
        refine ret2 rfl ⟨_, rfl, own_lda H14 0 (vs := [_, _, _]) rfl ag38 rfl⟩ rfl ?_
        exact Or.inl ⟨_, runS (fun c => letterB c || digitB c) s 0, by simp [tokS, lt34, dg34, lt59, dg59, hp6, hp9, hn24, hn0, hp13], by omega, by omega, rfl, (H14.er 0)⟩
  · have hp6 := hb6
    try simp at hp6
    refine cw_seq ?_
    refine cw_region rfl ?_
    refine st H4 (mv rfl) ?_
    refine st_call cf97 rfl (digit_c _ H4) ?_
    rintro _ w17 ⟨rfl, H16⟩
    refine st H16 (asg rfl) ?_
    refine wl_nil ?_
    refine cw_cond rfl (fun hb18 => ?_) (fun hb18 => ?_)
    · have hp18 := hb18
      try simp at hp18
      have hnp : 1 ≤ runS digitB s 0 := runS_pos hne hp18
      have hnl := runS_le digitB s 0 (by omega)
      refine cw_seq ?_
      refine cw_region rfl ?_
      refine st H16 (mv rfl) ?_
      refine st_call cf50 rfl (run_c digit_p cf97 s (0) H16 (by omega) hsz) ?_
      rintro _ w20 ⟨rfl, H19⟩
      refine st H19 (asg rfl) ?_
      refine st H19 (asg rfl) ?_
      refine wl_nil ?_
      refine cw_seq ?_
      refine cw_region rfl ?_
      refine st H19 (mv rfl) ?_
      refine st H19 (mv rfl) ?_
      refine st H19 (slst Tryz.underlying9 rfl rfl (runS digitB s 0) (by omega) (by omega)) ?_
      refine st_call cf98 rfl (whole_c _ H19 (by rw [ext_size (by omega)]; omega) digs_ext (by rw [ext_size (by omega)]; omega) run_ext) ?_
      rintro e w22 hpH21
      rcases hpH21 with ⟨v0, hv0, rfl, H21⟩ | ⟨hv0, rfl, H21⟩
      · refine st H21 (mv rfl) ?_
        refine st H21 (ext rfl rfl) ?_
        refine st H21 (ext rfl rfl) ?_
        refine st H21 (asg rfl) ?_
        refine wl_nil ?_
        refine cw_seq ?_
        refine cw_region rfl ?_
        refine st H21 (mv rfl) ?_
        refine st H21 (mv rfl) ?_
        refine st H21 (lens Tryz.underlying9 rfl) ?_
        refine st H21 (lti rfl rfl) ?_
        refine st H21 (mv rfl) ?_
        refine wl_case (t := 35) rfl (fun hg23 => ?_) (fun hg23 => ?_)
        · have hp23 := hg23
          try simp at hp23
          have hns : runS digitB s 0 < s.size := by omega
          refine gon rfl rfl hg23 ?_
          refine st H21 (mv rfl) ?_
          refine gon rfl rfl hg23 ?_
          refine st H21 (mv rfl) ?_
          refine gon rfl rfl hg23 ?_
          refine st H21 (ixs Tryz.underlying9 rfl rfl (runS digitB s 0) rfl (by omega)) ?_
          refine gon rfl rfl hg23 ?_
          refine st_call cf95 rfl (letter_c _ H21 (byteAt_nn _ _).1 (byteAt_nn _ _).2) ?_
          rintro _ w25 ⟨rfl, H24⟩
          refine st H24 (pk_t rfl hg23 rfl) ?_
          refine wl_nil ?_
          refine cw_cond rfl (fun hb26 => ?_) (fun hb26 => ?_)
          · have hp26 := hb26
            try simp at hp26
            refine cw_region rfl ?_
            refine st H24 (asg rfl) ?_
            refine wl_nil ?_
            refine cw_seq ?_
            refine cw_seq ?_
            refine cw_region rfl ?_
            refine st H24 (mv rfl) ?_
            refine st H24 (eqi rfl rfl) ?_
            refine st H24 (mv rfl) ?_
            refine wl_case (t := 51) rfl (fun hg27 => ?_) (fun hg27 => ?_)
            · have h0 := of_decide_eq_true hg27
              omega
            · have hp27 := hg27
              try simp at hp27
              have hn0 : ¬ runS digitB s 0 = 0 := by have h0 := of_decide_eq_false hg27; omega
              refine goff rfl rfl hg27 ?_
              refine goff rfl rfl hg27 ?_
              refine st H24 (pk_f rfl hg27 rfl) ?_
              refine wl_nil ?_
              refine cw_cond_f rfl rfl ?_
              refine cw_skip ?_
              refine cw_seq ?_
              refine cw_seq ?_
              refine cw_region rfl ?_
              refine st H24 (mv rfl) ?_
              refine st H24 (nei rfl rfl) ?_
              refine wl_nil ?_
              refine cw_cond_t rfl (by decide) ?_
              refine cw_seq ?_
              refine cw_region rfl ?_
              refine st H24 (bld zc38 pl38 rfl rfl) ?_
              refine st H24 (mv rfl) ?_
              refine st_st 0 H24 rfl rfl rfl sz38 rfl rfl rfl rfl fun w29 H28 => ?_
              refine st H28 (asg rfl) ?_
              refine wl_nil ?_
              refine cw_ret ?_
              refine ret2 rfl ⟨_, rfl, own_lda H28 0 (vs := [_, _, _]) rfl ag38 rfl⟩ rfl ?_
              exact Or.inr ⟨_, by simp [tokS, lt34, dg34, lt59, dg59, hp6, hp18, hv0, hns, hp23, hp26, hn0, hp27], by decide, rfl, (H28.er 0)⟩
          · have hp26 := hb26
            try simp at hp26
            refine cw_skip ?_
            refine cw_seq ?_
            refine cw_seq ?_
            refine cw_region rfl ?_
            refine st H24 (mv rfl) ?_
            refine st H24 (eqi rfl rfl) ?_
            refine st H24 (mv rfl) ?_
            refine wl_case (t := 51) rfl (fun hg30 => ?_) (fun hg30 => ?_)
            · have h0 := of_decide_eq_true hg30
              omega
            · have hp30 := hg30
              try simp at hp30
              have hn0 : ¬ runS digitB s 0 = 0 := by have h0 := of_decide_eq_false hg30; omega
              refine goff rfl rfl hg30 ?_
              refine goff rfl rfl hg30 ?_
              refine st H24 (pk_f rfl hg30 rfl) ?_
              refine wl_nil ?_
              refine cw_cond_f rfl rfl ?_
              refine cw_skip ?_
              refine cw_seq ?_
              refine cw_seq ?_
              refine cw_region rfl ?_
              refine st H24 (mv rfl) ?_
              refine st H24 (nei rfl rfl) ?_
              refine wl_nil ?_
              refine cw_cond_f rfl (by decide) ?_
              refine cw_skip ?_
              refine cw_seq ?_
              refine cw_region rfl ?_
              refine st H24 (mv rfl) ?_
              refine st H24 (mv rfl) ?_
              refine st H24 (mv rfl) ?_
              refine st H24 (slst Tryz.underlying9 rfl rfl (runS digitB s 0) (by first | rfl | omega) (by omega)) ?_
              refine st H24 (bld zc38 pl38 rfl rfl) ?_
              refine st_st 0 H24 rfl rfl rfl sz38 rfl rfl rfl rfl fun w32 H31 => ?_
              refine st H31 (asg rfl) ?_
              refine wl_nil ?_
              refine cw_ret ?_
              refine ret2 rfl ⟨_, rfl, own_lda H31 0 (vs := [_, _, _]) rfl ag38 rfl⟩ rfl ?_
              exact Or.inl ⟨_, runS digitB s 0, by simp [tokS, lt34, dg34, lt59, dg59, hp6, hp18, hv0, hns, hp23, hp26, hn0, hp30], by omega, by omega, rfl, (H31.er 0)⟩
        · have hp23 := hg23
          try simp at hp23
          have hns : ¬ runS digitB s 0 < s.size := by omega
          refine goff rfl rfl hg23 ?_
          refine goff rfl rfl hg23 ?_
          refine goff rfl rfl hg23 ?_
          refine goff rfl rfl hg23 ?_
          refine st H21 (pk_f rfl hg23 rfl) ?_
          refine wl_nil ?_
          refine cw_cond_f rfl rfl ?_
          refine cw_skip ?_
          refine cw_seq ?_
          refine cw_seq ?_
          refine cw_region rfl ?_
          refine st H21 (mv rfl) ?_
          refine st H21 (eqi rfl rfl) ?_
          refine st H21 (mv rfl) ?_
          refine wl_case (t := 51) rfl (fun hg33 => ?_) (fun hg33 => ?_)
          · have h0 := of_decide_eq_true hg33
            omega
          · have hp33 := hg33
            try simp at hp33
            have hn0 : ¬ runS digitB s 0 = 0 := by have h0 := of_decide_eq_false hg33; omega
            refine goff rfl rfl hg33 ?_
            refine goff rfl rfl hg33 ?_
            refine st H21 (pk_f rfl hg33 rfl) ?_
            refine wl_nil ?_
            refine cw_cond_f rfl rfl ?_
            refine cw_skip ?_
            refine cw_seq ?_
            refine cw_seq ?_
            refine cw_region rfl ?_
            refine st H21 (mv rfl) ?_
            refine st H21 (nei rfl rfl) ?_
            refine wl_nil ?_
            refine cw_cond_f rfl (by decide) ?_
            refine cw_skip ?_
            refine cw_seq ?_
            refine cw_region rfl ?_
            refine st H21 (mv rfl) ?_
            refine st H21 (mv rfl) ?_
            refine st H21 (mv rfl) ?_
            refine st H21 (slst Tryz.underlying9 rfl rfl (runS digitB s 0) (by first | rfl | omega) (by omega)) ?_
            refine st H21 (bld zc38 pl38 rfl rfl) ?_
            refine st_st 0 H21 rfl rfl rfl sz38 rfl rfl rfl rfl fun w35 H34 => ?_
            refine st H34 (asg rfl) ?_
            refine wl_nil ?_
            refine cw_ret ?_
            refine ret2 rfl ⟨_, rfl, own_lda H34 0 (vs := [_, _, _]) rfl ag38 rfl⟩ rfl ?_
            exact Or.inl ⟨_, runS digitB s 0, by simp [tokS, lt34, dg34, lt59, dg59, hp6, hp18, hv0, hns, hp23, hn0, hp33], by omega, by omega, rfl, (H34.er 0)⟩
      · refine st H21 (mv rfl) ?_
        refine st H21 (ext rfl rfl) ?_
        refine st H21 (ext rfl rfl) ?_
        refine st H21 (asg rfl) ?_
        refine wl_nil ?_
        refine cw_seq ?_
        refine cw_region rfl ?_
        refine st H21 (mv rfl) ?_
        refine st H21 (mv rfl) ?_
        refine st H21 (lens Tryz.underlying9 rfl) ?_
        refine st H21 (lti rfl rfl) ?_
        refine st H21 (mv rfl) ?_
        refine wl_case (t := 35) rfl (fun hg36 => ?_) (fun hg36 => ?_)
        · have hp36 := hg36
          try simp at hp36
          have hns : runS digitB s 0 < s.size := by omega
          refine gon rfl rfl hg36 ?_
          refine st H21 (mv rfl) ?_
          refine gon rfl rfl hg36 ?_
          refine st H21 (mv rfl) ?_
          refine gon rfl rfl hg36 ?_
          refine st H21 (ixs Tryz.underlying9 rfl rfl (runS digitB s 0) rfl (by omega)) ?_
          refine gon rfl rfl hg36 ?_
          refine st_call cf95 rfl (letter_c _ H21 (byteAt_nn _ _).1 (byteAt_nn _ _).2) ?_
          rintro _ w38 ⟨rfl, H37⟩
          refine st H37 (pk_t rfl hg36 rfl) ?_
          refine wl_nil ?_
          refine cw_cond rfl (fun hb39 => ?_) (fun hb39 => ?_)
          · have hp39 := hb39
            try simp at hp39
            refine cw_region rfl ?_
            refine st H37 (asg rfl) ?_
            refine wl_nil ?_
            refine cw_seq ?_
            refine cw_seq ?_
            refine cw_region rfl ?_
            refine st H37 (mv rfl) ?_
            refine st H37 (eqi rfl rfl) ?_
            refine st H37 (mv rfl) ?_
            refine wl_case (t := 51) rfl (fun hg40 => ?_) (fun hg40 => ?_)
            · have h0 := of_decide_eq_true hg40
              omega
            · have hp40 := hg40
              try simp at hp40
              have hn0 : ¬ runS digitB s 0 = 0 := by have h0 := of_decide_eq_false hg40; omega
              refine goff rfl rfl hg40 ?_
              refine goff rfl rfl hg40 ?_
              refine st H37 (pk_f rfl hg40 rfl) ?_
              refine wl_nil ?_
              refine cw_cond_f rfl rfl ?_
              refine cw_skip ?_
              refine cw_seq ?_
              refine cw_seq ?_
              refine cw_region rfl ?_
              refine st H37 (mv rfl) ?_
              refine st H37 (nei rfl rfl) ?_
              refine wl_nil ?_
              refine cw_cond_t rfl (by decide) ?_
              refine cw_seq ?_
              refine cw_region rfl ?_
              refine st H37 (bld zc38 pl38 rfl rfl) ?_
              refine st H37 (mv rfl) ?_
              refine st_st 0 H37 rfl rfl rfl sz38 rfl rfl rfl rfl fun w42 H41 => ?_
              refine st H41 (asg rfl) ?_
              refine wl_nil ?_
              refine cw_ret ?_
              refine ret2 rfl ⟨_, rfl, own_lda H41 0 (vs := [_, _, _]) rfl ag38 rfl⟩ rfl ?_
              exact Or.inr ⟨_, by simp [tokS, lt34, dg34, lt59, dg59, hp6, hp18, hv0, hns, hp36, hp39, hn0, hp40], by decide, rfl, (H41.er 0)⟩
          · have hp39 := hb39
            try simp at hp39
            refine cw_skip ?_
            refine cw_seq ?_
            refine cw_seq ?_
            refine cw_region rfl ?_
            refine st H37 (mv rfl) ?_
            refine st H37 (eqi rfl rfl) ?_
            refine st H37 (mv rfl) ?_
            refine wl_case (t := 51) rfl (fun hg43 => ?_) (fun hg43 => ?_)
            · have h0 := of_decide_eq_true hg43
              omega
            · have hp43 := hg43
              try simp at hp43
              have hn0 : ¬ runS digitB s 0 = 0 := by have h0 := of_decide_eq_false hg43; omega
              refine goff rfl rfl hg43 ?_
              refine goff rfl rfl hg43 ?_
              refine st H37 (pk_f rfl hg43 rfl) ?_
              refine wl_nil ?_
              refine cw_cond_f rfl rfl ?_
              refine cw_skip ?_
              refine cw_seq ?_
              refine cw_seq ?_
              refine cw_region rfl ?_
              refine st H37 (mv rfl) ?_
              refine st H37 (nei rfl rfl) ?_
              refine wl_nil ?_
              refine cw_cond_t rfl (by decide) ?_
              refine cw_seq ?_
              refine cw_region rfl ?_
              refine st H37 (bld zc38 pl38 rfl rfl) ?_
              refine st H37 (mv rfl) ?_
              refine st_st 0 H37 rfl rfl rfl sz38 rfl rfl rfl rfl fun w45 H44 => ?_
              refine st H44 (asg rfl) ?_
              refine wl_nil ?_
              refine cw_ret ?_
              refine ret2 rfl ⟨_, rfl, own_lda H44 0 (vs := [_, _, _]) rfl ag38 rfl⟩ rfl ?_
              exact Or.inr ⟨_, by simp [tokS, lt34, dg34, lt59, dg59, hp6, hp18, hv0, hns, hp36, hp39, hn0, hp43], by decide, rfl, (H44.er 0)⟩
        · have hp36 := hg36
          try simp at hp36
          have hns : ¬ runS digitB s 0 < s.size := by omega
          refine goff rfl rfl hg36 ?_
          refine goff rfl rfl hg36 ?_
          refine goff rfl rfl hg36 ?_
          refine goff rfl rfl hg36 ?_
          refine st H21 (pk_f rfl hg36 rfl) ?_
          refine wl_nil ?_
          refine cw_cond_f rfl rfl ?_
          refine cw_skip ?_
          refine cw_seq ?_
          refine cw_seq ?_
          refine cw_region rfl ?_
          refine st H21 (mv rfl) ?_
          refine st H21 (eqi rfl rfl) ?_
          refine st H21 (mv rfl) ?_
          refine wl_case (t := 51) rfl (fun hg46 => ?_) (fun hg46 => ?_)
          · have h0 := of_decide_eq_true hg46
            omega
          · have hp46 := hg46
            try simp at hp46
            have hn0 : ¬ runS digitB s 0 = 0 := by have h0 := of_decide_eq_false hg46; omega
            refine goff rfl rfl hg46 ?_
            refine goff rfl rfl hg46 ?_
            refine st H21 (pk_f rfl hg46 rfl) ?_
            refine wl_nil ?_
            refine cw_cond_f rfl rfl ?_
            refine cw_skip ?_
            refine cw_seq ?_
            refine cw_seq ?_
            refine cw_region rfl ?_
            refine st H21 (mv rfl) ?_
            refine st H21 (nei rfl rfl) ?_
            refine wl_nil ?_
            refine cw_cond_t rfl (by decide) ?_
            refine cw_seq ?_
            refine cw_region rfl ?_
            refine st H21 (bld zc38 pl38 rfl rfl) ?_
            refine st H21 (mv rfl) ?_
            refine st_st 0 H21 rfl rfl rfl sz38 rfl rfl rfl rfl fun w48 H47 => ?_
            refine st H47 (asg rfl) ?_
            refine wl_nil ?_
            refine cw_ret ?_
            refine ret2 rfl ⟨_, rfl, own_lda H47 0 (vs := [_, _, _]) rfl ag38 rfl⟩ rfl ?_
            exact Or.inr ⟨_, by simp [tokS, lt34, dg34, lt59, dg59, hp6, hp18, hv0, hns, hp36, hn0, hp46], by decide, rfl, (H47.er 0)⟩
    · have hp18 := hb18
      try simp at hp18
      refine cw_seq ?_
      refine cw_region rfl ?_
      refine st H16 (mv rfl) ?_
      refine st H16 (eqi rfl rfl) ?_
      refine st H16 (asg rfl) ?_
      refine wl_nil ?_
      refine cw_cond rfl (fun hb49 => ?_) (fun hb49 => ?_)
      · have hp49 := hb49
        try simp at hp49
        have hnl : textS s ≤ s.size := textF_le s _ _
        refine cw_region rfl ?_
        refine st H16 (mv rfl) ?_
        refine st_call cf99 rfl (text_c _ H16 hne hsz) ?_
        rintro _ w51 ⟨rfl, H50⟩
        refine st H50 (asg rfl) ?_
        refine st H50 (asg rfl) ?_
        refine wl_nil ?_
        refine cw_seq ?_
        refine cw_seq ?_
        refine cw_region rfl ?_
        refine st H50 (mv rfl) ?_
        refine st H50 (eqi rfl rfl) ?_
        refine st H50 (mv rfl) ?_
        refine wl_case (t := 51) rfl (fun hg52 => ?_) (fun hg52 => ?_)
        · have hp52 := hg52
          try simp at hp52
          have hn0 : textS s = 0 := by have h0 := of_decide_eq_true hg52; omega
          refine gon rfl rfl hg52 ?_
          refine st H50 (mv rfl) ?_
          refine gon rfl rfl hg52 ?_
          refine st H50 (eqi rfl rfl) ?_
          refine st H50 (pk_t rfl hg52 rfl) ?_
          refine wl_nil ?_
          refine cw_cond_t rfl (by decide) ?_
          refine cw_region rfl ?_
          refine st H50 (asg rfl) ?_
          refine wl_nil ?_
          refine cw_seq ?_
          refine cw_seq ?_
          refine cw_region rfl ?_
          refine st H50 (mv rfl) ?_
          refine st H50 (nei rfl rfl) ?_
          refine wl_nil ?_
          refine cw_cond_t rfl (by decide) ?_
          refine cw_seq ?_
          refine cw_region rfl ?_
          refine st H50 (bld zc38 pl38 rfl rfl) ?_
          refine st H50 (mv rfl) ?_
          refine st_st 0 H50 rfl rfl rfl sz38 rfl rfl rfl rfl fun w54 H53 => ?_
          refine st H53 (asg rfl) ?_
          refine wl_nil ?_
          refine cw_ret ?_
          refine ret2 rfl ⟨_, rfl, own_lda H53 0 (vs := [_, _, _]) rfl ag38 rfl⟩ rfl ?_
          exact Or.inr ⟨_, by simp [tokS, lt34, dg34, lt59, dg59, hp6, hp18, hp49, hn0, hp52], by decide, rfl, (H53.er 0)⟩
        · have hp52 := hg52
          try simp at hp52
          have hn0 : ¬ textS s = 0 := by have h0 := of_decide_eq_false hg52; omega
          refine goff rfl rfl hg52 ?_
          refine goff rfl rfl hg52 ?_
          refine st H50 (pk_f rfl hg52 rfl) ?_
          refine wl_nil ?_
          refine cw_cond_f rfl rfl ?_
          refine cw_skip ?_
          refine cw_seq ?_
          refine cw_seq ?_
          refine cw_region rfl ?_
          refine st H50 (mv rfl) ?_
          refine st H50 (nei rfl rfl) ?_
          refine wl_nil ?_
          refine cw_cond_f rfl (by decide) ?_
          refine cw_skip ?_
          refine cw_seq ?_
          refine cw_region rfl ?_
          refine st H50 (mv rfl) ?_
          refine st H50 (mv rfl) ?_
          refine st H50 (mv rfl) ?_
          refine st H50 (slst Tryz.underlying9 rfl rfl (textS s) (by first | rfl | omega) (by omega)) ?_
          refine st H50 (bld zc38 pl38 rfl rfl) ?_
          refine st_st 0 H50 rfl rfl rfl sz38 rfl rfl rfl rfl fun w56 H55 => ?_
          refine st H55 (asg rfl) ?_
          refine wl_nil ?_
          refine cw_ret ?_
          refine ret2 rfl ⟨_, rfl, own_lda H55 0 (vs := [_, _, _]) rfl ag38 rfl⟩ rfl ?_
          exact Or.inl ⟨_, textS s, by simp [tokS, lt34, dg34, lt59, dg59, hp6, hp18, hp49, hn0, hp52], by omega, by omega, rfl, (H55.er 0)⟩
      · have hp49 := hb49
        try simp at hp49
        refine cw_seq ?_
        refine cw_region rfl ?_
        refine st H16 (mv rfl) ?_
        refine st H16 (eqi rfl rfl) ?_
        refine st H16 (asg rfl) ?_
        refine wl_nil ?_
        refine cw_cond rfl (fun hb57 => ?_) (fun hb57 => ?_)
        · have hp57 := hb57
          try simp at hp57
          refine cw_region rfl ?_
          refine st H16 (asg rfl) ?_
          refine st H16 (asg rfl) ?_
          refine wl_nil ?_
          refine cw_seq ?_
          refine cw_seq ?_
          refine cw_region rfl ?_
          refine st H16 (mv rfl) ?_
          refine st H16 (eqi rfl rfl) ?_
          refine st H16 (mv rfl) ?_
          refine goff rfl rfl (by decide) ?_
          refine goff rfl rfl (by decide) ?_
          refine st H16 (pk_f rfl (by decide) rfl) ?_
          refine wl_nil ?_
          refine cw_cond_f rfl rfl ?_
          refine cw_skip ?_
          refine cw_seq ?_
          refine cw_seq ?_
          refine cw_region rfl ?_
          refine st H16 (mv rfl) ?_
          refine st H16 (nei rfl rfl) ?_
          refine wl_nil ?_
          refine cw_cond_f rfl (by decide) ?_
          refine cw_skip ?_
          refine cw_seq ?_
          refine cw_region rfl ?_
          refine st H16 (mv rfl) ?_
          refine st H16 (mv rfl) ?_
          refine st H16 (mv rfl) ?_
          refine st H16 (slst Tryz.underlying9 rfl rfl (1) (by first | rfl | omega) (by omega)) ?_
          refine st H16 (bld zc38 pl38 rfl rfl) ?_
          refine st_st 0 H16 rfl rfl rfl sz38 rfl rfl rfl rfl fun w59 H58 => ?_
          refine st H58 (asg rfl) ?_
          refine wl_nil ?_
          refine cw_ret ?_
          refine ret2 rfl ⟨_, rfl, own_lda H58 0 (vs := [_, _, _]) rfl ag38 rfl⟩ rfl ?_
          exact Or.inl ⟨_, 1, by simp [tokS, lt34, dg34, lt59, dg59, hp6, hp18, hp49, hp57], by omega, by omega, rfl, (H58.er 0)⟩
        · have hp57 := hb57
          try simp at hp57
          have hnl := signS_le hne
          refine cw_region rfl ?_
          refine st H16 (mv rfl) ?_
          refine st_call cf100 rfl (sign_c _ H16 hne hsz) ?_
          rintro _ w61 ⟨rfl, H60⟩
          refine st H60 (asg rfl) ?_
          refine wl_nil ?_
          refine cw_seq ?_
          refine cw_seq ?_
          refine cw_region rfl ?_
          refine st H60 (mv rfl) ?_
          refine st H60 (eqi rfl rfl) ?_
          refine st H60 (mv rfl) ?_
          refine wl_case (t := 51) rfl (fun hg62 => ?_) (fun hg62 => ?_)
          · have hp62 := hg62
            try simp at hp62
            have hn0 : signS s = 0 := by have h0 := of_decide_eq_true hg62; omega
            refine gon rfl rfl hg62 ?_
            refine st H60 (mv rfl) ?_
            refine gon rfl rfl hg62 ?_
            refine st H60 (eqi rfl rfl) ?_
            refine st H60 (pk_t rfl hg62 rfl) ?_
            refine wl_nil ?_
            refine cw_cond_t rfl (by decide) ?_
            refine cw_region rfl ?_
            refine st H60 (asg rfl) ?_
            refine wl_nil ?_
            refine cw_seq ?_
            refine cw_seq ?_
            refine cw_region rfl ?_
            refine st H60 (mv rfl) ?_
            refine st H60 (nei rfl rfl) ?_
            refine wl_nil ?_
            refine cw_cond_t rfl (by decide) ?_
            refine cw_seq ?_
            refine cw_region rfl ?_
            refine st H60 (bld zc38 pl38 rfl rfl) ?_
            refine st H60 (mv rfl) ?_
            refine st_st 0 H60 rfl rfl rfl sz38 rfl rfl rfl rfl fun w64 H63 => ?_
            refine st H63 (asg rfl) ?_
            refine wl_nil ?_
            refine cw_ret ?_
            refine ret2 rfl ⟨_, rfl, own_lda H63 0 (vs := [_, _, _]) rfl ag38 rfl⟩ rfl ?_
            exact Or.inr ⟨_, by simp [tokS, lt34, dg34, lt59, dg59, hp6, hp18, hp49, hp57, hn0, hp62], by decide, rfl, (H63.er 0)⟩
          · have hp62 := hg62
            try simp at hp62
            have hn0 : ¬ signS s = 0 := by have h0 := of_decide_eq_false hg62; omega
            refine goff rfl rfl hg62 ?_
            refine goff rfl rfl hg62 ?_
            refine st H60 (pk_f rfl hg62 rfl) ?_
            refine wl_nil ?_
            refine cw_cond_f rfl rfl ?_
            refine cw_skip ?_
            refine cw_seq ?_
            refine cw_seq ?_
            refine cw_region rfl ?_
            refine st H60 (mv rfl) ?_
            refine st H60 (nei rfl rfl) ?_
            refine wl_nil ?_
            refine cw_cond_f rfl (by decide) ?_
            refine cw_skip ?_
            refine cw_seq ?_
            refine cw_region rfl ?_
            refine st H60 (mv rfl) ?_
            refine st H60 (mv rfl) ?_
            refine st H60 (mv rfl) ?_
            refine st H60 (slst Tryz.underlying9 rfl rfl (signS s) (by first | rfl | omega) (by omega)) ?_
            refine st H60 (bld zc38 pl38 rfl rfl) ?_
            refine st_st 0 H60 rfl rfl rfl sz38 rfl rfl rfl rfl fun w66 H65 => ?_
            refine st H65 (asg rfl) ?_
            refine wl_nil ?_
            refine cw_ret ?_
            refine ret2 rfl ⟨_, rfl, own_lda H65 0 (vs := [_, _, _]) rfl ag38 rfl⟩ rfl ?_
            exact Or.inl ⟨_, signS s, by simp [tokS, lt34, dg34, lt59, dg59, hp6, hp18, hp49, hp57, hn0, hp62], by omega, by omega, rfl, (H65.er 0)⟩
theorem size_zero {s : ByteArray} (h : s.size = 0) : s = ⟨#[]⟩ := ByteArray.ext (Array.eq_empty_of_size_eq_zero h)
theorem alone_c (t : Tk) (H : Own g L w) (hsz : t.s.size ≤ 140737488355327) : Calls Pg 56 #[.agg #[.int .i64 t.k, .string t.s, .int .i64 t.a]] w fun e w' => e = .returned (.bool (aloneB t)) ∧ Own g L w' := by
  refine calls_cw (vs := [_]) Tryz.func56 rfl rfl rfl ?_
  refine cw_seq ?_
  refine cw_region rfl ?_
  refine st_box H rfl rfl fun b3 w2 H1 => ?_
  refine st H1 (asg rfl) ?_
  refine wl_nil ?_
  refine cw_seq ?_
  refine cw_seq ?_
  refine cw_region rfl ?_
  refine st H1 (fa fo38_1 rfl) ?_
  refine st H1 (ld sc9 0 rfl rfl rfl) ?_
  refine st H1 (eqs rfl rfl) ?_
  refine wl_nil ?_
  refine cw_cond rfl (fun hb4 => ?_) (fun hb4 => ?_)
  · have hp4 := hb4
    try simp at hp4
    have hs0 : t.s.size = 0 := by rw [hp4]; rfl
    refine cw_seq ?_
    refine cw_region rfl ?_
    refine st H1 (fa fo38_0 rfl) ?_
    refine st H1 (ld sc3 0 rfl rfl rfl) ?_
    refine st H1 (eqi rfl rfl) ?_
    refine st H1 (asg rfl) ?_
    refine wl_nil ?_
    refine cw_ret ?_
    refine ret1 rfl rfl ?_
    exact ⟨by first | (rw [aloneB, if_pos hs0]; done) | simp [aloneB, hp4, hs0], (H1.er 0)⟩
  · have hp4 := hb4
    try simp at hp4
    have hs0 : ¬ t.s.size = 0 := fun h0 => hp4 (size_zero h0)
    refine cw_skip ?_
    refine cw_seq ?_
    refine cw_region rfl ?_
    refine st H1 (fa fo38_1 rfl) ?_
    refine st H1 (ld sc9 0 rfl rfl rfl) ?_
    refine st_call cf55 rfl (token_c t.s H1 hs0 hsz) ?_
    rintro e w6 hpH5
    rcases hpH5 with ⟨k1, n1, ht1, hn1, hm1, rfl, H5⟩ | ⟨er1, ht1, he1, rfl, H5⟩
    · refine st H5 (mv rfl) ?_
      refine st H5 (ext rfl rfl) ?_
      refine st H5 (ext rfl rfl) ?_
      refine st_al H5 zc38 fun b9 w8 H7 => ?_
      refine st_st 0 H7 rfl rfl rfl sz38 rfl rfl rfl rfl fun w11 H10 => ?_
      refine st H10 (asg rfl) ?_
      refine wl_nil ?_
      refine cw_seq ?_
      refine cw_region rfl ?_
      refine st H10 (mv rfl) ?_
      refine st H10 (eqi rfl rfl) ?_
      refine st H10 (mv rfl) ?_
      refine gon rfl rfl (by decide) ?_
      refine st H10 (fa fo38_0 rfl) ?_
      refine gon rfl rfl (by decide) ?_
      refine st H10 (ld sc3 0 rfl rfl rfl) ?_
      refine gon rfl rfl (by decide) ?_
      refine st H10 (fa fo38_0 rfl) ?_
      refine gon rfl rfl (by decide) ?_
      refine st H10 (ld sc3 1 rfl rfl rfl) ?_
      refine gon rfl rfl (by decide) ?_
      refine st H10 (eqi rfl rfl) ?_
      refine st H10 (pk_t rfl (by decide) rfl) ?_
      refine st H10 (mv rfl) ?_
      refine wl_case (t := 26) rfl (fun hg12 => ?_) (fun hg12 => ?_)
      · have hp12 := hg12
        try simp at hp12
        refine gon rfl rfl hg12 ?_
        refine st H10 (fa fo38_1 rfl) ?_
        refine gon rfl rfl hg12 ?_
        refine st H10 (ld sc9 0 rfl rfl rfl) ?_
        refine gon rfl rfl hg12 ?_
        refine st H10 (fa fo38_1 rfl) ?_
        refine gon rfl rfl hg12 ?_
        refine st H10 (ld sc9 1 rfl rfl rfl) ?_
        refine gon rfl rfl hg12 ?_
        refine st H10 (eqs rfl rfl) ?_
        refine st H10 (pk_t rfl hg12 rfl) ?_
        refine st H10 (asg rfl) ?_
        refine wl_nil ?_
        refine cw_ret ?_
        refine ret1 rfl rfl ?_
        exact ⟨by first | (rw [aloneB, if_pos hs0]; done) | simp [aloneB, hp4, hs0, ht1, hp12], ((H10.er 0).er 0)⟩
      · have hp12 := hg12
        try simp at hp12
        refine goff rfl rfl hg12 ?_
        refine goff rfl rfl hg12 ?_
        refine goff rfl rfl hg12 ?_
        refine goff rfl rfl hg12 ?_
        refine goff rfl rfl hg12 ?_
        refine st H10 (pk_f rfl hg12 rfl) ?_
        refine st H10 (asg rfl) ?_
        refine wl_nil ?_
        refine cw_ret ?_
        refine ret1 rfl rfl ?_
        exact ⟨by first | (rw [aloneB, if_pos hs0]; done) | simp [aloneB, hp4, hs0, ht1, hp12], ((H10.er 0).er 0)⟩
    · refine st H5 (mv rfl) ?_
      refine st H5 (ext rfl rfl) ?_
      refine st H5 (ext rfl rfl) ?_
      refine st_al H5 zc38 fun b15 w14 H13 => ?_
      refine st_st 0 H13 rfl rfl rfl sz38 rfl rfl rfl rfl fun w17 H16 => ?_
      refine st H16 (asg rfl) ?_
      refine wl_nil ?_
      refine cw_seq ?_
      refine cw_region rfl ?_
      refine st H16 (mv rfl) ?_
      refine st H16 (eqi rfl rfl) ?_
      refine st H16 (mv rfl) ?_
      refine wl_case (t := 19) rfl (fun hg18 => ?_) (fun hg18 => ?_)
      · have h0 := of_decide_eq_true hg18
        omega
      · have hp18 := hg18
        try simp at hp18
        refine goff rfl rfl hg18 ?_
        refine goff rfl rfl hg18 ?_
        refine goff rfl rfl hg18 ?_
        refine goff rfl rfl hg18 ?_
        refine goff rfl rfl hg18 ?_
        refine st H16 (pk_f rfl hg18 rfl) ?_
        refine st H16 (mv rfl) ?_
        refine goff rfl rfl rfl ?_
        refine goff rfl rfl rfl ?_
        refine goff rfl rfl rfl ?_
        refine goff rfl rfl rfl ?_
        refine goff rfl rfl rfl ?_
        refine st H16 (pk_f rfl rfl rfl) ?_
        refine st H16 (asg rfl) ?_
        refine wl_nil ?_
        refine cw_ret ?_
        refine ret1 rfl rfl ?_
        exact ⟨by first | (rw [aloneB, if_pos hs0]; done) | simp [aloneB, hp4, hs0, ht1, hp18], ((H16.er 0).er 0)⟩
theorem alone_digs {t : Tk} (hk : t.k = 2) (h : aloneB t = true) : t.s.size ≠ 0 ∧ runS digitB t.s 0 = t.s.size ∧ Digs t.s := by
  unfold aloneB at h
  split at h
  · rw [hk] at h; cases h
  · rename_i h0
    refine ⟨h0, ?_⟩
    split at h
    · rename_i k n ht
      simp only [Bool.and_eq_true, decide_eq_true_eq] at h
      obtain ⟨h1, h2⟩ := h
      have hn : n = runS digitB t.s 0 := by
        unfold tokS at ht
        rw [h1, hk] at ht
        simp only at ht
        repeat' split at ht
        all_goals (first | (cases ht; rfl) | (exfalso; cases ht))
      have hle := runS_le digitB t.s 0 (by omega)
      have hsz : n = t.s.size := by
        have := congrArg ByteArray.size h2
        rw [ext_size (by omega)] at this
        exact this
      refine ⟨by omega, fun i hi => ?_⟩
      have := runS_all (p := digitB) (s := t.s) (j := i) (by omega)
      simp only [digitB, Bool.and_eq_true, decide_eq_true_eq] at this
      exact this
    · cases h
theorem number_lex_c (t : Tk) (H : Own g L w) (hsz : t.s.size ≤ 140737488355327) : Calls Pg 103 #[.agg #[.int .i64 t.k, .string t.s, .int .i64 t.a]] w fun e w' => ∃ er, e = .returned (.tuple #[.int .i64 (numV t), .int .i64 er]) ∧ Own g L w' := by
  refine calls_cw (vs := [_]) Tryz.func103 rfl rfl rfl ?_
  refine cw_seq ?_
  refine cw_region rfl ?_
  refine st_box H rfl rfl fun b3 w2 H1 => ?_
  refine st H1 (asg rfl) ?_
  refine st H1 (asg rfl) ?_
  refine wl_nil ?_
  refine cw_seq ?_
  refine cw_seq ?_
  refine cw_region rfl ?_
  refine st H1 (fa fo38_0 rfl) ?_
  refine st H1 (ld sc3 0 rfl rfl rfl) ?_
  refine st H1 (nei rfl rfl) ?_
  refine st H1 (mv rfl) ?_
  refine wl_case (t := 7) rfl (fun hg4 => ?_) (fun hg4 => ?_)
  · have hp4 := hg4
    try simp at hp4
    refine goff rfl rfl hg4 ?_
    refine goff rfl rfl hg4 ?_
    refine goff rfl rfl hg4 ?_
    refine st H1 (pk_t rfl hg4 rfl) ?_
    refine wl_nil ?_
    refine cw_cond_t rfl rfl ?_
    refine cw_seq ?_
    refine cw_region rfl ?_
    refine st H1 (asg rfl) ?_
    refine st H1 (asg rfl) ?_
    refine wl_nil ?_
    refine cw_ret ?_
    refine ret2 rfl rfl rfl ?_
    exact ⟨201, by simp [numV, hp4], (H1.er 0)⟩
  · have hp4 := hg4
    try simp at hp4
    refine gon rfl rfl hg4 ?_
    refine st H1 (lda ag38 0 rfl rfl rfl rfl) ?_
    refine gon rfl rfl hg4 ?_
    refine st_call cf56 rfl (alone_c t H1 hsz) ?_
    rintro _ w6 ⟨rfl, H5⟩
    refine gon rfl rfl hg4 ?_
    refine st H5 (notb rfl) ?_
    refine st H5 (pk_f rfl hg4 rfl) ?_
    refine wl_nil ?_
    refine cw_cond rfl (fun hb7 => ?_) (fun hb7 => ?_)
    · have hp7 := hb7
      try simp at hp7
      refine cw_seq ?_
      refine cw_region rfl ?_
      refine st H5 (asg rfl) ?_
      refine st H5 (asg rfl) ?_
      refine wl_nil ?_
      refine cw_ret ?_
      refine ret2 rfl rfl rfl ?_
      exact ⟨201, by simp [numV, hp4, hp7], (H5.er 0)⟩
    · have hp7 := hb7
      try simp at hp7
      have hk2 : t.k = 2 := by first | assumption | omega
      have hal : aloneB t = true := by assumption
      obtain ⟨hd1, hd2, hd3⟩ := alone_digs hk2 hal
      refine cw_skip ?_
      refine cw_seq ?_
      refine cw_region rfl ?_
      refine st H5 (fa fo38_1 rfl) ?_
      refine st H5 (ld sc9 0 rfl rfl rfl) ?_
      refine st_call cf98 rfl (whole_c _ H5 hd1 hd3 hsz hd2) ?_
      rintro e w9 hpH8
      rcases hpH8 with ⟨v0, hv0, rfl, H8⟩ | ⟨hv0, rfl, H8⟩
      · refine st H8 (ext rfl rfl) ?_
        refine st H8 (ext rfl rfl) ?_
        refine st H8 (asg rfl) ?_
        refine st H8 (asg rfl) ?_
        refine wl_nil ?_
        refine cw_ret ?_
        refine ret2 rfl rfl rfl ?_
        exact ⟨0, by simp [numV, hp4, hp7, hv0], (H8.er 0)⟩
      · refine st H8 (ext rfl rfl) ?_
        refine st H8 (ext rfl rfl) ?_
        refine st H8 (asg rfl) ?_
        refine st H8 (asg rfl) ?_
        refine wl_nil ?_
        refine cw_ret ?_
        refine ret2 rfl rfl rfl ?_
        exact ⟨201, by simp [numV, hp4, hp7, hv0], (H8.er 0)⟩
end
end Go.Proofs.YtmkijgmfefkgeaaGreatDoor
