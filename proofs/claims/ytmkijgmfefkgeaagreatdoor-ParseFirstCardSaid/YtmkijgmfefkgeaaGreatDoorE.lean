/- The parser: the places at which it reads; parts that are begun and done. -/
import Derived.Test.YtmkijgmfefkgeaaGreatDoorT
set_option autoImplicit false
set_option linter.unusedVariables false
set_option linter.unusedSimpArgs false
set_option linter.unnecessarySimpa false
namespace Go.Proofs.YtmkijgmfefkgeaaGreatDoor
open Go
def strc (s : ByteArray) : List Value := [.string s]
def idxB : List ByteArray → ByteArray → Nat → Int
  | [], _, _ => -1
  | x :: r, s, i => if s = x then i else idxB r s (i + 1)
theorem idxB_mem : ∀ (l : List ByteArray) (s : ByteArray) (i : Nat), decide (0 ≤ idxB l s i) = memB l s
  | [], s, i => by simp [idxB, memB]
  | x :: r, s, i => by
    unfold idxB memB
    split
    · simp
    · exact idxB_mem r s (i + 1)
theorem nxt_end {l : List Tk} {k : Nat} (h : l.length ≤ k) : (nxt l k).k = 0 := by simp [nxt, List.getElem?_eq_none h]
theorem kind_lt {l : List Tk} {k : Nat} (hk : k ≤ l.length) {n : Int} (h : (nxt l k).k = n) (hn : n ≠ 0) : k < l.length := by
  rcases Nat.lt_or_ge k l.length with h' | h'
  · exact h'
  · exact absurd (h.symm.trans (nxt_end h')) hn
theorem kind_x {l : List Tk} {k k' : Nat} {n : Int} {x : Tk} (h : kindS l k n = .ok x k') : x = nxt l k := by
  unfold kindS at h
  split at h
  · cases h; rfl
  · cases h
theorem isB_lt {l : List Tk} {k : Nat} (hk : k ≤ l.length) {s : ByteArray} (h : isB l k s = true) : k < l.length := by
  simp only [isB, Bool.and_eq_true, Bool.or_eq_true, decide_eq_true_eq] at h
  rcases h.2 with h | h
  · exact kind_lt hk h (by decide)
  · exact kind_lt hk h.1 (by decide)
theorem namedB_lt {l : List Tk} {k : Nat} (hk : k ≤ l.length) (h : namedB l k = true) : k < l.length := by
  simp only [namedB, Bool.and_eq_true, decide_eq_true_eq] at h
  exact kind_lt hk h.1 (by decide)
section
variable {g w : World} {L : List SP} {pb c k : Nat} {A : Option Addr} {l : List Tk} {nv : Value}
theorem index_c {g w : World} {L : List SP} {A : Option Addr} {c : Nat} {l : List ByteArray} (s : ByteArray) (H : Own g (Els g strc 1 A l :: L) w) (hl : l.length ≤ 1073741824) : Calls Pg 89 #[.slice A l.length c, .string s] w fun e w' => e = .returned (.int .i64 (idxB l s 0)) ∧ Own g (Els g strc 1 A l :: L) w' := by
  refine calls_cw (vs := [_, _]) Tryz.func89 rfl rfl rfl ?_
  refine cw_seq ?_
  refine cw_region rfl ?_
  refine st H (asg rfl) ?_
  refine wl_nil ?_
  refine cw_seq ?_
  refine cw_seq ?_
  refine cw_region rfl ?_
  refine st H (mv rfl) ?_
  refine st H (lenl Tryz.underlying64 rfl) ?_
  refine st H (mv rfl) ?_
  refine wl_nil ?_
  refine cw_block ?_
  refine cw_loop (σ := Nat) (fun i => [(0, .slice A l.length c), (1, .string s), (7, .int .i64 l.length), (8, .int .i64 i)]) (fun i w => Own g (Els g strc 1 A l :: L) w ∧ i ≤ l.length ∧ idxB l s 0 = idxB (l.drop i) s i) (fun i => l.length - i) 0 ⟨rfl, rfl, rfl, rfl, trivial⟩ ⟨H, by simp, by simp⟩ ?_
  rintro i w2 ⟨H1, hi, hx⟩
  refine cw_seq ?_
  refine cw_region rfl ?_
  refine st H1 (lti rfl rfl) ?_
  refine wl_nil ?_
  refine cw_seq ?_
  refine cw_cond rfl (fun hb3 => ?_) (fun hb3 => ?_)
  · have hp3 := hb3
    try simp at hp3
    have hd := List.drop_eq_getElem_cons (show i < l.length by omega)
    obtain ⟨z, hz⟩ : ∃ z, l[i]? = some z := ⟨l[i]'(by omega), by simp [show i < l.length by omega]⟩
    have hz1 : l[i]'(by omega) = z := by rw [List.getElem?_eq_getElem (by omega)] at hz; exact Option.some.inj hz
    rw [hz1] at hd
    refine cw_skip ?_
    refine cw_seq ?_
    refine cw_block ?_
    refine cw_seq ?_
    refine cw_region rfl ?_
    refine st H1 (mv rfl) ?_
    refine st H1 (asg rfl) ?_
    refine wl_nil ?_
    refine cw_seq ?_
    refine cw_region rfl ?_
    refine st H1 (mv rfl) ?_
    refine st H1 (mv rfl) ?_
    refine st H1 (mv rfl) ?_
    refine st H1 (ix (i) sl64 0 rfl rfl rfl rfl (by omega)) ?_
    refine st H1 (ldE1 sc9 0 rfl rfl hz rfl) ?_
    refine st H1 (eqs rfl rfl) ?_
    refine wl_nil ?_
    refine cw_cond rfl (fun hb4 => ?_) (fun hb4 => ?_)
    · have hp4 := hb4
      try simp at hp4
      refine cw_seq ?_
      refine cw_region rfl ?_
      refine st H1 (mv rfl) ?_
      refine st H1 (asg rfl) ?_
      refine wl_nil ?_
      refine cw_ret ?_
      refine ret1 rfl rfl ?_
      exact ⟨by rw [hx, hd]; simp [idxB, hp3, hp4], H1⟩
    · have hp4 := hb4
      try simp at hp4
      refine cw_skip ?_
      refine cw_region rfl ?_
      refine st H1 (add rfl rfl (by omega) (by omega)) ?_
      refine st H1 (mv rfl) ?_
      refine wl_nil ?_
      exact ⟨i + 1, ⟨rfl, rfl, rfl, rfl, trivial⟩, ⟨H1, by omega, by rw [hx, hd]; simp [idxB, hp3, hp4]⟩, by omega⟩
  · have hp3 := hb3
    try simp at hp3
    have hd : l.drop i = [] := List.drop_eq_nil_of_le (by omega)
    refine cw_exit ?_
    refine cw_seq ?_
    refine cw_region rfl ?_
    refine st H1 (asg rfl) ?_
    refine wl_nil ?_
    refine cw_ret ?_
    refine ret1 rfl rfl ?_
    exact ⟨by rw [hx, hd]; simp [idxB, hp3], H1⟩
theorem contains_c {g w : World} {L : List SP} {A : Option Addr} {c : Nat} {l : List ByteArray} {n : Nat} (s : ByteArray) (H : Own g (Els g strc 1 A l :: L) w) (hl : l.length ≤ 1073741824) (hn : n = l.length) : Calls Pg 47 #[.slice A n c, .string s] w fun e w' => e = .returned (.bool (memB l s)) ∧ Own g (Els g strc 1 A l :: L) w' := by
  subst hn
  refine calls_cw (vs := [_, _]) Tryz.func47 rfl rfl rfl ?_
  refine cw_seq ?_
  refine cw_region rfl ?_
  refine st H (asg rfl) ?_
  refine wl_nil ?_
  refine cw_seq ?_
  refine cw_region rfl ?_
  refine st H (mv rfl) ?_
  refine st H (mv rfl) ?_
  refine st_call cf89 rfl (index_c _ H hl) ?_
  rintro _ w2 ⟨rfl, H1⟩
  refine st H1 (gei rfl rfl) ?_
  refine st H1 (asg rfl) ?_
  refine wl_nil ?_
  refine cw_ret ?_
  refine ret1 rfl rfl ?_
  exact ⟨by rw [← idxB_mem l s 0], H1⟩
set_option maxRecDepth 20000 in
theorem kept_c {g w : World} {L : List SP} (s : ByteArray) (H : Own g L w) : Calls Pg 18 #[.string s] w fun e w' => e = .returned (.bool (kept s)) ∧ Own g L w' := by
  refine calls_cw (vs := [_]) Tryz.func18 rfl rfl rfl ?_
  refine cw_seq ?_
  refine cw_region rfl ?_
  refine st H (asg rfl) ?_
  refine wl_nil ?_
  refine cw_seq ?_
  refine cw_region rfl ?_
  refine st_bs (cs := keptL.flatMap strc) H sl64 zc9 rfl rfl rfl rfl (by kernel_rfl) fun b3 w2 H1 => ?_
  refine st H1 (mv rfl) ?_
  have HK := (H1.rw_of (sz := 1) (f := strc) keptL (by decide) rfl (by intro x hx; exact ⟨rfl, rfl⟩) (by simp [keptL, maxLen])).rw_els
  refine st_call cf47 rfl (contains_c _ HK (by simp [keptL]) (by simp [keptL])) ?_
  rintro _ w5 ⟨rfl, H4⟩
  refine st H4 (asg rfl) ?_
  refine wl_nil ?_
  refine cw_ret ?_
  refine ret1 rfl rfl ?_
  exact ⟨rfl, (H4.er 0)⟩
theorem end_c (H : Own g (PT g pb A c l k nv L) w) (hl : TkOk l) (hk : k ≤ l.length) : Calls Pg 158 #[.pointer (some ⟨pb, 0, none⟩)] w fun e w' => e = .returned (.int .i64 (endAt l k)) ∧ Own g (PT g pb A c l k nv L) w' := by
  refine calls_cw (vs := [_]) Tryz.func158 rfl rfl rfl ?_
  refine cw_seq ?_
  refine cw_region rfl ?_
  refine st H (asg rfl) ?_
  refine wl_nil ?_
  refine cw_seq ?_
  refine cw_seq ?_
  refine cw_region rfl ?_
  refine st H (mv rfl) ?_
  refine st H (nck rfl) ?_
  refine st H (fa fo126_1 rfl) ?_
  refine st H (ld sc3 0 rfl rfl rfl) ?_
  refine st H (eqi rfl rfl) ?_
  refine wl_nil ?_
  refine cw_cond rfl (fun hb1 => ?_) (fun hb1 => ?_)
  · have hp1 := hb1
    try simp at hp1
    have hk0 : k = 0 := by have := of_decide_eq_true hb1; omega
    subst hk0
    refine cw_seq ?_
    refine cw_region rfl ?_
    refine st H (asg rfl) ?_
    refine wl_nil ?_
    refine cw_ret ?_
    refine ret1 rfl rfl ?_
    exact ⟨by first | rfl | simp [endAt, hz], ((H.fr 1 rfl).fr 1 rfl)⟩
  · have hp1 := hb1
    try simp at hp1
    have hk0 : k ≠ 0 := by have := of_decide_eq_false hb1; omega
    obtain ⟨j, rfl⟩ : ∃ j, k = j + 1 := ⟨k - 1, by omega⟩
    obtain ⟨z, hz⟩ : ∃ z, l[j]? = some z := ⟨l[j]'(by omega), by simp [show j < l.length by omega]⟩
    have hz2 := hl.2 z (List.mem_of_getElem? hz)
    have hl1 := hl.1
    refine cw_skip ?_
    refine cw_seq ?_
    refine cw_sched (Keep _ [_, _]) 12 (.q 0 (.q 1 (.q 2 (.q 3 (.q 4 (.q 5 (.q 6 (.q 7 (.q 8 (.q 9 (.q 10 (.a 11 (.a 12 .e))))))))))))) hm H (fun w h => ⟨_, ((h.fr 1 rfl).fr 1 rfl)⟩) (by kernel_rfl) (by kernel_rfl) rfl (fun w3 H2 => ?_)
    refine sw rfl rfl (mv rfl) ?_
    refine sw rfl rfl (nck rfl) ?_
    refine sw rfl rfl (fa fo126_0 rfl) ?_
    refine sw rfl rfl (ks fun L' => ld sc31 0 rfl rfl rfl) ?_
    refine sw rfl rfl (mv rfl) ?_
    refine sw rfl rfl (nck rfl) ?_
    refine sw rfl rfl (fa fo126_1 rfl) ?_
    refine sw rfl rfl (ks fun L' => ld sc3 0 rfl rfl rfl) ?_
    refine sw rfl rfl (sub rfl rfl (by omega) (by omega)) ?_
    refine sw rfl rfl (ks fun L' => ix (j) sl31 1 rfl rfl rfl (by omega) (by omega)) ?_
    refine sw rfl rfl (ks fun L' => ldE ag38 1 rfl rfl hz) ?_
    refine sa rfl rfl ?_
    refine st_al H2 zc38 fun b6 w5 H4 => ?_
    refine wl_nil ⟨.inr ⟨_, ((H4.fr 2 rfl).fr 2 rfl)⟩, ?_⟩
    refine sa rfl rfl ?_
    refine st_st 0 H4 rfl rfl rfl sz38 rfl rfl rfl rfl fun w8 H7 => ?_
    refine wl_nil ⟨.inl rfl, ?_⟩
    refine ws_nil ?_
    refine cw_seq ?_
    refine cw_region rfl ?_
    refine st H7 (fa fo38_2 rfl) ?_
    refine st H7 (ld sc3 0 rfl rfl rfl) ?_
    refine st H7 (fa fo38_1 rfl) ?_
    refine st H7 (ld sc9 0 rfl rfl rfl) ?_
    refine st H7 (lens Tryz.underlying9 rfl) ?_
    refine st H7 (add rfl rfl (by omega) (by omega)) ?_
    refine st H7 (asg rfl) ?_
    refine wl_nil ?_
    refine cw_ret ?_
    refine ret1 rfl rfl ?_
    exact ⟨by first | rfl | simp [endAt, hz], (((H7.fr 2 rfl).fr 2 rfl).er 2)⟩
theorem next_c (H : Own g (PT g pb A c l k nv L) w) (hl : TkOk l) (hk : k ≤ l.length) : Calls Pg 156 #[.pointer (some ⟨pb, 0, none⟩)] w fun e w' => e = .returned (.agg (tkc (nxt l k)).toArray) ∧ Own g (PT g pb A c l k nv L) w' := by
  refine calls_cw (vs := [_]) Tryz.func156 rfl rfl rfl ?_
  refine cw_seq ?_
  refine cw_region rfl ?_
  refine st_al H zc38 fun b3 w2 H1 => ?_
  refine wl_nil ?_
  refine cw_seq ?_
  refine cw_seq ?_
  refine cw_quiet hm H1 (by kernel_rfl) rfl ?_
  refine sq (mv rfl) ?_
  refine sq (nck rfl) ?_
  refine sq (fa fo126_1 rfl) ?_
  refine sq (ld sc3 1 rfl rfl rfl) ?_
  refine sq (mv rfl) ?_
  refine sq (nck rfl) ?_
  refine sq (fa fo126_0 rfl) ?_
  refine sq (ld sc31 1 rfl rfl rfl) ?_
  refine sq (lenl Tryz.underlying31 rfl) ?_
  refine sq (eqi rfl rfl) ?_
  refine wq_nil fun w5 H4 => ?_
  refine cw_cond rfl (fun hb6 => ?_) (fun hb6 => ?_)
  · have hp6 := hb6
    try simp at hp6
    have hk0 : k = l.length := by have := of_decide_eq_true hb6; omega
    have hn : nxt l k = ⟨0, ⟨#[]⟩, endAt l k⟩ := by simp [nxt, hk0]
    refine cw_seq ?_
    refine cw_region rfl ?_
    refine st H4 (mv rfl) ?_
    refine st_call cf158 rfl (end_c ((H4.fr 2 rfl).fr 2 rfl) hl (by omega)) ?_
    rintro _ w8 ⟨rfl, H7⟩
    refine st H7 (bld zc38 pl38 rfl rfl) ?_
    refine st_st 2 H7 rfl rfl rfl sz38 rfl rfl rfl rfl fun w10 H9 => ?_
    refine wl_nil ?_
    refine cw_ret ?_
    refine ret1 rfl ⟨_, rfl, own_lda H9 0 (vs := [_, _, _]) rfl ag38 rfl⟩ ?_
    exact ⟨by rw [hn]; rfl, (((H9.fr 2 rfl).fr 2 rfl).er 2)⟩
  · have hp6 := hb6
    try simp at hp6
    have hk0 : ¬ k = l.length := by have := of_decide_eq_false hb6; omega
    obtain ⟨z, hz⟩ : ∃ z, l[k]? = some z := ⟨l[k]'(by omega), by simp [show k < l.length by omega]⟩
    have hn : nxt l k = z := by simp [nxt, hz]
    refine cw_skip ?_
    refine cw_seq ?_
    refine cw_sched (Keep _ [_, _]) 10 (.q 0 (.q 1 (.q 2 (.q 3 (.q 4 (.q 5 (.q 6 (.q 7 (.q 8 (.q 9 (.a 10 .e))))))))))) hm H4 (fun w h => ⟨_, ((h.fr 2 rfl).fr 2 rfl)⟩) (by kernel_rfl) (by kernel_rfl) rfl (fun w12 H11 => ?_)
    refine sw rfl rfl (mv rfl) ?_
    refine sw rfl rfl (nck rfl) ?_
    refine sw rfl rfl (fa fo126_0 rfl) ?_
    refine sw rfl rfl (ks fun L' => ld sc31 0 rfl rfl rfl) ?_
    refine sw rfl rfl (mv rfl) ?_
    refine sw rfl rfl (nck rfl) ?_
    refine sw rfl rfl (fa fo126_1 rfl) ?_
    refine sw rfl rfl (ks fun L' => ld sc3 0 rfl rfl rfl) ?_
    refine sw rfl rfl (ks fun L' => ix (k) sl31 1 rfl rfl rfl rfl (by omega)) ?_
    refine sw rfl rfl (ks fun L' => ldE ag38 1 rfl rfl hz) ?_
    refine sa rfl rfl ?_
    refine st_st 0 H11 rfl rfl rfl sz38 rfl rfl rfl rfl fun w14 H13 => ?_
    refine wl_nil ⟨.inl rfl, ?_⟩
    refine ws_nil ?_
    refine cw_ret ?_
    refine ret1 rfl ⟨_, rfl, own_lda H13 0 (vs := [_, _, _]) rfl ag38 rfl⟩ ?_
    exact ⟨by rw [hn]; rfl, (((H13.fr 2 rfl).fr 2 rfl).er 2)⟩
theorem take_c (H : Own g (PT g pb A c l k nv L) w) (hl : TkOk l) (hk : k < l.length) : Calls Pg 125 #[.pointer (some ⟨pb, 0, none⟩)] w fun e w' => e = .returned (.agg (tkc (nxt l k)).toArray) ∧ Own g (PT g pb A c l (k + 1) nv L) w' := by
  refine calls_cw (vs := [_]) Tryz.func125 rfl rfl rfl ?_
  have hl1 := hl.1
  refine cw_seq ?_
  refine cw_region rfl ?_
  refine st_al H zc38 fun b3 w2 H1 => ?_
  refine wl_nil ?_
  refine cw_seq ?_
  refine cw_region rfl ?_
  refine st H1 (mv rfl) ?_
  refine st_call cf156 rfl (next_c ((H1.fr 2 rfl).fr 2 rfl) hl (by omega)) ?_
  rintro _ w5 ⟨rfl, H4⟩
  refine st_al H4 zc38 fun b8 w7 H6 => ?_
  refine st_st 0 H6 rfl rfl rfl sz38 rfl rfl rfl rfl fun w10 H9 => ?_
  refine wl_nil ?_
  refine cw_seq ?_
  refine cw_region rfl ?_
  refine st H9 (mv rfl) ?_
  refine st H9 (nck rfl) ?_
  refine st H9 (fa fo126_1 rfl) ?_
  refine st H9 (ld sc3 1 rfl rfl rfl) ?_
  refine st H9 (add rfl rfl (by omega) (by omega)) ?_
  refine st H9 (nck rfl) ?_
  refine st H9 (fa fo126_1 rfl) ?_
  refine st_st 1 H9 rfl rfl rfl sz3 rfl rfl rfl rfl fun w12 H11 => ?_
  refine wl_nil ?_
  refine cw_seq ?_
  refine cw_region rfl ?_
  refine st H11 (lda ag38 1 rfl rfl rfl rfl) ?_
  refine st_st 3 H11 rfl rfl rfl sz38 rfl rfl rfl rfl fun w14 H13 => ?_
  refine wl_nil ?_
  refine cw_ret ?_
  refine ret1 rfl ⟨_, rfl, own_lda H13 0 (vs := [_, _, _]) rfl ag38 rfl⟩ ?_
  exact ⟨rfl, ((((H13.fr 3 rfl).fr 2 rfl).er 2).er 2)⟩
theorem is_c (s : ByteArray) (H : Own g (PT g pb A c l k nv L) w) (hl : TkOk l) (hk : k ≤ l.length) : Calls Pg 124 #[.pointer (some ⟨pb, 0, none⟩), .string s] w fun e w' => e = .returned (.bool (isB l k s)) ∧ Own g (PT g pb A c l k nv L) w' := by
  refine calls_cw (vs := [_, _]) Tryz.func124 rfl rfl rfl ?_
  refine cw_seq ?_
  refine cw_region rfl ?_
  refine st H (asg rfl) ?_
  refine wl_nil ?_
  refine cw_seq ?_
  refine cw_region rfl ?_
  refine st H (mv rfl) ?_
  refine st_call cf156 rfl (next_c ((H.fr 1 rfl).fr 1 rfl) hl (by omega)) ?_
  rintro _ w2 ⟨rfl, H1⟩
  refine st_al H1 zc38 fun b5 w4 H3 => ?_
  refine st_st 0 H3 rfl rfl rfl sz38 rfl rfl rfl rfl fun w7 H6 => ?_
  refine wl_nil ?_
  refine cw_seq ?_
  refine cw_region rfl ?_
  refine st H6 (fa fo38_1 rfl) ?_
  refine st H6 (ld sc9 0 rfl rfl rfl) ?_
  refine st H6 (mv rfl) ?_
  refine st H6 (eqs rfl rfl) ?_
  refine st H6 (mv rfl) ?_
  refine wl_case (t := 12) rfl (fun hg8 => ?_) (fun hg8 => ?_)
  · have hp8 := hg8
    try simp at hp8
    refine gon rfl rfl hg8 ?_
    refine st H6 (fa fo38_0 rfl) ?_
    refine gon rfl rfl hg8 ?_
    refine st H6 (ld sc3 0 rfl rfl rfl) ?_
    refine gon rfl rfl hg8 ?_
    refine st H6 (eqi rfl rfl) ?_
    refine gon rfl rfl hg8 ?_
    refine st H6 (mv rfl) ?_
    refine wl_case (t := 16) rfl (fun hg9 => ?_) (fun hg9 => ?_)
    · have hp9 := hg9
      try simp at hp9
      refine goff rfl rfl hg9 ?_
      refine goff rfl rfl hg9 ?_
      refine goff rfl rfl hg9 ?_
      refine goff rfl rfl hg9 ?_
      refine goffu rfl rfl ?_
      refine goffu rfl rfl ?_
      refine goff rfl rfl hg9 ?_
      refine gon rfl rfl hg8 ?_
      refine st H6 (pk_t rfl hg9 rfl) ?_
      refine st H6 (pk_t rfl hg8 rfl) ?_
      refine st H6 (asg rfl) ?_
      refine wl_nil ?_
      refine cw_ret ?_
      refine ret1 rfl rfl ?_
      exact ⟨by simp [isB, hp8, hp9], (((H6.fr 2 rfl).fr 2 rfl).er 2)⟩
    · have hp9 := hg9
      try simp at hp9
      refine gon rfl rfl hg9 ?_
      refine st H6 (fa fo38_0 rfl) ?_
      refine gon rfl rfl hg9 ?_
      refine st H6 (ld sc3 0 rfl rfl rfl) ?_
      refine gon rfl rfl hg9 ?_
      refine st H6 (eqi rfl rfl) ?_
      refine gon rfl rfl hg9 ?_
      refine st H6 (mv rfl) ?_
      refine wl_case (t := 20) rfl (fun hg10 => ?_) (fun hg10 => ?_)
      · have hp10 := hg10
        try simp at hp10
        refine gon rfl rfl hg10 ?_
        refine st H6 (mv rfl) ?_
        refine gon rfl rfl hg10 ?_
        refine st_call cf18 rfl (kept_c _ H6) ?_
        rintro _ w12 ⟨rfl, H11⟩
        refine gon rfl rfl hg9 ?_
        refine st H11 (pk_t rfl hg10 rfl) ?_
        refine gon rfl rfl hg8 ?_
        refine st H11 (pk_f rfl hg9 rfl) ?_
        refine st H11 (pk_t rfl hg8 rfl) ?_
        refine st H11 (asg rfl) ?_
        refine wl_nil ?_
        refine cw_ret ?_
        refine ret1 rfl rfl ?_
        exact ⟨by simp [isB, hp8, hp9, hp10], (((H11.fr 2 rfl).fr 2 rfl).er 2)⟩
      · have hp10 := hg10
        try simp at hp10
        refine goff rfl rfl hg10 ?_
        refine goff rfl rfl hg10 ?_
        refine gon rfl rfl hg9 ?_
        refine st H6 (pk_f rfl hg10 rfl) ?_
        refine gon rfl rfl hg8 ?_
        refine st H6 (pk_f rfl hg9 rfl) ?_
        refine st H6 (pk_t rfl hg8 rfl) ?_
        refine st H6 (asg rfl) ?_
        refine wl_nil ?_
        refine cw_ret ?_
        refine ret1 rfl rfl ?_
        exact ⟨by simp [isB, hp8, hp9, hp10], (((H6.fr 2 rfl).fr 2 rfl).er 2)⟩
  · have hp8 := hg8
    try simp at hp8
    refine goff rfl rfl hg8 ?_
    refine goff rfl rfl hg8 ?_
    refine goff rfl rfl hg8 ?_
    refine goff rfl rfl hg8 ?_
    refine goffu rfl rfl ?_
    refine goffu rfl rfl ?_
    refine goffu rfl rfl ?_
    refine goffu rfl rfl ?_
    refine goffu rfl rfl ?_
    refine goffu rfl rfl ?_
    refine goffu rfl rfl ?_
    refine goff rfl rfl hg8 ?_
    refine st H6 (pk_f rfl hg8 rfl) ?_
    refine st H6 (asg rfl) ?_
    refine wl_nil ?_
    refine cw_ret ?_
    refine ret1 rfl rfl ?_
    exact ⟨by simp [isB, hp8], (((H6.fr 2 rfl).fr 2 rfl).er 2)⟩
theorem fail_c (H : Own g (PT g pb A c l k nv L) w) (hl : TkOk l) (hk : k ≤ l.length) : Calls Pg 154 #[.pointer (some ⟨pb, 0, none⟩)] w fun e w' => e = .panicked (pw (nxt l k).a) ∧ Own g (PT g pb A c l k nv L) w' := by
  refine calls_cw (vs := [_]) Tryz.func154 rfl rfl rfl ?_
  refine cw_region rfl ?_
  refine st H (mv rfl) ?_
  refine st_call cf156 rfl (next_c ((H.fr 1 rfl).fr 1 rfl) hl (by omega)) ?_
  rintro _ w2 ⟨rfl, H1⟩
  refine st H1 (fld fs38_2 rfl rfl) ?_
  refine st H1 (bld zc128 pl128 rfl rfl) ?_
  refine st H1 (mki nif128 rfl) ?_
  refine st_panic rfl ?_
  exact ⟨rfl, ((H1.fr 1 rfl).fr 1 rfl)⟩
theorem need_c (s : ByteArray) (H : Own g (PT g pb A c l k nv L) w) (hl : TkOk l) (hk : k ≤ l.length) : Calls Pg 120 #[.pointer (some ⟨pb, 0, none⟩), .string s] w (PV g pb A c l nv L (needS l k s)) := by
  refine calls_cw (vs := [_, _]) Tryz.func120 rfl rfl rfl ?_
  refine cw_seq ?_
  refine cw_region rfl ?_
  refine st_al H zc38 fun b3 w2 H1 => ?_
  refine wl_nil ?_
  refine cw_seq ?_
  refine cw_seq ?_
  refine cw_region rfl ?_
  refine st H1 (mv rfl) ?_
  refine st H1 (mv rfl) ?_
  refine st_call cf124 rfl (is_c _ ((H1.fr 2 rfl).fr 2 rfl) hl (by omega)) ?_
  rintro _ w5 ⟨rfl, H4⟩
  refine st H4 (notb rfl) ?_
  refine wl_nil ?_
  refine cw_cond rfl (fun hb6 => ?_) (fun hb6 => ?_)
  · have hp6 := hb6
    try simp at hp6
    refine cw_region rfl ?_
    refine st H4 (mv rfl) ?_
    refine st_call cf154 rfl (fail_c ((H4.fr 1 rfl).fr 1 rfl) hl (by omega)) ?_
    rintro _ w8 ⟨rfl, H7⟩
    exact Or.inr ⟨(nxt l k).a, by simp [needS, hp6], rfl, _, (((H7.fr 1 rfl).fr 1 rfl).er 2)⟩
  · have hp6 := hb6
    try simp at hp6
    have hlt := isB_lt hk hp6
    refine cw_skip ?_
    refine cw_seq ?_
    refine cw_region rfl ?_
    refine st H4 (mv rfl) ?_
    refine st_call cf125 rfl (take_c ((H4.fr 1 rfl).fr 1 rfl) hl (by omega)) ?_
    rintro _ w10 ⟨rfl, H9⟩
    refine st_st 2 H9 rfl rfl rfl sz38 rfl rfl rfl rfl fun w12 H11 => ?_
    refine wl_nil ?_
    refine cw_ret ?_
    refine ret1 rfl ⟨_, rfl, own_lda H11 0 (vs := [_, _, _]) rfl ag38 rfl⟩ ?_
    exact Or.inl ⟨_, _, by simp [needS, hp6], by omega, rfl, (((H11.fr 2 rfl).fr 2 rfl).er 2)⟩
theorem named_c (H : Own g (PT g pb A c l k nv L) w) (hl : TkOk l) (hk : k ≤ l.length) : Calls Pg 155 #[.pointer (some ⟨pb, 0, none⟩)] w fun e w' => e = .returned (.bool (namedB l k)) ∧ Own g (PT g pb A c l k nv L) w' := by
  refine calls_cw (vs := [_]) Tryz.func155 rfl rfl rfl ?_
  refine cw_seq ?_
  refine cw_region rfl ?_
  refine st H (asg rfl) ?_
  refine wl_nil ?_
  refine cw_seq ?_
  refine cw_region rfl ?_
  refine st H (mv rfl) ?_
  refine st_call cf156 rfl (next_c ((H.fr 1 rfl).fr 1 rfl) hl (by omega)) ?_
  rintro _ w2 ⟨rfl, H1⟩
  refine st_al H1 zc38 fun b5 w4 H3 => ?_
  refine st_st 0 H3 rfl rfl rfl sz38 rfl rfl rfl rfl fun w7 H6 => ?_
  refine wl_nil ?_
  refine cw_seq ?_
  refine cw_region rfl ?_
  refine st H6 (fa fo38_0 rfl) ?_
  refine st H6 (ld sc3 0 rfl rfl rfl) ?_
  refine st H6 (eqi rfl rfl) ?_
  refine st H6 (mv rfl) ?_
  refine wl_case (t := 9) rfl (fun hg8 => ?_) (fun hg8 => ?_)
  · have hp8 := hg8
    try simp at hp8
    refine gon rfl rfl hg8 ?_
    refine st H6 (fa fo38_1 rfl) ?_
    refine gon rfl rfl hg8 ?_
    refine st H6 (ld sc9 0 rfl rfl rfl) ?_
    refine gon rfl rfl hg8 ?_
    refine st_call cf18 rfl (kept_c _ H6) ?_
    rintro _ w10 ⟨rfl, H9⟩
    refine gon rfl rfl hg8 ?_
    refine st H9 (notb rfl) ?_
    refine st H9 (pk_t rfl hg8 rfl) ?_
    refine st H9 (asg rfl) ?_
    refine wl_nil ?_
    refine cw_ret ?_
    refine ret1 rfl rfl ?_
    exact ⟨by simp [namedB, hp8], (((H9.fr 2 rfl).fr 2 rfl).er 2)⟩
  · have hp8 := hg8
    try simp at hp8
    refine goff rfl rfl hg8 ?_
    refine goff rfl rfl hg8 ?_
    refine goff rfl rfl hg8 ?_
    refine goff rfl rfl hg8 ?_
    refine st H6 (pk_f rfl hg8 rfl) ?_
    refine st H6 (asg rfl) ?_
    refine wl_nil ?_
    refine cw_ret ?_
    refine ret1 rfl rfl ?_
    exact ⟨by simp [namedB, hp8], (((H6.fr 2 rfl).fr 2 rfl).er 2)⟩
theorem name_c (H : Own g (PT g pb A c l k nv L) w) (hl : TkOk l) (hk : k ≤ l.length) : Calls Pg 121 #[.pointer (some ⟨pb, 0, none⟩)] w (PV g pb A c l nv L (nameS l k)) := by
  refine calls_cw (vs := [_]) Tryz.func121 rfl rfl rfl ?_
  refine cw_seq ?_
  refine cw_region rfl ?_
  refine st_al H zc38 fun b3 w2 H1 => ?_
  refine wl_nil ?_
  refine cw_seq ?_
  refine cw_seq ?_
  refine cw_region rfl ?_
  refine st H1 (mv rfl) ?_
  refine st_call cf155 rfl (named_c ((H1.fr 2 rfl).fr 2 rfl) hl (by omega)) ?_
  rintro _ w5 ⟨rfl, H4⟩
  refine st H4 (notb rfl) ?_
  refine wl_nil ?_
  refine cw_cond rfl (fun hb6 => ?_) (fun hb6 => ?_)
  · have hp6 := hb6
    try simp at hp6
    refine cw_region rfl ?_
    refine st H4 (mv rfl) ?_
    refine st_call cf154 rfl (fail_c ((H4.fr 1 rfl).fr 1 rfl) hl (by omega)) ?_
    rintro _ w8 ⟨rfl, H7⟩
    exact Or.inr ⟨(nxt l k).a, by simp [nameS, hp6], rfl, _, (((H7.fr 1 rfl).fr 1 rfl).er 2)⟩
  · have hp6 := hb6
    try simp at hp6
    have hlt := namedB_lt hk hp6
    refine cw_skip ?_
    refine cw_seq ?_
    refine cw_region rfl ?_
    refine st H4 (mv rfl) ?_
    refine st_call cf125 rfl (take_c ((H4.fr 1 rfl).fr 1 rfl) hl (by omega)) ?_
    rintro _ w10 ⟨rfl, H9⟩
    refine st_st 2 H9 rfl rfl rfl sz38 rfl rfl rfl rfl fun w12 H11 => ?_
    refine wl_nil ?_
    refine cw_ret ?_
    refine ret1 rfl ⟨_, rfl, own_lda H11 0 (vs := [_, _, _]) rfl ag38 rfl⟩ ?_
    exact Or.inl ⟨_, _, by simp [nameS, hp6], by omega, rfl, (((H11.fr 2 rfl).fr 2 rfl).er 2)⟩
theorem kind_c (n : Int) (H : Own g (PT g pb A c l k nv L) w) (hl : TkOk l) (hk : k ≤ l.length) (hn : n ≠ 0) : Calls Pg 126 #[.pointer (some ⟨pb, 0, none⟩), .int .i64 n] w (PV g pb A c l nv L (kindS l k n)) := by
  refine calls_cw (vs := [_, _]) Tryz.func126 rfl rfl rfl ?_
  refine cw_seq ?_
  refine cw_region rfl ?_
  refine st_al H zc38 fun b3 w2 H1 => ?_
  refine wl_nil ?_
  refine cw_seq ?_
  refine cw_seq ?_
  refine cw_region rfl ?_
  refine st H1 (mv rfl) ?_
  refine st_call cf156 rfl (next_c ((H1.fr 2 rfl).fr 2 rfl) hl (by omega)) ?_
  rintro _ w5 ⟨rfl, H4⟩
  refine st H4 (fld fs38_0 rfl rfl) ?_
  refine st H4 (mv rfl) ?_
  refine st H4 (nei rfl rfl) ?_
  refine wl_nil ?_
  refine cw_cond rfl (fun hb6 => ?_) (fun hb6 => ?_)
  · have hp6 := hb6
    try simp at hp6
    refine cw_region rfl ?_
    refine st H4 (mv rfl) ?_
    refine st_call cf154 rfl (fail_c ((H4.fr 1 rfl).fr 1 rfl) hl (by omega)) ?_
    rintro _ w8 ⟨rfl, H7⟩
    exact Or.inr ⟨(nxt l k).a, by simp [kindS, hp6], rfl, _, (((H7.fr 1 rfl).fr 1 rfl).er 2)⟩
  · have hp6 := hb6
    try simp at hp6
    have hlt := kind_lt hk hp6 hn
    refine cw_skip ?_
    refine cw_seq ?_
    refine cw_region rfl ?_
    refine st H4 (mv rfl) ?_
    refine st_call cf125 rfl (take_c ((H4.fr 1 rfl).fr 1 rfl) hl (by omega)) ?_
    rintro _ w10 ⟨rfl, H9⟩
    refine st_st 2 H9 rfl rfl rfl sz38 rfl rfl rfl rfl fun w12 H11 => ?_
    refine wl_nil ?_
    refine cw_ret ?_
    refine ret1 rfl ⟨_, rfl, own_lda H11 0 (vs := [_, _, _]) rfl ag38 rfl⟩ ?_
    exact Or.inl ⟨_, _, by simp [kindS, hp6], by omega, rfl, (((H11.fr 2 rfl).fr 2 rfl).er 2)⟩
theorem closed_c (H : Own g (PT g pb A c l k nv L) w) (hl : TkOk l) (hk : k ≤ l.length) : Calls Pg 123 #[.pointer (some ⟨pb, 0, none⟩)] w fun e w' => (∃ x k', kindS l k 5 = .ok x k' ∧ k' ≤ l.length ∧ e = .returned (.tuple #[]) ∧ Own g (PT g pb A c l k' nv L) w') ∨ (∃ q, kindS l k 5 = .er q ∧ e = .panicked (pw q) ∧ ∃ k', Own g (PT g pb A c l k' nv L) w') := by
  refine calls_cw (vs := [_]) Tryz.func123 rfl rfl rfl ?_
  refine cw_region rfl ?_
  refine st H (mv rfl) ?_
  refine st_call cf126 rfl (kind_c _ ((H.fr 1 rfl).fr 1 rfl) hl (by omega) (by decide)) ?_
  rintro e w2 hpH1
  rcases hpH1 with ⟨x1, k1, hs1, hk1, rfl, H1⟩ | ⟨q1, hs1, rfl, kq1, H1⟩
  · refine wl_nil ?_
    refine end0 rfl ?_
    exact Or.inl ⟨_, _, hs1, by omega, rfl, ((H1.fr 1 rfl).fr 1 rfl)⟩
  · exact Or.inr ⟨q1, by simp [hs1], rfl, _, ((H1.fr 1 rfl).fr 1 rfl)⟩
theorem begin_c {g w : World} {L : List SP} (kd : Int) (t : Tk) (tx : ByteArray) (H : Own g L w) : Calls Pg 122 #[.int .i64 kd, .agg #[.int .i64 t.k, .string t.s, .int .i64 t.a], .string tx] w fun e w' => ∃ b, e = .returned (.pointer (some ⟨b, 0, none⟩)) ∧ Own g (bk b 151 (ndc (begN kd t tx) none 0 0) :: Rw 131 ptrc 1 none 0 ([] : List Nat) :: PFo .nil [] :: L) w' := by
  refine calls_cw (vs := [_, _, _]) Tryz.func122 rfl rfl rfl ?_
  refine cw_seq ?_
  refine cw_region rfl ?_
  refine st_box H rfl rfl fun b3 w2 H1 => ?_
  refine st H1 (asg rfl) ?_
  refine wl_nil ?_
  refine cw_seq ?_
  refine cw_region rfl ?_
  refine st H1 (mv rfl) ?_
  refine st H1 (mv rfl) ?_
  refine st H1 (fa fo38_2 rfl) ?_
  refine st H1 (ld sc3 0 rfl rfl rfl) ?_
  refine st H1 (fa fo38_2 rfl) ?_
  refine st H1 (ld sc3 0 rfl rfl rfl) ?_
  refine st H1 (bld zc43 pl43 rfl rfl) ?_
  refine st H1 (fa fo38_2 rfl) ?_
  refine st H1 (ld sc3 0 rfl rfl rfl) ?_
  refine st H1 (bld zc151 pl151 rfl rfl) ?_
  refine st_box H1 rfl rfl fun b6 w5 H4 => ?_
  refine st H4 (asg rfl) ?_
  refine wl_nil ?_
  refine cw_ret ?_
  refine ret1 rfl rfl ?_
  exact ⟨_, rfl, (((H4.er 1)).pfo_nil.rw_nil.fr 2 rfl)⟩
theorem done_c {xb : Nat} {v0 v1 v2 v3 v4 v5 v6 v7 v8 : Value} (H : Own g (PT g pb A c l k nv (bk xb 151 [v0, v1, v2, v3, v4, v5, v6, v7, v8] :: L)) w) (hl : TkOk l) (hk : k ≤ l.length) : Calls Pg 128 #[.pointer (some ⟨pb, 0, none⟩), .pointer (some ⟨xb, 0, none⟩)] w fun e w' => e = .returned (.pointer (some ⟨xb, 0, none⟩)) ∧ Own g (PT g pb A c l k nv (bk xb 151 [v0, v1, v2, v3, v4, v5, .int .i64 (endAt l k), v7, v8] :: L)) w' := by
  refine calls_cw (vs := [_, _]) Tryz.func128 rfl rfl rfl ?_
  refine cw_seq ?_
  refine cw_region rfl ?_
  refine st H (asg rfl) ?_
  refine wl_nil ?_
  refine cw_seq ?_
  refine cw_region rfl ?_
  refine st H (mv rfl) ?_
  refine st H (mv rfl) ?_
  refine st_call cf158 rfl (end_c ((H.fr 1 rfl).fr 1 rfl) hl (by omega)) ?_
  rintro _ w2 ⟨rfl, H1⟩
  refine st H1 (nck rfl) ?_
  refine st H1 (fa fo151_0 rfl) ?_
  refine st H1 (fa fo43_6 rfl) ?_
  refine st_st 2 H1 rfl rfl rfl sz3 rfl rfl rfl rfl fun w4 H3 => ?_
  refine wl_nil ?_
  refine cw_seq ?_
  refine cw_region rfl ?_
  refine st H3 (mv rfl) ?_
  refine st H3 (asg rfl) ?_
  refine wl_nil ?_
  refine cw_ret ?_
  refine ret1 rfl rfl ?_
  exact ⟨rfl, ((H3.fr 2 rfl).fr 2 rfl)⟩
end
end Go.Proofs.YtmkijgmfefkgeaaGreatDoor
