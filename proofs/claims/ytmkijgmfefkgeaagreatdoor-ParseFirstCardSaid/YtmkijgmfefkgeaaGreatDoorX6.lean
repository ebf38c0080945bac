/- The statement's own function: ParseFirst. No condition. -/
import Derived.Test.YtmkijgmfefkgeaaGreatDoorX
import Derived.Test.YtmkijgmfefkgeaaGreatDoorM
import Derived.Test.YtmkijgmfefkgeaaGreatDoorP7
set_option autoImplicit false
set_option linter.unusedVariables false
set_option linter.unusedSimpArgs false
set_option linter.unusedSectionVars false
namespace Go.Proofs.YtmkijgmfefkgeaaGreatDoor
open Go
/-- Tokens that are laid behind z, from number j on. -/
def newL (z : Tk) : Nat → List Tk → List Tk
  | _, [] => []
  | j, x :: r => ⟨x.k, x.s, z.a + (z.s.size : Int) + 100 * ((j : Int) + 1)⟩ :: newL z (j + 1) r
theorem newL_len (z : Tk) : ∀ (r : List Tk) (j : Nat), (newL z j r).length = r.length
  | [], _ => rfl
  | x :: r, j => by simp [newL, newL_len z r]
theorem newL_mem (z : Tk) : ∀ (r : List Tk) (j : Nat) (t : Tk), t ∈ newL z j r → (∃ x ∈ r, t.s = x.s) ∧ z.a + (z.s.size : Int) + 100 * ((j : Int) + 1) ≤ t.a ∧ t.a ≤ z.a + (z.s.size : Int) + 100 * ((j : Int) + (r.length : Int))
  | [], _, t, h => by cases h
  | x :: r, j, t, h => by
    rcases List.mem_cons.1 h with rfl | h
    · refine ⟨⟨x, by simp, rfl⟩, by dsimp only; omega, ?_⟩
      dsimp only
      simp only [List.length_cons]
      omega
    · obtain ⟨⟨y, hy, h1⟩, h2, h3⟩ := newL_mem z r (j + 1) t h
      refine ⟨⟨y, by simp [hy], h1⟩, by omega, ?_⟩
      simp only [List.length_cons]
      omega
theorem newL_fol (z : Tk) : ∀ (r : List Tk) (j : Nat) (p : Int), (0 ≤ z.a + (z.s.size : Int)) → p < z.a + (z.s.size : Int) + 100 * ((j : Int) + 1) → risesF p (newL z j r) = true
  | [], _, _, _, _ => rfl
  | x :: r, j, p, h0, h1 => by
    simp only [newL, risesF, Bool.and_eq_true, decide_eq_true_eq]
    exact ⟨⟨by omega, h1⟩, newL_fol z r (j + 1) _ h0 (by omega)⟩
theorem rises_app : ∀ (l m : List Tk) (p : Int), risesF p l = true → (∀ q, (q = p ∨ ∃ t ∈ l, q = t.a) → (∀ t ∈ l, t.a ≤ q) → p ≤ q → risesF q m = true) → risesF p (l ++ m) = true
  | [], m, p, _, h => h p (.inl rfl) (by simp) (Int.le_refl _)
  | t :: r, m, p, hl, h => by
    simp only [risesF, Bool.and_eq_true, decide_eq_true_eq] at hl
    simp only [List.cons_append, risesF, Bool.and_eq_true, decide_eq_true_eq]
    refine ⟨hl.1, rises_app r m t.a hl.2 fun q hq h1 h2 => h q ?_ (fun u hu => ?_) (by omega)⟩
    · rcases hq with rfl | ⟨u, hu, rfl⟩
      · exact .inr ⟨t, by simp, rfl⟩
      · exact .inr ⟨u, by simp [hu], rfl⟩
    · rcases List.mem_cons.1 hu with rfl | hu
      · exact h2
      · exact h1 u hu
theorem rises_take : ∀ (l : List Tk) (n : Nat) (p : Int), risesF p l = true → risesF p (l.take n) = true
  | [], n, p, h => by simp [risesF]
  | t :: r, 0, p, h => rfl
  | t :: r, n + 1, p, h => by
    simp only [risesF, Bool.and_eq_true, decide_eq_true_eq] at h
    simp only [List.take_succ_cons, risesF, Bool.and_eq_true, decide_eq_true_eq]
    exact ⟨h.1, rises_take r n t.a h.2⟩
/-- What is laid behind the first i + 1 tokens rises. -/
theorem more_rises {s : ByteArray} {l l0 : List Tk} {i : Nat} {z : Tk} (h : LxI s l) (hz : l[i]? = some z) : risesF (-1) (l.take (i + 1) ++ newL z 0 l0) = true := by
  have hzm := List.mem_of_getElem? hz
  have hz0 := h.pos z hzm
  refine rises_app _ _ _ (rises_take l (i + 1) (-1) h.rises) fun q hq h1 h2 => ?_
  refine newL_fol z l0 0 q (by omega) ?_
  have hlt := (List.getElem?_eq_some_iff.1 hz).1
  have hq2 : q ≤ z.a + (z.s.size : Int) := by
    rcases hq with rfl | ⟨t, ht, rfl⟩
    · omega
    · obtain ⟨j, hj⟩ := List.getElem?_of_mem ht
      rw [List.getElem?_take] at hj
      split at hj
      · rename_i hji
        rcases Nat.lt_or_ge j i with h3 | h3
        · have hjl : j < l.length := by omega
          have h4 := List.pairwise_iff_getElem.1 h.fol j i hjl hlt h3
          rw [List.getElem?_eq_getElem hjl] at hj
          rw [List.getElem?_eq_getElem hlt] at hz
          have e1 := Option.some.inj hj
          have e2 := Option.some.inj hz
          rw [e1, e2] at h4
          have := h4.1
          omega
        · have : j = i := by omega
          subst this
          rw [hz] at hj
          cases hj
          omega
      · cases hj
  omega
theorem take_get {l m : List Tk} {i k : Nat} (hi : i < l.length) (hk : k ≤ i) : (l.take (i + 1) ++ m)[k]? = l[k]? := by
  rw [List.getElem?_append_left (by simp; omega), List.getElem?_take, if_pos (by omega)]
section
variable {g w : World} {L : List SP} [Glo g]
theorem more_sz {s : ByteArray} {l l0 rs : List Tk} {i : Nat} {z : Tk} (hmo : rs = l.take (i + 1) ++ newL z 0 l0) (hI : LxI s l) (hs4 : s.size ≤ 4096) (hmz : z ∈ l) (hz : l[i]? = some z) (hl0 : ∀ t ∈ l0, t.s.size ≤ 140737488355327) (hn : l0.length ≤ 500) : TkSz rs := by
  subst hmo
  have hlen := hI.len
  refine ⟨by simp [newL_len]; omega, fun t ht => ?_⟩
  rcases List.mem_append.1 ht with ht | ht
  · obtain ⟨a, _, h2, _⟩ := hI.sp t (List.mem_of_mem_take ht)
    omega
  · obtain ⟨⟨x, hx, h1⟩, _⟩ := newL_mem z l0 0 t ht
    rw [h1]
    exact hl0 x hx
theorem more_at {s : ByteArray} {l l0 rs : List Tk} {i : Nat} {z : Tk} (hmo : rs = l.take (i + 1) ++ newL z 0 l0) (hI : LxI s l) (hs4 : s.size ≤ 4096) (hmz : z ∈ l) (hz : l[i]? = some z) (hl0 : ∀ t ∈ l0, t.s.size ≤ 140737488355327) (hn : l0.length ≤ 500) : ∀ t ∈ rs, t.a ≤ 1125899906842624 := by
  subst hmo
  intro t ht
  have hz0 := hI.pos z hmz
  obtain ⟨az, h1, h2, _⟩ := hI.sp z hmz
  rcases List.mem_append.1 ht with ht | ht
  · have := hI.pos t (List.mem_of_mem_take ht)
    omega
  · obtain ⟨_, _, h3⟩ := newL_mem z l0 0 t ht
    omega
set_option maxHeartbeats 4000000 in
theorem parseFirst_c {A0 : Option Addr} {c0 : Nat} {l0 : List Tk} (a : ByteArray) (H : Own g (Els g tkc 3 A0 l0 :: L) w) (hl0 : ∀ t ∈ l0, t.s.size ≤ 140737488355327) (hll : l0.length ≤ 4398046511104) : Calls Pg 6 #[.string a, .slice A0 l0.length c0] w fun e w' => e = .returned (.bool true) ∧ Own g L w' := by
  refine calls_cw (vs := [_, _]) Tryz.func6 rfl rfl rfl ?_
  refine cw_seq ?_
  refine cw_region rfl ?_
  refine st H (asg rfl) ?_
  refine wl_nil ?_
  refine cw_seq ?_
  refine cw_seq ?_
  refine cw_region rfl ?_
  refine st_call cf13 rfl (wakes_c H) ?_
  rintro _ w2 ⟨rfl, H1⟩
  refine st H1 (notb rfl) ?_
  refine wl_nil ?_
  refine cw_cond_f rfl rfl ?_
  refine cw_skip ?_
  refine cw_seq ?_
  refine cw_seq ?_
  refine cw_region rfl ?_
  refine st H1 (mv rfl) ?_
  refine st H1 (lens Tryz.underlying9 rfl) ?_
  refine st H1 (gti rfl rfl) ?_
  refine st H1 (mv rfl) ?_
  refine wl_case (t := 19) rfl (fun hg3 => ?_) (fun hg3 => ?_)
  · have hp3 := hg3
    try simp at hp3
    refine goff rfl rfl hg3 ?_
    refine goff rfl rfl hg3 ?_
    refine goff rfl rfl hg3 ?_
    refine st H1 (pk_t rfl hg3 rfl) ?_
    refine wl_nil ?_
    refine cw_cond_t rfl rfl ?_
    refine cw_seq ?_
    refine cw_region rfl ?_
    refine st H1 (asg rfl) ?_
    refine wl_nil ?_
    refine cw_ret ?_
    refine ret1 rfl rfl ?_
    exact ⟨by first | rfl | (rw [hfl, ← hq1]; simp [hq1, hq2]), (H1.er 0)⟩
  · have hp3 := hg3
    try simp at hp3
    refine gon rfl rfl hg3 ?_
    refine st H1 (mv rfl) ?_
    refine gon rfl rfl hg3 ?_
    refine st H1 (lenl Tryz.underlying31 rfl) ?_
    refine gon rfl rfl hg3 ?_
    refine st H1 (gti rfl rfl) ?_
    refine st H1 (pk_f rfl hg3 rfl) ?_
    refine wl_nil ?_
    refine cw_cond rfl (fun hb4 => ?_) (fun hb4 => ?_)
    · have hp4 := hb4
      try simp at hp4
      refine cw_seq ?_
      refine cw_region rfl ?_
      refine st H1 (asg rfl) ?_
      refine wl_nil ?_
      refine cw_ret ?_
      refine ret1 rfl rfl ?_
      exact ⟨by first | rfl | (rw [hfl, ← hq1]; simp [hq1, hq2]), (H1.er 0)⟩
    · have hp4 := hb4
      try simp at hp4
      refine cw_skip ?_
      refine cw_seq ?_
      refine cw_region rfl ?_
      refine st H1 (mv rfl) ?_
      refine st_call cf22 rfl (lex_c a H1 (by omega)) ?_
      rintro e w6 hpH5
      rcases hpH5 with ⟨l, A1, c1, hlx, rfl, HL0⟩ | ⟨er, ea, hlx, hne, rfl, H5⟩
      · obtain ⟨hI, hs4⟩ := lexS_ok hlx
        have hlen := hI.len
        have hc1 : l = [] ∨ ∃ b, A1 = some ⟨b, 0, none⟩ ∧ l.length ≤ c1 := (HL0.rw_cells).2.imp id fun ⟨b, cur, h1, h2, _⟩ => ⟨b, h1, h2⟩
        have HL := HL0.rw_els
        have hpos := hI.pos
        refine st HL (mv rfl) ?_
        refine st HL (ext rfl rfl) ?_
        refine st HL (ext rfl rfl) ?_
        refine st_al HL zc28 fun b9 w8 H7 => ?_
        refine st H7 (asg rfl) ?_
        refine st_st 0 H7 rfl rfl rfl sz28 rfl rfl rfl rfl fun w11 H10 => ?_
        refine wl_nil ?_
        refine cw_seq ?_
        refine cw_seq ?_
        refine cw_region rfl ?_
        refine st H10 (fa fo28_0 rfl) ?_
        refine st H10 (ld sc26 0 rfl rfl rfl) ?_
        refine st H10 (nei rfl rfl) ?_
        refine wl_nil ?_
        refine cw_cond_f rfl (by decide) ?_
        refine cw_skip ?_
        refine cw_seq ?_
        refine cw_region rfl ?_
        refine st H10 (mv rfl) ?_
        refine st_call cf20 rfl (top_c 20000 (H10.fr 1 rfl) (hI.tksz hs4) (fun t ht => by have := hpos t ht; omega) (fun _ => file_ok 20000 (by omega)) (fun _ x k hx => by have := file_size (l := l) 20000 (by omega) x k hx; omega)) ?_
        rintro _ w13 ⟨ms_, A2_, c2_, rfl, _, H12⟩
        refine st H12 (mv rfl) ?_
        refine st H12 (ext rfl rfl) ?_
        refine st H12 (ext rfl rfl) ?_
        refine st_st 3 H12 rfl rfl rfl sz28 rfl rfl rfl rfl fun w15 H14 => ?_
        refine wl_nil ?_
        refine cw_seq ?_
        refine cw_seq ?_
        refine cw_region rfl ?_
        refine st H14 (mv rfl) ?_
        refine st H14 (lenl Tryz.underlying31 rfl) ?_
        refine st H14 (mv rfl) ?_
        refine wl_nil ?_
        refine cw_block ?_
        refine cw_loop (σ := Nat) (fun i => [(0, .string a), (1, .slice A0 l0.length c0), (5, .slice A1 l.length c1), (6, .pointer (some ⟨b9, 0, none⟩)), (37, .slice A1 l.length c1), (38, .int .i64 l.length), (39, .int .i64 i)]) (fun i w => Own g (bk b9 28 [.int .i64 (topS l 20000).2.1, .int .i64 (topS l 20000).2.2] :: Els g tkc 3 A1 l :: Els g tkc 3 A0 l0 :: L) w ∧ i ≤ l.length) (fun i => l.length - i) 0 ⟨rfl, rfl, rfl, rfl, rfl, rfl, rfl, trivial⟩ ⟨(((((H14.fr 4 rfl).fr 2 rfl).fr 2 rfl).er 3).er 3), by omega⟩ ?_
        rintro i w17 ⟨H16, hi⟩
        refine cw_seq ?_
        refine cw_region rfl ?_
        refine st H16 (lti rfl rfl) ?_
        refine wl_nil ?_
        refine cw_seq ?_
        refine cw_cond rfl (fun hb18 => ?_) (fun hb18 => ?_)
        · have hp18 := hb18
          try simp at hp18
          obtain ⟨z, hz, _, hmz⟩ := drop_some (l := l) (i := i) (by omega)
          have hpz := hpos z hmz
          obtain ⟨az, haz, hsz, _⟩ := hI.sp z hmz
          refine cw_skip ?_
          refine cw_seq ?_
          refine cw_block ?_
          refine cw_seq ?_
          refine cw_region rfl ?_
          refine st H16 (mv rfl) ?_
          refine st H16 (ix (i) sl31 1 rfl rfl rfl rfl (by omega)) ?_
          refine st H16 (ldE ag38 1 rfl rfl hz) ?_
          refine st_al H16 zc38 fun b21 w20 H19 => ?_
          refine st H19 (asg rfl) ?_
          refine st_st 0 H19 rfl rfl rfl sz38 rfl rfl rfl rfl fun w23 H22 => ?_
          refine wl_nil ?_
          refine cw_seq ?_
          refine cw_seq ?_
          refine cw_region rfl ?_
          refine st H22 (fa fo28_0 rfl) ?_
          refine st H22 (ld sc26 1 rfl rfl rfl) ?_
          refine st H22 (nei rfl rfl) ?_
          refine st H22 (mv rfl) ?_
          refine wl_case (t := 47) rfl (fun hg24 => ?_) (fun hg24 => ?_)
          · have hp24 := hg24
            try simp at hp24
            refine goff rfl rfl hg24 ?_
            refine goff rfl rfl hg24 ?_
            refine goff rfl rfl hg24 ?_
            refine goff rfl rfl hg24 ?_
            refine goff rfl rfl hg24 ?_
            refine st H22 (pk_t rfl hg24 rfl) ?_
            refine wl_nil ?_
            refine cw_cond_t rfl rfl ?_
            refine cw_exit ?_
            refine cw_region rfl ?_
            refine st H22 (add rfl rfl (by omega) (by omega)) ?_
            refine st H22 (mv rfl) ?_
            refine wl_nil ?_
            exact ⟨i + 1, ⟨rfl, rfl, rfl, rfl, rfl, rfl, rfl, trivial⟩, ⟨((((H22.fr 3 rfl).fr 3 rfl).fr 3 rfl).er 3), by omega⟩, by omega⟩
          · have hp24 := hg24
            try simp at hp24
            refine gon rfl rfl hg24 ?_
            refine st H22 (fa fo38_2 rfl) ?_
            refine gon rfl rfl hg24 ?_
            refine st H22 (ld sc3 0 rfl rfl rfl) ?_
            refine gon rfl rfl hg24 ?_
            refine st H22 (fa fo28_1 rfl) ?_
            refine gon rfl rfl hg24 ?_
            refine st H22 (ld sc3 1 rfl rfl rfl) ?_
            refine gon rfl rfl hg24 ?_
            refine st H22 (nei rfl rfl) ?_
            refine st H22 (pk_f rfl hg24 rfl) ?_
            refine wl_nil ?_
            refine cw_cond rfl (fun hb25 => ?_) (fun hb25 => ?_)
            · have hp25 := hb25
              try simp at hp25
              refine cw_exit ?_
              refine cw_region rfl ?_
              refine st H22 (add rfl rfl (by omega) (by omega)) ?_
              refine st H22 (mv rfl) ?_
              refine wl_nil ?_
              exact ⟨i + 1, ⟨rfl, rfl, rfl, rfl, rfl, rfl, rfl, trivial⟩, ⟨((((H22.fr 3 rfl).fr 3 rfl).fr 3 rfl).er 3), by omega⟩, by omega⟩
            · have hp25 := hb25
              try simp at hp25
              have hq1 : (topS l 20000).2.1 = 210 := by omega
              have hq2 : z.a = (topS l 20000).2.2 := by omega
              refine cw_skip ?_
              refine cw_seq ?_
              refine cw_seq ?_
              refine cw_region rfl ?_
              refine st H22 (mv rfl) ?_
              refine st H22 (mv rfl) ?_
              refine st H22 (lenl Tryz.underlying31 rfl) ?_
              refine st H22 (sub rfl rfl (by omega) (by omega)) ?_
              refine st H22 (eqi rfl rfl) ?_
              refine st H22 (mv rfl) ?_
              refine wl_case (t := 59) rfl (fun hg26 => ?_) (fun hg26 => ?_)
              · have hp26 := hg26
                try simp at hp26
                refine gon rfl rfl hg26 ?_
                refine st H22 (fa fo38_1 rfl) ?_
                refine gon rfl rfl hg26 ?_
                refine st H22 (ld sc9 0 rfl rfl rfl) ?_
                refine gon rfl rfl hg26 ?_
                refine st H22 (eqs rfl rfl) ?_
                refine st H22 (pk_t rfl hg26 rfl) ?_
                refine wl_nil ?_
                refine cw_cond rfl (fun hb27 => ?_) (fun hb27 => ?_)
                · have hp27 := hb27
                  try simp at hp27
                  refine cw_seq ?_
                  refine cw_region rfl ?_
                  refine st H22 (asg rfl) ?_
                  refine wl_nil ?_
                  refine cw_ret ?_
                  refine ret1 rfl rfl ?_
                  exact ⟨by first | rfl | (rw [hfl, ← hq1]; simp [hq1, hq2]), ((((H22.er 0).er 0).er 0).er 0)⟩
                · have hp27 := hb27
                  try simp at hp27
                  have hlast : ¬ (i = l.length - 1 ∧ z.s.size = 0) := by
                    rintro ⟨h1, h2⟩
                    first | omega | (have h3 := size_zero h2; simp_all)
                  refine cw_skip ?_
                  refine cw_seq ?_
                  obtain ⟨bz, rfl, hcz⟩ := hc1.resolve_left (by rintro rfl; simp at hz)
                  refine cw_region rfl ?_
                  refine st_bs0 (f := tkc) H22 sl31 fun b30 w29 H28 => ?_
                  refine st H28 (mv rfl) ?_
                  refine st H28 (mv rfl) ?_
                  refine st H28 (add rfl rfl (by omega) (by omega)) ?_
                  refine st H28 (slto sl31 rfl rfl (i + 1) (by omega) (by omega)) ?_
                  have hcut : ∀ j y, (l.take (i + 1))[j]? = some y → ∀ q u, (tkc y)[q]? = some u → w29.cell? ((⟨bz, 0, none⟩ : Addr).add (j * 3 + q)) = some u := by
                    intro j y hy q u hu
                    rcases H28.els 3 rfl with h | ⟨b, off, hA, hc⟩
                    · subst h; simp at hz
                    · simp only [Option.some.injEq, Addr.mk.injEq, and_true] at hA
                      obtain ⟨rfl, rfl⟩ := hA
                      rw [List.getElem?_take] at hy
                      split at hy
                      · rw [add_at, Nat.zero_add]; have h9 := (hc j y hy).2 q u hu; rwa [Nat.zero_add] at h9
                      · cases hy
                  refine st_appC 0 (l.take (i + 1)) H28 sl31 zc38 rfl rfl rfl rfl rfl hcut (by first | omega | (simp; omega)) (fun y _ => ⟨rfl, rfl⟩) (by first | omega | (simp; omega)) (by first | omega | (simp; omega)) fun A33 c34 w32 H31 => ?_
                  refine st H31 (asg rfl) ?_
                  refine wl_nil ?_
                  refine cw_seq ?_
                  refine cw_seq ?_
                  refine cw_region rfl ?_
                  refine st H31 (mv rfl) ?_
                  refine st H31 (lenl Tryz.underlying31 rfl) ?_
                  refine st H31 (mv rfl) ?_
                  refine wl_nil ?_
                  refine cw_block ?_
                  have hml : (l.take (i + 1)).length = i + 1 := by simp; omega
                  refine cw_loop (σ := Nat × (List Tk × (Option Addr × Nat))) (fun s => [(0, .string a), (5, .slice (some ⟨bz, 0, none⟩) l.length c1), (6, .pointer (some ⟨b9, 0, none⟩)), (8, .pointer (some ⟨b21, 0, none⟩)), (9, .slice s.2.2.1 s.2.1.length s.2.2.2), (70, .slice A0 l0.length c0), (71, .int .i64 l0.length), (72, .int .i64 s.1)]) (fun s w => Own g (Rw 38 tkc 3 s.2.2.1 s.2.2.2 s.2.1 :: bk b21 38 (tkc z) :: bk b9 28 [.int .i64 (topS l 20000).2.1, .int .i64 (topS l 20000).2.2] :: Els g tkc 3 (some ⟨bz, 0, none⟩) l :: Els g tkc 3 A0 l0 :: L) w ∧ s.1 ≤ l0.length ∧ s.2.1.length = i + 1 + s.1 ∧ s.2.1 ++ newL z s.1 (l0.drop s.1) = l.take (i + 1) ++ newL z 0 l0) (fun s => l0.length - s.1) (0, (_, (_, _))) ⟨rfl, rfl, rfl, rfl, rfl, rfl, rfl, rfl, trivial⟩ ⟨(((((H31.fr 4 rfl).fr 4 rfl).fr 4 rfl).fr 4 rfl).fr 4 rfl), by omega, by first | omega | (simp; omega), by simp⟩ ?_
                  rintro s w36 ⟨H35, hj, hrl, hrr⟩
                  obtain ⟨j, rs, Ar, cr⟩ := s
                  dsimp only at *
                  refine cw_seq ?_
                  refine cw_region rfl ?_
                  refine st H35 (lti rfl rfl) ?_
                  refine wl_nil ?_
                  refine cw_seq ?_
                  refine cw_cond rfl (fun hb37 => ?_) (fun hb37 => ?_)
                  · have hp37 := hb37
                    try simp at hp37
                    obtain ⟨x, hx, hdx, hmx⟩ := drop_some (l := l0) (i := j) (by omega)
                    refine cw_skip ?_
                    refine cw_seq ?_
                    refine cw_block ?_
                    refine cw_seq ?_
                    refine cw_region rfl ?_
                    refine st H35 (mv rfl) ?_
                    refine st H35 (ix (j) sl31 4 rfl rfl rfl rfl (by omega)) ?_
                    refine st H35 (ldE ag38 4 rfl rfl hx) ?_
                    refine st_al H35 zc38 fun b40 w39 H38 => ?_
                    refine st H38 (asg rfl) ?_
                    refine st_st 0 H38 rfl rfl rfl sz38 rfl rfl rfl rfl fun w42 H41 => ?_
                    refine wl_nil ?_
                    refine cw_seq ?_
                    refine cw_region rfl ?_
                    refine st H41 (fa fo38_2 rfl) ?_
                    refine st H41 (ld sc3 2 rfl rfl rfl) ?_
                    refine st H41 (fa fo38_1 rfl) ?_
                    refine st H41 (ld sc9 2 rfl rfl rfl) ?_
                    refine st H41 (lens Tryz.underlying9 rfl) ?_
                    refine st H41 (add rfl rfl (by omega) (by omega)) ?_
                    refine st H41 (mv rfl) ?_
                    refine st H41 (add rfl rfl (by omega) (by omega)) ?_
                    refine st H41 (mul rfl rfl (by omega) (by omega)) ?_
                    refine st H41 (add rfl rfl (by omega) (by omega)) ?_
                    refine st H41 (fa fo38_2 rfl) ?_
                    refine st_st 0 H41 rfl rfl rfl sz3 rfl rfl rfl rfl fun w44 H43 => ?_
                    refine wl_nil ?_
                    refine cw_region rfl ?_
                    refine st H43 (mv rfl) ?_
                    refine st H43 (lda ag38 0 rfl rfl rfl rfl) ?_
                    refine st_bs H43 sl31 zc38 rfl rfl rfl rfl rfl fun b47 w46 H45 => ?_
                    refine st_app 2 0 ([⟨x.k, x.s, z.a + (z.s.size : Int) + 100 * ((j : Int) + 1)⟩]) H45 sl31 zc38 rfl rfl rfl rfl rfl rfl rfl rfl (by intro y hy; simp at hy; subst hy; exact ⟨rfl, rfl⟩) (by first | omega | (simp; omega)) (by first | omega | (simp; omega)) fun A50 c51 w49 H48 => ?_
                    refine st H48 (asg rfl) ?_
                    refine wl_nil ?_
                    refine cw_region rfl ?_
                    refine st H48 (add rfl rfl (by omega) (by omega)) ?_
                    refine st H48 (mv rfl) ?_
                    refine wl_nil ?_
                    exact ⟨(j + 1, (_, (_, _))), ⟨rfl, rfl, rfl, rfl, rfl, rfl, rfl, rfl, trivial⟩, ⟨(((((((H48.fr 6 rfl).fr 6 rfl).fr 6 rfl).fr 6 rfl).fr 4 rfl).er 5).er 5), by dsimp only; omega, by first | (dsimp only; omega) | (simp; omega), by dsimp only; rw [← hrr, hdx, newL, List.append_assoc]; rfl⟩, by dsimp only; omega⟩
                  · have hp37 := hb37
                    try simp at hp37
                    have hmo : rs = l.take (i + 1) ++ newL z 0 l0 := by
                      rw [← hrr, List.drop_eq_nil_of_le (by omega)]
                      simp [newL]
                    refine cw_exit ?_
                    refine cw_seq ?_
                    refine cw_seq ?_
                    have HM := (H35).rw_els
                    have hmt : TkSz rs := more_sz hmo hI hs4 hmz hz hl0 (by omega)
                    refine cw_region rfl ?_
                    refine st HM (mv rfl) ?_
                    refine st_call cf23 rfl (check_c HM hmt) ?_
                    rintro _ w53 ⟨rfl, H52⟩
                    refine st H52 (nei rfl rfl) ?_
                    refine wl_nil ?_
                    refine cw_cond rfl (fun hb54 => ?_) (fun hb54 => ?_)
                    · have hp54 := hb54
                      try simp at hp54
                      refine cw_seq ?_
                      refine cw_region rfl ?_
                      refine st H52 (asg rfl) ?_
                      refine wl_nil ?_
                      refine cw_ret ?_
                      refine ret1 rfl rfl ?_
                      exact ⟨by first | rfl | (rw [hfl, ← hq1]; simp [hq1, hq2]), (((((H52.er 0).er 0).er 0).er 0).er 0)⟩
                    · have hp54 := hb54
                      try simp at hp54
                      have hck : checkS rs = 0 := by omega
                      refine cw_skip ?_
                      refine cw_seq ?_
                      refine cw_region rfl ?_
                      refine st H52 (mv rfl) ?_
                      refine st_call cf20 rfl (top_c 20000 H52 hmt (more_at hmo hI hs4 hmz hz hl0 (by omega)) (fun _ => file_ok 20000 (by omega)) (fun _ x k hx => by have := file_size (l := rs) 20000 (by omega) x k hx; omega)) ?_
                      rintro _ w56 ⟨ms_, A2_, c2_, rfl, _, H55⟩
                      refine st H55 (mv rfl) ?_
                      refine st H55 (ext rfl rfl) ?_
                      refine st H55 (ext rfl rfl) ?_
                      refine st_al H55 zc25 fun b59 w58 H57 => ?_
                      refine st_al H57 zc28 fun b62 w61 H60 => ?_
                      refine st_st 1 H60 rfl rfl rfl sz25 rfl rfl rfl rfl fun w64 H63 => ?_
                      refine st_st 1 H63 rfl rfl rfl sz28 rfl rfl rfl rfl fun w66 H65 => ?_
                      refine wl_nil ?_
                      refine cw_seq ?_
                      have hfl : topS rs 20000 = ([], (210, z.a)) := by
                        refine first_law ⟨fun t ht => (hI.pos t ht).1, hI.fol⟩ hz (by rw [← hq1, hq2]) hlast (fun k hk => ?_) hck ?_
                        · rw [hmo]; exact take_get (by omega) hk
                        · rw [hmo]; exact more_rises hI hz
                      refine cw_region rfl ?_
                      refine st H65 (lda ag28 0 rfl rfl rfl rfl) ?_
                      refine st H65 (lda ag28 6 rfl rfl rfl rfl) ?_
                      refine st H65 (eqs28 rfl rfl) ?_
                      refine st H65 (asg rfl) ?_
                      refine wl_nil ?_
                      refine cw_ret ?_
                      refine ret1 rfl rfl ?_
                      exact ⟨by first | rfl | (rw [hfl, ← hq1]; simp [hq1, hq2]), (((((((((H65.er 0).er 0).er 0).er 0).er 0).er 0).er 0).er 0).er 0)⟩
              · have hp26 := hg26
                try simp at hp26
                refine goff rfl rfl hg26 ?_
                refine goff rfl rfl hg26 ?_
                refine goff rfl rfl hg26 ?_
                refine st H22 (pk_f rfl hg26 rfl) ?_
                refine wl_nil ?_
                refine cw_cond_f rfl rfl ?_
                have hlast : ¬ (i = l.length - 1 ∧ z.s.size = 0) := by
                  rintro ⟨h1, h2⟩
                  first | omega | (have h3 := size_zero h2; simp_all)
                refine cw_skip ?_
                refine cw_seq ?_
                obtain ⟨bz, rfl, hcz⟩ := hc1.resolve_left (by rintro rfl; simp at hz)
                refine cw_region rfl ?_
                refine st_bs0 (f := tkc) H22 sl31 fun b69 w68 H67 => ?_
                refine st H67 (mv rfl) ?_
                refine st H67 (mv rfl) ?_
                refine st H67 (add rfl rfl (by omega) (by omega)) ?_
                refine st H67 (slto sl31 rfl rfl (i + 1) (by omega) (by omega)) ?_
                have hcut : ∀ j y, (l.take (i + 1))[j]? = some y → ∀ q u, (tkc y)[q]? = some u → w68.cell? ((⟨bz, 0, none⟩ : Addr).add (j * 3 + q)) = some u := by
                  intro j y hy q u hu
                  rcases H67.els 3 rfl with h | ⟨b, off, hA, hc⟩
                  · subst h; simp at hz
                  · simp only [Option.some.injEq, Addr.mk.injEq, and_true] at hA
                    obtain ⟨rfl, rfl⟩ := hA
                    rw [List.getElem?_take] at hy
                    split at hy
                    · rw [add_at, Nat.zero_add]; have h9 := (hc j y hy).2 q u hu; rwa [Nat.zero_add] at h9
                    · cases hy
                refine st_appC 0 (l.take (i + 1)) H67 sl31 zc38 rfl rfl rfl rfl rfl hcut (by first | omega | (simp; omega)) (fun y _ => ⟨rfl, rfl⟩) (by first | omega | (simp; omega)) (by first | omega | (simp; omega)) fun A72 c73 w71 H70 => ?_
                refine st H70 (asg rfl) ?_
                refine wl_nil ?_
                refine cw_seq ?_
                refine cw_seq ?_
                refine cw_region rfl ?_
                refine st H70 (mv rfl) ?_
                refine st H70 (lenl Tryz.underlying31 rfl) ?_
                refine st H70 (mv rfl) ?_
                refine wl_nil ?_
                refine cw_block ?_
                have hml : (l.take (i + 1)).length = i + 1 := by simp; omega
                refine cw_loop (σ := Nat × (List Tk × (Option Addr × Nat))) (fun s => [(0, .string a), (5, .slice (some ⟨bz, 0, none⟩) l.length c1), (6, .pointer (some ⟨b9, 0, none⟩)), (8, .pointer (some ⟨b21, 0, none⟩)), (9, .slice s.2.2.1 s.2.1.length s.2.2.2), (70, .slice A0 l0.length c0), (71, .int .i64 l0.length), (72, .int .i64 s.1)]) (fun s w => Own g (Rw 38 tkc 3 s.2.2.1 s.2.2.2 s.2.1 :: bk b21 38 (tkc z) :: bk b9 28 [.int .i64 (topS l 20000).2.1, .int .i64 (topS l 20000).2.2] :: Els g tkc 3 (some ⟨bz, 0, none⟩) l :: Els g tkc 3 A0 l0 :: L) w ∧ s.1 ≤ l0.length ∧ s.2.1.length = i + 1 + s.1 ∧ s.2.1 ++ newL z s.1 (l0.drop s.1) = l.take (i + 1) ++ newL z 0 l0) (fun s => l0.length - s.1) (0, (_, (_, _))) ⟨rfl, rfl, rfl, rfl, rfl, rfl, rfl, rfl, trivial⟩ ⟨(((((H70.fr 4 rfl).fr 4 rfl).fr 4 rfl).fr 4 rfl).fr 4 rfl), by omega, by first | omega | (simp; omega), by simp⟩ ?_
                rintro s w75 ⟨H74, hj, hrl, hrr⟩
                obtain ⟨j, rs, Ar, cr⟩ := s
                dsimp only at *
                refine cw_seq ?_
                refine cw_region rfl ?_
                refine st H74 (lti rfl rfl) ?_
                refine wl_nil ?_
                refine cw_seq ?_
                refine cw_cond rfl (fun hb76 => ?_) (fun hb76 => ?_)
                · have hp76 := hb76
                  try simp at hp76
                  obtain ⟨x, hx, hdx, hmx⟩ := drop_some (l := l0) (i := j) (by omega)
                  refine cw_skip ?_
                  refine cw_seq ?_
                  refine cw_block ?_
                  refine cw_seq ?_
                  refine cw_region rfl ?_
                  refine st H74 (mv rfl) ?_
                  refine st H74 (ix (j) sl31 4 rfl rfl rfl rfl (by omega)) ?_
                  refine st H74 (ldE ag38 4 rfl rfl hx) ?_
                  refine st_al H74 zc38 fun b79 w78 H77 => ?_
                  refine st H77 (asg rfl) ?_
                  refine st_st 0 H77 rfl rfl rfl sz38 rfl rfl rfl rfl fun w81 H80 => ?_
                  refine wl_nil ?_
                  refine cw_seq ?_
                  refine cw_region rfl ?_
                  refine st H80 (fa fo38_2 rfl) ?_
                  refine st H80 (ld sc3 2 rfl rfl rfl) ?_
                  refine st H80 (fa fo38_1 rfl) ?_
                  refine st H80 (ld sc9 2 rfl rfl rfl) ?_
                  refine st H80 (lens Tryz.underlying9 rfl) ?_
                  refine st H80 (add rfl rfl (by omega) (by omega)) ?_
                  refine st H80 (mv rfl) ?_
                  refine st H80 (add rfl rfl (by omega) (by omega)) ?_
                  refine st H80 (mul rfl rfl (by omega) (by omega)) ?_
                  refine st H80 (add rfl rfl (by omega) (by omega)) ?_
                  refine st H80 (fa fo38_2 rfl) ?_
                  refine st_st 0 H80 rfl rfl rfl sz3 rfl rfl rfl rfl fun w83 H82 => ?_
                  refine wl_nil ?_
                  refine cw_region rfl ?_
                  refine st H82 (mv rfl) ?_
                  refine st H82 (lda ag38 0 rfl rfl rfl rfl) ?_
                  refine st_bs H82 sl31 zc38 rfl rfl rfl rfl rfl fun b86 w85 H84 => ?_
                  refine st_app 2 0 ([⟨x.k, x.s, z.a + (z.s.size : Int) + 100 * ((j : Int) + 1)⟩]) H84 sl31 zc38 rfl rfl rfl rfl rfl rfl rfl rfl (by intro y hy; simp at hy; subst hy; exact ⟨rfl, rfl⟩) (by first | omega | (simp; omega)) (by first | omega | (simp; omega)) fun A89 c90 w88 H87 => ?_
                  refine st H87 (asg rfl) ?_
                  refine wl_nil ?_
                  refine cw_region rfl ?_
                  refine st H87 (add rfl rfl (by omega) (by omega)) ?_
                  refine st H87 (mv rfl) ?_
                  refine wl_nil ?_
                  exact ⟨(j + 1, (_, (_, _))), ⟨rfl, rfl, rfl, rfl, rfl, rfl, rfl, rfl, trivial⟩, ⟨(((((((H87.fr 6 rfl).fr 6 rfl).fr 6 rfl).fr 6 rfl).fr 4 rfl).er 5).er 5), by dsimp only; omega, by first | (dsimp only; omega) | (simp; omega), by dsimp only; rw [← hrr, hdx, newL, List.append_assoc]; rfl⟩, by dsimp only; omega⟩
                · have hp76 := hb76
                  try simp at hp76
                  have hmo : rs = l.take (i + 1) ++ newL z 0 l0 := by
                    rw [← hrr, List.drop_eq_nil_of_le (by omega)]
                    simp [newL]
                  refine cw_exit ?_
                  refine cw_seq ?_
                  refine cw_seq ?_
                  have HM := (H74).rw_els
                  have hmt : TkSz rs := more_sz hmo hI hs4 hmz hz hl0 (by omega)
                  refine cw_region rfl ?_
                  refine st HM (mv rfl) ?_
                  refine st_call cf23 rfl (check_c HM hmt) ?_
                  rintro _ w92 ⟨rfl, H91⟩
                  refine st H91 (nei rfl rfl) ?_
                  refine wl_nil ?_
                  refine cw_cond rfl (fun hb93 => ?_) (fun hb93 => ?_)
                  · have hp93 := hb93
                    try simp at hp93
                    refine cw_seq ?_
                    refine cw_region rfl ?_
                    refine st H91 (asg rfl) ?_
                    refine wl_nil ?_
                    refine cw_ret ?_
                    refine ret1 rfl rfl ?_
                    exact ⟨by first | rfl | (rw [hfl, ← hq1]; simp [hq1, hq2]), (((((H91.er 0).er 0).er 0).er 0).er 0)⟩
                  · have hp93 := hb93
                    try simp at hp93
                    have hck : checkS rs = 0 := by omega
                    refine cw_skip ?_
                    refine cw_seq ?_
                    refine cw_region rfl ?_
                    refine st H91 (mv rfl) ?_
                    refine st_call cf20 rfl (top_c 20000 H91 hmt (more_at hmo hI hs4 hmz hz hl0 (by omega)) (fun _ => file_ok 20000 (by omega)) (fun _ x k hx => by have := file_size (l := rs) 20000 (by omega) x k hx; omega)) ?_
                    rintro _ w95 ⟨ms_, A2_, c2_, rfl, _, H94⟩
                    refine st H94 (mv rfl) ?_
                    refine st H94 (ext rfl rfl) ?_
                    refine st H94 (ext rfl rfl) ?_
                    refine st_al H94 zc25 fun b98 w97 H96 => ?_
                    refine st_al H96 zc28 fun b101 w100 H99 => ?_
                    refine st_st 1 H99 rfl rfl rfl sz25 rfl rfl rfl rfl fun w103 H102 => ?_
                    refine st_st 1 H102 rfl rfl rfl sz28 rfl rfl rfl rfl fun w105 H104 => ?_
                    refine wl_nil ?_
                    refine cw_seq ?_
                    have hfl : topS rs 20000 = ([], (210, z.a)) := by
                      refine first_law ⟨fun t ht => (hI.pos t ht).1, hI.fol⟩ hz (by rw [← hq1, hq2]) hlast (fun k hk => ?_) hck ?_
                      · rw [hmo]; exact take_get (by omega) hk
                      · rw [hmo]; exact more_rises hI hz
                    refine cw_region rfl ?_
                    refine st H104 (lda ag28 0 rfl rfl rfl rfl) ?_
                    refine st H104 (lda ag28 6 rfl rfl rfl rfl) ?_
                    refine st H104 (eqs28 rfl rfl) ?_
                    refine st H104 (asg rfl) ?_
                    refine wl_nil ?_
                    refine cw_ret ?_
                    refine ret1 rfl rfl ?_
                    exact ⟨by first | rfl | (rw [hfl, ← hq1]; simp [hq1, hq2]), (((((((((H104.er 0).er 0).er 0).er 0).er 0).er 0).er 0).er 0).er 0)⟩
        · have hp18 := hb18
          try simp at hp18
          refine cw_exit ?_
          refine cw_seq ?_
          refine cw_region rfl ?_
          refine st H16 (asg rfl) ?_
          refine wl_nil ?_
          refine cw_ret ?_
          refine ret1 rfl rfl ?_
          exact ⟨by first | rfl | (rw [hfl, ← hq1]; simp [hq1, hq2]), (((H16.er 0).er 0).er 0)⟩
      · refine st H5 (mv rfl) ?_
        refine st H5 (ext rfl rfl) ?_
        refine st H5 (ext rfl rfl) ?_
        refine st_al H5 zc28 fun b108 w107 H106 => ?_
        refine st H106 (asg rfl) ?_
        refine st_st 0 H106 rfl rfl rfl sz28 rfl rfl rfl rfl fun w110 H109 => ?_
        refine wl_nil ?_
        refine cw_seq ?_
        refine cw_seq ?_
        refine cw_region rfl ?_
        refine st H109 (fa fo28_0 rfl) ?_
        refine st H109 (ld sc26 0 rfl rfl rfl) ?_
        refine st H109 (nei rfl rfl) ?_
        refine wl_nil ?_
        refine cw_cond rfl (fun hb111 => ?_) (fun hb111 => ?_)
        · have hp111 := hb111
          try simp at hp111
          refine cw_seq ?_
          refine cw_region rfl ?_
          refine st H109 (asg rfl) ?_
          refine wl_nil ?_
          refine cw_ret ?_
          refine ret1 rfl rfl ?_
          exact ⟨by first | rfl | (rw [hfl, ← hq1]; simp [hq1, hq2]), ((H109.er 0).er 0)⟩
        · exact absurd (of_decide_eq_false hb111) (by simpa using hne)
end
end Go.Proofs.YtmkijgmfefkgeaaGreatDoor
