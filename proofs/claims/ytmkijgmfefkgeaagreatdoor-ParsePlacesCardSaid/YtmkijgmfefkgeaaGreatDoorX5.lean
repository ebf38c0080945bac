/- The statement's own function: ParsePlaces. No condition. -/
import Derived.Test.YtmkijgmfefkgeaaGreatDoorX
import Derived.Test.YtmkijgmfefkgeaaGreatDoorP5
set_option autoImplicit false
set_option linter.unusedVariables false
set_option linter.unusedSimpArgs false
set_option linter.unusedSectionVars false
namespace Go.Proofs.YtmkijgmfefkgeaaGreatDoor
open Go
theorem lnS_some {ms : List Lm} {k : Nat} {y : Ln} (h : (lnS ms)[k]? = some y) : ∃ m, ms[k]? = some m ∧ y = (m.d, m.ks) := by
  simp only [lnS, List.getElem?_map, Option.map_eq_some_iff] at h
  obtain ⟨m, h1, h2⟩ := h
  exact ⟨m, h1, h2.symm⟩
section
variable {g w : World} {L : List SP} [Glo g]
set_option maxHeartbeats 4000000 in
theorem parsePlaces_c (a : ByteArray) (H : Own g L w) : Calls Pg 5 #[.string a] w fun e w' => e = .returned (.bool true) ∧ Own g L w' := by
  refine calls_cw (vs := [_]) Tryz.func5 rfl rfl rfl ?_
  refine cw_seq ?_
  refine cw_region rfl ?_
  refine st H (asg rfl) ?_
  refine wl_nil ?_
  refine cw_seq ?_
  refine cw_seq ?_
  refine cw_region rfl ?_
  refine st_call cf13 rfl (wakes_c H) ?_
  rintro _ w2 ⟨rfl, H1⟩
  refine st H1 (notb rfl) ?_
  refine wl_nil ?_
  refine cw_cond_f rfl rfl ?_
  refine cw_skip ?_
  refine cw_seq ?_
  refine cw_seq ?_
  refine cw_region rfl ?_
  refine st H1 (mv rfl) ?_
  refine st H1 (lens Tryz.underlying9 rfl) ?_
  refine st H1 (gti rfl rfl) ?_
  refine wl_nil ?_
  refine cw_cond rfl (fun hb3 => ?_) (fun hb3 => ?_)
  · have hp3 := hb3
    try simp at hp3
    refine cw_seq ?_
    refine cw_region rfl ?_
    refine st H1 (asg rfl) ?_
    refine wl_nil ?_
    refine cw_ret ?_
    refine ret1 rfl rfl ?_
    exact ⟨rfl, H1⟩
  · have hp3 := hb3
    try simp at hp3
    refine cw_skip ?_
    refine cw_seq ?_
    refine cw_region rfl ?_
    refine st H1 (mv rfl) ?_
    refine st_call cf14 rfl (text_tree_c _ H1 (by omega)) ?_
    rintro _ w5 ⟨ms1, A1_, c1_, rfl, hms1, HX1⟩
    have HR1 := HX1.nr
    obtain ⟨hml1, hmk1⟩ := ln_small hms1
    refine st HR1 (mv rfl) ?_
    refine st HR1 (ext rfl rfl) ?_
    refine st HR1 (ext rfl rfl) ?_
    refine st_al HR1 zc25 fun b8 w7 H6 => ?_
    refine st_al H6 zc28 fun b11 w10 H9 => ?_
    refine st_st 1 H9 rfl rfl rfl sz25 rfl rfl rfl rfl fun w13 H12 => ?_
    refine st_st 1 H12 rfl rfl rfl sz28 rfl rfl rfl rfl fun w15 H14 => ?_
    refine wl_nil ?_
    refine cw_seq ?_
    refine cw_seq ?_
    refine cw_region rfl ?_
    refine st H14 (fa fo28_0 rfl) ?_
    refine st H14 (ld sc26 0 rfl rfl rfl) ?_
    refine st H14 (nei rfl rfl) ?_
    refine wl_nil ?_
    refine cw_cond rfl (fun hb16 => ?_) (fun hb16 => ?_)
    · have hp16 := hb16
      try simp at hp16
      refine cw_seq ?_
      refine cw_region rfl ?_
      refine st H14 (asg rfl) ?_
      refine wl_nil ?_
      refine cw_ret ?_
      refine ret1 rfl rfl ?_
      exact ⟨rfl, (((H14.er 0).er 0).er 0)⟩
    · have hp16 := hb16
      try simp at hp16
      have h00 : (txtS a 10250).2.1 = 0 := by omega
      have hpl := txt_places h00
      refine cw_skip ?_
      refine cw_seq ?_
      refine cw_seq ?_
      refine cw_region rfl ?_
      refine st H14 (fa fo25_0 rfl) ?_
      refine st H14 (ld sc23 1 rfl rfl rfl) ?_
      refine st H14 (lenl Tryz.underlying23 rfl) ?_
      refine st H14 (mv rfl) ?_
      refine wl_nil ?_
      refine cw_block ?_
      refine cw_loop (σ := Nat) (fun i => [(0, .string a), (3, .pointer (some ⟨b8, 0, none⟩)), (25, .slice A1_ ms1.length c1_), (26, .int .i64 ms1.length), (27, .int .i64 i)]) (fun i w => Own g (bk b8 25 [.slice A1_ ms1.length c1_] :: NR g A1_ ms1 :: L) w ∧ i ≤ ms1.length) (fun i => ms1.length - i) 0 ⟨rfl, rfl, rfl, rfl, rfl, trivial⟩ ⟨(((H14.fr 2 rfl).fr 2 rfl).er 2), by omega⟩ ?_
      rintro i w18 ⟨H17, hi⟩
      refine cw_seq ?_
      refine cw_region rfl ?_
      refine st H17 (lti rfl rfl) ?_
      refine wl_nil ?_
      refine cw_seq ?_
      refine cw_cond rfl (fun hb19 => ?_) (fun hb19 => ?_)
      · have hp19 := hb19
        try simp at hp19
        obtain ⟨x, hx, _, hmx⟩ := drop_some (l := ms1) (i := i) (by omega)
        have hP : 0 ≤ x.d.frm ∧ x.d.to ≤ a.size ∧ x.d.frm ≤ x.d.pos ∧ x.d.pos ≤ x.d.to ∧ (Excl x.d.kind ∨ ∃ p : Nat, x.d.pos = (p : Int) ∧ p + x.d.text.size ≤ a.size ∧ a.extract p (p + x.d.text.size) = x.d.text) ∧ ChO (txtS a 10250).1 x.d.frm x.d.to x.ks := hpl (x.d, x.ks) (by rw [← hms1]; exact List.mem_map.2 ⟨x, hmx, rfl⟩)
        obtain ⟨q1, q2, q3, q4, q5, q6⟩ := hP
        have hkx := hmk1 x hmx
        refine cw_skip ?_
        refine cw_seq ?_
        refine cw_block ?_
        refine cw_seq ?_
        refine cw_region rfl ?_
        refine st H17 (ixC (i) sl23 (nr_nodes 1 rfl) rfl rfl (by omega) (by omega)) ?_
        refine st H17 (ldEC ag43 (nr_nodes 1 rfl) rfl hx) ?_
        refine st_al H17 zc43 fun b22 w21 H20 => ?_
        refine st_st 0 H20 rfl rfl rfl sz43 rfl rfl rfl rfl fun w24 H23 => ?_
        refine wl_nil ?_
        refine cw_seq ?_
        refine cw_seq ?_
        refine cw_region rfl ?_
        refine st H23 (fa fo43_5 rfl) ?_
        refine st H23 (ld sc3 0 rfl rfl rfl) ?_
        refine st H23 (lti rfl rfl) ?_
        refine st H23 (mv rfl) ?_
        refine wl_case (t := 34) rfl (fun hg25 => ?_) (fun hg25 => ?_)
        · have h99 := of_decide_eq_true hg25
          omega
        · have hp25 := hg25
          try simp at hp25
          refine gon rfl rfl hg25 ?_
          refine st H23 (fa fo43_6 rfl) ?_
          refine gon rfl rfl hg25 ?_
          refine st H23 (ld sc3 0 rfl rfl rfl) ?_
          refine gon rfl rfl hg25 ?_
          refine st H23 (mv rfl) ?_
          refine gon rfl rfl hg25 ?_
          refine st H23 (lens Tryz.underlying9 rfl) ?_
          refine gon rfl rfl hg25 ?_
          refine st H23 (gti rfl rfl) ?_
          refine st H23 (pk_f rfl hg25 rfl) ?_
          refine st H23 (mv rfl) ?_
          refine wl_case (t := 41) rfl (fun hg26 => ?_) (fun hg26 => ?_)
          · have h99 := of_decide_eq_true hg26
            omega
          · have hp26 := hg26
            try simp at hp26
            refine gon rfl rfl hg26 ?_
            refine st H23 (fa fo43_5 rfl) ?_
            refine gon rfl rfl hg26 ?_
            refine st H23 (ld sc3 0 rfl rfl rfl) ?_
            refine gon rfl rfl hg26 ?_
            refine st H23 (fa fo43_6 rfl) ?_
            refine gon rfl rfl hg26 ?_
            refine st H23 (ld sc3 0 rfl rfl rfl) ?_
            refine gon rfl rfl hg26 ?_
            refine st H23 (gti rfl rfl) ?_
            refine st H23 (pk_f rfl hg26 rfl) ?_
            refine st H23 (mv rfl) ?_
            refine wl_case (t := 48) rfl (fun hg27 => ?_) (fun hg27 => ?_)
            · have h99 := of_decide_eq_true hg27
              omega
            · have hp27 := hg27
              try simp at hp27
              refine gon rfl rfl hg27 ?_
              refine st H23 (fa fo43_4 rfl) ?_
              refine gon rfl rfl hg27 ?_
              refine st H23 (ld sc3 0 rfl rfl rfl) ?_
              refine gon rfl rfl hg27 ?_
              refine st H23 (fa fo43_5 rfl) ?_
              refine gon rfl rfl hg27 ?_
              refine st H23 (ld sc3 0 rfl rfl rfl) ?_
              refine gon rfl rfl hg27 ?_
              refine st H23 (lti rfl rfl) ?_
              refine st H23 (pk_f rfl hg27 rfl) ?_
              refine st H23 (mv rfl) ?_
              refine wl_case (t := 55) rfl (fun hg28 => ?_) (fun hg28 => ?_)
              · have h99 := of_decide_eq_true hg28
                omega
              · have hp28 := hg28
                try simp at hp28
                refine gon rfl rfl hg28 ?_
                refine st H23 (fa fo43_4 rfl) ?_
                refine gon rfl rfl hg28 ?_
                refine st H23 (ld sc3 0 rfl rfl rfl) ?_
                refine gon rfl rfl hg28 ?_
                refine st H23 (fa fo43_6 rfl) ?_
                refine gon rfl rfl hg28 ?_
                refine st H23 (ld sc3 0 rfl rfl rfl) ?_
                refine gon rfl rfl hg28 ?_
                refine st H23 (gti rfl rfl) ?_
                refine st H23 (pk_f rfl hg28 rfl) ?_
                refine wl_nil ?_
                refine cw_cond rfl (fun hb29 => ?_) (fun hb29 => ?_)
                · have h99 := of_decide_eq_true hb29
                  omega
                · have hp29 := hb29
                  try simp at hp29
                  refine cw_skip ?_
                  refine cw_seq ?_
                  refine cw_seq ?_
                  refine cw_region rfl ?_
                  refine st H23 (fa fo43_0 rfl) ?_
                  refine st H23 (ld sc3 0 rfl rfl rfl) ?_
                  refine wl_nil ?_
                  refine cw_block ?_
                  refine cw_seq ?_
                  refine cw_seq ?_
                  refine cw_region rfl ?_
                  refine st H23 (eqi rfl rfl) ?_
                  refine st H23 (asg rfl) ?_
                  refine wl_nil ?_
                  refine cw_cond rfl (fun hb30 => ?_) (fun hb30 => ?_)
                  · have hp30 := hb30
                    try simp at hp30
                    refine cw_skip ?_
                    refine cw_cond_t rfl hb30 ?_
                    refine cw_skip ?_
                    refine cw_seq ?_
                    refine cw_region rfl ?_
                    refine st H23 (fa fo43_5 rfl) ?_
                    refine st H23 (ld sc3 0 rfl rfl rfl) ?_
                    refine st H23 (asg rfl) ?_
                    refine wl_nil ?_
                    refine cw_seq ?_
                    refine cw_region rfl ?_
                    refine st H23 (fa fo43_3 rfl) ?_
                    refine st H23 (ld sc41 0 rfl rfl rfl) ?_
                    refine st H23 (lenl Tryz.underlying41 rfl) ?_
                    refine st H23 (mv rfl) ?_
                    refine wl_nil ?_
                    refine cw_block ?_
                    refine cw_loop (σ := Nat × Int) (fun s => [(0, .string a), (3, .pointer (some ⟨b8, 0, none⟩)), (25, .slice A1_ ms1.length c1_), (26, .int .i64 ms1.length), (27, .int .i64 i), (6, .pointer (some ⟨b22, 0, none⟩)), (7, .int .i64 s.2), (102, .slice x.A x.ks.length x.c), (103, .int .i64 x.ks.length), (104, .int .i64 s.1)]) (fun s w => Own g (bk b22 43 (lnc x) :: bk b8 25 [.slice A1_ ms1.length c1_] :: NR g A1_ ms1 :: L) w ∧ s.1 ≤ x.ks.length ∧ ChO (txtS a 10250).1 s.2 x.d.to (x.ks.drop s.1)) (fun s => x.ks.length - s.1) (0, x.d.frm) ⟨rfl, rfl, rfl, rfl, rfl, rfl, rfl, rfl, rfl, rfl, trivial⟩ ⟨(((H23.fr 2 rfl).fr 2 rfl).fr 2 rfl), by simp, q6⟩ ?_
                    rintro s w32 ⟨H31, hj, hch⟩
                    obtain ⟨j, lst⟩ := s
                    dsimp only at *
                    refine cw_seq ?_
                    refine cw_region rfl ?_
                    refine st H31 (lti rfl rfl) ?_
                    refine wl_nil ?_
                    refine cw_seq ?_
                    refine cw_cond rfl (fun hb33 => ?_) (fun hb33 => ?_)
                    · have hp33 := hb33
                      try simp at hp33
                      obtain ⟨k, hk, hdk, _⟩ := drop_some (l := x.ks) (i := j) (by omega)
                      rw [hdk] at hch
                      obtain ⟨y0, hy0, r1, r2, r3⟩ := hch
                      rw [← hms1] at hy0
                      obtain ⟨y, hy, rfl⟩ := lnS_some hy0
                      have hky : k < ms1.length := (List.getElem?_eq_some_iff.1 hy).1
                      dsimp only at r1 r2 r3
                      refine cw_skip ?_
                      refine cw_seq ?_
                      refine cw_block ?_
                      refine cw_seq ?_
                      refine cw_region rfl ?_
                      refine st H31 (ixC (j) sl41 (nr_kids 2 rfl hmx) rfl rfl (by omega) (by omega)) ?_
                      refine st H31 (ldE1C sc3 (nr_kids 2 rfl hmx) rfl hk rfl) ?_
                      refine st H31 (asg rfl) ?_
                      refine wl_nil ?_
                      refine cw_seq ?_
                      refine cw_region rfl ?_
                      refine st H31 (fa fo25_0 rfl) ?_
                      refine st H31 (ld sc23 1 rfl rfl rfl) ?_
                      refine st H31 (mv rfl) ?_
                      refine st H31 (ixC (k) sl23 (nr_nodes 2 rfl) rfl rfl rfl (by omega)) ?_
                      refine st H31 (ldEC ag43 (nr_nodes 2 rfl) rfl hy) ?_
                      refine st_al H31 zc43 fun b36 w35 H34 => ?_
                      refine st_st 0 H34 rfl rfl rfl sz43 rfl rfl rfl rfl fun w38 H37 => ?_
                      refine wl_nil ?_
                      refine cw_seq ?_
                      refine cw_seq ?_
                      refine cw_region rfl ?_
                      refine st H37 (fa fo43_5 rfl) ?_
                      refine st H37 (ld sc3 0 rfl rfl rfl) ?_
                      refine st H37 (mv rfl) ?_
                      refine st H37 (lti rfl rfl) ?_
                      refine st H37 (mv rfl) ?_
                      refine wl_case (t := 117) rfl (fun hg39 => ?_) (fun hg39 => ?_)
                      · have h99 := of_decide_eq_true hg39
                        omega
                      · have hp39 := hg39
                        try simp at hp39
                        refine gon rfl rfl hg39 ?_
                        refine st H37 (fa fo43_6 rfl) ?_
                        refine gon rfl rfl hg39 ?_
                        refine st H37 (ld sc3 0 rfl rfl rfl) ?_
                        refine gon rfl rfl hg39 ?_
                        refine st H37 (fa fo43_6 rfl) ?_
                        refine gon rfl rfl hg39 ?_
                        refine st H37 (ld sc3 1 rfl rfl rfl) ?_
                        refine gon rfl rfl hg39 ?_
                        refine st H37 (gti rfl rfl) ?_
                        refine st H37 (pk_f rfl hg39 rfl) ?_
                        refine wl_nil ?_
                        refine cw_cond rfl (fun hb40 => ?_) (fun hb40 => ?_)
                        · have h99 := of_decide_eq_true hb40
                          omega
                        · have hp40 := hb40
                          try simp at hp40
                          refine cw_skip ?_
                          refine cw_region rfl ?_
                          refine st H37 (fa fo43_6 rfl) ?_
                          refine st H37 (ld sc3 0 rfl rfl rfl) ?_
                          refine st H37 (asg rfl) ?_
                          refine wl_nil ?_
                          refine cw_region rfl ?_
                          refine st H37 (add rfl rfl (by omega) (by omega)) ?_
                          refine st H37 (mv rfl) ?_
                          refine wl_nil ?_
                          exact ⟨(j + 1, y.d.to), ⟨rfl, rfl, rfl, rfl, rfl, rfl, rfl, rfl, rfl, rfl, trivial⟩, ⟨((((H37.fr 3 rfl).fr 3 rfl).fr 3 rfl).er 3), by dsimp only; omega, r3⟩, by dsimp only; omega⟩
                    · have hp33 := hb33
                      try simp at hp33
                      refine cw_exit ?_
                      refine cw_region rfl ?_
                      refine st H31 (add rfl rfl (by omega) (by omega)) ?_
                      refine st H31 (mv rfl) ?_
                      refine wl_nil ?_
                      exact ⟨i + 1, ⟨rfl, rfl, rfl, rfl, rfl, trivial⟩, ⟨(((H31.fr 2 rfl).fr 2 rfl).er 2), by omega⟩, by omega⟩
                  · have hp30 := hb30
                    try simp at hp30
                    refine cw_seq ?_
                    refine cw_region rfl ?_
                    refine st H23 (eqi rfl rfl) ?_
                    refine st H23 (asg rfl) ?_
                    refine wl_nil ?_
                    refine cw_cond rfl (fun hb41 => ?_) (fun hb41 => ?_)
                    · have hp41 := hb41
                      try simp at hp41
                      refine cw_skip ?_
                      refine cw_cond_t rfl hb41 ?_
                      refine cw_skip ?_
                      refine cw_seq ?_
                      refine cw_region rfl ?_
                      refine st H23 (fa fo43_5 rfl) ?_
                      refine st H23 (ld sc3 0 rfl rfl rfl) ?_
                      refine st H23 (asg rfl) ?_
                      refine wl_nil ?_
                      refine cw_seq ?_
                      refine cw_region rfl ?_
                      refine st H23 (fa fo43_3 rfl) ?_
                      refine st H23 (ld sc41 0 rfl rfl rfl) ?_
                      refine st H23 (lenl Tryz.underlying41 rfl) ?_
                      refine st H23 (mv rfl) ?_
                      refine wl_nil ?_
                      refine cw_block ?_
                      refine cw_loop (σ := Nat × Int) (fun s => [(0, .string a), (3, .pointer (some ⟨b8, 0, none⟩)), (25, .slice A1_ ms1.length c1_), (26, .int .i64 ms1.length), (27, .int .i64 i), (6, .pointer (some ⟨b22, 0, none⟩)), (7, .int .i64 s.2), (102, .slice x.A x.ks.length x.c), (103, .int .i64 x.ks.length), (104, .int .i64 s.1)]) (fun s w => Own g (bk b22 43 (lnc x) :: bk b8 25 [.slice A1_ ms1.length c1_] :: NR g A1_ ms1 :: L) w ∧ s.1 ≤ x.ks.length ∧ ChO (txtS a 10250).1 s.2 x.d.to (x.ks.drop s.1)) (fun s => x.ks.length - s.1) (0, x.d.frm) ⟨rfl, rfl, rfl, rfl, rfl, rfl, rfl, rfl, rfl, rfl, trivial⟩ ⟨(((H23.fr 2 rfl).fr 2 rfl).fr 2 rfl), by simp, q6⟩ ?_
                      rintro s w43 ⟨H42, hj, hch⟩
                      obtain ⟨j, lst⟩ := s
                      dsimp only at *
                      refine cw_seq ?_
                      refine cw_region rfl ?_
                      refine st H42 (lti rfl rfl) ?_
                      refine wl_nil ?_
                      refine cw_seq ?_
                      refine cw_cond rfl (fun hb44 => ?_) (fun hb44 => ?_)
                      · have hp44 := hb44
                        try simp at hp44
                        obtain ⟨k, hk, hdk, _⟩ := drop_some (l := x.ks) (i := j) (by omega)
                        rw [hdk] at hch
                        obtain ⟨y0, hy0, r1, r2, r3⟩ := hch
                        rw [← hms1] at hy0
                        obtain ⟨y, hy, rfl⟩ := lnS_some hy0
                        have hky : k < ms1.length := (List.getElem?_eq_some_iff.1 hy).1
                        dsimp only at r1 r2 r3
                        refine cw_skip ?_
                        refine cw_seq ?_
                        refine cw_block ?_
                        refine cw_seq ?_
                        refine cw_region rfl ?_
                        refine st H42 (ixC (j) sl41 (nr_kids 2 rfl hmx) rfl rfl (by omega) (by omega)) ?_
                        refine st H42 (ldE1C sc3 (nr_kids 2 rfl hmx) rfl hk rfl) ?_
                        refine st H42 (asg rfl) ?_
                        refine wl_nil ?_
                        refine cw_seq ?_
                        refine cw_region rfl ?_
                        refine st H42 (fa fo25_0 rfl) ?_
                        refine st H42 (ld sc23 1 rfl rfl rfl) ?_
                        refine st H42 (mv rfl) ?_
                        refine st H42 (ixC (k) sl23 (nr_nodes 2 rfl) rfl rfl rfl (by omega)) ?_
                        refine st H42 (ldEC ag43 (nr_nodes 2 rfl) rfl hy) ?_
                        refine st_al H42 zc43 fun b47 w46 H45 => ?_
                        refine st_st 0 H45 rfl rfl rfl sz43 rfl rfl rfl rfl fun w49 H48 => ?_
                        refine wl_nil ?_
                        refine cw_seq ?_
                        refine cw_seq ?_
                        refine cw_region rfl ?_
                        refine st H48 (fa fo43_5 rfl) ?_
                        refine st H48 (ld sc3 0 rfl rfl rfl) ?_
                        refine st H48 (mv rfl) ?_
                        refine st H48 (lti rfl rfl) ?_
                        refine st H48 (mv rfl) ?_
                        refine wl_case (t := 117) rfl (fun hg50 => ?_) (fun hg50 => ?_)
                        · have h99 := of_decide_eq_true hg50
                          omega
                        · have hp50 := hg50
                          try simp at hp50
                          refine gon rfl rfl hg50 ?_
                          refine st H48 (fa fo43_6 rfl) ?_
                          refine gon rfl rfl hg50 ?_
                          refine st H48 (ld sc3 0 rfl rfl rfl) ?_
                          refine gon rfl rfl hg50 ?_
                          refine st H48 (fa fo43_6 rfl) ?_
                          refine gon rfl rfl hg50 ?_
                          refine st H48 (ld sc3 1 rfl rfl rfl) ?_
                          refine gon rfl rfl hg50 ?_
                          refine st H48 (gti rfl rfl) ?_
                          refine st H48 (pk_f rfl hg50 rfl) ?_
                          refine wl_nil ?_
                          refine cw_cond rfl (fun hb51 => ?_) (fun hb51 => ?_)
                          · have h99 := of_decide_eq_true hb51
                            omega
                          · have hp51 := hb51
                            try simp at hp51
                            refine cw_skip ?_
                            refine cw_region rfl ?_
                            refine st H48 (fa fo43_6 rfl) ?_
                            refine st H48 (ld sc3 0 rfl rfl rfl) ?_
                            refine st H48 (asg rfl) ?_
                            refine wl_nil ?_
                            refine cw_region rfl ?_
                            refine st H48 (add rfl rfl (by omega) (by omega)) ?_
                            refine st H48 (mv rfl) ?_
                            refine wl_nil ?_
                            exact ⟨(j + 1, y.d.to), ⟨rfl, rfl, rfl, rfl, rfl, rfl, rfl, rfl, rfl, rfl, trivial⟩, ⟨((((H48.fr 3 rfl).fr 3 rfl).fr 3 rfl).er 3), by dsimp only; omega, r3⟩, by dsimp only; omega⟩
                      · have hp44 := hb44
                        try simp at hp44
                        refine cw_exit ?_
                        refine cw_region rfl ?_
                        refine st H42 (add rfl rfl (by omega) (by omega)) ?_
                        refine st H42 (mv rfl) ?_
                        refine wl_nil ?_
                        exact ⟨i + 1, ⟨rfl, rfl, rfl, rfl, rfl, trivial⟩, ⟨(((H42.fr 2 rfl).fr 2 rfl).er 2), by omega⟩, by omega⟩
                    · have hp41 := hb41
                      try simp at hp41
                      refine cw_seq ?_
                      refine cw_region rfl ?_
                      refine st H23 (eqi rfl rfl) ?_
                      refine st H23 (asg rfl) ?_
                      refine wl_nil ?_
                      refine cw_cond rfl (fun hb52 => ?_) (fun hb52 => ?_)
                      · have hp52 := hb52
                        try simp at hp52
                        refine cw_skip ?_
                        refine cw_cond_t rfl hb52 ?_
                        refine cw_skip ?_
                        refine cw_seq ?_
                        refine cw_region rfl ?_
                        refine st H23 (fa fo43_5 rfl) ?_
                        refine st H23 (ld sc3 0 rfl rfl rfl) ?_
                        refine st H23 (asg rfl) ?_
                        refine wl_nil ?_
                        refine cw_seq ?_
                        refine cw_region rfl ?_
                        refine st H23 (fa fo43_3 rfl) ?_
                        refine st H23 (ld sc41 0 rfl rfl rfl) ?_
                        refine st H23 (lenl Tryz.underlying41 rfl) ?_
                        refine st H23 (mv rfl) ?_
                        refine wl_nil ?_
                        refine cw_block ?_
                        refine cw_loop (σ := Nat × Int) (fun s => [(0, .string a), (3, .pointer (some ⟨b8, 0, none⟩)), (25, .slice A1_ ms1.length c1_), (26, .int .i64 ms1.length), (27, .int .i64 i), (6, .pointer (some ⟨b22, 0, none⟩)), (7, .int .i64 s.2), (102, .slice x.A x.ks.length x.c), (103, .int .i64 x.ks.length), (104, .int .i64 s.1)]) (fun s w => Own g (bk b22 43 (lnc x) :: bk b8 25 [.slice A1_ ms1.length c1_] :: NR g A1_ ms1 :: L) w ∧ s.1 ≤ x.ks.length ∧ ChO (txtS a 10250).1 s.2 x.d.to (x.ks.drop s.1)) (fun s => x.ks.length - s.1) (0, x.d.frm) ⟨rfl, rfl, rfl, rfl, rfl, rfl, rfl, rfl, rfl, rfl, trivial⟩ ⟨(((H23.fr 2 rfl).fr 2 rfl).fr 2 rfl), by simp, q6⟩ ?_
                        rintro s w54 ⟨H53, hj, hch⟩
                        obtain ⟨j, lst⟩ := s
                        dsimp only at *
                        refine cw_seq ?_
                        refine cw_region rfl ?_
                        refine st H53 (lti rfl rfl) ?_
                        refine wl_nil ?_
                        refine cw_seq ?_
                        refine cw_cond rfl (fun hb55 => ?_) (fun hb55 => ?_)
                        · have hp55 := hb55
                          try simp at hp55
                          obtain ⟨k, hk, hdk, _⟩ := drop_some (l := x.ks) (i := j) (by omega)
                          rw [hdk] at hch
                          obtain ⟨y0, hy0, r1, r2, r3⟩ := hch
                          rw [← hms1] at hy0
                          obtain ⟨y, hy, rfl⟩ := lnS_some hy0
                          have hky : k < ms1.length := (List.getElem?_eq_some_iff.1 hy).1
                          dsimp only at r1 r2 r3
                          refine cw_skip ?_
                          refine cw_seq ?_
                          refine cw_block ?_
                          refine cw_seq ?_
                          refine cw_region rfl ?_
                          refine st H53 (ixC (j) sl41 (nr_kids 2 rfl hmx) rfl rfl (by omega) (by omega)) ?_
                          refine st H53 (ldE1C sc3 (nr_kids 2 rfl hmx) rfl hk rfl) ?_
                          refine st H53 (asg rfl) ?_
                          refine wl_nil ?_
                          refine cw_seq ?_
                          refine cw_region rfl ?_
                          refine st H53 (fa fo25_0 rfl) ?_
                          refine st H53 (ld sc23 1 rfl rfl rfl) ?_
                          refine st H53 (mv rfl) ?_
                          refine st H53 (ixC (k) sl23 (nr_nodes 2 rfl) rfl rfl rfl (by omega)) ?_
                          refine st H53 (ldEC ag43 (nr_nodes 2 rfl) rfl hy) ?_
                          refine st_al H53 zc43 fun b58 w57 H56 => ?_
                          refine st_st 0 H56 rfl rfl rfl sz43 rfl rfl rfl rfl fun w60 H59 => ?_
                          refine wl_nil ?_
                          refine cw_seq ?_
                          refine cw_seq ?_
                          refine cw_region rfl ?_
                          refine st H59 (fa fo43_5 rfl) ?_
                          refine st H59 (ld sc3 0 rfl rfl rfl) ?_
                          refine st H59 (mv rfl) ?_
                          refine st H59 (lti rfl rfl) ?_
                          refine st H59 (mv rfl) ?_
                          refine wl_case (t := 117) rfl (fun hg61 => ?_) (fun hg61 => ?_)
                          · have h99 := of_decide_eq_true hg61
                            omega
                          · have hp61 := hg61
                            try simp at hp61
                            refine gon rfl rfl hg61 ?_
                            refine st H59 (fa fo43_6 rfl) ?_
                            refine gon rfl rfl hg61 ?_
                            refine st H59 (ld sc3 0 rfl rfl rfl) ?_
                            refine gon rfl rfl hg61 ?_
                            refine st H59 (fa fo43_6 rfl) ?_
                            refine gon rfl rfl hg61 ?_
                            refine st H59 (ld sc3 1 rfl rfl rfl) ?_
                            refine gon rfl rfl hg61 ?_
                            refine st H59 (gti rfl rfl) ?_
                            refine st H59 (pk_f rfl hg61 rfl) ?_
                            refine wl_nil ?_
                            refine cw_cond rfl (fun hb62 => ?_) (fun hb62 => ?_)
                            · have h99 := of_decide_eq_true hb62
                              omega
                            · have hp62 := hb62
                              try simp at hp62
                              refine cw_skip ?_
                              refine cw_region rfl ?_
                              refine st H59 (fa fo43_6 rfl) ?_
                              refine st H59 (ld sc3 0 rfl rfl rfl) ?_
                              refine st H59 (asg rfl) ?_
                              refine wl_nil ?_
                              refine cw_region rfl ?_
                              refine st H59 (add rfl rfl (by omega) (by omega)) ?_
                              refine st H59 (mv rfl) ?_
                              refine wl_nil ?_
                              exact ⟨(j + 1, y.d.to), ⟨rfl, rfl, rfl, rfl, rfl, rfl, rfl, rfl, rfl, rfl, trivial⟩, ⟨((((H59.fr 3 rfl).fr 3 rfl).fr 3 rfl).er 3), by dsimp only; omega, r3⟩, by dsimp only; omega⟩
                        · have hp55 := hb55
                          try simp at hp55
                          refine cw_exit ?_
                          refine cw_region rfl ?_
                          refine st H53 (add rfl rfl (by omega) (by omega)) ?_
                          refine st H53 (mv rfl) ?_
                          refine wl_nil ?_
                          exact ⟨i + 1, ⟨rfl, rfl, rfl, rfl, rfl, trivial⟩, ⟨(((H53.fr 2 rfl).fr 2 rfl).er 2), by omega⟩, by omega⟩
                      · have hp52 := hb52
                        try simp at hp52
                        refine cw_seq ?_
                        refine cw_region rfl ?_
                        refine st H23 (eqi rfl rfl) ?_
                        refine st H23 (asg rfl) ?_
                        refine wl_nil ?_
                        refine cw_cond rfl (fun hb63 => ?_) (fun hb63 => ?_)
                        · have hp63 := hb63
                          try simp at hp63
                          refine cw_skip ?_
                          refine cw_cond_t rfl hb63 ?_
                          refine cw_skip ?_
                          refine cw_seq ?_
                          refine cw_region rfl ?_
                          refine st H23 (fa fo43_5 rfl) ?_
                          refine st H23 (ld sc3 0 rfl rfl rfl) ?_
                          refine st H23 (asg rfl) ?_
                          refine wl_nil ?_
                          refine cw_seq ?_
                          refine cw_region rfl ?_
                          refine st H23 (fa fo43_3 rfl) ?_
                          refine st H23 (ld sc41 0 rfl rfl rfl) ?_
                          refine st H23 (lenl Tryz.underlying41 rfl) ?_
                          refine st H23 (mv rfl) ?_
                          refine wl_nil ?_
                          refine cw_block ?_
                          refine cw_loop (σ := Nat × Int) (fun s => [(0, .string a), (3, .pointer (some ⟨b8, 0, none⟩)), (25, .slice A1_ ms1.length c1_), (26, .int .i64 ms1.length), (27, .int .i64 i), (6, .pointer (some ⟨b22, 0, none⟩)), (7, .int .i64 s.2), (102, .slice x.A x.ks.length x.c), (103, .int .i64 x.ks.length), (104, .int .i64 s.1)]) (fun s w => Own g (bk b22 43 (lnc x) :: bk b8 25 [.slice A1_ ms1.length c1_] :: NR g A1_ ms1 :: L) w ∧ s.1 ≤ x.ks.length ∧ ChO (txtS a 10250).1 s.2 x.d.to (x.ks.drop s.1)) (fun s => x.ks.length - s.1) (0, x.d.frm) ⟨rfl, rfl, rfl, rfl, rfl, rfl, rfl, rfl, rfl, rfl, trivial⟩ ⟨(((H23.fr 2 rfl).fr 2 rfl).fr 2 rfl), by simp, q6⟩ ?_
                          rintro s w65 ⟨H64, hj, hch⟩
                          obtain ⟨j, lst⟩ := s
                          dsimp only at *
                          refine cw_seq ?_
                          refine cw_region rfl ?_
                          refine st H64 (lti rfl rfl) ?_
                          refine wl_nil ?_
                          refine cw_seq ?_
                          refine cw_cond rfl (fun hb66 => ?_) (fun hb66 => ?_)
                          · have hp66 := hb66
                            try simp at hp66
                            obtain ⟨k, hk, hdk, _⟩ := drop_some (l := x.ks) (i := j) (by omega)
                            rw [hdk] at hch
                            obtain ⟨y0, hy0, r1, r2, r3⟩ := hch
                            rw [← hms1] at hy0
                            obtain ⟨y, hy, rfl⟩ := lnS_some hy0
                            have hky : k < ms1.length := (List.getElem?_eq_some_iff.1 hy).1
                            dsimp only at r1 r2 r3
                            refine cw_skip ?_
                            refine cw_seq ?_
                            refine cw_block ?_
                            refine cw_seq ?_
                            refine cw_region rfl ?_
                            refine st H64 (ixC (j) sl41 (nr_kids 2 rfl hmx) rfl rfl (by omega) (by omega)) ?_
                            refine st H64 (ldE1C sc3 (nr_kids 2 rfl hmx) rfl hk rfl) ?_
                            refine st H64 (asg rfl) ?_
                            refine wl_nil ?_
                            refine cw_seq ?_
                            refine cw_region rfl ?_
                            refine st H64 (fa fo25_0 rfl) ?_
                            refine st H64 (ld sc23 1 rfl rfl rfl) ?_
                            refine st H64 (mv rfl) ?_
                            refine st H64 (ixC (k) sl23 (nr_nodes 2 rfl) rfl rfl rfl (by omega)) ?_
                            refine st H64 (ldEC ag43 (nr_nodes 2 rfl) rfl hy) ?_
                            refine st_al H64 zc43 fun b69 w68 H67 => ?_
                            refine st_st 0 H67 rfl rfl rfl sz43 rfl rfl rfl rfl fun w71 H70 => ?_
                            refine wl_nil ?_
                            refine cw_seq ?_
                            refine cw_seq ?_
                            refine cw_region rfl ?_
                            refine st H70 (fa fo43_5 rfl) ?_
                            refine st H70 (ld sc3 0 rfl rfl rfl) ?_
                            refine st H70 (mv rfl) ?_
                            refine st H70 (lti rfl rfl) ?_
                            refine st H70 (mv rfl) ?_
                            refine wl_case (t := 117) rfl (fun hg72 => ?_) (fun hg72 => ?_)
                            · have h99 := of_decide_eq_true hg72
                              omega
                            · have hp72 := hg72
                              try simp at hp72
                              refine gon rfl rfl hg72 ?_
                              refine st H70 (fa fo43_6 rfl) ?_
                              refine gon rfl rfl hg72 ?_
                              refine st H70 (ld sc3 0 rfl rfl rfl) ?_
                              refine gon rfl rfl hg72 ?_
                              refine st H70 (fa fo43_6 rfl) ?_
                              refine gon rfl rfl hg72 ?_
                              refine st H70 (ld sc3 1 rfl rfl rfl) ?_
                              refine gon rfl rfl hg72 ?_
                              refine st H70 (gti rfl rfl) ?_
                              refine st H70 (pk_f rfl hg72 rfl) ?_
                              refine wl_nil ?_
                              refine cw_cond rfl (fun hb73 => ?_) (fun hb73 => ?_)
                              · have h99 := of_decide_eq_true hb73
                                omega
                              · have hp73 := hb73
                                try simp at hp73
                                refine cw_skip ?_
                                refine cw_region rfl ?_
                                refine st H70 (fa fo43_6 rfl) ?_
                                refine st H70 (ld sc3 0 rfl rfl rfl) ?_
                                refine st H70 (asg rfl) ?_
                                refine wl_nil ?_
                                refine cw_region rfl ?_
                                refine st H70 (add rfl rfl (by omega) (by omega)) ?_
                                refine st H70 (mv rfl) ?_
                                refine wl_nil ?_
                                exact ⟨(j + 1, y.d.to), ⟨rfl, rfl, rfl, rfl, rfl, rfl, rfl, rfl, rfl, rfl, trivial⟩, ⟨((((H70.fr 3 rfl).fr 3 rfl).fr 3 rfl).er 3), by dsimp only; omega, r3⟩, by dsimp only; omega⟩
                          · have hp66 := hb66
                            try simp at hp66
                            refine cw_exit ?_
                            refine cw_region rfl ?_
                            refine st H64 (add rfl rfl (by omega) (by omega)) ?_
                            refine st H64 (mv rfl) ?_
                            refine wl_nil ?_
                            exact ⟨i + 1, ⟨rfl, rfl, rfl, rfl, rfl, trivial⟩, ⟨(((H64.fr 2 rfl).fr 2 rfl).er 2), by omega⟩, by omega⟩
                        · have hp63 := hb63
                          try simp at hp63
                          refine cw_seq ?_
                          refine cw_region rfl ?_
                          refine st H23 (eqi rfl rfl) ?_
                          refine st H23 (asg rfl) ?_
                          refine wl_nil ?_
                          refine cw_cond rfl (fun hb74 => ?_) (fun hb74 => ?_)
                          · have hp74 := hb74
                            try simp at hp74
                            refine cw_skip ?_
                            refine cw_cond_t rfl hb74 ?_
                            refine cw_skip ?_
                            refine cw_seq ?_
                            refine cw_region rfl ?_
                            refine st H23 (fa fo43_5 rfl) ?_
                            refine st H23 (ld sc3 0 rfl rfl rfl) ?_
                            refine st H23 (asg rfl) ?_
                            refine wl_nil ?_
                            refine cw_seq ?_
                            refine cw_region rfl ?_
                            refine st H23 (fa fo43_3 rfl) ?_
                            refine st H23 (ld sc41 0 rfl rfl rfl) ?_
                            refine st H23 (lenl Tryz.underlying41 rfl) ?_
                            refine st H23 (mv rfl) ?_
                            refine wl_nil ?_
                            refine cw_block ?_
                            refine cw_loop (σ := Nat × Int) (fun s => [(0, .string a), (3, .pointer (some ⟨b8, 0, none⟩)), (25, .slice A1_ ms1.length c1_), (26, .int .i64 ms1.length), (27, .int .i64 i), (6, .pointer (some ⟨b22, 0, none⟩)), (7, .int .i64 s.2), (102, .slice x.A x.ks.length x.c), (103, .int .i64 x.ks.length), (104, .int .i64 s.1)]) (fun s w => Own g (bk b22 43 (lnc x) :: bk b8 25 [.slice A1_ ms1.length c1_] :: NR g A1_ ms1 :: L) w ∧ s.1 ≤ x.ks.length ∧ ChO (txtS a 10250).1 s.2 x.d.to (x.ks.drop s.1)) (fun s => x.ks.length - s.1) (0, x.d.frm) ⟨rfl, rfl, rfl, rfl, rfl, rfl, rfl, rfl, rfl, rfl, trivial⟩ ⟨(((H23.fr 2 rfl).fr 2 rfl).fr 2 rfl), by simp, q6⟩ ?_
                            rintro s w76 ⟨H75, hj, hch⟩
                            obtain ⟨j, lst⟩ := s
                            dsimp only at *
                            refine cw_seq ?_
                            refine cw_region rfl ?_
                            refine st H75 (lti rfl rfl) ?_
                            refine wl_nil ?_
                            refine cw_seq ?_
                            refine cw_cond rfl (fun hb77 => ?_) (fun hb77 => ?_)
                            · have hp77 := hb77
                              try simp at hp77
                              obtain ⟨k, hk, hdk, _⟩ := drop_some (l := x.ks) (i := j) (by omega)
                              rw [hdk] at hch
                              obtain ⟨y0, hy0, r1, r2, r3⟩ := hch
                              rw [← hms1] at hy0
                              obtain ⟨y, hy, rfl⟩ := lnS_some hy0
                              have hky : k < ms1.length := (List.getElem?_eq_some_iff.1 hy).1
                              dsimp only at r1 r2 r3
                              refine cw_skip ?_
                              refine cw_seq ?_
                              refine cw_block ?_
                              refine cw_seq ?_
                              refine cw_region rfl ?_
                              refine st H75 (ixC (j) sl41 (nr_kids 2 rfl hmx) rfl rfl (by omega) (by omega)) ?_
                              refine st H75 (ldE1C sc3 (nr_kids 2 rfl hmx) rfl hk rfl) ?_
                              refine st H75 (asg rfl) ?_
                              refine wl_nil ?_
                              refine cw_seq ?_
                              refine cw_region rfl ?_
                              refine st H75 (fa fo25_0 rfl) ?_
                              refine st H75 (ld sc23 1 rfl rfl rfl) ?_
                              refine st H75 (mv rfl) ?_
                              refine st H75 (ixC (k) sl23 (nr_nodes 2 rfl) rfl rfl rfl (by omega)) ?_
                              refine st H75 (ldEC ag43 (nr_nodes 2 rfl) rfl hy) ?_
                              refine st_al H75 zc43 fun b80 w79 H78 => ?_
                              refine st_st 0 H78 rfl rfl rfl sz43 rfl rfl rfl rfl fun w82 H81 => ?_
                              refine wl_nil ?_
                              refine cw_seq ?_
                              refine cw_seq ?_
                              refine cw_region rfl ?_
                              refine st H81 (fa fo43_5 rfl) ?_
                              refine st H81 (ld sc3 0 rfl rfl rfl) ?_
                              refine st H81 (mv rfl) ?_
                              refine st H81 (lti rfl rfl) ?_
                              refine st H81 (mv rfl) ?_
                              refine wl_case (t := 117) rfl (fun hg83 => ?_) (fun hg83 => ?_)
                              · have h99 := of_decide_eq_true hg83
                                omega
                              · have hp83 := hg83
                                try simp at hp83
                                refine gon rfl rfl hg83 ?_
                                refine st H81 (fa fo43_6 rfl) ?_
                                refine gon rfl rfl hg83 ?_
                                refine st H81 (ld sc3 0 rfl rfl rfl) ?_
                                refine gon rfl rfl hg83 ?_
                                refine st H81 (fa fo43_6 rfl) ?_
                                refine gon rfl rfl hg83 ?_
                                refine st H81 (ld sc3 1 rfl rfl rfl) ?_
                                refine gon rfl rfl hg83 ?_
                                refine st H81 (gti rfl rfl) ?_
                                refine st H81 (pk_f rfl hg83 rfl) ?_
                                refine wl_nil ?_
                                refine cw_cond rfl (fun hb84 => ?_) (fun hb84 => ?_)
                                · have h99 := of_decide_eq_true hb84
                                  omega
                                · have hp84 := hb84
                                  try simp at hp84
                                  refine cw_skip ?_
                                  refine cw_region rfl ?_
                                  refine st H81 (fa fo43_6 rfl) ?_
                                  refine st H81 (ld sc3 0 rfl rfl rfl) ?_
                                  refine st H81 (asg rfl) ?_
                                  refine wl_nil ?_
                                  refine cw_region rfl ?_
                                  refine st H81 (add rfl rfl (by omega) (by omega)) ?_
                                  refine st H81 (mv rfl) ?_
                                  refine wl_nil ?_
                                  exact ⟨(j + 1, y.d.to), ⟨rfl, rfl, rfl, rfl, rfl, rfl, rfl, rfl, rfl, rfl, trivial⟩, ⟨((((H81.fr 3 rfl).fr 3 rfl).fr 3 rfl).er 3), by dsimp only; omega, r3⟩, by dsimp only; omega⟩
                            · have hp77 := hb77
                              try simp at hp77
                              refine cw_exit ?_
                              refine cw_region rfl ?_
                              refine st H75 (add rfl rfl (by omega) (by omega)) ?_
                              refine st H75 (mv rfl) ?_
                              refine wl_nil ?_
                              exact ⟨i + 1, ⟨rfl, rfl, rfl, rfl, rfl, trivial⟩, ⟨(((H75.fr 2 rfl).fr 2 rfl).er 2), by omega⟩, by omega⟩
                          · have hp74 := hb74
                            try simp at hp74
                            refine cw_seq ?_
                            refine cw_region rfl ?_
                            refine st H23 (eqi rfl rfl) ?_
                            refine st H23 (asg rfl) ?_
                            refine wl_nil ?_
                            refine cw_cond rfl (fun hb85 => ?_) (fun hb85 => ?_)
                            · have hp85 := hb85
                              try simp at hp85
                              refine cw_skip ?_
                              refine cw_cond_t rfl hb85 ?_
                              refine cw_skip ?_
                              refine cw_seq ?_
                              refine cw_region rfl ?_
                              refine st H23 (fa fo43_5 rfl) ?_
                              refine st H23 (ld sc3 0 rfl rfl rfl) ?_
                              refine st H23 (asg rfl) ?_
                              refine wl_nil ?_
                              refine cw_seq ?_
                              refine cw_region rfl ?_
                              refine st H23 (fa fo43_3 rfl) ?_
                              refine st H23 (ld sc41 0 rfl rfl rfl) ?_
                              refine st H23 (lenl Tryz.underlying41 rfl) ?_
                              refine st H23 (mv rfl) ?_
                              refine wl_nil ?_
                              refine cw_block ?_
                              refine cw_loop (σ := Nat × Int) (fun s => [(0, .string a), (3, .pointer (some ⟨b8, 0, none⟩)), (25, .slice A1_ ms1.length c1_), (26, .int .i64 ms1.length), (27, .int .i64 i), (6, .pointer (some ⟨b22, 0, none⟩)), (7, .int .i64 s.2), (102, .slice x.A x.ks.length x.c), (103, .int .i64 x.ks.length), (104, .int .i64 s.1)]) (fun s w => Own g (bk b22 43 (lnc x) :: bk b8 25 [.slice A1_ ms1.length c1_] :: NR g A1_ ms1 :: L) w ∧ s.1 ≤ x.ks.length ∧ ChO (txtS a 10250).1 s.2 x.d.to (x.ks.drop s.1)) (fun s => x.ks.length - s.1) (0, x.d.frm) ⟨rfl, rfl, rfl, rfl, rfl, rfl, rfl, rfl, rfl, rfl, trivial⟩ ⟨(((H23.fr 2 rfl).fr 2 rfl).fr 2 rfl), by simp, q6⟩ ?_
                              rintro s w87 ⟨H86, hj, hch⟩
                              obtain ⟨j, lst⟩ := s
                              dsimp only at *
                              refine cw_seq ?_
                              refine cw_region rfl ?_
                              refine st H86 (lti rfl rfl) ?_
                              refine wl_nil ?_
                              refine cw_seq ?_
                              refine cw_cond rfl (fun hb88 => ?_) (fun hb88 => ?_)
                              · have hp88 := hb88
                                try simp at hp88
                                obtain ⟨k, hk, hdk, _⟩ := drop_some (l := x.ks) (i := j) (by omega)
                                rw [hdk] at hch
                                obtain ⟨y0, hy0, r1, r2, r3⟩ := hch
                                rw [← hms1] at hy0
                                obtain ⟨y, hy, rfl⟩ := lnS_some hy0
                                have hky : k < ms1.length := (List.getElem?_eq_some_iff.1 hy).1
                                dsimp only at r1 r2 r3
                                refine cw_skip ?_
                                refine cw_seq ?_
                                refine cw_block ?_
                                refine cw_seq ?_
                                refine cw_region rfl ?_
                                refine st H86 (ixC (j) sl41 (nr_kids 2 rfl hmx) rfl rfl (by omega) (by omega)) ?_
                                refine st H86 (ldE1C sc3 (nr_kids 2 rfl hmx) rfl hk rfl) ?_
                                refine st H86 (asg rfl) ?_
                                refine wl_nil ?_
                                refine cw_seq ?_
                                refine cw_region rfl ?_
                                refine st H86 (fa fo25_0 rfl) ?_
                                refine st H86 (ld sc23 1 rfl rfl rfl) ?_
                                refine st H86 (mv rfl) ?_
                                refine st H86 (ixC (k) sl23 (nr_nodes 2 rfl) rfl rfl rfl (by omega)) ?_
                                refine st H86 (ldEC ag43 (nr_nodes 2 rfl) rfl hy) ?_
                                refine st_al H86 zc43 fun b91 w90 H89 => ?_
                                refine st_st 0 H89 rfl rfl rfl sz43 rfl rfl rfl rfl fun w93 H92 => ?_
                                refine wl_nil ?_
                                refine cw_seq ?_
                                refine cw_seq ?_
                                refine cw_region rfl ?_
                                refine st H92 (fa fo43_5 rfl) ?_
                                refine st H92 (ld sc3 0 rfl rfl rfl) ?_
                                refine st H92 (mv rfl) ?_
                                refine st H92 (lti rfl rfl) ?_
                                refine st H92 (mv rfl) ?_
                                refine wl_case (t := 117) rfl (fun hg94 => ?_) (fun hg94 => ?_)
                                · have h99 := of_decide_eq_true hg94
                                  omega
                                · have hp94 := hg94
                                  try simp at hp94
                                  refine gon rfl rfl hg94 ?_
                                  refine st H92 (fa fo43_6 rfl) ?_
                                  refine gon rfl rfl hg94 ?_
                                  refine st H92 (ld sc3 0 rfl rfl rfl) ?_
                                  refine gon rfl rfl hg94 ?_
                                  refine st H92 (fa fo43_6 rfl) ?_
                                  refine gon rfl rfl hg94 ?_
                                  refine st H92 (ld sc3 1 rfl rfl rfl) ?_
                                  refine gon rfl rfl hg94 ?_
                                  refine st H92 (gti rfl rfl) ?_
                                  refine st H92 (pk_f rfl hg94 rfl) ?_
                                  refine wl_nil ?_
                                  refine cw_cond rfl (fun hb95 => ?_) (fun hb95 => ?_)
                                  · have h99 := of_decide_eq_true hb95
                                    omega
                                  · have hp95 := hb95
                                    try simp at hp95
                                    refine cw_skip ?_
                                    refine cw_region rfl ?_
                                    refine st H92 (fa fo43_6 rfl) ?_
                                    refine st H92 (ld sc3 0 rfl rfl rfl) ?_
                                    refine st H92 (asg rfl) ?_
                                    refine wl_nil ?_
                                    refine cw_region rfl ?_
                                    refine st H92 (add rfl rfl (by omega) (by omega)) ?_
                                    refine st H92 (mv rfl) ?_
                                    refine wl_nil ?_
                                    exact ⟨(j + 1, y.d.to), ⟨rfl, rfl, rfl, rfl, rfl, rfl, rfl, rfl, rfl, rfl, trivial⟩, ⟨((((H92.fr 3 rfl).fr 3 rfl).fr 3 rfl).er 3), by dsimp only; omega, r3⟩, by dsimp only; omega⟩
                              · have hp88 := hb88
                                try simp at hp88
                                refine cw_exit ?_
                                refine cw_region rfl ?_
                                refine st H86 (add rfl rfl (by omega) (by omega)) ?_
                                refine st H86 (mv rfl) ?_
                                refine wl_nil ?_
                                exact ⟨i + 1, ⟨rfl, rfl, rfl, rfl, rfl, trivial⟩, ⟨(((H86.fr 2 rfl).fr 2 rfl).er 2), by omega⟩, by omega⟩
                            · have hp85 := hb85
                              try simp at hp85
                              refine cw_seq ?_
                              refine cw_region rfl ?_
                              refine st H23 (eqi rfl rfl) ?_
                              refine st H23 (asg rfl) ?_
                              refine wl_nil ?_
                              refine cw_cond rfl (fun hb96 => ?_) (fun hb96 => ?_)
                              · have hp96 := hb96
                                try simp at hp96
                                refine cw_skip ?_
                                refine cw_cond_t rfl hb96 ?_
                                refine cw_skip ?_
                                refine cw_seq ?_
                                refine cw_region rfl ?_
                                refine st H23 (fa fo43_5 rfl) ?_
                                refine st H23 (ld sc3 0 rfl rfl rfl) ?_
                                refine st H23 (asg rfl) ?_
                                refine wl_nil ?_
                                refine cw_seq ?_
                                refine cw_region rfl ?_
                                refine st H23 (fa fo43_3 rfl) ?_
                                refine st H23 (ld sc41 0 rfl rfl rfl) ?_
                                refine st H23 (lenl Tryz.underlying41 rfl) ?_
                                refine st H23 (mv rfl) ?_
                                refine wl_nil ?_
                                refine cw_block ?_
                                refine cw_loop (σ := Nat × Int) (fun s => [(0, .string a), (3, .pointer (some ⟨b8, 0, none⟩)), (25, .slice A1_ ms1.length c1_), (26, .int .i64 ms1.length), (27, .int .i64 i), (6, .pointer (some ⟨b22, 0, none⟩)), (7, .int .i64 s.2), (102, .slice x.A x.ks.length x.c), (103, .int .i64 x.ks.length), (104, .int .i64 s.1)]) (fun s w => Own g (bk b22 43 (lnc x) :: bk b8 25 [.slice A1_ ms1.length c1_] :: NR g A1_ ms1 :: L) w ∧ s.1 ≤ x.ks.length ∧ ChO (txtS a 10250).1 s.2 x.d.to (x.ks.drop s.1)) (fun s => x.ks.length - s.1) (0, x.d.frm) ⟨rfl, rfl, rfl, rfl, rfl, rfl, rfl, rfl, rfl, rfl, trivial⟩ ⟨(((H23.fr 2 rfl).fr 2 rfl).fr 2 rfl), by simp, q6⟩ ?_
                                rintro s w98 ⟨H97, hj, hch⟩
                                obtain ⟨j, lst⟩ := s
                                dsimp only at *
                                refine cw_seq ?_
                                refine cw_region rfl ?_
                                refine st H97 (lti rfl rfl) ?_
                                refine wl_nil ?_
                                refine cw_seq ?_
                                refine cw_cond rfl (fun hb99 => ?_) (fun hb99 => ?_)
                                · have hp99 := hb99
                                  try simp at hp99
                                  obtain ⟨k, hk, hdk, _⟩ := drop_some (l := x.ks) (i := j) (by omega)
                                  rw [hdk] at hch
                                  obtain ⟨y0, hy0, r1, r2, r3⟩ := hch
                                  rw [← hms1] at hy0
                                  obtain ⟨y, hy, rfl⟩ := lnS_some hy0
                                  have hky : k < ms1.length := (List.getElem?_eq_some_iff.1 hy).1
                                  dsimp only at r1 r2 r3
                                  refine cw_skip ?_
                                  refine cw_seq ?_
                                  refine cw_block ?_
                                  refine cw_seq ?_
                                  refine cw_region rfl ?_
                                  refine st H97 (ixC (j) sl41 (nr_kids 2 rfl hmx) rfl rfl (by omega) (by omega)) ?_
                                  refine st H97 (ldE1C sc3 (nr_kids 2 rfl hmx) rfl hk rfl) ?_
                                  refine st H97 (asg rfl) ?_
                                  refine wl_nil ?_
                                  refine cw_seq ?_
                                  refine cw_region rfl ?_
                                  refine st H97 (fa fo25_0 rfl) ?_
                                  refine st H97 (ld sc23 1 rfl rfl rfl) ?_
                                  refine st H97 (mv rfl) ?_
                                  refine st H97 (ixC (k) sl23 (nr_nodes 2 rfl) rfl rfl rfl (by omega)) ?_
                                  refine st H97 (ldEC ag43 (nr_nodes 2 rfl) rfl hy) ?_
                                  refine st_al H97 zc43 fun b102 w101 H100 => ?_
                                  refine st_st 0 H100 rfl rfl rfl sz43 rfl rfl rfl rfl fun w104 H103 => ?_
                                  refine wl_nil ?_
                                  refine cw_seq ?_
                                  refine cw_seq ?_
                                  refine cw_region rfl ?_
                                  refine st H103 (fa fo43_5 rfl) ?_
                                  refine st H103 (ld sc3 0 rfl rfl rfl) ?_
                                  refine st H103 (mv rfl) ?_
                                  refine st H103 (lti rfl rfl) ?_
                                  refine st H103 (mv rfl) ?_
                                  refine wl_case (t := 117) rfl (fun hg105 => ?_) (fun hg105 => ?_)
                                  · have h99 := of_decide_eq_true hg105
                                    omega
                                  · have hp105 := hg105
                                    try simp at hp105
                                    refine gon rfl rfl hg105 ?_
                                    refine st H103 (fa fo43_6 rfl) ?_
                                    refine gon rfl rfl hg105 ?_
                                    refine st H103 (ld sc3 0 rfl rfl rfl) ?_
                                    refine gon rfl rfl hg105 ?_
                                    refine st H103 (fa fo43_6 rfl) ?_
                                    refine gon rfl rfl hg105 ?_
                                    refine st H103 (ld sc3 1 rfl rfl rfl) ?_
                                    refine gon rfl rfl hg105 ?_
                                    refine st H103 (gti rfl rfl) ?_
                                    refine st H103 (pk_f rfl hg105 rfl) ?_
                                    refine wl_nil ?_
                                    refine cw_cond rfl (fun hb106 => ?_) (fun hb106 => ?_)
                                    · have h99 := of_decide_eq_true hb106
                                      omega
                                    · have hp106 := hb106
                                      try simp at hp106
                                      refine cw_skip ?_
                                      refine cw_region rfl ?_
                                      refine st H103 (fa fo43_6 rfl) ?_
                                      refine st H103 (ld sc3 0 rfl rfl rfl) ?_
                                      refine st H103 (asg rfl) ?_
                                      refine wl_nil ?_
                                      refine cw_region rfl ?_
                                      refine st H103 (add rfl rfl (by omega) (by omega)) ?_
                                      refine st H103 (mv rfl) ?_
                                      refine wl_nil ?_
                                      exact ⟨(j + 1, y.d.to), ⟨rfl, rfl, rfl, rfl, rfl, rfl, rfl, rfl, rfl, rfl, trivial⟩, ⟨((((H103.fr 3 rfl).fr 3 rfl).fr 3 rfl).er 3), by dsimp only; omega, r3⟩, by dsimp only; omega⟩
                                · have hp99 := hb99
                                  try simp at hp99
                                  refine cw_exit ?_
                                  refine cw_region rfl ?_
                                  refine st H97 (add rfl rfl (by omega) (by omega)) ?_
                                  refine st H97 (mv rfl) ?_
                                  refine wl_nil ?_
                                  exact ⟨i + 1, ⟨rfl, rfl, rfl, rfl, rfl, trivial⟩, ⟨(((H97.fr 2 rfl).fr 2 rfl).er 2), by omega⟩, by omega⟩
                              · have hp96 := hb96
                                try simp at hp96
                                refine cw_seq ?_
                                refine cw_region rfl ?_
                                refine st H23 (eqi rfl rfl) ?_
                                refine st H23 (asg rfl) ?_
                                refine wl_nil ?_
                                refine cw_cond rfl (fun hb107 => ?_) (fun hb107 => ?_)
                                · have hp107 := hb107
                                  try simp at hp107
                                  refine cw_skip ?_
                                  refine cw_cond_t rfl hb107 ?_
                                  refine cw_skip ?_
                                  refine cw_seq ?_
                                  refine cw_region rfl ?_
                                  refine st H23 (fa fo43_5 rfl) ?_
                                  refine st H23 (ld sc3 0 rfl rfl rfl) ?_
                                  refine st H23 (asg rfl) ?_
                                  refine wl_nil ?_
                                  refine cw_seq ?_
                                  refine cw_region rfl ?_
                                  refine st H23 (fa fo43_3 rfl) ?_
                                  refine st H23 (ld sc41 0 rfl rfl rfl) ?_
                                  refine st H23 (lenl Tryz.underlying41 rfl) ?_
                                  refine st H23 (mv rfl) ?_
                                  refine wl_nil ?_
                                  refine cw_block ?_
                                  refine cw_loop (σ := Nat × Int) (fun s => [(0, .string a), (3, .pointer (some ⟨b8, 0, none⟩)), (25, .slice A1_ ms1.length c1_), (26, .int .i64 ms1.length), (27, .int .i64 i), (6, .pointer (some ⟨b22, 0, none⟩)), (7, .int .i64 s.2), (102, .slice x.A x.ks.length x.c), (103, .int .i64 x.ks.length), (104, .int .i64 s.1)]) (fun s w => Own g (bk b22 43 (lnc x) :: bk b8 25 [.slice A1_ ms1.length c1_] :: NR g A1_ ms1 :: L) w ∧ s.1 ≤ x.ks.length ∧ ChO (txtS a 10250).1 s.2 x.d.to (x.ks.drop s.1)) (fun s => x.ks.length - s.1) (0, x.d.frm) ⟨rfl, rfl, rfl, rfl, rfl, rfl, rfl, rfl, rfl, rfl, trivial⟩ ⟨(((H23.fr 2 rfl).fr 2 rfl).fr 2 rfl), by simp, q6⟩ ?_
                                  rintro s w109 ⟨H108, hj, hch⟩
                                  obtain ⟨j, lst⟩ := s
                                  dsimp only at *
                                  refine cw_seq ?_
                                  refine cw_region rfl ?_
                                  refine st H108 (lti rfl rfl) ?_
                                  refine wl_nil ?_
                                  refine cw_seq ?_
                                  refine cw_cond rfl (fun hb110 => ?_) (fun hb110 => ?_)
                                  · have hp110 := hb110
                                    try simp at hp110
                                    obtain ⟨k, hk, hdk, _⟩ := drop_some (l := x.ks) (i := j) (by omega)
                                    rw [hdk] at hch
                                    obtain ⟨y0, hy0, r1, r2, r3⟩ := hch
                                    rw [← hms1] at hy0
                                    obtain ⟨y, hy, rfl⟩ := lnS_some hy0
                                    have hky : k < ms1.length := (List.getElem?_eq_some_iff.1 hy).1
                                    dsimp only at r1 r2 r3
                                    refine cw_skip ?_
                                    refine cw_seq ?_
                                    refine cw_block ?_
                                    refine cw_seq ?_
                                    refine cw_region rfl ?_
                                    refine st H108 (ixC (j) sl41 (nr_kids 2 rfl hmx) rfl rfl (by omega) (by omega)) ?_
                                    refine st H108 (ldE1C sc3 (nr_kids 2 rfl hmx) rfl hk rfl) ?_
                                    refine st H108 (asg rfl) ?_
                                    refine wl_nil ?_
                                    refine cw_seq ?_
                                    refine cw_region rfl ?_
                                    refine st H108 (fa fo25_0 rfl) ?_
                                    refine st H108 (ld sc23 1 rfl rfl rfl) ?_
                                    refine st H108 (mv rfl) ?_
                                    refine st H108 (ixC (k) sl23 (nr_nodes 2 rfl) rfl rfl rfl (by omega)) ?_
                                    refine st H108 (ldEC ag43 (nr_nodes 2 rfl) rfl hy) ?_
                                    refine st_al H108 zc43 fun b113 w112 H111 => ?_
                                    refine st_st 0 H111 rfl rfl rfl sz43 rfl rfl rfl rfl fun w115 H114 => ?_
                                    refine wl_nil ?_
                                    refine cw_seq ?_
                                    refine cw_seq ?_
                                    refine cw_region rfl ?_
                                    refine st H114 (fa fo43_5 rfl) ?_
                                    refine st H114 (ld sc3 0 rfl rfl rfl) ?_
                                    refine st H114 (mv rfl) ?_
                                    refine st H114 (lti rfl rfl) ?_
                                    refine st H114 (mv rfl) ?_
                                    refine wl_case (t := 117) rfl (fun hg116 => ?_) (fun hg116 => ?_)
                                    · have h99 := of_decide_eq_true hg116
                                      omega
                                    · have hp116 := hg116
                                      try simp at hp116
                                      refine gon rfl rfl hg116 ?_
                                      refine st H114 (fa fo43_6 rfl) ?_
                                      refine gon rfl rfl hg116 ?_
                                      refine st H114 (ld sc3 0 rfl rfl rfl) ?_
                                      refine gon rfl rfl hg116 ?_
                                      refine st H114 (fa fo43_6 rfl) ?_
                                      refine gon rfl rfl hg116 ?_
                                      refine st H114 (ld sc3 1 rfl rfl rfl) ?_
                                      refine gon rfl rfl hg116 ?_
                                      refine st H114 (gti rfl rfl) ?_
                                      refine st H114 (pk_f rfl hg116 rfl) ?_
                                      refine wl_nil ?_
                                      refine cw_cond rfl (fun hb117 => ?_) (fun hb117 => ?_)
                                      · have h99 := of_decide_eq_true hb117
                                        omega
                                      · have hp117 := hb117
                                        try simp at hp117
                                        refine cw_skip ?_
                                        refine cw_region rfl ?_
                                        refine st H114 (fa fo43_6 rfl) ?_
                                        refine st H114 (ld sc3 0 rfl rfl rfl) ?_
                                        refine st H114 (asg rfl) ?_
                                        refine wl_nil ?_
                                        refine cw_region rfl ?_
                                        refine st H114 (add rfl rfl (by omega) (by omega)) ?_
                                        refine st H114 (mv rfl) ?_
                                        refine wl_nil ?_
                                        exact ⟨(j + 1, y.d.to), ⟨rfl, rfl, rfl, rfl, rfl, rfl, rfl, rfl, rfl, rfl, trivial⟩, ⟨((((H114.fr 3 rfl).fr 3 rfl).fr 3 rfl).er 3), by dsimp only; omega, r3⟩, by dsimp only; omega⟩
                                  · have hp110 := hb110
                                    try simp at hp110
                                    refine cw_exit ?_
                                    refine cw_region rfl ?_
                                    refine st H108 (add rfl rfl (by omega) (by omega)) ?_
                                    refine st H108 (mv rfl) ?_
                                    refine wl_nil ?_
                                    exact ⟨i + 1, ⟨rfl, rfl, rfl, rfl, rfl, trivial⟩, ⟨(((H108.fr 2 rfl).fr 2 rfl).er 2), by omega⟩, by omega⟩
                                · have hp107 := hb107
                                  try simp at hp107
                                  refine cw_seq ?_
                                  refine cw_region rfl ?_
                                  refine st H23 (eqi rfl rfl) ?_
                                  refine st H23 (asg rfl) ?_
                                  refine wl_nil ?_
                                  refine cw_cond rfl (fun hb118 => ?_) (fun hb118 => ?_)
                                  · have hp118 := hb118
                                    try simp at hp118
                                    refine cw_skip ?_
                                    refine cw_cond_t rfl hb118 ?_
                                    refine cw_skip ?_
                                    refine cw_seq ?_
                                    refine cw_region rfl ?_
                                    refine st H23 (fa fo43_5 rfl) ?_
                                    refine st H23 (ld sc3 0 rfl rfl rfl) ?_
                                    refine st H23 (asg rfl) ?_
                                    refine wl_nil ?_
                                    refine cw_seq ?_
                                    refine cw_region rfl ?_
                                    refine st H23 (fa fo43_3 rfl) ?_
                                    refine st H23 (ld sc41 0 rfl rfl rfl) ?_
                                    refine st H23 (lenl Tryz.underlying41 rfl) ?_
                                    refine st H23 (mv rfl) ?_
                                    refine wl_nil ?_
                                    refine cw_block ?_
                                    refine cw_loop (σ := Nat × Int) (fun s => [(0, .string a), (3, .pointer (some ⟨b8, 0, none⟩)), (25, .slice A1_ ms1.length c1_), (26, .int .i64 ms1.length), (27, .int .i64 i), (6, .pointer (some ⟨b22, 0, none⟩)), (7, .int .i64 s.2), (102, .slice x.A x.ks.length x.c), (103, .int .i64 x.ks.length), (104, .int .i64 s.1)]) (fun s w => Own g (bk b22 43 (lnc x) :: bk b8 25 [.slice A1_ ms1.length c1_] :: NR g A1_ ms1 :: L) w ∧ s.1 ≤ x.ks.length ∧ ChO (txtS a 10250).1 s.2 x.d.to (x.ks.drop s.1)) (fun s => x.ks.length - s.1) (0, x.d.frm) ⟨rfl, rfl, rfl, rfl, rfl, rfl, rfl, rfl, rfl, rfl, trivial⟩ ⟨(((H23.fr 2 rfl).fr 2 rfl).fr 2 rfl), by simp, q6⟩ ?_
                                    rintro s w120 ⟨H119, hj, hch⟩
                                    obtain ⟨j, lst⟩ := s
                                    dsimp only at *
                                    refine cw_seq ?_
                                    refine cw_region rfl ?_
                                    refine st H119 (lti rfl rfl) ?_
                                    refine wl_nil ?_
                                    refine cw_seq ?_
                                    refine cw_cond rfl (fun hb121 => ?_) (fun hb121 => ?_)
                                    · have hp121 := hb121
                                      try simp at hp121
                                      obtain ⟨k, hk, hdk, _⟩ := drop_some (l := x.ks) (i := j) (by omega)
                                      rw [hdk] at hch
                                      obtain ⟨y0, hy0, r1, r2, r3⟩ := hch
                                      rw [← hms1] at hy0
                                      obtain ⟨y, hy, rfl⟩ := lnS_some hy0
                                      have hky : k < ms1.length := (List.getElem?_eq_some_iff.1 hy).1
                                      dsimp only at r1 r2 r3
                                      refine cw_skip ?_
                                      refine cw_seq ?_
                                      refine cw_block ?_
                                      refine cw_seq ?_
                                      refine cw_region rfl ?_
                                      refine st H119 (ixC (j) sl41 (nr_kids 2 rfl hmx) rfl rfl (by omega) (by omega)) ?_
                                      refine st H119 (ldE1C sc3 (nr_kids 2 rfl hmx) rfl hk rfl) ?_
                                      refine st H119 (asg rfl) ?_
                                      refine wl_nil ?_
                                      refine cw_seq ?_
                                      refine cw_region rfl ?_
                                      refine st H119 (fa fo25_0 rfl) ?_
                                      refine st H119 (ld sc23 1 rfl rfl rfl) ?_
                                      refine st H119 (mv rfl) ?_
                                      refine st H119 (ixC (k) sl23 (nr_nodes 2 rfl) rfl rfl rfl (by omega)) ?_
                                      refine st H119 (ldEC ag43 (nr_nodes 2 rfl) rfl hy) ?_
                                      refine st_al H119 zc43 fun b124 w123 H122 => ?_
                                      refine st_st 0 H122 rfl rfl rfl sz43 rfl rfl rfl rfl fun w126 H125 => ?_
                                      refine wl_nil ?_
                                      refine cw_seq ?_
                                      refine cw_seq ?_
                                      refine cw_region rfl ?_
                                      refine st H125 (fa fo43_5 rfl) ?_
                                      refine st H125 (ld sc3 0 rfl rfl rfl) ?_
                                      refine st H125 (mv rfl) ?_
                                      refine st H125 (lti rfl rfl) ?_
                                      refine st H125 (mv rfl) ?_
                                      refine wl_case (t := 117) rfl (fun hg127 => ?_) (fun hg127 => ?_)
                                      · have h99 := of_decide_eq_true hg127
                                        omega
                                      · have hp127 := hg127
                                        try simp at hp127
                                        refine gon rfl rfl hg127 ?_
                                        refine st H125 (fa fo43_6 rfl) ?_
                                        refine gon rfl rfl hg127 ?_
                                        refine st H125 (ld sc3 0 rfl rfl rfl) ?_
                                        refine gon rfl rfl hg127 ?_
                                        refine st H125 (fa fo43_6 rfl) ?_
                                        refine gon rfl rfl hg127 ?_
                                        refine st H125 (ld sc3 1 rfl rfl rfl) ?_
                                        refine gon rfl rfl hg127 ?_
                                        refine st H125 (gti rfl rfl) ?_
                                        refine st H125 (pk_f rfl hg127 rfl) ?_
                                        refine wl_nil ?_
                                        refine cw_cond rfl (fun hb128 => ?_) (fun hb128 => ?_)
                                        · have h99 := of_decide_eq_true hb128
                                          omega
                                        · have hp128 := hb128
                                          try simp at hp128
                                          refine cw_skip ?_
                                          refine cw_region rfl ?_
                                          refine st H125 (fa fo43_6 rfl) ?_
                                          refine st H125 (ld sc3 0 rfl rfl rfl) ?_
                                          refine st H125 (asg rfl) ?_
                                          refine wl_nil ?_
                                          refine cw_region rfl ?_
                                          refine st H125 (add rfl rfl (by omega) (by omega)) ?_
                                          refine st H125 (mv rfl) ?_
                                          refine wl_nil ?_
                                          exact ⟨(j + 1, y.d.to), ⟨rfl, rfl, rfl, rfl, rfl, rfl, rfl, rfl, rfl, rfl, trivial⟩, ⟨((((H125.fr 3 rfl).fr 3 rfl).fr 3 rfl).er 3), by dsimp only; omega, r3⟩, by dsimp only; omega⟩
                                    · have hp121 := hb121
                                      try simp at hp121
                                      refine cw_exit ?_
                                      refine cw_region rfl ?_
                                      refine st H119 (add rfl rfl (by omega) (by omega)) ?_
                                      refine st H119 (mv rfl) ?_
                                      refine wl_nil ?_
                                      exact ⟨i + 1, ⟨rfl, rfl, rfl, rfl, rfl, trivial⟩, ⟨(((H119.fr 2 rfl).fr 2 rfl).er 2), by omega⟩, by omega⟩
                                  · have hp118 := hb118
                                    try simp at hp118
                                    refine cw_region rfl ?_
                                    refine st H23 (eqi rfl rfl) ?_
                                    refine st H23 (asg rfl) ?_
                                    refine wl_nil ?_
                                    refine cw_cond rfl (fun hb129 => ?_) (fun hb129 => ?_)
                                    · have hp129 := hb129
                                      try simp at hp129
                                      refine cw_skip ?_
                                      refine cw_seq ?_
                                      refine cw_region rfl ?_
                                      refine st H23 (fa fo43_5 rfl) ?_
                                      refine st H23 (ld sc3 0 rfl rfl rfl) ?_
                                      refine st H23 (asg rfl) ?_
                                      refine wl_nil ?_
                                      refine cw_seq ?_
                                      refine cw_region rfl ?_
                                      refine st H23 (fa fo43_3 rfl) ?_
                                      refine st H23 (ld sc41 0 rfl rfl rfl) ?_
                                      refine st H23 (lenl Tryz.underlying41 rfl) ?_
                                      refine st H23 (mv rfl) ?_
                                      refine wl_nil ?_
                                      refine cw_block ?_
                                      refine cw_loop (σ := Nat × Int) (fun s => [(0, .string a), (3, .pointer (some ⟨b8, 0, none⟩)), (25, .slice A1_ ms1.length c1_), (26, .int .i64 ms1.length), (27, .int .i64 i), (6, .pointer (some ⟨b22, 0, none⟩)), (7, .int .i64 s.2), (102, .slice x.A x.ks.length x.c), (103, .int .i64 x.ks.length), (104, .int .i64 s.1)]) (fun s w => Own g (bk b22 43 (lnc x) :: bk b8 25 [.slice A1_ ms1.length c1_] :: NR g A1_ ms1 :: L) w ∧ s.1 ≤ x.ks.length ∧ ChO (txtS a 10250).1 s.2 x.d.to (x.ks.drop s.1)) (fun s => x.ks.length - s.1) (0, x.d.frm) ⟨rfl, rfl, rfl, rfl, rfl, rfl, rfl, rfl, rfl, rfl, trivial⟩ ⟨(((H23.fr 2 rfl).fr 2 rfl).fr 2 rfl), by simp, q6⟩ ?_
                                      rintro s w131 ⟨H130, hj, hch⟩
                                      obtain ⟨j, lst⟩ := s
                                      dsimp only at *
                                      refine cw_seq ?_
                                      refine cw_region rfl ?_
                                      refine st H130 (lti rfl rfl) ?_
                                      refine wl_nil ?_
                                      refine cw_seq ?_
                                      refine cw_cond rfl (fun hb132 => ?_) (fun hb132 => ?_)
                                      · have hp132 := hb132
                                        try simp at hp132
                                        obtain ⟨k, hk, hdk, _⟩ := drop_some (l := x.ks) (i := j) (by omega)
                                        rw [hdk] at hch
                                        obtain ⟨y0, hy0, r1, r2, r3⟩ := hch
                                        rw [← hms1] at hy0
                                        obtain ⟨y, hy, rfl⟩ := lnS_some hy0
                                        have hky : k < ms1.length := (List.getElem?_eq_some_iff.1 hy).1
                                        dsimp only at r1 r2 r3
                                        refine cw_skip ?_
                                        refine cw_seq ?_
                                        refine cw_block ?_
                                        refine cw_seq ?_
                                        refine cw_region rfl ?_
                                        refine st H130 (ixC (j) sl41 (nr_kids 2 rfl hmx) rfl rfl (by omega) (by omega)) ?_
                                        refine st H130 (ldE1C sc3 (nr_kids 2 rfl hmx) rfl hk rfl) ?_
                                        refine st H130 (asg rfl) ?_
                                        refine wl_nil ?_
                                        refine cw_seq ?_
                                        refine cw_region rfl ?_
                                        refine st H130 (fa fo25_0 rfl) ?_
                                        refine st H130 (ld sc23 1 rfl rfl rfl) ?_
                                        refine st H130 (mv rfl) ?_
                                        refine st H130 (ixC (k) sl23 (nr_nodes 2 rfl) rfl rfl rfl (by omega)) ?_
                                        refine st H130 (ldEC ag43 (nr_nodes 2 rfl) rfl hy) ?_
                                        refine st_al H130 zc43 fun b135 w134 H133 => ?_
                                        refine st_st 0 H133 rfl rfl rfl sz43 rfl rfl rfl rfl fun w137 H136 => ?_
                                        refine wl_nil ?_
                                        refine cw_seq ?_
                                        refine cw_seq ?_
                                        refine cw_region rfl ?_
                                        refine st H136 (fa fo43_5 rfl) ?_
                                        refine st H136 (ld sc3 0 rfl rfl rfl) ?_
                                        refine st H136 (mv rfl) ?_
                                        refine st H136 (lti rfl rfl) ?_
                                        refine st H136 (mv rfl) ?_
                                        refine wl_case (t := 117) rfl (fun hg138 => ?_) (fun hg138 => ?_)
                                        · have h99 := of_decide_eq_true hg138
                                          omega
                                        · have hp138 := hg138
                                          try simp at hp138
                                          refine gon rfl rfl hg138 ?_
                                          refine st H136 (fa fo43_6 rfl) ?_
                                          refine gon rfl rfl hg138 ?_
                                          refine st H136 (ld sc3 0 rfl rfl rfl) ?_
                                          refine gon rfl rfl hg138 ?_
                                          refine st H136 (fa fo43_6 rfl) ?_
                                          refine gon rfl rfl hg138 ?_
                                          refine st H136 (ld sc3 1 rfl rfl rfl) ?_
                                          refine gon rfl rfl hg138 ?_
                                          refine st H136 (gti rfl rfl) ?_
                                          refine st H136 (pk_f rfl hg138 rfl) ?_
                                          refine wl_nil ?_
                                          refine cw_cond rfl (fun hb139 => ?_) (fun hb139 => ?_)
                                          · have h99 := of_decide_eq_true hb139
                                            omega
                                          · have hp139 := hb139
                                            try simp at hp139
                                            refine cw_skip ?_
                                            refine cw_region rfl ?_
                                            refine st H136 (fa fo43_6 rfl) ?_
                                            refine st H136 (ld sc3 0 rfl rfl rfl) ?_
                                            refine st H136 (asg rfl) ?_
                                            refine wl_nil ?_
                                            refine cw_region rfl ?_
                                            refine st H136 (add rfl rfl (by omega) (by omega)) ?_
                                            refine st H136 (mv rfl) ?_
                                            refine wl_nil ?_
                                            exact ⟨(j + 1, y.d.to), ⟨rfl, rfl, rfl, rfl, rfl, rfl, rfl, rfl, rfl, rfl, trivial⟩, ⟨((((H136.fr 3 rfl).fr 3 rfl).fr 3 rfl).er 3), by dsimp only; omega, r3⟩, by dsimp only; omega⟩
                                      · have hp132 := hb132
                                        try simp at hp132
                                        refine cw_exit ?_
                                        refine cw_region rfl ?_
                                        refine st H130 (add rfl rfl (by omega) (by omega)) ?_
                                        refine st H130 (mv rfl) ?_
                                        refine wl_nil ?_
                                        exact ⟨i + 1, ⟨rfl, rfl, rfl, rfl, rfl, trivial⟩, ⟨(((H130.fr 2 rfl).fr 2 rfl).er 2), by omega⟩, by omega⟩
                                    · have hp129 := hb129
                                      try simp at hp129
                                      obtain ⟨p, q7, q8, q9⟩ := q5.resolve_left (by unfold Excl; omega)
                                      refine cw_seq ?_
                                      refine cw_quiet hm H23 (by kernel_rfl) rfl ?_
                                      refine sq (mv rfl) ?_
                                      refine sq (lens Tryz.underlying9 rfl) ?_
                                      refine sq (fa fo43_4 rfl) ?_
                                      refine sq (ld sc3 0 rfl rfl rfl) ?_
                                      refine sq (sub rfl rfl (by omega) (by omega)) ?_
                                      refine sq (fa fo43_1 rfl) ?_
                                      refine sq (ld sc9 0 rfl rfl rfl) ?_
                                      refine sq (lens Tryz.underlying9 rfl) ?_
                                      refine sq (lti rfl rfl) ?_
                                      refine sq (mv rfl) ?_
                                      refine wq_case (t := 73) rfl (fun hg142 => ?_) (fun hg142 => ?_)
                                      · have h99 := of_decide_eq_true hg142
                                        omega
                                      · have hp142 := hg142
                                        try simp at hp142
                                        refine qgon rfl rfl hg142 ?_
                                        refine sq (mv rfl) ?_
                                        refine qgon rfl rfl hg142 ?_
                                        refine sq (fa fo43_4 rfl) ?_
                                        refine qgon rfl rfl hg142 ?_
                                        refine sq (ld sc3 0 rfl rfl rfl) ?_
                                        refine qgon rfl rfl hg142 ?_
                                        refine sq (fa fo43_4 rfl) ?_
                                        refine qgon rfl rfl hg142 ?_
                                        refine sq (ld sc3 0 rfl rfl rfl) ?_
                                        refine qgon rfl rfl hg142 ?_
                                        refine sq (fa fo43_1 rfl) ?_
                                        refine qgon rfl rfl hg142 ?_
                                        refine sq (ld sc9 0 rfl rfl rfl) ?_
                                        refine qgon rfl rfl hg142 ?_
                                        refine sq (lens Tryz.underlying9 rfl) ?_
                                        refine qgon rfl rfl hg142 ?_
                                        refine sq (add rfl rfl (by omega) (by omega)) ?_
                                        refine qgon rfl rfl hg142 ?_
                                        refine sq (sls Tryz.underlying9 rfl rfl rfl (p) (p + x.d.text.size) (by omega) (by omega) (by omega) (by omega)) ?_
                                        refine qgon rfl rfl hg142 ?_
                                        refine sq (fa fo43_1 rfl) ?_
                                        refine qgon rfl rfl hg142 ?_
                                        refine sq (ld sc9 0 rfl rfl rfl) ?_
                                        refine qgon rfl rfl hg142 ?_
                                        refine sq (nes rfl rfl) ?_
                                        refine sq (pk_f rfl hg142 rfl) ?_
                                        refine wq_nil fun w141 H140 => ?_
                                        refine cw_cond rfl (fun hb143 => ?_) (fun hb143 => ?_)
                                        · exact absurd q9 (of_decide_eq_true hb143)
                                        · have hp143 := hb143
                                          try simp at hp143
                                          refine cw_skip ?_
                                          refine cw_seq ?_
                                          refine cw_region rfl ?_
                                          refine st H140 (fa fo43_5 rfl) ?_
                                          refine st H140 (ld sc3 0 rfl rfl rfl) ?_
                                          refine st H140 (asg rfl) ?_
                                          refine wl_nil ?_
                                          refine cw_seq ?_
                                          refine cw_region rfl ?_
                                          refine st H140 (fa fo43_3 rfl) ?_
                                          refine st H140 (ld sc41 0 rfl rfl rfl) ?_
                                          refine st H140 (lenl Tryz.underlying41 rfl) ?_
                                          refine st H140 (mv rfl) ?_
                                          refine wl_nil ?_
                                          refine cw_block ?_
                                          refine cw_loop (σ := Nat × Int) (fun s => [(0, .string a), (3, .pointer (some ⟨b8, 0, none⟩)), (25, .slice A1_ ms1.length c1_), (26, .int .i64 ms1.length), (27, .int .i64 i), (6, .pointer (some ⟨b22, 0, none⟩)), (7, .int .i64 s.2), (102, .slice x.A x.ks.length x.c), (103, .int .i64 x.ks.length), (104, .int .i64 s.1)]) (fun s w => Own g (bk b22 43 (lnc x) :: bk b8 25 [.slice A1_ ms1.length c1_] :: NR g A1_ ms1 :: L) w ∧ s.1 ≤ x.ks.length ∧ ChO (txtS a 10250).1 s.2 x.d.to (x.ks.drop s.1)) (fun s => x.ks.length - s.1) (0, x.d.frm) ⟨rfl, rfl, rfl, rfl, rfl, rfl, rfl, rfl, rfl, rfl, trivial⟩ ⟨(((H140.fr 2 rfl).fr 2 rfl).fr 2 rfl), by simp, q6⟩ ?_
                                          rintro s w145 ⟨H144, hj, hch⟩
                                          obtain ⟨j, lst⟩ := s
                                          dsimp only at *
                                          refine cw_seq ?_
                                          refine cw_region rfl ?_
                                          refine st H144 (lti rfl rfl) ?_
                                          refine wl_nil ?_
                                          refine cw_seq ?_
                                          refine cw_cond rfl (fun hb146 => ?_) (fun hb146 => ?_)
                                          · have hp146 := hb146
                                            try simp at hp146
                                            obtain ⟨k, hk, hdk, _⟩ := drop_some (l := x.ks) (i := j) (by omega)
                                            rw [hdk] at hch
                                            obtain ⟨y0, hy0, r1, r2, r3⟩ := hch
                                            rw [← hms1] at hy0
                                            obtain ⟨y, hy, rfl⟩ := lnS_some hy0
                                            have hky : k < ms1.length := (List.getElem?_eq_some_iff.1 hy).1
                                            dsimp only at r1 r2 r3
                                            refine cw_skip ?_
                                            refine cw_seq ?_
                                            refine cw_block ?_
                                            refine cw_seq ?_
                                            refine cw_region rfl ?_
                                            refine st H144 (ixC (j) sl41 (nr_kids 2 rfl hmx) rfl rfl (by omega) (by omega)) ?_
                                            refine st H144 (ldE1C sc3 (nr_kids 2 rfl hmx) rfl hk rfl) ?_
                                            refine st H144 (asg rfl) ?_
                                            refine wl_nil ?_
                                            refine cw_seq ?_
                                            refine cw_region rfl ?_
                                            refine st H144 (fa fo25_0 rfl) ?_
                                            refine st H144 (ld sc23 1 rfl rfl rfl) ?_
                                            refine st H144 (mv rfl) ?_
                                            refine st H144 (ixC (k) sl23 (nr_nodes 2 rfl) rfl rfl rfl (by omega)) ?_
                                            refine st H144 (ldEC ag43 (nr_nodes 2 rfl) rfl hy) ?_
                                            refine st_al H144 zc43 fun b149 w148 H147 => ?_
                                            refine st_st 0 H147 rfl rfl rfl sz43 rfl rfl rfl rfl fun w151 H150 => ?_
                                            refine wl_nil ?_
                                            refine cw_seq ?_
                                            refine cw_seq ?_
                                            refine cw_region rfl ?_
                                            refine st H150 (fa fo43_5 rfl) ?_
                                            refine st H150 (ld sc3 0 rfl rfl rfl) ?_
                                            refine st H150 (mv rfl) ?_
                                            refine st H150 (lti rfl rfl) ?_
                                            refine st H150 (mv rfl) ?_
                                            refine wl_case (t := 117) rfl (fun hg152 => ?_) (fun hg152 => ?_)
                                            · have h99 := of_decide_eq_true hg152
                                              omega
                                            · have hp152 := hg152
                                              try simp at hp152
                                              refine gon rfl rfl hg152 ?_
                                              refine st H150 (fa fo43_6 rfl) ?_
                                              refine gon rfl rfl hg152 ?_
                                              refine st H150 (ld sc3 0 rfl rfl rfl) ?_
                                              refine gon rfl rfl hg152 ?_
                                              refine st H150 (fa fo43_6 rfl) ?_
                                              refine gon rfl rfl hg152 ?_
                                              refine st H150 (ld sc3 1 rfl rfl rfl) ?_
                                              refine gon rfl rfl hg152 ?_
                                              refine st H150 (gti rfl rfl) ?_
                                              refine st H150 (pk_f rfl hg152 rfl) ?_
                                              refine wl_nil ?_
                                              refine cw_cond rfl (fun hb153 => ?_) (fun hb153 => ?_)
                                              · have h99 := of_decide_eq_true hb153
                                                omega
                                              · have hp153 := hb153
                                                try simp at hp153
                                                refine cw_skip ?_
                                                refine cw_region rfl ?_
                                                refine st H150 (fa fo43_6 rfl) ?_
                                                refine st H150 (ld sc3 0 rfl rfl rfl) ?_
                                                refine st H150 (asg rfl) ?_
                                                refine wl_nil ?_
                                                refine cw_region rfl ?_
                                                refine st H150 (add rfl rfl (by omega) (by omega)) ?_
                                                refine st H150 (mv rfl) ?_
                                                refine wl_nil ?_
                                                exact ⟨(j + 1, y.d.to), ⟨rfl, rfl, rfl, rfl, rfl, rfl, rfl, rfl, rfl, rfl, trivial⟩, ⟨((((H150.fr 3 rfl).fr 3 rfl).fr 3 rfl).er 3), by dsimp only; omega, r3⟩, by dsimp only; omega⟩
                                          · have hp146 := hb146
                                            try simp at hp146
                                            refine cw_exit ?_
                                            refine cw_region rfl ?_
                                            refine st H144 (add rfl rfl (by omega) (by omega)) ?_
                                            refine st H144 (mv rfl) ?_
                                            refine wl_nil ?_
                                            exact ⟨i + 1, ⟨rfl, rfl, rfl, rfl, rfl, trivial⟩, ⟨(((H144.fr 2 rfl).fr 2 rfl).er 2), by omega⟩, by omega⟩
      · have hp19 := hb19
        try simp at hp19
        refine cw_exit ?_
        refine cw_seq ?_
        refine cw_region rfl ?_
        refine st H17 (asg rfl) ?_
        refine wl_nil ?_
        refine cw_ret ?_
        refine ret1 rfl rfl ?_
        exact ⟨rfl, ((H17.er 0).er 0)⟩
end
end Go.Proofs.YtmkijgmfefkgeaaGreatDoor
