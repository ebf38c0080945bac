/- The nodes of a tree are laid. -/
import Derived.Test.YtmkijgmfefkgeaaGreatDoorE4
import Derived.Test.YtmkijgmfefkgeaaGreatDoorF
set_option autoImplicit false
set_option linter.unusedVariables false
set_option linter.unusedSimpArgs false
namespace Go.Proofs.YtmkijgmfefkgeaaGreatDoor
open Go
def Fo.size : Fo → Nat
  | .nil => 0
  | .cons _ k r => k.size + r.size + 1
/-- A node in a row of nodes: its part, its kids. -/
abbrev Ln := Nd × List Nat
def addKid (at_ idx : Nat) (ns : List Ln) : List Ln := match ns[at_]? with
  | some m => ns.set at_ (m.1, m.2 ++ [idx])
  | none => ns
def layF : Fo → Int → Nat → List Ln × Int → List Ln × Int
  | .nil, _, _, s => s
  | .cons d k r, dep, at_, s =>
    let s1 := layF k (dep + 1) s.1.length (s.1 ++ [(d, [])], max s.2 dep)
    layF r dep at_ (addKid at_ s.1.length s1.1, s1.2)
def layT (x : Tr) (dep : Int) (s : List Ln × Int) : List Ln × Int := layF x.kids (dep + 1) s.1.length (s.1 ++ [(x.d, [])], max s.2 dep)
/-- The same in memory: with where the kids stand. -/
structure Lm where
  d : Nd
  ks : List Nat
  A : Option Addr
  c : Nat
def lnc (m : Lm) : List Value := [.int .i64 m.d.kind, .string m.d.text, .int .i64 m.d.num, .slice m.A m.ks.length m.c, .int .i64 m.d.pos, .int .i64 m.d.frm, .int .i64 m.d.to]
def intc (k : Nat) : List Value := [.int .i64 k]
def msF (m : Lm) : SP := Rw 3 intc 1 m.A m.c m.ks
def lnS (ms : List Lm) : List Ln := ms.map fun m => (m.d, m.ks)
theorem lnS_len (ms : List Lm) : (lnS ms).length = ms.length := by simp [lnS]
theorem lnS_app (ms ns : List Lm) : lnS (ms ++ ns) = lnS ms ++ lnS ns := by simp [lnS]
theorem lnS_set {ms : List Lm} {i idx : Nat} {m : Lm} {A : Option Addr} {c : Nat} (h : ms[i]? = some m) : lnS (ms.set i ⟨m.d, m.ks ++ [idx], A, c⟩) = addKid i idx (lnS ms) := by
  have h1 : (lnS ms)[i]? = some (m.d, m.ks) := by simp [lnS, h]
  unfold addKid
  rw [h1]
  simp [lnS, List.map_set]
theorem pfo_nil_of {f : Fo} {g w : World} {L : List SP} (H : Own g (PFo f [] :: L) w) : f = .nil := by
  cases f with
  | nil => rfl
  | cons d k r => obtain ⟨b, ps, h, _⟩ := H.pfo_cons; cases h
abbrev PL (db cb fb pb : Nat) (sl : Value) (kk : Nat) (deep : Int) (ms : List Lm) (A : Option Addr) (c : Nat) (L : List SP) : List SP :=
  bk db 3 [.int .i64 deep] :: bk cb 124 [.pointer (some ⟨pb, 0, none⟩)] :: bk fb 148 [.func (.func 119) #[] #[.pointer (some ⟨db, 0, none⟩), .pointer (some ⟨cb, 0, none⟩), .pointer (some ⟨fb, 0, none⟩)]] :: bk pb 126 [sl, .int .i64 kk, .slice A ms.length c] :: Rw 43 lnc 7 A c ms :: PK msF ms :: L
def LayOk (N : Nat) : Prop := ∀ (x : Tr), x.kids.size < N → ∀ (g w : World) (L : List SP) (db cb fb pb kk b : Nat) (sl : Value) (deep dep : Int) (ms : List Lm) (A : Option Addr) (c Bd : Nat), Own g (PL db cb fb pb sl kk deep ms A c (PFo (.one x) [b] :: L)) w → ms.length + x.kids.size + 1 ≤ 8589934592 → (∀ m ∈ ms, m.ks.length ≤ Bd) → Bd + x.kids.size ≤ 8589934592 → 0 ≤ dep → dep + x.kids.size ≤ 1099511627776 →
  Calls Pg 119 #[.pointer (some ⟨b, 0, none⟩), .int .i64 dep, .pointer (some ⟨db, 0, none⟩), .pointer (some ⟨cb, 0, none⟩), .pointer (some ⟨fb, 0, none⟩)] w fun e w' => e = .returned (.int .i64 ms.length) ∧ ∃ ms' A' c', lnS ms' = (layT x dep (lnS ms, deep)).1 ∧ ms'.length = ms.length + x.kids.size + 1 ∧ (∀ m ∈ ms', m.ks.length ≤ Bd + x.kids.size) ∧ Own g (PL db cb fb pb sl kk (layT x dep (lnS ms, deep)).2 ms' A' c' L) w'
section
set_option maxHeartbeats 1000000 in
theorem lay1_step (N : Nat) (IH : LayOk N) (x : Tr) (hN : x.kids.size < N + 1) {g w : World} {L : List SP} {db cb fb pb kk b : Nat} {sl : Value} {deep dep : Int} {ms : List Lm} {A : Option Addr} {c Bd : Nat} (H : Own g (PL db cb fb pb sl kk deep ms A c (PFo (.one x) [b] :: L)) w) (hms : ms.length + x.kids.size + 1 ≤ 8589934592) (hbd : ∀ m ∈ ms, m.ks.length ≤ Bd) (hBd : Bd + x.kids.size ≤ 8589934592) (hd0 : 0 ≤ dep) (hd1 : dep + x.kids.size ≤ 1099511627776) : Calls Pg 119 #[.pointer (some ⟨b, 0, none⟩), .int .i64 dep, .pointer (some ⟨db, 0, none⟩), .pointer (some ⟨cb, 0, none⟩), .pointer (some ⟨fb, 0, none⟩)] w fun e w' => e = .returned (.int .i64 ms.length) ∧ ∃ ms' A' c', lnS ms' = (layT x dep (lnS ms, deep)).1 ∧ ms'.length = ms.length + x.kids.size + 1 ∧ (∀ m ∈ ms', m.ks.length ≤ Bd + x.kids.size) ∧ Own g (PL db cb fb pb sl kk (layT x dep (lnS ms, deep)).2 ms' A' c' L) w' := by
  refine calls_cw (vs := [_, _, _, _, _]) Tryz.func119 rfl rfl rfl ?_
  refine cw_seq ?_
  try dsimp only [PT, List.eraseIdx] at H
  refine cw_region rfl ?_
  refine st H (asg rfl) ?_
  refine wl_nil ?_
  refine cw_seq ?_
  try dsimp only [PT, List.eraseIdx] at H
  refine cw_region rfl ?_
  refine st H (ld sc3 0 rfl rfl rfl) ?_
  refine st H (mv rfl) ?_
  refine st H (mx rfl rfl) ?_
  refine st_st 0 H rfl rfl rfl sz3 rfl rfl rfl rfl fun w2 H1 => ?_
  refine wl_nil ?_
  refine cw_seq ?_
  try dsimp only [PT, List.eraseIdx] at H1
  refine cw_region rfl ?_
  refine st H1 (ld sc124 1 rfl rfl rfl) ?_
  refine st H1 (nck rfl) ?_
  refine st H1 (fa fo126_2 rfl) ?_
  refine st H1 (ld sc23 3 rfl rfl rfl) ?_
  refine st H1 (lenl Tryz.underlying23 rfl) ?_
  refine st H1 (asg rfl) ?_
  refine wl_nil ?_
  refine cw_seq ?_
  obtain ⟨A1_, c1_, ps1_, HU1⟩ := (H1.fr 6 rfl).untr
  try dsimp only [PT, List.eraseIdx] at HU1
  refine cw_sched (Keep _ [_, _, _]) 13 (.q 0 (.q 1 (.q 2 (.q 3 (.q 4 (.q 5 (.q 6 (.q 7 (.q 8 (.a 9 (.a 10 (.a 11 (.q 12 (.a 13 .e)))))))))))))) hm HU1 (fun w h => ⟨_, (((h.fr 6 rfl).fr 5 rfl).fr 2 rfl)⟩) (by kernel_rfl) (by kernel_rfl) rfl (fun w4 H3 => ?_)
  refine sw rfl rfl (ks fun L' => ld sc124 1 rfl rfl rfl) ?_
  refine sw rfl rfl (ks fun L' => ld sc124 1 rfl rfl rfl) ?_
  refine sw rfl rfl (nck rfl) ?_
  refine sw rfl rfl (fa fo126_2 rfl) ?_
  refine sw rfl rfl (ks fun L' => ld sc23 2 rfl rfl rfl) ?_
  refine sw rfl rfl (mv rfl) ?_
  refine sw rfl rfl (nck rfl) ?_
  refine sw rfl rfl (fa fo151_0 rfl) ?_
  refine sw rfl rfl (ks fun L' => lda ag43 0 rfl rfl rfl rfl) ?_
  refine sa rfl rfl ?_
  refine st_bs H3 sl23 zc43 rfl rfl rfl rfl rfl fun b7 w6 H5 => ?_
  refine wl_nil ⟨.inr ⟨_, (((H5.fr 7 rfl).fr 6 rfl).fr 3 rfl)⟩, ?_⟩
  refine sa rfl rfl ?_
  refine st_app 8 0 ([⟨x.d, [], none, 0⟩]) H5 sl23 zc43 rfl rfl rfl rfl rfl rfl rfl rfl (by intro y hy; simp at hy; subst hy; exact ⟨rfl, rfl⟩) (by omega) (by omega) fun A10 c11 w9 H8 => ?_
  refine wl_nil ⟨.inr ⟨_, (((H8.fr 8 rfl).fr 7 rfl).fr 4 rfl)⟩, ?_⟩
  refine sa rfl rfl ?_
  refine st H8 (nck rfl) ?_
  refine wl_nil ⟨.inr ⟨_, (((H8.fr 8 rfl).fr 7 rfl).fr 4 rfl)⟩, ?_⟩
  refine sw rfl rfl (fa fo126_2 rfl) ?_
  refine sa rfl rfl ?_
  refine st_st 8 H8 rfl rfl rfl sz23 rfl rfl rfl rfl fun w13 H12 => ?_
  refine wl_nil ⟨.inl rfl, ?_⟩
  refine ws_nil ?_
  refine cw_seq ?_
  refine cw_seq ?_
  have HP0 := ((H12.fr 9 rfl).rw_nil (e := 3) (f := intc) (sz := 1)).pk_push (F := msF) (m := ⟨x.d, [], none, 0⟩)
  try dsimp only [PT, List.eraseIdx] at HP0
  refine cw_region rfl ?_
  refine st HP0 (mv rfl) ?_
  refine st HP0 (nck rfl) ?_
  refine st HP0 (fa fo151_1 rfl) ?_
  refine st HP0 (ld sc149 4 rfl rfl rfl) ?_
  refine st HP0 (lenl Tryz.underlying149 rfl) ?_
  refine st HP0 (mv rfl) ?_
  refine wl_nil ?_
  refine cw_block ?_
  refine cw_loop (σ := Nat) (fun i => [(0, .pointer (some ⟨b, 0, none⟩)), (1, .int .i64 dep), (2, .pointer (some ⟨db, 0, none⟩)), (3, .pointer (some ⟨cb, 0, none⟩)), (4, .pointer (some ⟨fb, 0, none⟩)), (8, .int .i64 ms.length), (36, .slice A1_ ps1_.length c1_), (37, .int .i64 ps1_.length), (38, .int .i64 i)]) (fun i w => ∃ f ms1 A3 c3 dp, Own g (bk db 3 [.int .i64 dp] :: bk cb 124 [.pointer (some ⟨pb, 0, none⟩)] :: bk fb 148 [.func (.func 119) #[] #[.pointer (some ⟨db, 0, none⟩), .pointer (some ⟨cb, 0, none⟩), .pointer (some ⟨fb, 0, none⟩)]] :: bk pb 126 [sl, .int .i64 kk, .slice A3 ms1.length c3] :: Rw 43 lnc 7 A3 c3 ms1 :: PK msF ms1 :: Rw 131 ptrc 1 A1_ c1_ ps1_ :: PFo f (ps1_.drop i) :: L) w ∧ i ≤ ps1_.length ∧ layT x dep (lnS ms, deep) = layF f (dep + 1) ms.length (lnS ms1, dp) ∧ ms1.length + f.size = ms.length + 1 + x.kids.size ∧ ms.length < ms1.length ∧ i + f.size ≤ x.kids.size ∧ ∀ m ∈ ms1, m.ks.length + f.size ≤ Bd + x.kids.size) (fun i => ps1_.length - i) 0 ⟨rfl, rfl, rfl, rfl, rfl, rfl, rfl, rfl, rfl, trivial⟩ ⟨_, _, _, _, _, ((((((((((HP0.fr 6 rfl).fr 6 rfl).fr 2 rfl).fr 4 rfl).fr 4 rfl).fr 9 rfl).fr 9 rfl).fr 9 rfl).er 8).er 8), by omega, by simp [layT, lnS_app, lnS_len, lnS], by simp, by simp, by omega, fun m hm => by rcases List.mem_append.1 hm with hm | hm; (have := hbd m hm; omega); (simp at hm; subst hm; simp)⟩ ?_
  rintro i w15 ⟨f, ms1, A3, c3, dp, H14, hi, hx, hlen, hlt, his, hb⟩
  refine cw_seq ?_
  try dsimp only [PT, List.eraseIdx] at H14
  refine cw_region rfl ?_
  refine st H14 (lti rfl rfl) ?_
  refine wl_nil ?_
  refine cw_seq ?_
  refine cw_cond rfl (fun hb16 => ?_) (fun hb16 => ?_)
  · have hp16 := hb16
    try simp at hp16
    obtain ⟨d, kd, r, rfl⟩ : ∃ d kd r, f = Fo.cons d kd r := by
      cases f with
      | nil => have h0 := ((H14.fr 7 rfl)).pfo_end; simp [List.drop_eq_nil_iff] at h0; omega
      | cons d kd r => exact ⟨d, kd, r, rfl⟩
    obtain ⟨bk1, ps1, hdr0, HO⟩ := (H14.fr 7 rfl).pfo_cons
    have hz : ps1_[i]? = some bk1 := by have h1 := congrArg (fun z => z[0]?) hdr0; simpa using h1
    have hdr : ps1 = ps1_.drop (i + 1) := by rw [← List.tail_drop, hdr0]; rfl
    have hsz : (Fo.cons d kd r).size = kd.size + r.size + 1 := rfl
    rw [hsz] at hlen his hb
    refine cw_skip ?_
    refine cw_seq ?_
    refine cw_block ?_
    refine cw_seq ?_
    try dsimp only [PT, List.eraseIdx] at HO
    refine cw_region rfl ?_
    refine st HO (ixR (i) sl149 8 rfl rfl rfl (by omega) (by omega)) ?_
    refine st HO (ldR1 sc131 8 rfl rfl hz rfl) ?_
    refine st HO (asg rfl) ?_
    refine wl_nil ?_
    refine cw_seq ?_
    try dsimp only [PT, List.eraseIdx] at HO
    refine cw_region rfl ?_
    refine st HO (ld sc148 4 rfl rfl rfl) ?_
    refine st HO (mv rfl) ?_
    refine st HO (mv rfl) ?_
    refine st HO (add rfl rfl (by omega) (by omega)) ?_
    refine st_callv rfl cf119 rfl rfl (IH ⟨d, kd⟩ (by dsimp only; omega) _ _ _ _ _ _ _ _ _ _ _ _ _ _ _ (Bd + x.kids.size - (kd.size + r.size + 1)) ((((((HO.fr 7 rfl).fr 7 rfl).fr 7 rfl).fr 7 rfl).fr 7 rfl).fr 7 rfl) (by dsimp only; omega) (fun m hm => by have := hb m hm; omega) (by dsimp only; omega) (by omega) (by dsimp only; omega)) ?_
    rintro _ w18 ⟨rfl, ms2, A2, c2, hm2, hl2, hb2, H17⟩
    simp only at hl2 hb2
    refine st H17 (asg rfl) ?_
    refine wl_nil ?_
    obtain ⟨m, hgm⟩ : ∃ m, ms2[ms.length]? = some m := ⟨ms2[ms.length]'(by omega), by simp [show ms.length < ms2.length by omega]⟩
    have hbm := hb2 m (List.mem_of_getElem? hgm)
    have HG := (H17.fr 5 rfl).pk_get hgm
    try dsimp only [PT, List.eraseIdx] at HG
    refine cw_sched (Keep _ [_, _, _]) 18 (.q 0 (.q 1 (.q 2 (.q 3 (.q 4 (.q 5 (.q 6 (.q 7 (.q 8 (.q 9 (.q 10 (.q 11 (.q 12 (.q 13 (.a 14 (.a 15 (.a 16 (.q 17 (.a 18 .e))))))))))))))))))) hm HG (fun w h => ⟨_, (((h.fr 6 rfl).fr 6 rfl).fr 5 rfl)⟩) (by kernel_rfl) (by kernel_rfl) rfl (fun w20 H19 => ?_)
    refine sw rfl rfl (ks fun L' => ld sc124 0 rfl rfl rfl) ?_
    refine sw rfl rfl (nck rfl) ?_
    refine sw rfl rfl (fa fo126_2 rfl) ?_
    refine sw rfl rfl (ks fun L' => ld sc23 1 rfl rfl rfl) ?_
    refine sw rfl rfl (mv rfl) ?_
    refine sw rfl rfl (ks fun L' => ld sc124 0 rfl rfl rfl) ?_
    refine sw rfl rfl (nck rfl) ?_
    refine sw rfl rfl (fa fo126_2 rfl) ?_
    refine sw rfl rfl (ks fun L' => ld sc23 1 rfl rfl rfl) ?_
    refine sw rfl rfl (mv rfl) ?_
    refine sw rfl rfl (ks fun L' => ixR (ms.length) sl23 2 rfl rfl rfl (by omega) (by omega)) ?_
    refine sw rfl rfl (faE fo43_3 rfl) ?_
    refine sw rfl rfl (ks fun L' => ldRf sc41 2 rfl rfl hgm rfl) ?_
    refine sw rfl rfl (mv rfl) ?_
    refine sa rfl rfl ?_
    refine st_bs H19 sl41 zc3 rfl rfl rfl rfl rfl fun b23 w22 H21 => ?_
    refine wl_nil ⟨.inr ⟨_, (((H21.fr 7 rfl).fr 7 rfl).fr 6 rfl)⟩, ?_⟩
    refine sa rfl rfl ?_
    refine st_app 1 0 ([ms1.length]) H21 sl41 zc3 rfl rfl rfl rfl rfl rfl rfl rfl (by intro y hy; simp at hy; subst hy; exact ⟨rfl, rfl⟩) (by omega) (by omega) fun A26 c27 w25 H24 => ?_
    refine wl_nil ⟨.inr ⟨_, (((H24.fr 7 rfl).fr 7 rfl).fr 6 rfl)⟩, ?_⟩
    refine sa rfl rfl ?_
    refine st H24 (ixR (ms.length) sl23 7 rfl rfl rfl (by omega) (by omega)) ?_
    refine wl_nil ⟨.inr ⟨_, (((H24.fr 7 rfl).fr 7 rfl).fr 6 rfl)⟩, ?_⟩
    refine sw rfl rfl (faE fo43_3 rfl) ?_
    refine sa rfl rfl ?_
    refine st_ste (z' := ⟨m.d, m.ks ++ [ms1.length], A26, c27⟩) 7 H24 rfl rfl rfl sz41 rfl rfl hgm rfl (by decide) fun w29 H28 => ?_
    refine wl_nil ⟨.inl rfl, ?_⟩
    refine ws_nil ?_
    have HQ := Own.pk_put (F := msF) (m := ⟨m.d, m.ks ++ [ms1.length], A26, c27⟩) ((H28.fr 3 rfl).fr 2 rfl) (by omega)
    try dsimp only [PT, List.eraseIdx] at HQ
    refine cw_region rfl ?_
    refine st HQ (add rfl rfl (by omega) (by omega)) ?_
    refine st HQ (mv rfl) ?_
    refine wl_nil ?_
    have hl3 : ms2.length = (ms2.set ms.length ⟨m.d, m.ks ++ [ms1.length], A26, c27⟩).length := by simp
    rw [hl3, hdr] at HQ
    exact ⟨i + 1, ⟨rfl, rfl, rfl, rfl, rfl, rfl, rfl, rfl, rfl, trivial⟩, ⟨r, _, _, _, _, (((((((((HQ.fr 7 rfl).fr 8 rfl).fr 2 rfl).fr 3 rfl).fr 8 rfl).fr 8 rfl).fr 8 rfl).fr 8 rfl).er 8), by omega, by rw [hx, lnS_set hgm, hm2, layF]; simp [layT, lnS_len], by simp; omega, by simp; omega, by omega, fun y hy => by rcases List.mem_or_eq_of_mem_set hy with hy | rfl; (have h1 := hb2 y hy; omega); (simp; omega)⟩, by omega⟩
  · have hp16 := hb16
    try simp at hp16
    have hi2 : i = ps1_.length := by omega
    have hf0 : f = .nil := by
      have h0 := (H14.fr 7 rfl)
      rw [hi2, List.drop_length] at h0
      exact pfo_nil_of h0
    subst hf0
    have hx2 : layT x dep (lnS ms, deep) = (lnS ms1, dp) := hx
    simp only [Fo.size, Nat.add_zero] at hlen his hb
    refine cw_exit ?_
    refine cw_seq ?_
    try dsimp only [PT, List.eraseIdx] at H14
    refine cw_region rfl ?_
    refine st H14 (mv rfl) ?_
    refine st H14 (asg rfl) ?_
    refine wl_nil ?_
    refine cw_ret ?_
    refine ret1 rfl rfl ?_
    rw [hx2]; exact ⟨rfl, ms1, A3, c3, rfl, by omega, fun m hm => by have h1 := hb m hm; omega, ((((((((H14.fr 5 rfl).fr 5 rfl).fr 5 rfl).fr 5 rfl).fr 5 rfl).fr 5 rfl).er 6).er 6)⟩
theorem lay1_c : ∀ N, LayOk N
  | 0 => fun x hx => absurd hx (Nat.not_lt_zero _)
  | N + 1 => fun x hx g w L db cb fb pb kk b sl deep dep ms A c Bd H h1 h2 h3 h4 h5 => lay1_step N (lay1_c N) x hx H h1 h2 h3 h4 h5
end
end Go.Proofs.YtmkijgmfefkgeaaGreatDoor
