/- Texts are lexed; tokens are checked. -/
import Derived.Test.YtmkijgmfefkgeaaGreatDoorL2
import Derived.ScopeJumps
set_option autoImplicit false
set_option linter.unusedVariables false
set_option linter.unusedSimpArgs false
set_option linter.unusedSectionVars false
namespace Go.Proofs.YtmkijgmfefkgeaaGreatDoor
open Go
@[reducible] def gts (l1 : Nat → En → World → Prop) (Q : Exit → En → World → Prop) : Exit → En → World → Prop := fun e E w => match e with
  | .goto l => l1 l E w
  | e => Q e E w
theorem cw_scope {P : Program} {n : Nat} {D : List Deferred} {Q : Exit → En → World → Prop} {E : En} {w : World} {σ : Type} {c : Code} (EI : σ → En) (I : σ → World → Prop) (lb : σ → Nat) (μ : σ → Nat) (hf : ∀ s, (findLabel c (lb s)).isSome = true)
    (first : CW P n D (gts (fun l E w => ∃ s, lb s = l ∧ Sub (EI s) E ∧ I s w) Q) c E w)
    (pass : ∀ s w, I s w → CW P n D (gts (fun l E' w' => ∃ s', lb s' = l ∧ Sub (EI s') E' ∧ I s' w' ∧ μ s' < μ s) Q) ((findLabel c (lb s)).getD .skip) (EI s) w) : CW P n D Q (.scope c) E w := by
  intro a ha b k cs
  obtain ⟨rest, hrest⟩ : ∃ rest : σ → Code, rest = fun s => (findLabel c (lb s)).getD .skip := ⟨_, rfl⟩
  have hf : ∀ s, findLabel c (lb s) = some (rest s) := fun s => by
    have h0 := hf s
    rw [hrest]
    cases h1 : findLabel c (lb s) with
    | none => rw [h1] at h0; cases h0
    | some x =>
      show some x = some ((findLabel c (lb s)).getD .skip)
      rw [h1]
      rfl
  have pass : ∀ s w, I s w → CW P n D (gts (fun l E' w' => ∃ s', lb s' = l ∧ Sub (EI s') E' ∧ I s' w' ∧ μ s' < μ s) Q) (rest s) (EI s) w := by rw [hrest]; exact pass
  have hg : ∀ s, gotoIn (lb s) (.inScope c :: k) = some (.code (rest s) :: .inScope c :: k) := fun s => by simp [gotoIn, hf s]
  have key : ∀ m s a w, μ s = m → I s w → Fits n D (EI s) a →
      ∃ e a' w', CQ n D Q e a' w' ∧ Arrives P (lone (b.at a (.code (rest s) :: .inScope c :: k)) cs w) b k cs e a' w' := by
    intro m
    induction m using Nat.strongRecOn with
    | _ m ih =>
      intro s a w hm hI ha
      obtain ⟨e, a1, w1, ⟨E1, hfit, hq⟩, harr⟩ := pass s w hI a ha b (.inScope c :: k) cs
      cases e with
      | normal => exact ⟨.normal, a1, w1, ⟨E1, hfit, hq⟩, Steps.trans harr (.one step_inScope)⟩
      | exit id => exact ⟨.exit id, a1, w1, ⟨E1, hfit, hq⟩, fun k' hk => harr k' (by simp [exitTo, hk])⟩
      | goto l' =>
        obtain ⟨s', rfl, hs', hI', hlt⟩ := hq
        obtain ⟨e2, a2, w2, hq2, harr2⟩ := ih _ (by omega) s' a1 w1 rfl hI' (hfit.sub hs')
        exact ⟨e2, a2, w2, hq2, .of_steps (harr _ (hg s')) harr2⟩
      | ret => exact ⟨_, a1, w1, ⟨E1, hfit, hq⟩, harr⟩
      | panic ch => exact ⟨_, a1, w1, ⟨E1, hfit, hq⟩, harr⟩
      | outgrown => exact ⟨_, a1, w1, ⟨E1, hfit, hq⟩, harr⟩
  obtain ⟨e, a1, w1, ⟨E1, hfit, hq⟩, harr⟩ := first a ha b (.inScope c :: k) cs
  cases e with
  | normal => exact ⟨.normal, a1, w1, ⟨E1, hfit, hq⟩, .head step_scope (Steps.trans harr (.one step_inScope))⟩
  | exit id => exact ⟨.exit id, a1, w1, ⟨E1, hfit, hq⟩, fun k' hk => .head step_scope (harr k' (by simp [exitTo, hk]))⟩
  | goto l' =>
    obtain ⟨s', rfl, hs', hI'⟩ := hq
    obtain ⟨e2, a2, w2, hq2, harr2⟩ := key _ s' a1 w1 rfl hI' (hfit.sub hs')
    exact ⟨e2, a2, w2, hq2, .of_steps (.head step_scope (harr _ (hg s'))) harr2⟩
  | ret => exact ⟨_, a1, w1, ⟨E1, hfit, hq⟩, .of_steps (.one step_scope) harr⟩
  | panic ch => exact ⟨_, a1, w1, ⟨E1, hfit, hq⟩, .of_steps (.one step_scope) harr⟩
  | outgrown => exact ⟨_, a1, w1, ⟨E1, hfit, hq⟩, .of_steps (.one step_scope) harr⟩
/-- Tokens one behind another: may they be; does the last one want an end behind it? -/
def chkF : List Tk → Bool → Bool → Bool × Bool
  | [], ok, was => (ok, was)
  | t :: r, ok, was => chkF r (ok && aloneB t && (decide (t.s ≠ ⟨#[]⟩) || was)) (closingB t)
def checkS (l : List Tk) : Int := if chkF l (decide ((l.length : Int) ≤ 1024)) false = (true, false) then 0 else 2
def TkSz (l : List Tk) : Prop := l.length ≤ 1073741824 ∧ ∀ t ∈ l, t.s.size ≤ 140737488355327
section
variable {g w : World} {L : List SP} [Glo g]
inductive LR where
  | ok (l : List Tk)
  | er (e a : Int)
def slashB (s : ByteArray) (i : Nat) : Bool := decide (byteAt s i = 47) && decide (byteAt s (i + 1) = 47)
/-- Where what is read next begins, behind blanks and a remark. -/
def skipS (s : ByteArray) (i : Nat) : Nat := if slashB s (i + runS blankB s i) then i + runS blankB s i + runS (fun c => decide (c ≠ 10)) s (i + runS blankB s i) else i + runS blankB s i
def endsB (s : ByteArray) (i : Nat) : Bool := decide (i = s.size) || decide (byteAt s i = 10)
def lastB (l : List Tk) : Bool := match l[l.length - 1]? with
  | some t => closingB t
  | none => false
/-- Label 0 (false): on; label 1 (true): behind an end. -/
def lexStep (s : ByteArray) (rec : Bool → Nat → List Tk → LR) (b : Bool) (i : Nat) (l : List Tk) : LR := match b with
  | true => if i < s.size then rec false (i + 1) l else .ok l
  | false =>
    if endsB s (skipS s i) = true then
      (if lastB l = false then rec true (skipS s i) l
       else if l.length = 1024 then .er 3 (skipS s i)
       else rec true (skipS s i) (l ++ [⟨5, ⟨#[]⟩, (skipS s i : Int)⟩]))
    else match tokS (s.extract (skipS s i) s.size) with
      | .er e => .er e (skipS s i)
      | .tok k n => if l.length = 1024 then .er 3 (skipS s i) else
        rec false (skipS s i + ((s.extract (skipS s i) s.size).extract 0 n).size) (l ++ [⟨k, (s.extract (skipS s i) s.size).extract 0 n, (skipS s i : Int)⟩])
def lexF (s : ByteArray) : Nat → Bool → Nat → List Tk → LR
  | 0 => fun _ _ _ => .er 0 0
  | f + 1 => lexStep s (lexF s f)
def lexS (s : ByteArray) : LR := if 4096 < s.size then .er 3 0 else lexF s (2 * s.size + 4) false 0 []
section
variable {s : ByteArray} {f i n : Nat} {l : List Tk} {k e : Int}
theorem lexF_stop (h1 : endsB s (skipS s i) = true) (h2 : lastB l = false) : lexF s (f + 1) false i l = lexF s f true (skipS s i) l := by show lexStep s (lexF s f) _ i l = _; dsimp only [lexStep]; rw [if_pos h1, if_pos h2]
theorem lexF_end (h1 : endsB s (skipS s i) = true) (h2 : lastB l = true) (h3 : ¬ l.length = 1024) : lexF s (f + 1) false i l = lexF s f true (skipS s i) (l ++ [Tk.mk 5 ⟨#[]⟩ ((skipS s i : Nat) : Int)]) := by show lexStep s (lexF s f) _ i l = _; dsimp only [lexStep]; rw [if_pos h1, if_neg (by rw [h2]; decide), if_neg h3]
theorem lexF_long1 (h1 : endsB s (skipS s i) = true) (h2 : lastB l = true) (h3 : l.length = 1024) : lexF s (f + 1) false i l = .er 3 ((skipS s i : Nat) : Int) := by show lexStep s (lexF s f) _ i l = _; dsimp only [lexStep]; rw [if_pos h1, if_neg (by rw [h2]; decide), if_pos h3]
theorem lexF_er (h1 : endsB s (skipS s i) = false) (h2 : tokS (s.extract (skipS s i) s.size) = .er e) : lexF s (f + 1) false i l = .er e ((skipS s i : Nat) : Int) := by show lexStep s (lexF s f) _ i l = _; dsimp only [lexStep]; rw [if_neg (by rw [h1]; decide), h2]
theorem lexF_long2 (h1 : endsB s (skipS s i) = false) (h2 : tokS (s.extract (skipS s i) s.size) = .tok k n) (h3 : l.length = 1024) : lexF s (f + 1) false i l = .er 3 ((skipS s i : Nat) : Int) := by show lexStep s (lexF s f) _ i l = _; dsimp only [lexStep]; rw [if_neg (by rw [h1]; decide), h2]; exact if_pos h3
theorem lexF_tok (h1 : endsB s (skipS s i) = false) (h2 : tokS (s.extract (skipS s i) s.size) = .tok k n) (h3 : ¬ l.length = 1024) : lexF s (f + 1) false i l = lexF s f false (skipS s i + ((s.extract (skipS s i) s.size).extract 0 n).size) (l ++ [Tk.mk k ((s.extract (skipS s i) s.size).extract 0 n) ((skipS s i : Nat) : Int)]) := by show lexStep s (lexF s f) _ i l = _; dsimp only [lexStep]; rw [if_neg (by rw [h1]; decide), h2]; exact if_neg h3
theorem lexF_on (h : i < s.size) : lexF s (f + 1) true i l = lexF s f false (i + 1) l := by show lexStep s (lexF s f) _ i l = _; dsimp only [lexStep]; rw [if_pos h]
theorem lexF_ok (h : ¬ i < s.size) : lexF s (f + 1) true i l = .ok l := by show lexStep s (lexF s f) _ i l = _; dsimp only [lexStep]; rw [if_neg h]
end
theorem skip_le {s : ByteArray} {i : Nat} (h : i ≤ s.size) : i ≤ skipS s i ∧ skipS s i ≤ s.size := by
  have h1 := runS_le blankB s i h
  have h2 := runS_le (fun c => decide (c ≠ 10)) s _ h1
  unfold skipS
  split <;> omega
theorem ext_from {s : ByteArray} {i : Nat} (h : i ≤ s.size) : (s.extract i s.size).size = s.size - i := by simp
theorem prefix_slash {s : ByteArray} {i : Nat} (h : i ≤ s.size) : Lib.hasPrefix (s.extract i s.size).data.toList [47, 47] = slashB s i := by
  have e : (s.extract i s.size).data.toList = s.data.toList.drop i := by
    rw [ByteArray.data_extract, Array.toList_extract, List.extract]
    have h1 : s.data.toList.length = s.size := by simp
    rw [List.take_of_length_le (by rw [List.length_drop]; omega)]
  have hl : s.data.toList.length = s.size := by simp
  rw [e, slashB]
  by_cases h0 : i < s.size
  · rw [List.drop_eq_getElem_cons (by omega), byteAt_get h0]
    by_cases h1 : i + 1 < s.size
    · rw [List.drop_eq_getElem_cons (by omega), byteAt_get h1]
      generalize s.data.toList[i]'_ = x
      generalize s.data.toList[i + 1]'_ = y
      have key : ∀ u : UInt8, decide ((u.toNat : Int) = 47) = (47 == u) := fun u => by
        by_cases e : u = 47
        · subst e; rfl
        · have : ¬ (u.toNat : Int) = 47 := fun h => e (UInt8.toNat_inj.1 (by show u.toNat = 47; omega))
          have h2 : ¬ (47 : UInt8) = u := fun h => e h.symm
          simp [this, h2]
      rw [key, key]
      simp [Lib.hasPrefix, List.isPrefixOf]
    · have hd : s.data.toList.drop (i + 1) = [] := List.drop_eq_nil_of_le (by omega)
      have hb : byteAt s (i + 1) = 0 := by
        unfold byteAt
        rw [show s[i + 1]? = none from by
          apply getElem?_neg
          show ¬ i + 1 < s.size
          omega]
      rw [hd, hb]
      simp [Lib.hasPrefix, List.isPrefixOf]
  · have hd : s.data.toList.drop i = [] := List.drop_eq_nil_of_le (by omega)
    have hb : byteAt s i = 0 := by
      unfold byteAt
      rw [show s[i]? = none from by
        apply getElem?_neg
        show ¬ i < s.size
        omega]
    rw [hd, hb]
    simp [Lib.hasPrefix, List.isPrefixOf]
theorem check_c {A : Option Addr} {c : Nat} {l : List Tk} (H : Own g (Els g tkc 3 A l :: L) w) (hl : TkSz l) : Calls Pg 23 #[.slice A l.length c] w fun e w' => e = .returned (.int .i64 (checkS l)) ∧ Own g (Els g tkc 3 A l :: L) w' := by
  refine calls_cw (vs := [_]) Tryz.func23 rfl rfl rfl ?_
  have hl1 := hl.1
  refine cw_seq ?_
  refine cw_region rfl ?_
  refine st H (asg rfl) ?_
  refine wl_nil ?_
  refine cw_seq ?_
  refine cw_region rfl ?_
  refine st H (mv rfl) ?_
  refine st H (lenl Tryz.underlying31 rfl) ?_
  refine st H (lei rfl rfl) ?_
  refine st H (asg rfl) ?_
  refine wl_nil ?_
  refine cw_seq ?_
  refine cw_region rfl ?_
  refine st H (asg rfl) ?_
  refine wl_nil ?_
  refine cw_seq ?_
  refine cw_seq ?_
  refine cw_region rfl ?_
  refine st H (mv rfl) ?_
  refine st H (lenl Tryz.underlying31 rfl) ?_
  refine st H (mv rfl) ?_
  refine wl_nil ?_
  refine cw_block ?_
  refine cw_loop (σ := Nat × Bool × Bool) (fun s => [(3, .bool s.2.1), (4, .bool s.2.2), (10, .slice A l.length c), (11, .int .i64 l.length), (12, .int .i64 s.1)]) (fun s w => Own g (Els g tkc 3 A l :: L) w ∧ s.1 ≤ l.length ∧ chkF l (decide ((l.length : Int) ≤ 1024)) false = chkF (l.drop s.1) s.2.1 s.2.2) (fun s => l.length - s.1) (0, decide ((l.length : Int) ≤ 1024), false) ⟨rfl, rfl, rfl, rfl, rfl, trivial⟩ ⟨H, by simp, by simp⟩ ?_
  rintro s w2 ⟨H1, hi, hx⟩
  obtain ⟨i, ok, was⟩ := s
  simp only at *
  refine cw_seq ?_
  refine cw_region rfl ?_
  refine st H1 (lti rfl rfl) ?_
  refine wl_nil ?_
  refine cw_seq ?_
  refine cw_cond rfl (fun hb3 => ?_) (fun hb3 => ?_)
  · have hp3 := hb3
    try simp at hp3
    obtain ⟨z, hz⟩ : ∃ z, l[i]? = some z := ⟨l[i]'(by omega), by simp [show i < l.length by omega]⟩
    have hzs := hl.2 z (List.mem_of_getElem? hz)
    have hd : l.drop i = z :: l.drop (i + 1) := by rw [List.drop_eq_getElem_cons (by omega)]; congr 1; rw [List.getElem?_eq_getElem (by omega)] at hz; exact Option.some.inj hz
    refine cw_skip ?_
    refine cw_seq ?_
    refine cw_block ?_
    refine cw_seq ?_
    refine cw_region rfl ?_
    refine st H1 (ix (i) sl31 0 rfl rfl rfl (by omega) (by omega)) ?_
    refine st H1 (ldE ag38 0 rfl rfl hz) ?_
    refine st_al H1 zc38 fun b6 w5 H4 => ?_
    refine st_st 0 H4 rfl rfl rfl sz38 rfl rfl rfl rfl fun w8 H7 => ?_
    refine wl_nil ?_
    refine cw_seq ?_
    refine cw_region rfl ?_
    refine st H7 (mv rfl) ?_
    refine st H7 (mv rfl) ?_
    refine wl_case (t := 17) rfl (fun hg9 => ?_) (fun hg9 => ?_)
    · have hp9 := hg9
      try simp at hp9
      refine gon rfl rfl hg9 ?_
      refine st H7 (lda ag38 0 rfl rfl rfl rfl) ?_
      refine gon rfl rfl hg9 ?_
      refine st_call cf56 rfl (alone_c z H7 hzs) ?_
      rintro _ w11 ⟨rfl, H10⟩
      refine st H10 (pk_t rfl hg9 rfl) ?_
      refine st H10 (mv rfl) ?_
      refine wl_case (t := 21) rfl (fun hg12 => ?_) (fun hg12 => ?_)
      · have hp12 := hg12
        try simp at hp12
        refine gon rfl rfl hg12 ?_
        refine st H10 (fa fo38_1 rfl) ?_
        refine gon rfl rfl hg12 ?_
        refine st H10 (ld sc9 0 rfl rfl rfl) ?_
        refine gon rfl rfl hg12 ?_
        refine st H10 (nes rfl rfl) ?_
        refine gon rfl rfl hg12 ?_
        refine st H10 (mv rfl) ?_
        refine wl_case (t := 25) rfl (fun hg13 => ?_) (fun hg13 => ?_)
        · have hp13 := hg13
          try simp at hp13
          refine goff rfl rfl hg13 ?_
          refine gon rfl rfl hg12 ?_
          refine st H10 (pk_t rfl hg13 rfl) ?_
          refine st H10 (pk_t rfl hg12 rfl) ?_
          refine st H10 (asg rfl) ?_
          refine wl_nil ?_
          refine cw_region rfl ?_
          refine st H10 (lda ag38 0 rfl rfl rfl rfl) ?_
          refine st_call cf54 rfl (closing_c z H10) ?_
          rintro _ w15 ⟨rfl, H14⟩
          refine st H14 (asg rfl) ?_
          refine wl_nil ?_
          refine cw_region rfl ?_
          refine st H14 (add rfl rfl (by omega) (by omega)) ?_
          refine st H14 (mv rfl) ?_
          refine wl_nil ?_
          exact ⟨(i + 1, _, closingB z), ⟨rfl, rfl, rfl, rfl, rfl, trivial⟩, ⟨((H14.fr 1 rfl).er 1), by simp only; omega, by rw [hx, hd]; simp [chkF, hp3, hp9, hp12, hp13]⟩, by simp only; omega⟩
        · have hp13 := hg13
          try simp at hp13
          refine gon rfl rfl hg13 ?_
          refine st H10 (mv rfl) ?_
          refine gon rfl rfl hg12 ?_
          refine st H10 (pk_f rfl hg13 rfl) ?_
          refine st H10 (pk_t rfl hg12 rfl) ?_
          refine st H10 (asg rfl) ?_
          refine wl_nil ?_
          refine cw_region rfl ?_
          refine st H10 (lda ag38 0 rfl rfl rfl rfl) ?_
          refine st_call cf54 rfl (closing_c z H10) ?_
          rintro _ w17 ⟨rfl, H16⟩
          refine st H16 (asg rfl) ?_
          refine wl_nil ?_
          refine cw_region rfl ?_
          refine st H16 (add rfl rfl (by omega) (by omega)) ?_
          refine st H16 (mv rfl) ?_
          refine wl_nil ?_
          exact ⟨(i + 1, _, closingB z), ⟨rfl, rfl, rfl, rfl, rfl, trivial⟩, ⟨((H16.fr 1 rfl).er 1), by simp only; omega, by rw [hx, hd]; simp [chkF, hp3, hp9, hp12, hp13]⟩, by simp only; omega⟩
      · have hp12 := hg12
        try simp at hp12
        refine goff rfl rfl hg12 ?_
        refine goff rfl rfl hg12 ?_
        refine goff rfl rfl hg12 ?_
        refine goff rfl rfl hg12 ?_
        refine goffu rfl rfl ?_
        refine goff rfl rfl hg12 ?_
        refine st H10 (pk_f rfl hg12 rfl) ?_
        refine st H10 (asg rfl) ?_
        refine wl_nil ?_
        refine cw_region rfl ?_
        refine st H10 (lda ag38 0 rfl rfl rfl rfl) ?_
        refine st_call cf54 rfl (closing_c z H10) ?_
        rintro _ w19 ⟨rfl, H18⟩
        refine st H18 (asg rfl) ?_
        refine wl_nil ?_
        refine cw_region rfl ?_
        refine st H18 (add rfl rfl (by omega) (by omega)) ?_
        refine st H18 (mv rfl) ?_
        refine wl_nil ?_
        exact ⟨(i + 1, _, closingB z), ⟨rfl, rfl, rfl, rfl, rfl, trivial⟩, ⟨((H18.fr 1 rfl).er 1), by simp only; omega, by rw [hx, hd]; simp [chkF, hp3, hp9, hp12]⟩, by simp only; omega⟩
    · have hp9 := hg9
      try simp at hp9
      refine goff rfl rfl hg9 ?_
      refine goff rfl rfl hg9 ?_
      refine st H7 (pk_f rfl hg9 rfl) ?_
      refine st H7 (mv rfl) ?_
      refine goff rfl rfl rfl ?_
      refine goff rfl rfl rfl ?_
      refine goff rfl rfl rfl ?_
      refine goff rfl rfl rfl ?_
      refine goffu rfl rfl ?_
      refine goff rfl rfl rfl ?_
      refine st H7 (pk_f rfl rfl rfl) ?_
      refine st H7 (asg rfl) ?_
      refine wl_nil ?_
      refine cw_region rfl ?_
      refine st H7 (lda ag38 0 rfl rfl rfl rfl) ?_
      refine st_call cf54 rfl (closing_c z H7) ?_
      rintro _ w21 ⟨rfl, H20⟩
      refine st H20 (asg rfl) ?_
      refine wl_nil ?_
      refine cw_region rfl ?_
      refine st H20 (add rfl rfl (by omega) (by omega)) ?_
      refine st H20 (mv rfl) ?_
      refine wl_nil ?_
      exact ⟨(i + 1, _, closingB z), ⟨rfl, rfl, rfl, rfl, rfl, trivial⟩, ⟨((H20.fr 1 rfl).er 1), by simp only; omega, by rw [hx, hd]; simp [chkF, hp3, hp9]⟩, by simp only; omega⟩
  · have hp3 := hb3
    try simp at hp3
    have hd : l.drop i = [] := List.drop_eq_nil_of_le (by omega)
    refine cw_exit ?_
    refine cw_seq ?_
    refine cw_seq ?_
    refine cw_region rfl ?_
    refine st H1 (mv rfl) ?_
    refine st H1 (notb rfl) ?_
    refine st H1 (mv rfl) ?_
    refine wl_case (t := 34) rfl (fun hg22 => ?_) (fun hg22 => ?_)
    · have hp22 := hg22
      try simp at hp22
      refine goff rfl rfl hg22 ?_
      refine st H1 (pk_t rfl hg22 rfl) ?_
      refine wl_nil ?_
      refine cw_cond_t rfl rfl ?_
      refine cw_seq ?_
      refine cw_region rfl ?_
      refine st H1 (asg rfl) ?_
      refine wl_nil ?_
      refine cw_ret ?_
      refine ret1 rfl rfl ?_
      exact ⟨by rw [checkS, hx, hd]; simp [chkF, hp3, hp22], H1⟩
    · have hp22 := hg22
      try simp at hp22
      refine gon rfl rfl hg22 ?_
      refine st H1 (mv rfl) ?_
      refine st H1 (pk_f rfl hg22 rfl) ?_
      refine wl_nil ?_
      refine cw_cond rfl (fun hb23 => ?_) (fun hb23 => ?_)
      · have hp23 := hb23
        try simp at hp23
        refine cw_seq ?_
        refine cw_region rfl ?_
        refine st H1 (asg rfl) ?_
        refine wl_nil ?_
        refine cw_ret ?_
        refine ret1 rfl rfl ?_
        exact ⟨by rw [checkS, hx, hd]; simp [chkF, hp3, hp22, hp23], H1⟩
      · have hp23 := hb23
        try simp at hp23
        refine cw_skip ?_
        refine cw_seq ?_
        refine cw_region rfl ?_
        refine st H1 (asg rfl) ?_
        refine wl_nil ?_
        refine cw_ret ?_
        refine ret1 rfl rfl ?_
        exact ⟨by rw [checkS, hx, hd]; simp [chkF, hp3, hp22, hp23], H1⟩
set_option maxHeartbeats 4000000 in
theorem lex_c (s : ByteArray) (H : Own g L w) (hsz : s.size ≤ 140737488355327) : Calls Pg 22 #[.string s] w fun e w' => (∃ l A c, lexS s = .ok l ∧ e = .returned (.tuple #[.slice A l.length c, .agg #[.int .i64 0, .int .i64 0]]) ∧ Own g (Rw 38 tkc 3 A c l :: L) w') ∨ (∃ er a, lexS s = .er er a ∧ er ≠ 0 ∧ e = .returned (.tuple #[.slice none 0 0, .agg #[.int .i64 er, .int .i64 a]]) ∧ Own g L w') := by
  refine calls_cw (vs := [_]) Tryz.func22 rfl rfl rfl ?_
  refine cw_seq ?_
  try dsimp only [PT, List.eraseIdx] at H
  refine cw_region rfl ?_
  refine st H (asg rfl) ?_
  refine st_al H zc28 fun b3 w2 H1 => ?_
  refine wl_nil ?_
  refine cw_scope (σ := Bool × Nat × List Tk × Option Addr × Nat × Nat × Nat) (fun s0 => [(0, .string s), (2, .slice none 0 0), (3, .pointer (some ⟨b3, 0, none⟩)), (4, .slice s0.2.2.2.1 s0.2.2.1.length s0.2.2.2.2.1), (5, .int .i64 (s0.2.1 : Nat)), (6, .int .i64 0), (7, .pointer (some ⟨s0.2.2.2.2.2.2, 0, none⟩))]) (fun s0 w => ∃ v0 v1 v2, Own g (bk b3 28 [.int .i64 0, .int .i64 0] :: bk s0.2.2.2.2.2.2 38 [v0, v1, v2] :: Rw 38 tkc 3 s0.2.2.2.1 s0.2.2.2.2.1 s0.2.2.1 :: L) w ∧ s0.2.1 ≤ s.size ∧ s0.2.2.1.length ≤ 1024 ∧ 2 * (s.size + 1 - s0.2.1) + (match s0.1 with | true => 0 | false => 1) ≤ s0.2.2.2.2.2.1 ∧ lexS s = lexF s s0.2.2.2.2.2.1 s0.1 s0.2.1 s0.2.2.1) (fun s0 => (match s0.1 with | true => 1 | false => 0)) (fun s0 => 2 * (s.size + 1 - s0.2.1) + (match s0.1 with | true => 0 | false => 1)) (fun s0 => by obtain ⟨lb, r⟩ := s0; cases lb <;> rfl) ?_ ?_
  · refine cw_seq ?_
    refine cw_seq ?_
    try dsimp only [PT, List.eraseIdx] at H1
    refine cw_region rfl ?_
    refine st H1 (mv rfl) ?_
    refine st H1 (lens Tryz.underlying9 rfl) ?_
    refine st H1 (gti rfl rfl) ?_
    refine wl_nil ?_
    refine cw_cond rfl (fun hb4 => ?_) (fun hb4 => ?_)
    · have hp4 := hb4
      try simp at hp4
      have hsmall : 4096 < s.size := by omega
      refine cw_seq ?_
      try dsimp only [PT, List.eraseIdx] at H1
      refine cw_region rfl ?_
      refine st H1 (bld zc28 pl28 rfl rfl) ?_
      refine st H1 (asg rfl) ?_
      refine st_st 0 H1 rfl rfl rfl sz28 rfl rfl rfl rfl fun w6 H5 => ?_
      refine wl_nil ?_
      refine cw_ret ?_
      refine ret2 rfl rfl ⟨_, rfl, own_lda H5 0 (vs := [_, _]) rfl ag28 rfl⟩ ?_
      exact Or.inr ⟨3, 0, by simp [lexS, hsmall], by decide, rfl, (H5.er 0)⟩
    · have hp4 := hb4
      try simp at hp4
      have hsmall : ¬ 4096 < s.size := by omega
      refine cw_skip ?_
      refine cw_seq ?_
      try dsimp only [PT, List.eraseIdx] at H1
      refine cw_region rfl ?_
      refine st H1 (asg rfl) ?_
      refine wl_nil ?_
      refine cw_seq ?_
      try dsimp only [PT, List.eraseIdx] at H1
      refine cw_region rfl ?_
      refine st H1 (asg rfl) ?_
      refine st H1 (asg rfl) ?_
      refine wl_nil ?_
      refine cw_seq ?_
      try dsimp only [PT, List.eraseIdx] at H1
      refine cw_region rfl ?_
      refine st H1 (bld zc38 pl38 rfl rfl) ?_
      refine st_al H1 zc38 fun b9 w8 H7 => ?_
      refine st_st 0 H7 rfl rfl rfl sz38 rfl rfl rfl rfl fun w11 H10 => ?_
      refine wl_nil ?_
      refine cw_seq ?_
      refine cw_label ?_
      refine cw_seq ?_
      have HN := H10.rw_nil (e := 38) (f := tkc) (sz := 3)
      obtain ⟨F, hFe⟩ : ∃ F, F = 2 * s.size + 3 := ⟨_, rfl⟩
      have hx1 : lexS s = lexF s (F + 1) false 0 [] := by rw [hFe, lexS, if_neg hsmall]
      have hat : 0 ≤ s.size := by omega
      have hF : 2 * (s.size + 1 - 0) + 1 ≤ F + 1 := by omega
      have hlen : ([] : List Tk).length ≤ 1024 := by simp
      have hb1 := runS_le blankB s 0 hat
      have hsk := skip_le hat
      try dsimp only [PT, List.eraseIdx] at HN
      refine cw_region rfl ?_
      refine st HN (mv rfl) ?_
      refine st HN (mv rfl) ?_
      refine st HN (mv rfl) ?_
      refine st_call cf50 rfl (run_c blank_p cf51 s (0) HN (by omega) hsz) ?_
      rintro _ w13 ⟨rfl, H12⟩
      refine st H12 (add rfl rfl (by omega) (by omega)) ?_
      refine st H12 (asg rfl) ?_
      refine wl_nil ?_
      refine cw_seq ?_
      refine cw_seq ?_
      try dsimp only [PT, List.eraseIdx] at H12
      refine cw_region rfl ?_
      refine st H12 (mv rfl) ?_
      refine st H12 (mv rfl) ?_
      refine st H12 (slsf Tryz.underlying9 rfl rfl (0 + runS blankB s 0) (by omega) (by omega)) ?_
      refine st_call cf52 rfl (hasPrefix_c _ _ H12) ?_
      rintro _ w15 ⟨rfl, H14⟩
      refine wl_nil ?_
      refine cw_cond rfl (fun hb16 => ?_) (fun hb16 => ?_)
      · have hp16 := hb16
        try simp at hp16
        have hsl : slashB s (0 + runS blankB s 0) = true := by rw [← prefix_slash (by omega)]; exact hb16
        have hse : skipS s 0 = 0 + runS blankB s 0 + runS (fun c => decide (c ≠ 10)) s (0 + runS blankB s 0) := by rw [skipS, if_pos hsl]
        have hb2 := runS_le (fun c => decide (c ≠ 10)) s (0 + runS blankB s 0) (by omega)
        try dsimp only [PT, List.eraseIdx] at H14
        refine cw_region rfl ?_
        refine st H14 (mv rfl) ?_
        refine st H14 (mv rfl) ?_
        refine st H14 (mv rfl) ?_
        refine st_call cf50 rfl (run_c feed_p cf53 s (0 + runS blankB s 0) H14 (by omega) hsz) ?_
        rintro _ w18 ⟨rfl, H17⟩
        refine st H17 (add rfl rfl (by omega) (by omega)) ?_
        refine st H17 (asg rfl) ?_
        refine wl_nil ?_
        refine cw_seq ?_
        refine cw_sub (E0 := [(0, .string s), (2, .slice none 0 0), (3, .pointer (some ⟨b3, 0, none⟩)), (4, .slice none ([] : List Tk).length 0), (5, .int .i64 (skipS s 0 : Nat)), (6, .int .i64 0), (7, .pointer (some ⟨b9, 0, none⟩))]) ⟨rfl, rfl, rfl, rfl, congrArg (fun z => some (Value.int .i64 z)) (by omega), rfl, rfl, trivial⟩ ?_
        try dsimp only [PT, List.eraseIdx] at H17
        refine cw_region rfl ?_
        refine st H17 (mv rfl) ?_
        refine st H17 (mv rfl) ?_
        refine st H17 (lens Tryz.underlying9 rfl) ?_
        refine st H17 (eqi rfl rfl) ?_
        refine st H17 (mv rfl) ?_
        refine wl_case (t := 32) rfl (fun hg19 => ?_) (fun hg19 => ?_)
        · have hp19 := hg19
          try simp at hp19
          have hends : endsB s (skipS s 0) = true := by simp [endsB, show skipS s 0 = s.size by omega]
          refine goff rfl rfl hg19 ?_
          refine goff rfl rfl hg19 ?_
          refine goff rfl rfl hg19 ?_
          refine goff rfl rfl hg19 ?_
          refine st H17 (pk_t rfl hg19 rfl) ?_
          refine st H17 (asg rfl) ?_
          refine wl_nil ?_
          refine cw_seq ?_
          refine cw_block ?_
          refine cw_seq ?_
          try dsimp only [PT, List.eraseIdx] at H17
          refine cw_region rfl ?_
          refine st H17 (mv rfl) ?_
          refine st H17 (mv rfl) ?_
          refine gon rfl rfl rfl ?_
          refine st H17 (mv rfl) ?_
          refine gon rfl rfl rfl ?_
          refine st H17 (lenl Tryz.underlying31 rfl) ?_
          refine gon rfl rfl rfl ?_
          refine st H17 (eqi rfl rfl) ?_
          refine gon rfl rfl rfl ?_
          refine st H17 (mv rfl) ?_
          refine goff rfl rfl (by decide) ?_
          refine goff rfl rfl (by decide) ?_
          refine goff rfl rfl (by decide) ?_
          refine goff rfl rfl (by decide) ?_
          refine goff rfl rfl (by decide) ?_
          refine goff rfl rfl (by decide) ?_
          refine goff rfl rfl (by decide) ?_
          refine goff rfl rfl (by decide) ?_
          refine gon rfl rfl rfl ?_
          refine st H17 (pk_t rfl (by decide) rfl) ?_
          refine st H17 (pk_t rfl rfl rfl) ?_
          refine st H17 (asg rfl) ?_
          refine wl_nil ?_
          refine cw_cond_t rfl rfl ?_
          refine cw_goto ?_
          have hla : lastB ([] : List Tk) = false := rfl
          exact ⟨(true, skipS s 0, ([] : List Tk), none, 0, F, b9), rfl, ⟨rfl, rfl, rfl, rfl, rfl, rfl, rfl, trivial⟩, ⟨_, _, _, ((H17.fr 1 rfl).fr 2 rfl), by first | omega | (dsimp only; omega), by first | omega | (simp <;> omega), by first | omega | (dsimp only; omega), hx1.trans (lexF_stop hends hla)⟩⟩
        · have hp19 := hg19
          try simp at hp19
          have hne : skipS s 0 < s.size := by omega
          refine gon rfl rfl hg19 ?_
          refine st H17 (mv rfl) ?_
          refine gon rfl rfl hg19 ?_
          refine st H17 (mv rfl) ?_
          refine gon rfl rfl hg19 ?_
          refine st H17 (ixs Tryz.underlying9 rfl rfl (skipS s 0) rfl (by omega)) ?_
          refine gon rfl rfl hg19 ?_
          refine st H17 (eqi rfl rfl) ?_
          refine st H17 (pk_f rfl hg19 rfl) ?_
          refine st H17 (asg rfl) ?_
          refine wl_nil ?_
          refine cw_seq ?_
          refine cw_block ?_
          refine cw_seq ?_
          try dsimp only [PT, List.eraseIdx] at H17
          refine cw_region rfl ?_
          refine st H17 (mv rfl) ?_
          refine st H17 (mv rfl) ?_
          refine wl_case (t := 47) rfl (fun hg20 => ?_) (fun hg20 => ?_)
          · have hp20 := hg20
            try simp at hp20
            have hends : endsB s (skipS s 0) = true := by simp [endsB, hp20]
            refine gon rfl rfl hg20 ?_
            refine st H17 (mv rfl) ?_
            refine gon rfl rfl hg20 ?_
            refine st H17 (lenl Tryz.underlying31 rfl) ?_
            refine gon rfl rfl hg20 ?_
            refine st H17 (eqi rfl rfl) ?_
            refine gon rfl rfl hg20 ?_
            refine st H17 (mv rfl) ?_
            refine goff rfl rfl (by decide) ?_
            refine goff rfl rfl (by decide) ?_
            refine goff rfl rfl (by decide) ?_
            refine goff rfl rfl (by decide) ?_
            refine goff rfl rfl (by decide) ?_
            refine goff rfl rfl (by decide) ?_
            refine goff rfl rfl (by decide) ?_
            refine goff rfl rfl (by decide) ?_
            refine gon rfl rfl hg20 ?_
            refine st H17 (pk_t rfl (by decide) rfl) ?_
            refine st H17 (pk_t rfl hg20 rfl) ?_
            refine st H17 (asg rfl) ?_
            refine wl_nil ?_
            refine cw_cond_t rfl rfl ?_
            refine cw_goto ?_
            have hla : lastB ([] : List Tk) = false := rfl
            exact ⟨(true, skipS s 0, ([] : List Tk), none, 0, F, b9), rfl, ⟨rfl, rfl, rfl, rfl, rfl, rfl, rfl, trivial⟩, ⟨_, _, _, ((H17.fr 1 rfl).fr 2 rfl), by first | omega | (dsimp only; omega), by first | omega | (simp <;> omega), by first | omega | (dsimp only; omega), hx1.trans (lexF_stop hends hla)⟩⟩
          · have hp20 := hg20
            try simp at hp20
            have hends : endsB s (skipS s 0) = false := by simp [endsB, hp20]; omega
            refine goff rfl rfl hg20 ?_
            refine goff rfl rfl hg20 ?_
            refine goff rfl rfl hg20 ?_
            refine goff rfl rfl hg20 ?_
            refine goffu rfl rfl ?_
            refine goffu rfl rfl ?_
            refine goffu rfl rfl ?_
            refine goffu rfl rfl ?_
            refine goffu rfl rfl ?_
            refine goffu rfl rfl ?_
            refine goffu rfl rfl ?_
            refine goffu rfl rfl ?_
            refine goff rfl rfl hg20 ?_
            refine st H17 (pk_f rfl hg20 rfl) ?_
            refine st H17 (asg rfl) ?_
            refine wl_nil ?_
            refine cw_cond_f rfl rfl ?_
            refine cw_seq ?_
            try dsimp only [PT, List.eraseIdx] at H17
            refine cw_region rfl ?_
            refine st H17 (mv rfl) ?_
            refine st H17 (asg rfl) ?_
            refine wl_nil ?_
            refine cw_cond_f rfl hg20 ?_
            try dsimp only [PT, List.eraseIdx] at H17
            refine cw_region rfl ?_
            refine st H17 (mv rfl) ?_
            refine st H17 (mv rfl) ?_
            refine st H17 (slsf Tryz.underlying9 rfl rfl (skipS s 0) rfl (by omega)) ?_
            refine st_call cf55 rfl (token_c (s.extract (skipS s 0) s.size) H17 (by rw [ext_from (by omega)]; omega) (by rw [ext_from (by omega)]; omega)) ?_
            rintro e w22 hpH21
            rcases hpH21 with ⟨k1, n1, ht1, hn1, hm1, rfl, H21⟩ | ⟨er1, ht1, he1, rfl, H21⟩
            · refine st H21 (mv rfl) ?_
              refine st H21 (ext rfl rfl) ?_
              refine st H21 (ext rfl rfl) ?_
              refine st_st 1 H21 rfl rfl rfl sz38 rfl rfl rfl rfl fun w24 H23 => ?_
              refine st H23 (asg rfl) ?_
              refine wl_nil ?_
              refine cw_seq ?_
              refine cw_seq ?_
              try dsimp only [PT, List.eraseIdx] at H23
              refine cw_region rfl ?_
              refine st H23 (mv rfl) ?_
              refine st H23 (eqi rfl rfl) ?_
              refine st H23 (mv rfl) ?_
              refine gon rfl rfl (by decide) ?_
              refine st H23 (mv rfl) ?_
              refine gon rfl rfl (by decide) ?_
              refine st H23 (lenl Tryz.underlying31 rfl) ?_
              refine gon rfl rfl (by decide) ?_
              refine st H23 (eqi rfl rfl) ?_
              refine st H23 (pk_t rfl (by decide) rfl) ?_
              refine wl_nil ?_
              refine cw_cond_f rfl (by decide) ?_
              have h1024 : ¬ ([] : List Tk).length = 1024 := by first | omega | simp
              refine cw_skip ?_
              refine cw_seq ?_
              refine cw_seq ?_
              try dsimp only [PT, List.eraseIdx] at H23
              refine cw_region rfl ?_
              refine st H23 (mv rfl) ?_
              refine st H23 (nei rfl rfl) ?_
              refine wl_nil ?_
              refine cw_cond_f rfl (by decide) ?_
              refine cw_skip ?_
              refine cw_seq ?_
              have hts : ((s.extract (skipS s 0) s.size).extract 0 n1).size = n1 := ext_size (by assumption)
              have hex := ext_from (s := s) (i := skipS s 0) (by omega)
              try dsimp only [PT, List.eraseIdx] at H23
              refine cw_region rfl ?_
              refine st H23 (mv rfl) ?_
              refine st H23 (fa fo38_2 rfl) ?_
              refine st_st 0 H23 rfl rfl rfl sz3 rfl rfl rfl rfl fun w26 H25 => ?_
              refine wl_nil ?_
              refine cw_seq ?_
              try dsimp only [PT, List.eraseIdx] at H25
              refine cw_region rfl ?_
              refine st H25 (mv rfl) ?_
              refine st H25 (lda ag38 0 rfl rfl rfl rfl) ?_
              refine st_bs H25 sl31 zc38 rfl rfl rfl rfl rfl fun b29 w28 H27 => ?_
              refine st_app 2 0 ([Tk.mk k1 ((s.extract (skipS s 0) s.size).extract 0 n1) ((skipS s 0 : Nat) : Int)]) H27 sl31 zc38 rfl rfl rfl rfl rfl rfl rfl rfl (by intro y hy; simp at hy; subst hy; exact ⟨rfl, rfl⟩) (by first | omega | (simp <;> omega)) (by first | omega | (simp <;> omega)) fun A32 c33 w31 H30 => ?_
              refine st H30 (asg rfl) ?_
              refine wl_nil ?_
              refine cw_seq ?_
              refine cw_seq ?_
              try dsimp only [PT, List.eraseIdx] at H30
              refine cw_region rfl ?_
              refine st H30 (mv rfl) ?_
              refine st H30 (notb rfl) ?_
              refine wl_nil ?_
              refine cw_cond_t rfl (by rw [hg20]; rfl) ?_
              refine cw_seq ?_
              try dsimp only [PT, List.eraseIdx] at H30
              refine cw_region rfl ?_
              refine st H30 (mv rfl) ?_
              refine st H30 (fa fo38_1 rfl) ?_
              refine st H30 (ld sc9 2 rfl rfl rfl) ?_
              refine st H30 (lens Tryz.underlying9 rfl) ?_
              refine st H30 (add rfl rfl (by omega) (by omega)) ?_
              refine st H30 (asg rfl) ?_
              refine wl_nil ?_
              refine cw_goto ?_
              exact ⟨(false, skipS s 0 + ((s.extract (skipS s 0) s.size).extract 0 n1).size, (([] : List Tk) ++ [Tk.mk k1 ((s.extract (skipS s 0) s.size).extract 0 n1) ((skipS s 0 : Nat) : Int)]), A32, c33, F, b9), rfl, ⟨rfl, rfl, rfl, rfl, rfl, rfl, rfl, trivial⟩, ⟨_, _, _, (((H30.fr 2 rfl).fr 3 rfl).er 3), by first | omega | (dsimp only; omega), by first | omega | (simp <;> omega), by first | omega | (dsimp only; omega), hx1.trans (lexF_tok hends ht1 h1024)⟩⟩
            · refine st H21 (mv rfl) ?_
              refine st H21 (ext rfl rfl) ?_
              refine st H21 (ext rfl rfl) ?_
              refine st_st 1 H21 rfl rfl rfl sz38 rfl rfl rfl rfl fun w35 H34 => ?_
              refine st H34 (asg rfl) ?_
              refine wl_nil ?_
              refine cw_seq ?_
              refine cw_seq ?_
              try dsimp only [PT, List.eraseIdx] at H34
              refine cw_region rfl ?_
              refine st H34 (mv rfl) ?_
              refine st H34 (eqi rfl rfl) ?_
              refine st H34 (mv rfl) ?_
              refine wl_case (t := 67) rfl (fun hg36 => ?_) (fun hg36 => ?_)
              · have h0 := of_decide_eq_true hg36
                omega
              · have hp36 := hg36
                try simp at hp36
                refine goff rfl rfl hg36 ?_
                refine goff rfl rfl hg36 ?_
                refine goff rfl rfl hg36 ?_
                refine st H34 (pk_f rfl hg36 rfl) ?_
                refine wl_nil ?_
                refine cw_cond_f rfl rfl ?_
                refine cw_skip ?_
                refine cw_seq ?_
                refine cw_seq ?_
                try dsimp only [PT, List.eraseIdx] at H34
                refine cw_region rfl ?_
                refine st H34 (mv rfl) ?_
                refine st H34 (nei rfl rfl) ?_
                refine wl_nil ?_
                refine cw_cond rfl (fun hb37 => ?_) (fun hb37 => ?_)
                · have hp37 := hb37
                  try simp at hp37
                  refine cw_seq ?_
                  try dsimp only [PT, List.eraseIdx] at H34
                  refine cw_region rfl ?_
                  refine st H34 (mv rfl) ?_
                  refine st H34 (mv rfl) ?_
                  refine st H34 (bld zc28 pl28 rfl rfl) ?_
                  refine st H34 (asg rfl) ?_
                  refine st_st 2 H34 rfl rfl rfl sz28 rfl rfl rfl rfl fun w39 H38 => ?_
                  refine wl_nil ?_
                  refine cw_ret ?_
                  refine ret2 rfl rfl ⟨_, rfl, own_lda H38 0 (vs := [_, _]) rfl ag28 rfl⟩ ?_
                  exact Or.inr ⟨er1, (skipS s 0 : Nat), hx1.trans (lexF_er hends ht1), by first | decide | omega, rfl, (((H38.er 0).er 0).er 0)⟩
                · have h0 := of_decide_eq_false hb37
                  omega
      · have hp16 := hb16
        try simp at hp16
        have hsl : slashB s (0 + runS blankB s 0) = false := by rw [← prefix_slash (by omega)]; exact hb16
        have hse : skipS s 0 = 0 + runS blankB s 0 := by rw [skipS, if_neg (by rw [hsl]; decide)]
        refine cw_skip ?_
        refine cw_seq ?_
        refine cw_sub (E0 := [(0, .string s), (2, .slice none 0 0), (3, .pointer (some ⟨b3, 0, none⟩)), (4, .slice none ([] : List Tk).length 0), (5, .int .i64 (skipS s 0 : Nat)), (6, .int .i64 0), (7, .pointer (some ⟨b9, 0, none⟩))]) ⟨rfl, rfl, rfl, rfl, congrArg (fun z => some (Value.int .i64 z)) (by omega), rfl, rfl, trivial⟩ ?_
        try dsimp only [PT, List.eraseIdx] at H14
        refine cw_region rfl ?_
        refine st H14 (mv rfl) ?_
        refine st H14 (mv rfl) ?_
        refine st H14 (lens Tryz.underlying9 rfl) ?_
        refine st H14 (eqi rfl rfl) ?_
        refine st H14 (mv rfl) ?_
        refine wl_case (t := 32) rfl (fun hg40 => ?_) (fun hg40 => ?_)
        · have hp40 := hg40
          try simp at hp40
          have hends : endsB s (skipS s 0) = true := by simp [endsB, show skipS s 0 = s.size by omega]
          refine goff rfl rfl hg40 ?_
          refine goff rfl rfl hg40 ?_
          refine goff rfl rfl hg40 ?_
          refine goff rfl rfl hg40 ?_
          refine st H14 (pk_t rfl hg40 rfl) ?_
          refine st H14 (asg rfl) ?_
          refine wl_nil ?_
          refine cw_seq ?_
          refine cw_block ?_
          refine cw_seq ?_
          try dsimp only [PT, List.eraseIdx] at H14
          refine cw_region rfl ?_
          refine st H14 (mv rfl) ?_
          refine st H14 (mv rfl) ?_
          refine gon rfl rfl rfl ?_
          refine st H14 (mv rfl) ?_
          refine gon rfl rfl rfl ?_
          refine st H14 (lenl Tryz.underlying31 rfl) ?_
          refine gon rfl rfl rfl ?_
          refine st H14 (eqi rfl rfl) ?_
          refine gon rfl rfl rfl ?_
          refine st H14 (mv rfl) ?_
          refine goff rfl rfl (by decide) ?_
          refine goff rfl rfl (by decide) ?_
          refine goff rfl rfl (by decide) ?_
          refine goff rfl rfl (by decide) ?_
          refine goff rfl rfl (by decide) ?_
          refine goff rfl rfl (by decide) ?_
          refine goff rfl rfl (by decide) ?_
          refine goff rfl rfl (by decide) ?_
          refine gon rfl rfl rfl ?_
          refine st H14 (pk_t rfl (by decide) rfl) ?_
          refine st H14 (pk_t rfl rfl rfl) ?_
          refine st H14 (asg rfl) ?_
          refine wl_nil ?_
          refine cw_cond_t rfl rfl ?_
          refine cw_goto ?_
          have hla : lastB ([] : List Tk) = false := rfl
          exact ⟨(true, skipS s 0, ([] : List Tk), none, 0, F, b9), rfl, ⟨rfl, rfl, rfl, rfl, rfl, rfl, rfl, trivial⟩, ⟨_, _, _, ((H14.fr 1 rfl).fr 2 rfl), by first | omega | (dsimp only; omega), by first | omega | (simp <;> omega), by first | omega | (dsimp only; omega), hx1.trans (lexF_stop hends hla)⟩⟩
        · have hp40 := hg40
          try simp at hp40
          have hne : skipS s 0 < s.size := by omega
          refine gon rfl rfl hg40 ?_
          refine st H14 (mv rfl) ?_
          refine gon rfl rfl hg40 ?_
          refine st H14 (mv rfl) ?_
          refine gon rfl rfl hg40 ?_
          refine st H14 (ixs Tryz.underlying9 rfl rfl (skipS s 0) rfl (by omega)) ?_
          refine gon rfl rfl hg40 ?_
          refine st H14 (eqi rfl rfl) ?_
          refine st H14 (pk_f rfl hg40 rfl) ?_
          refine st H14 (asg rfl) ?_
          refine wl_nil ?_
          refine cw_seq ?_
          refine cw_block ?_
          refine cw_seq ?_
          try dsimp only [PT, List.eraseIdx] at H14
          refine cw_region rfl ?_
          refine st H14 (mv rfl) ?_
          refine st H14 (mv rfl) ?_
          refine wl_case (t := 47) rfl (fun hg41 => ?_) (fun hg41 => ?_)
          · have hp41 := hg41
            try simp at hp41
            have hends : endsB s (skipS s 0) = true := by simp [endsB, hp41]
            refine gon rfl rfl hg41 ?_
            refine st H14 (mv rfl) ?_
            refine gon rfl rfl hg41 ?_
            refine st H14 (lenl Tryz.underlying31 rfl) ?_
            refine gon rfl rfl hg41 ?_
            refine st H14 (eqi rfl rfl) ?_
            refine gon rfl rfl hg41 ?_
            refine st H14 (mv rfl) ?_
            refine goff rfl rfl (by decide) ?_
            refine goff rfl rfl (by decide) ?_
            refine goff rfl rfl (by decide) ?_
            refine goff rfl rfl (by decide) ?_
            refine goff rfl rfl (by decide) ?_
            refine goff rfl rfl (by decide) ?_
            refine goff rfl rfl (by decide) ?_
            refine goff rfl rfl (by decide) ?_
            refine gon rfl rfl hg41 ?_
            refine st H14 (pk_t rfl (by decide) rfl) ?_
            refine st H14 (pk_t rfl hg41 rfl) ?_
            refine st H14 (asg rfl) ?_
            refine wl_nil ?_
            refine cw_cond_t rfl rfl ?_
            refine cw_goto ?_
            have hla : lastB ([] : List Tk) = false := rfl
            exact ⟨(true, skipS s 0, ([] : List Tk), none, 0, F, b9), rfl, ⟨rfl, rfl, rfl, rfl, rfl, rfl, rfl, trivial⟩, ⟨_, _, _, ((H14.fr 1 rfl).fr 2 rfl), by first | omega | (dsimp only; omega), by first | omega | (simp <;> omega), by first | omega | (dsimp only; omega), hx1.trans (lexF_stop hends hla)⟩⟩
          · have hp41 := hg41
            try simp at hp41
            have hends : endsB s (skipS s 0) = false := by simp [endsB, hp41]; omega
            refine goff rfl rfl hg41 ?_
            refine goff rfl rfl hg41 ?_
            refine goff rfl rfl hg41 ?_
            refine goff rfl rfl hg41 ?_
            refine goffu rfl rfl ?_
            refine goffu rfl rfl ?_
            refine goffu rfl rfl ?_
            refine goffu rfl rfl ?_
            refine goffu rfl rfl ?_
            refine goffu rfl rfl ?_
            refine goffu rfl rfl ?_
            refine goffu rfl rfl ?_
            refine goff rfl rfl hg41 ?_
            refine st H14 (pk_f rfl hg41 rfl) ?_
            refine st H14 (asg rfl) ?_
            refine wl_nil ?_
            refine cw_cond_f rfl rfl ?_
            refine cw_seq ?_
            try dsimp only [PT, List.eraseIdx] at H14
            refine cw_region rfl ?_
            refine st H14 (mv rfl) ?_
            refine st H14 (asg rfl) ?_
            refine wl_nil ?_
            refine cw_cond_f rfl hg41 ?_
            try dsimp only [PT, List.eraseIdx] at H14
            refine cw_region rfl ?_
            refine st H14 (mv rfl) ?_
            refine st H14 (mv rfl) ?_
            refine st H14 (slsf Tryz.underlying9 rfl rfl (skipS s 0) rfl (by omega)) ?_
            refine st_call cf55 rfl (token_c (s.extract (skipS s 0) s.size) H14 (by rw [ext_from (by omega)]; omega) (by rw [ext_from (by omega)]; omega)) ?_
            rintro e w43 hpH42
            rcases hpH42 with ⟨k2, n2, ht2, hn2, hm2, rfl, H42⟩ | ⟨er2, ht2, he2, rfl, H42⟩
            · refine st H42 (mv rfl) ?_
              refine st H42 (ext rfl rfl) ?_
              refine st H42 (ext rfl rfl) ?_
              refine st_st 1 H42 rfl rfl rfl sz38 rfl rfl rfl rfl fun w45 H44 => ?_
              refine st H44 (asg rfl) ?_
              refine wl_nil ?_
              refine cw_seq ?_
              refine cw_seq ?_
              try dsimp only [PT, List.eraseIdx] at H44
              refine cw_region rfl ?_
              refine st H44 (mv rfl) ?_
              refine st H44 (eqi rfl rfl) ?_
              refine st H44 (mv rfl) ?_
              refine gon rfl rfl (by decide) ?_
              refine st H44 (mv rfl) ?_
              refine gon rfl rfl (by decide) ?_
              refine st H44 (lenl Tryz.underlying31 rfl) ?_
              refine gon rfl rfl (by decide) ?_
              refine st H44 (eqi rfl rfl) ?_
              refine st H44 (pk_t rfl (by decide) rfl) ?_
              refine wl_nil ?_
              refine cw_cond_f rfl (by decide) ?_
              have h1024 : ¬ ([] : List Tk).length = 1024 := by first | omega | simp
              refine cw_skip ?_
              refine cw_seq ?_
              refine cw_seq ?_
              try dsimp only [PT, List.eraseIdx] at H44
              refine cw_region rfl ?_
              refine st H44 (mv rfl) ?_
              refine st H44 (nei rfl rfl) ?_
              refine wl_nil ?_
              refine cw_cond_f rfl (by decide) ?_
              refine cw_skip ?_
              refine cw_seq ?_
              have hts : ((s.extract (skipS s 0) s.size).extract 0 n2).size = n2 := ext_size (by assumption)
              have hex := ext_from (s := s) (i := skipS s 0) (by omega)
              try dsimp only [PT, List.eraseIdx] at H44
              refine cw_region rfl ?_
              refine st H44 (mv rfl) ?_
              refine st H44 (fa fo38_2 rfl) ?_
              refine st_st 0 H44 rfl rfl rfl sz3 rfl rfl rfl rfl fun w47 H46 => ?_
              refine wl_nil ?_
              refine cw_seq ?_
              try dsimp only [PT, List.eraseIdx] at H46
              refine cw_region rfl ?_
              refine st H46 (mv rfl) ?_
              refine st H46 (lda ag38 0 rfl rfl rfl rfl) ?_
              refine st_bs H46 sl31 zc38 rfl rfl rfl rfl rfl fun b50 w49 H48 => ?_
              refine st_app 2 0 ([Tk.mk k2 ((s.extract (skipS s 0) s.size).extract 0 n2) ((skipS s 0 : Nat) : Int)]) H48 sl31 zc38 rfl rfl rfl rfl rfl rfl rfl rfl (by intro y hy; simp at hy; subst hy; exact ⟨rfl, rfl⟩) (by first | omega | (simp <;> omega)) (by first | omega | (simp <;> omega)) fun A53 c54 w52 H51 => ?_
              refine st H51 (asg rfl) ?_
              refine wl_nil ?_
              refine cw_seq ?_
              refine cw_seq ?_
              try dsimp only [PT, List.eraseIdx] at H51
              refine cw_region rfl ?_
              refine st H51 (mv rfl) ?_
              refine st H51 (notb rfl) ?_
              refine wl_nil ?_
              refine cw_cond_t rfl (by rw [hg41]; rfl) ?_
              refine cw_seq ?_
              try dsimp only [PT, List.eraseIdx] at H51
              refine cw_region rfl ?_
              refine st H51 (mv rfl) ?_
              refine st H51 (fa fo38_1 rfl) ?_
              refine st H51 (ld sc9 2 rfl rfl rfl) ?_
              refine st H51 (lens Tryz.underlying9 rfl) ?_
              refine st H51 (add rfl rfl (by omega) (by omega)) ?_
              refine st H51 (asg rfl) ?_
              refine wl_nil ?_
              refine cw_goto ?_
              exact ⟨(false, skipS s 0 + ((s.extract (skipS s 0) s.size).extract 0 n2).size, (([] : List Tk) ++ [Tk.mk k2 ((s.extract (skipS s 0) s.size).extract 0 n2) ((skipS s 0 : Nat) : Int)]), A53, c54, F, b9), rfl, ⟨rfl, rfl, rfl, rfl, rfl, rfl, rfl, trivial⟩, ⟨_, _, _, (((H51.fr 2 rfl).fr 3 rfl).er 3), by first | omega | (dsimp only; omega), by first | omega | (simp <;> omega), by first | omega | (dsimp only; omega), hx1.trans (lexF_tok hends ht2 h1024)⟩⟩
            · refine st H42 (mv rfl) ?_
              refine st H42 (ext rfl rfl) ?_
              refine st H42 (ext rfl rfl) ?_
              refine st_st 1 H42 rfl rfl rfl sz38 rfl rfl rfl rfl fun w56 H55 => ?_
              refine st H55 (asg rfl) ?_
              refine wl_nil ?_
              refine cw_seq ?_
              refine cw_seq ?_
              try dsimp only [PT, List.eraseIdx] at H55
              refine cw_region rfl ?_
              refine st H55 (mv rfl) ?_
              refine st H55 (eqi rfl rfl) ?_
              refine st H55 (mv rfl) ?_
              refine wl_case (t := 67) rfl (fun hg57 => ?_) (fun hg57 => ?_)
              · have h0 := of_decide_eq_true hg57
                omega
              · have hp57 := hg57
                try simp at hp57
                refine goff rfl rfl hg57 ?_
                refine goff rfl rfl hg57 ?_
                refine goff rfl rfl hg57 ?_
                refine st H55 (pk_f rfl hg57 rfl) ?_
                refine wl_nil ?_
                refine cw_cond_f rfl rfl ?_
                refine cw_skip ?_
                refine cw_seq ?_
                refine cw_seq ?_
                try dsimp only [PT, List.eraseIdx] at H55
                refine cw_region rfl ?_
                refine st H55 (mv rfl) ?_
                refine st H55 (nei rfl rfl) ?_
                refine wl_nil ?_
                refine cw_cond rfl (fun hb58 => ?_) (fun hb58 => ?_)
                · have hp58 := hb58
                  try simp at hp58
                  refine cw_seq ?_
                  try dsimp only [PT, List.eraseIdx] at H55
                  refine cw_region rfl ?_
                  refine st H55 (mv rfl) ?_
                  refine st H55 (mv rfl) ?_
                  refine st H55 (bld zc28 pl28 rfl rfl) ?_
                  refine st H55 (asg rfl) ?_
                  refine st_st 2 H55 rfl rfl rfl sz28 rfl rfl rfl rfl fun w60 H59 => ?_
                  refine wl_nil ?_
                  refine cw_ret ?_
                  refine ret2 rfl rfl ⟨_, rfl, own_lda H59 0 (vs := [_, _]) rfl ag28 rfl⟩ ?_
                  exact Or.inr ⟨er2, (skipS s 0 : Nat), hx1.trans (lexF_er hends ht2), by first | decide | omega, rfl, (((H59.er 0).er 0).er 0)⟩
                · have h0 := of_decide_eq_false hb58
                  omega
  · rintro s0 w62 ⟨v0, v1, v2, H61, hat, hlen, hF, hx1⟩
    obtain ⟨lab, i, l, A1, c1, f, b7⟩ := s0
    dsimp only at *
    cases lab
    · try dsimp only at hF
      obtain ⟨f, rfl⟩ : ∃ k, f = k + 1 := ⟨f - 1, by omega⟩
      refine cw_seq ?_
      refine cw_skip ?_
      refine cw_seq ?_
      have hb1 := runS_le blankB s i hat
      have hsk := skip_le hat
      try dsimp only [PT, List.eraseIdx] at H61
      refine cw_region rfl ?_
      refine st H61 (mv rfl) ?_
      refine st H61 (mv rfl) ?_
      refine st H61 (mv rfl) ?_
      refine st_call cf50 rfl (run_c blank_p cf51 s (i) H61 (by omega) hsz) ?_
      rintro _ w64 ⟨rfl, H63⟩
      refine st H63 (add rfl rfl (by omega) (by omega)) ?_
      refine st H63 (asg rfl) ?_
      refine wl_nil ?_
      refine cw_seq ?_
      refine cw_seq ?_
      try dsimp only [PT, List.eraseIdx] at H63
      refine cw_region rfl ?_
      refine st H63 (mv rfl) ?_
      refine st H63 (mv rfl) ?_
      refine st H63 (slsf Tryz.underlying9 rfl rfl (i + runS blankB s i) (by omega) (by omega)) ?_
      refine st_call cf52 rfl (hasPrefix_c _ _ H63) ?_
      rintro _ w66 ⟨rfl, H65⟩
      refine wl_nil ?_
      refine cw_cond rfl (fun hb67 => ?_) (fun hb67 => ?_)
      · have hp67 := hb67
        try simp at hp67
        have hsl : slashB s (i + runS blankB s i) = true := by rw [← prefix_slash (by omega)]; exact hb67
        have hse : skipS s i = i + runS blankB s i + runS (fun c => decide (c ≠ 10)) s (i + runS blankB s i) := by rw [skipS, if_pos hsl]
        have hb2 := runS_le (fun c => decide (c ≠ 10)) s (i + runS blankB s i) (by omega)
        try dsimp only [PT, List.eraseIdx] at H65
        refine cw_region rfl ?_
        refine st H65 (mv rfl) ?_
        refine st H65 (mv rfl) ?_
        refine st H65 (mv rfl) ?_
        refine st_call cf50 rfl (run_c feed_p cf53 s (i + runS blankB s i) H65 (by omega) hsz) ?_
        rintro _ w69 ⟨rfl, H68⟩
        refine st H68 (add rfl rfl (by omega) (by omega)) ?_
        refine st H68 (asg rfl) ?_
        refine wl_nil ?_
        refine cw_seq ?_
        refine cw_sub (E0 := [(0, .string s), (2, .slice none 0 0), (3, .pointer (some ⟨b3, 0, none⟩)), (4, .slice A1 l.length c1), (5, .int .i64 (skipS s i : Nat)), (6, .int .i64 0), (7, .pointer (some ⟨b7, 0, none⟩))]) ⟨rfl, rfl, rfl, rfl, congrArg (fun z => some (Value.int .i64 z)) (by omega), rfl, rfl, trivial⟩ ?_
        try dsimp only [PT, List.eraseIdx] at H68
        refine cw_region rfl ?_
        refine st H68 (mv rfl) ?_
        refine st H68 (mv rfl) ?_
        refine st H68 (lens Tryz.underlying9 rfl) ?_
        refine st H68 (eqi rfl rfl) ?_
        refine st H68 (mv rfl) ?_
        refine wl_case (t := 32) rfl (fun hg70 => ?_) (fun hg70 => ?_)
        · have hp70 := hg70
          try simp at hp70
          have hends : endsB s (skipS s i) = true := by simp [endsB, show skipS s i = s.size by omega]
          refine goff rfl rfl hg70 ?_
          refine goff rfl rfl hg70 ?_
          refine goff rfl rfl hg70 ?_
          refine goff rfl rfl hg70 ?_
          refine st H68 (pk_t rfl hg70 rfl) ?_
          refine st H68 (asg rfl) ?_
          refine wl_nil ?_
          refine cw_seq ?_
          refine cw_block ?_
          refine cw_seq ?_
          try dsimp only [PT, List.eraseIdx] at H68
          refine cw_region rfl ?_
          refine st H68 (mv rfl) ?_
          refine st H68 (mv rfl) ?_
          refine gon rfl rfl rfl ?_
          refine st H68 (mv rfl) ?_
          refine gon rfl rfl rfl ?_
          refine st H68 (lenl Tryz.underlying31 rfl) ?_
          refine gon rfl rfl rfl ?_
          refine st H68 (eqi rfl rfl) ?_
          refine gon rfl rfl rfl ?_
          refine st H68 (mv rfl) ?_
          refine wl_case (t := 51) rfl (fun hg71 => ?_) (fun hg71 => ?_)
          · have hp71 := hg71
            try simp at hp71
            have hl0 : l = [] := List.eq_nil_of_length_eq_zero (by have h0 := of_decide_eq_true hg71; omega)
            have hla : lastB l = false := by rw [hl0]; rfl
            refine goff rfl rfl hg71 ?_
            refine goff rfl rfl hg71 ?_
            refine goff rfl rfl hg71 ?_
            refine goff rfl rfl hg71 ?_
            refine goff rfl rfl hg71 ?_
            refine goff rfl rfl hg71 ?_
            refine goff rfl rfl hg71 ?_
            refine goff rfl rfl hg71 ?_
            refine gon rfl rfl rfl ?_
            refine st H68 (pk_t rfl hg71 rfl) ?_
            refine st H68 (pk_t rfl rfl rfl) ?_
            refine st H68 (asg rfl) ?_
            refine wl_nil ?_
            refine cw_cond_t rfl rfl ?_
            refine cw_goto ?_
            exact ⟨(true, skipS s i, l, A1, c1, f, b7), rfl, ⟨rfl, rfl, rfl, rfl, rfl, rfl, rfl, trivial⟩, ⟨_, _, _, (((H68.fr 2 rfl).fr 2 rfl).fr 2 rfl), by first | omega | (dsimp only; omega), by first | omega | (simp <;> omega), by first | omega | (dsimp only; omega), hx1.trans (lexF_stop hends hla)⟩, by dsimp only; omega⟩
          · have hp71 := hg71
            try simp at hp71
            have hne0 : l.length ≠ 0 := by have h0 := of_decide_eq_false hg71; omega
            obtain ⟨z, hz⟩ : ∃ z, l[l.length - 1]? = some z := ⟨l[l.length - 1]'(by omega), by simp [show l.length - 1 < l.length by omega]⟩
            refine gon rfl rfl hg71 ?_
            refine st H68 (mv rfl) ?_
            refine gon rfl rfl hg71 ?_
            refine st H68 (mv rfl) ?_
            refine gon rfl rfl hg71 ?_
            refine st H68 (lenl Tryz.underlying31 rfl) ?_
            refine gon rfl rfl hg71 ?_
            refine st H68 (sub rfl rfl (by omega) (by omega)) ?_
            refine gon rfl rfl hg71 ?_
            refine st H68 (ixR (l.length - 1) sl31 2 rfl rfl rfl (by omega) (by omega)) ?_
            refine gon rfl rfl hg71 ?_
            refine st H68 (ldR ag38 2 rfl rfl hz) ?_
            refine gon rfl rfl hg71 ?_
            refine st_call cf54 rfl (closing_c z H68) ?_
            rintro _ w73 ⟨rfl, H72⟩
            refine gon rfl rfl hg71 ?_
            refine st H72 (notb rfl) ?_
            refine gon rfl rfl rfl ?_
            refine st H72 (pk_f rfl hg71 rfl) ?_
            refine st H72 (pk_t rfl rfl rfl) ?_
            refine st H72 (asg rfl) ?_
            refine wl_nil ?_
            refine cw_cond rfl (fun hb74 => ?_) (fun hb74 => ?_)
            · have hp74 := hb74
              try simp at hp74
              have hla : lastB l = false := by simp [lastB, hz, hp74]
              refine cw_goto ?_
              exact ⟨(true, skipS s i, l, A1, c1, f, b7), rfl, ⟨rfl, rfl, rfl, rfl, rfl, rfl, rfl, trivial⟩, ⟨_, _, _, (((H72.fr 2 rfl).fr 2 rfl).fr 2 rfl), by first | omega | (dsimp only; omega), by first | omega | (simp <;> omega), by first | omega | (dsimp only; omega), hx1.trans (lexF_stop hends hla)⟩, by dsimp only; omega⟩
            · have hp74 := hb74
              try simp at hp74
              have hla : lastB l = true := by simp [lastB, hz, hp74]
              refine cw_seq ?_
              try dsimp only [PT, List.eraseIdx] at H72
              refine cw_region rfl ?_
              refine st H72 (mv rfl) ?_
              refine st H72 (asg rfl) ?_
              refine wl_nil ?_
              refine cw_cond_t rfl rfl ?_
              try dsimp only [PT, List.eraseIdx] at H72
              refine cw_region rfl ?_
              refine st H72 (bld zc38 pl38 rfl rfl) ?_
              refine st_st 1 H72 rfl rfl rfl sz38 rfl rfl rfl rfl fun w76 H75 => ?_
              refine wl_nil ?_
              refine cw_seq ?_
              refine cw_seq ?_
              try dsimp only [PT, List.eraseIdx] at H75
              refine cw_region rfl ?_
              refine st H75 (mv rfl) ?_
              refine st H75 (eqi rfl rfl) ?_
              refine st H75 (mv rfl) ?_
              refine gon rfl rfl (by decide) ?_
              refine st H75 (mv rfl) ?_
              refine gon rfl rfl (by decide) ?_
              refine st H75 (lenl Tryz.underlying31 rfl) ?_
              refine gon rfl rfl (by decide) ?_
              refine st H75 (eqi rfl rfl) ?_
              refine st H75 (pk_t rfl (by decide) rfl) ?_
              refine wl_nil ?_
              refine cw_cond rfl (fun hb77 => ?_) (fun hb77 => ?_)
              · have hp77 := hb77
                try simp at hp77
                have h1024 : l.length = 1024 := by first | omega | simp
                try dsimp only [PT, List.eraseIdx] at H75
                refine cw_region rfl ?_
                refine st H75 (asg rfl) ?_
                refine wl_nil ?_
                refine cw_seq ?_
                refine cw_seq ?_
                try dsimp only [PT, List.eraseIdx] at H75
                refine cw_region rfl ?_
                refine st H75 (mv rfl) ?_
                refine st H75 (nei rfl rfl) ?_
                refine wl_nil ?_
                refine cw_cond_t rfl (by decide) ?_
                refine cw_seq ?_
                try dsimp only [PT, List.eraseIdx] at H75
                refine cw_region rfl ?_
                refine st H75 (mv rfl) ?_
                refine st H75 (mv rfl) ?_
                refine st H75 (bld zc28 pl28 rfl rfl) ?_
                refine st H75 (asg rfl) ?_
                refine st_st 1 H75 rfl rfl rfl sz28 rfl rfl rfl rfl fun w79 H78 => ?_
                refine wl_nil ?_
                refine cw_ret ?_
                refine ret2 rfl rfl ⟨_, rfl, own_lda H78 0 (vs := [_, _]) rfl ag28 rfl⟩ ?_
                exact Or.inr ⟨3, (skipS s i : Nat), hx1.trans (lexF_long1 hends hla h1024), by first | decide | omega, rfl, (((H78.er 0).er 0).er 0)⟩
              · have hp77 := hb77
                try simp at hp77
                have h1024 : ¬ l.length = 1024 := by first | omega | simp
                refine cw_skip ?_
                refine cw_seq ?_
                refine cw_seq ?_
                try dsimp only [PT, List.eraseIdx] at H75
                refine cw_region rfl ?_
                refine st H75 (mv rfl) ?_
                refine st H75 (nei rfl rfl) ?_
                refine wl_nil ?_
                refine cw_cond_f rfl (by decide) ?_
                refine cw_skip ?_
                refine cw_seq ?_
                try dsimp only [PT, List.eraseIdx] at H75
                refine cw_region rfl ?_
                refine st H75 (mv rfl) ?_
                refine st H75 (fa fo38_2 rfl) ?_
                refine st_st 0 H75 rfl rfl rfl sz3 rfl rfl rfl rfl fun w81 H80 => ?_
                refine wl_nil ?_
                refine cw_seq ?_
                try dsimp only [PT, List.eraseIdx] at H80
                refine cw_region rfl ?_
                refine st H80 (mv rfl) ?_
                refine st H80 (lda ag38 0 rfl rfl rfl rfl) ?_
                refine st_bs H80 sl31 zc38 rfl rfl rfl rfl rfl fun b84 w83 H82 => ?_
                refine st_app 3 0 ([Tk.mk 5 ((⟨#[]⟩ : ByteArray)) ((skipS s i : Nat) : Int)]) H82 sl31 zc38 rfl rfl rfl rfl rfl rfl rfl rfl (by intro y hy; simp at hy; subst hy; exact ⟨rfl, rfl⟩) (by first | omega | (simp <;> omega)) (by first | omega | (simp <;> omega)) fun A87 c88 w86 H85 => ?_
                refine st H85 (asg rfl) ?_
                refine wl_nil ?_
                refine cw_seq ?_
                refine cw_seq ?_
                try dsimp only [PT, List.eraseIdx] at H85
                refine cw_region rfl ?_
                refine st H85 (mv rfl) ?_
                refine st H85 (notb rfl) ?_
                refine wl_nil ?_
                refine cw_cond_f rfl rfl ?_
                refine cw_skip ?_
                refine cw_seq ?_
                refine cw_label ?_
                refine cw_seq ?_
                refine cw_seq ?_
                obtain ⟨F2, hF2⟩ : ∃ k, f = k + 1 := ⟨f - 1, by omega⟩
                have hx2 : lexS s = lexF s (F2 + 1) true (skipS s i) (l ++ [Tk.mk 5 ((⟨#[]⟩ : ByteArray)) ((skipS s i : Nat) : Int)]) := by rw [← hF2]; exact hx1.trans (lexF_end hends hla h1024)
                try dsimp only [PT, List.eraseIdx] at H85
                refine cw_region rfl ?_
                refine st H85 (mv rfl) ?_
                refine st H85 (mv rfl) ?_
                refine st H85 (lens Tryz.underlying9 rfl) ?_
                refine st H85 (lti rfl rfl) ?_
                refine wl_nil ?_
                refine cw_cond rfl (fun hb89 => ?_) (fun hb89 => ?_)
                · have hp89 := hb89
                  try simp at hp89
                  have hlt : skipS s i < s.size := by omega
                  refine cw_seq ?_
                  try dsimp only [PT, List.eraseIdx] at H85
                  refine cw_region rfl ?_
                  refine st H85 (mv rfl) ?_
                  refine st H85 (add rfl rfl (by omega) (by omega)) ?_
                  refine st H85 (asg rfl) ?_
                  refine wl_nil ?_
                  refine cw_goto ?_
                  exact ⟨(false, skipS s i + 1, (l ++ [Tk.mk 5 ((⟨#[]⟩ : ByteArray)) ((skipS s i : Nat) : Int)]), A87, c88, F2, b7), rfl, ⟨rfl, rfl, rfl, rfl, rfl, rfl, rfl, trivial⟩, ⟨_, _, _, (((H85.fr 2 rfl).fr 3 rfl).er 3), by first | omega | (dsimp only; omega), by first | omega | (simp <;> omega), by first | omega | (dsimp only; omega), hx2.trans (lexF_on hlt)⟩, by dsimp only; omega⟩
                · have hp89 := hb89
                  try simp at hp89
                  have hlt : ¬ skipS s i < s.size := by omega
                  refine cw_skip ?_
                  refine cw_seq ?_
                  try dsimp only [PT, List.eraseIdx] at H85
                  refine cw_region rfl ?_
                  refine st H85 (mv rfl) ?_
                  refine st H85 (bld zc28 pl28 rfl rfl) ?_
                  refine st H85 (asg rfl) ?_
                  refine st_st 3 H85 rfl rfl rfl sz28 rfl rfl rfl rfl fun w91 H90 => ?_
                  refine wl_nil ?_
                  refine cw_ret ?_
                  refine ret2 rfl rfl ⟨_, rfl, own_lda H90 0 (vs := [_, _]) rfl ag28 rfl⟩ ?_
                  exact Or.inl ⟨_, _, _, hx2.trans (lexF_ok hlt), rfl, ((((H90.fr 1 rfl).er 1).er 1).er 1)⟩
        · have hp70 := hg70
          try simp at hp70
          have hne : skipS s i < s.size := by omega
          refine gon rfl rfl hg70 ?_
          refine st H68 (mv rfl) ?_
          refine gon rfl rfl hg70 ?_
          refine st H68 (mv rfl) ?_
          refine gon rfl rfl hg70 ?_
          refine st H68 (ixs Tryz.underlying9 rfl rfl (skipS s i) rfl (by omega)) ?_
          refine gon rfl rfl hg70 ?_
          refine st H68 (eqi rfl rfl) ?_
          refine st H68 (pk_f rfl hg70 rfl) ?_
          refine st H68 (asg rfl) ?_
          refine wl_nil ?_
          refine cw_seq ?_
          refine cw_block ?_
          refine cw_seq ?_
          try dsimp only [PT, List.eraseIdx] at H68
          refine cw_region rfl ?_
          refine st H68 (mv rfl) ?_
          refine st H68 (mv rfl) ?_
          refine wl_case (t := 47) rfl (fun hg92 => ?_) (fun hg92 => ?_)
          · have hp92 := hg92
            try simp at hp92
            have hends : endsB s (skipS s i) = true := by simp [endsB, hp92]
            refine gon rfl rfl hg92 ?_
            refine st H68 (mv rfl) ?_
            refine gon rfl rfl hg92 ?_
            refine st H68 (lenl Tryz.underlying31 rfl) ?_
            refine gon rfl rfl hg92 ?_
            refine st H68 (eqi rfl rfl) ?_
            refine gon rfl rfl hg92 ?_
            refine st H68 (mv rfl) ?_
            refine wl_case (t := 51) rfl (fun hg93 => ?_) (fun hg93 => ?_)
            · have hp93 := hg93
              try simp at hp93
              have hl0 : l = [] := List.eq_nil_of_length_eq_zero (by have h0 := of_decide_eq_true hg93; omega)
              have hla : lastB l = false := by rw [hl0]; rfl
              refine goff rfl rfl hg93 ?_
              refine goff rfl rfl hg93 ?_
              refine goff rfl rfl hg93 ?_
              refine goff rfl rfl hg93 ?_
              refine goff rfl rfl hg93 ?_
              refine goff rfl rfl hg93 ?_
              refine goff rfl rfl hg93 ?_
              refine goff rfl rfl hg93 ?_
              refine gon rfl rfl hg92 ?_
              refine st H68 (pk_t rfl hg93 rfl) ?_
              refine st H68 (pk_t rfl hg92 rfl) ?_
              refine st H68 (asg rfl) ?_
              refine wl_nil ?_
              refine cw_cond_t rfl rfl ?_
              refine cw_goto ?_
              exact ⟨(true, skipS s i, l, A1, c1, f, b7), rfl, ⟨rfl, rfl, rfl, rfl, rfl, rfl, rfl, trivial⟩, ⟨_, _, _, (((H68.fr 2 rfl).fr 2 rfl).fr 2 rfl), by first | omega | (dsimp only; omega), by first | omega | (simp <;> omega), by first | omega | (dsimp only; omega), hx1.trans (lexF_stop hends hla)⟩, by dsimp only; omega⟩
            · have hp93 := hg93
              try simp at hp93
              have hne0 : l.length ≠ 0 := by have h0 := of_decide_eq_false hg93; omega
              obtain ⟨z, hz⟩ : ∃ z, l[l.length - 1]? = some z := ⟨l[l.length - 1]'(by omega), by simp [show l.length - 1 < l.length by omega]⟩
              refine gon rfl rfl hg93 ?_
              refine st H68 (mv rfl) ?_
              refine gon rfl rfl hg93 ?_
              refine st H68 (mv rfl) ?_
              refine gon rfl rfl hg93 ?_
              refine st H68 (lenl Tryz.underlying31 rfl) ?_
              refine gon rfl rfl hg93 ?_
              refine st H68 (sub rfl rfl (by omega) (by omega)) ?_
              refine gon rfl rfl hg93 ?_
              refine st H68 (ixR (l.length - 1) sl31 2 rfl rfl rfl (by omega) (by omega)) ?_
              refine gon rfl rfl hg93 ?_
              refine st H68 (ldR ag38 2 rfl rfl hz) ?_
              refine gon rfl rfl hg93 ?_
              refine st_call cf54 rfl (closing_c z H68) ?_
              rintro _ w95 ⟨rfl, H94⟩
              refine gon rfl rfl hg93 ?_
              refine st H94 (notb rfl) ?_
              refine gon rfl rfl hg92 ?_
              refine st H94 (pk_f rfl hg93 rfl) ?_
              refine st H94 (pk_t rfl hg92 rfl) ?_
              refine st H94 (asg rfl) ?_
              refine wl_nil ?_
              refine cw_cond rfl (fun hb96 => ?_) (fun hb96 => ?_)
              · have hp96 := hb96
                try simp at hp96
                have hla : lastB l = false := by simp [lastB, hz, hp96]
                refine cw_goto ?_
                exact ⟨(true, skipS s i, l, A1, c1, f, b7), rfl, ⟨rfl, rfl, rfl, rfl, rfl, rfl, rfl, trivial⟩, ⟨_, _, _, (((H94.fr 2 rfl).fr 2 rfl).fr 2 rfl), by first | omega | (dsimp only; omega), by first | omega | (simp <;> omega), by first | omega | (dsimp only; omega), hx1.trans (lexF_stop hends hla)⟩, by dsimp only; omega⟩
              · have hp96 := hb96
                try simp at hp96
                have hla : lastB l = true := by simp [lastB, hz, hp96]
                refine cw_seq ?_
                try dsimp only [PT, List.eraseIdx] at H94
                refine cw_region rfl ?_
                refine st H94 (mv rfl) ?_
                refine st H94 (asg rfl) ?_
                refine wl_nil ?_
                refine cw_cond_t rfl hg92 ?_
                try dsimp only [PT, List.eraseIdx] at H94
                refine cw_region rfl ?_
                refine st H94 (bld zc38 pl38 rfl rfl) ?_
                refine st_st 1 H94 rfl rfl rfl sz38 rfl rfl rfl rfl fun w98 H97 => ?_
                refine wl_nil ?_
                refine cw_seq ?_
                refine cw_seq ?_
                try dsimp only [PT, List.eraseIdx] at H97
                refine cw_region rfl ?_
                refine st H97 (mv rfl) ?_
                refine st H97 (eqi rfl rfl) ?_
                refine st H97 (mv rfl) ?_
                refine gon rfl rfl (by decide) ?_
                refine st H97 (mv rfl) ?_
                refine gon rfl rfl (by decide) ?_
                refine st H97 (lenl Tryz.underlying31 rfl) ?_
                refine gon rfl rfl (by decide) ?_
                refine st H97 (eqi rfl rfl) ?_
                refine st H97 (pk_t rfl (by decide) rfl) ?_
                refine wl_nil ?_
                refine cw_cond rfl (fun hb99 => ?_) (fun hb99 => ?_)
                · have hp99 := hb99
                  try simp at hp99
                  have h1024 : l.length = 1024 := by first | omega | simp
                  try dsimp only [PT, List.eraseIdx] at H97
                  refine cw_region rfl ?_
                  refine st H97 (asg rfl) ?_
                  refine wl_nil ?_
                  refine cw_seq ?_
                  refine cw_seq ?_
                  try dsimp only [PT, List.eraseIdx] at H97
                  refine cw_region rfl ?_
                  refine st H97 (mv rfl) ?_
                  refine st H97 (nei rfl rfl) ?_
                  refine wl_nil ?_
                  refine cw_cond_t rfl (by decide) ?_
                  refine cw_seq ?_
                  try dsimp only [PT, List.eraseIdx] at H97
                  refine cw_region rfl ?_
                  refine st H97 (mv rfl) ?_
                  refine st H97 (mv rfl) ?_
                  refine st H97 (bld zc28 pl28 rfl rfl) ?_
                  refine st H97 (asg rfl) ?_
                  refine st_st 1 H97 rfl rfl rfl sz28 rfl rfl rfl rfl fun w101 H100 => ?_
                  refine wl_nil ?_
                  refine cw_ret ?_
                  refine ret2 rfl rfl ⟨_, rfl, own_lda H100 0 (vs := [_, _]) rfl ag28 rfl⟩ ?_
                  exact Or.inr ⟨3, (skipS s i : Nat), hx1.trans (lexF_long1 hends hla h1024), by first | decide | omega, rfl, (((H100.er 0).er 0).er 0)⟩
                · have hp99 := hb99
                  try simp at hp99
                  have h1024 : ¬ l.length = 1024 := by first | omega | simp
                  refine cw_skip ?_
                  refine cw_seq ?_
                  refine cw_seq ?_
                  try dsimp only [PT, List.eraseIdx] at H97
                  refine cw_region rfl ?_
                  refine st H97 (mv rfl) ?_
                  refine st H97 (nei rfl rfl) ?_
                  refine wl_nil ?_
                  refine cw_cond_f rfl (by decide) ?_
                  refine cw_skip ?_
                  refine cw_seq ?_
                  try dsimp only [PT, List.eraseIdx] at H97
                  refine cw_region rfl ?_
                  refine st H97 (mv rfl) ?_
                  refine st H97 (fa fo38_2 rfl) ?_
                  refine st_st 0 H97 rfl rfl rfl sz3 rfl rfl rfl rfl fun w103 H102 => ?_
                  refine wl_nil ?_
                  refine cw_seq ?_
                  try dsimp only [PT, List.eraseIdx] at H102
                  refine cw_region rfl ?_
                  refine st H102 (mv rfl) ?_
                  refine st H102 (lda ag38 0 rfl rfl rfl rfl) ?_
                  refine st_bs H102 sl31 zc38 rfl rfl rfl rfl rfl fun b106 w105 H104 => ?_
                  refine st_app 3 0 ([Tk.mk 5 ((⟨#[]⟩ : ByteArray)) ((skipS s i : Nat) : Int)]) H104 sl31 zc38 rfl rfl rfl rfl rfl rfl rfl rfl (by intro y hy; simp at hy; subst hy; exact ⟨rfl, rfl⟩) (by first | omega | (simp <;> omega)) (by first | omega | (simp <;> omega)) fun A109 c110 w108 H107 => ?_
                  refine st H107 (asg rfl) ?_
                  refine wl_nil ?_
                  refine cw_seq ?_
                  refine cw_seq ?_
                  try dsimp only [PT, List.eraseIdx] at H107
                  refine cw_region rfl ?_
                  refine st H107 (mv rfl) ?_
                  refine st H107 (notb rfl) ?_
                  refine wl_nil ?_
                  refine cw_cond_f rfl (by rw [hg92]; rfl) ?_
                  refine cw_skip ?_
                  refine cw_seq ?_
                  refine cw_label ?_
                  refine cw_seq ?_
                  refine cw_seq ?_
                  obtain ⟨F2, hF2⟩ : ∃ k, f = k + 1 := ⟨f - 1, by omega⟩
                  have hx2 : lexS s = lexF s (F2 + 1) true (skipS s i) (l ++ [Tk.mk 5 ((⟨#[]⟩ : ByteArray)) ((skipS s i : Nat) : Int)]) := by rw [← hF2]; exact hx1.trans (lexF_end hends hla h1024)
                  try dsimp only [PT, List.eraseIdx] at H107
                  refine cw_region rfl ?_
                  refine st H107 (mv rfl) ?_
                  refine st H107 (mv rfl) ?_
                  refine st H107 (lens Tryz.underlying9 rfl) ?_
                  refine st H107 (lti rfl rfl) ?_
                  refine wl_nil ?_
                  refine cw_cond rfl (fun hb111 => ?_) (fun hb111 => ?_)
                  · have hp111 := hb111
                    try simp at hp111
                    have hlt : skipS s i < s.size := by omega
                    refine cw_seq ?_
                    try dsimp only [PT, List.eraseIdx] at H107
                    refine cw_region rfl ?_
                    refine st H107 (mv rfl) ?_
                    refine st H107 (add rfl rfl (by omega) (by omega)) ?_
                    refine st H107 (asg rfl) ?_
                    refine wl_nil ?_
                    refine cw_goto ?_
                    exact ⟨(false, skipS s i + 1, (l ++ [Tk.mk 5 ((⟨#[]⟩ : ByteArray)) ((skipS s i : Nat) : Int)]), A109, c110, F2, b7), rfl, ⟨rfl, rfl, rfl, rfl, rfl, rfl, rfl, trivial⟩, ⟨_, _, _, (((H107.fr 2 rfl).fr 3 rfl).er 3), by first | omega | (dsimp only; omega), by first | omega | (simp <;> omega), by first | omega | (dsimp only; omega), hx2.trans (lexF_on hlt)⟩, by dsimp only; omega⟩
                  · have hp111 := hb111
                    try simp at hp111
                    have hlt : ¬ skipS s i < s.size := by omega
                    refine cw_skip ?_
                    refine cw_seq ?_
                    try dsimp only [PT, List.eraseIdx] at H107
                    refine cw_region rfl ?_
                    refine st H107 (mv rfl) ?_
                    refine st H107 (bld zc28 pl28 rfl rfl) ?_
                    refine st H107 (asg rfl) ?_
                    refine st_st 3 H107 rfl rfl rfl sz28 rfl rfl rfl rfl fun w113 H112 => ?_
                    refine wl_nil ?_
                    refine cw_ret ?_
                    refine ret2 rfl rfl ⟨_, rfl, own_lda H112 0 (vs := [_, _]) rfl ag28 rfl⟩ ?_
                    exact Or.inl ⟨_, _, _, hx2.trans (lexF_ok hlt), rfl, ((((H112.fr 1 rfl).er 1).er 1).er 1)⟩
          · have hp92 := hg92
            try simp at hp92
            have hends : endsB s (skipS s i) = false := by simp [endsB, hp92]; omega
            refine goff rfl rfl hg92 ?_
            refine goff rfl rfl hg92 ?_
            refine goff rfl rfl hg92 ?_
            refine goff rfl rfl hg92 ?_
            refine goffu rfl rfl ?_
            refine goffu rfl rfl ?_
            refine goffu rfl rfl ?_
            refine goffu rfl rfl ?_
            refine goffu rfl rfl ?_
            refine goffu rfl rfl ?_
            refine goffu rfl rfl ?_
            refine goffu rfl rfl ?_
            refine goff rfl rfl hg92 ?_
            refine st H68 (pk_f rfl hg92 rfl) ?_
            refine st H68 (asg rfl) ?_
            refine wl_nil ?_
            refine cw_cond_f rfl rfl ?_
            refine cw_seq ?_
            try dsimp only [PT, List.eraseIdx] at H68
            refine cw_region rfl ?_
            refine st H68 (mv rfl) ?_
            refine st H68 (asg rfl) ?_
            refine wl_nil ?_
            refine cw_cond_f rfl hg92 ?_
            try dsimp only [PT, List.eraseIdx] at H68
            refine cw_region rfl ?_
            refine st H68 (mv rfl) ?_
            refine st H68 (mv rfl) ?_
            refine st H68 (slsf Tryz.underlying9 rfl rfl (skipS s i) rfl (by omega)) ?_
            refine st_call cf55 rfl (token_c (s.extract (skipS s i) s.size) H68 (by rw [ext_from (by omega)]; omega) (by rw [ext_from (by omega)]; omega)) ?_
            rintro e w115 hpH114
            rcases hpH114 with ⟨k3, n3, ht3, hn3, hm3, rfl, H114⟩ | ⟨er3, ht3, he3, rfl, H114⟩
            · refine st H114 (mv rfl) ?_
              refine st H114 (ext rfl rfl) ?_
              refine st H114 (ext rfl rfl) ?_
              refine st_st 1 H114 rfl rfl rfl sz38 rfl rfl rfl rfl fun w117 H116 => ?_
              refine st H116 (asg rfl) ?_
              refine wl_nil ?_
              refine cw_seq ?_
              refine cw_seq ?_
              try dsimp only [PT, List.eraseIdx] at H116
              refine cw_region rfl ?_
              refine st H116 (mv rfl) ?_
              refine st H116 (eqi rfl rfl) ?_
              refine st H116 (mv rfl) ?_
              refine gon rfl rfl (by decide) ?_
              refine st H116 (mv rfl) ?_
              refine gon rfl rfl (by decide) ?_
              refine st H116 (lenl Tryz.underlying31 rfl) ?_
              refine gon rfl rfl (by decide) ?_
              refine st H116 (eqi rfl rfl) ?_
              refine st H116 (pk_t rfl (by decide) rfl) ?_
              refine wl_nil ?_
              refine cw_cond rfl (fun hb118 => ?_) (fun hb118 => ?_)
              · have hp118 := hb118
                try simp at hp118
                have h1024 : l.length = 1024 := by first | omega | simp
                try dsimp only [PT, List.eraseIdx] at H116
                refine cw_region rfl ?_
                refine st H116 (asg rfl) ?_
                refine wl_nil ?_
                refine cw_seq ?_
                refine cw_seq ?_
                try dsimp only [PT, List.eraseIdx] at H116
                refine cw_region rfl ?_
                refine st H116 (mv rfl) ?_
                refine st H116 (nei rfl rfl) ?_
                refine wl_nil ?_
                refine cw_cond_t rfl (by decide) ?_
                refine cw_seq ?_
                try dsimp only [PT, List.eraseIdx] at H116
                refine cw_region rfl ?_
                refine st H116 (mv rfl) ?_
                refine st H116 (mv rfl) ?_
                refine st H116 (bld zc28 pl28 rfl rfl) ?_
                refine st H116 (asg rfl) ?_
                refine st_st 1 H116 rfl rfl rfl sz28 rfl rfl rfl rfl fun w120 H119 => ?_
                refine wl_nil ?_
                refine cw_ret ?_
                refine ret2 rfl rfl ⟨_, rfl, own_lda H119 0 (vs := [_, _]) rfl ag28 rfl⟩ ?_
                exact Or.inr ⟨3, (skipS s i : Nat), hx1.trans (lexF_long2 hends ht3 h1024), by first | decide | omega, rfl, (((H119.er 0).er 0).er 0)⟩
              · have hp118 := hb118
                try simp at hp118
                have h1024 : ¬ l.length = 1024 := by first | omega | simp
                refine cw_skip ?_
                refine cw_seq ?_
                refine cw_seq ?_
                try dsimp only [PT, List.eraseIdx] at H116
                refine cw_region rfl ?_
                refine st H116 (mv rfl) ?_
                refine st H116 (nei rfl rfl) ?_
                refine wl_nil ?_
                refine cw_cond_f rfl (by decide) ?_
                refine cw_skip ?_
                refine cw_seq ?_
                have hts : ((s.extract (skipS s i) s.size).extract 0 n3).size = n3 := ext_size (by assumption)
                have hex := ext_from (s := s) (i := skipS s i) (by omega)
                try dsimp only [PT, List.eraseIdx] at H116
                refine cw_region rfl ?_
                refine st H116 (mv rfl) ?_
                refine st H116 (fa fo38_2 rfl) ?_
                refine st_st 0 H116 rfl rfl rfl sz3 rfl rfl rfl rfl fun w122 H121 => ?_
                refine wl_nil ?_
                refine cw_seq ?_
                try dsimp only [PT, List.eraseIdx] at H121
                refine cw_region rfl ?_
                refine st H121 (mv rfl) ?_
                refine st H121 (lda ag38 0 rfl rfl rfl rfl) ?_
                refine st_bs H121 sl31 zc38 rfl rfl rfl rfl rfl fun b125 w124 H123 => ?_
                refine st_app 3 0 ([Tk.mk k3 ((s.extract (skipS s i) s.size).extract 0 n3) ((skipS s i : Nat) : Int)]) H123 sl31 zc38 rfl rfl rfl rfl rfl rfl rfl rfl (by intro y hy; simp at hy; subst hy; exact ⟨rfl, rfl⟩) (by first | omega | (simp <;> omega)) (by first | omega | (simp <;> omega)) fun A128 c129 w127 H126 => ?_
                refine st H126 (asg rfl) ?_
                refine wl_nil ?_
                refine cw_seq ?_
                refine cw_seq ?_
                try dsimp only [PT, List.eraseIdx] at H126
                refine cw_region rfl ?_
                refine st H126 (mv rfl) ?_
                refine st H126 (notb rfl) ?_
                refine wl_nil ?_
                refine cw_cond_t rfl (by rw [hg92]; rfl) ?_
                refine cw_seq ?_
                try dsimp only [PT, List.eraseIdx] at H126
                refine cw_region rfl ?_
                refine st H126 (mv rfl) ?_
                refine st H126 (fa fo38_1 rfl) ?_
                refine st H126 (ld sc9 2 rfl rfl rfl) ?_
                refine st H126 (lens Tryz.underlying9 rfl) ?_
                refine st H126 (add rfl rfl (by omega) (by omega)) ?_
                refine st H126 (asg rfl) ?_
                refine wl_nil ?_
                refine cw_goto ?_
                exact ⟨(false, skipS s i + ((s.extract (skipS s i) s.size).extract 0 n3).size, (l ++ [Tk.mk k3 ((s.extract (skipS s i) s.size).extract 0 n3) ((skipS s i : Nat) : Int)]), A128, c129, f, b7), rfl, ⟨rfl, rfl, rfl, rfl, rfl, rfl, rfl, trivial⟩, ⟨_, _, _, (((H126.fr 2 rfl).fr 3 rfl).er 3), by first | omega | (dsimp only; omega), by first | omega | (simp <;> omega), by first | omega | (dsimp only; omega), hx1.trans (lexF_tok hends ht3 h1024)⟩, by dsimp only; omega⟩
            · refine st H114 (mv rfl) ?_
              refine st H114 (ext rfl rfl) ?_
              refine st H114 (ext rfl rfl) ?_
              refine st_st 1 H114 rfl rfl rfl sz38 rfl rfl rfl rfl fun w131 H130 => ?_
              refine st H130 (asg rfl) ?_
              refine wl_nil ?_
              refine cw_seq ?_
              refine cw_seq ?_
              try dsimp only [PT, List.eraseIdx] at H130
              refine cw_region rfl ?_
              refine st H130 (mv rfl) ?_
              refine st H130 (eqi rfl rfl) ?_
              refine st H130 (mv rfl) ?_
              refine wl_case (t := 67) rfl (fun hg132 => ?_) (fun hg132 => ?_)
              · have h0 := of_decide_eq_true hg132
                omega
              · have hp132 := hg132
                try simp at hp132
                refine goff rfl rfl hg132 ?_
                refine goff rfl rfl hg132 ?_
                refine goff rfl rfl hg132 ?_
                refine st H130 (pk_f rfl hg132 rfl) ?_
                refine wl_nil ?_
                refine cw_cond_f rfl rfl ?_
                refine cw_skip ?_
                refine cw_seq ?_
                refine cw_seq ?_
                try dsimp only [PT, List.eraseIdx] at H130
                refine cw_region rfl ?_
                refine st H130 (mv rfl) ?_
                refine st H130 (nei rfl rfl) ?_
                refine wl_nil ?_
                refine cw_cond rfl (fun hb133 => ?_) (fun hb133 => ?_)
                · have hp133 := hb133
                  try simp at hp133
                  refine cw_seq ?_
                  try dsimp only [PT, List.eraseIdx] at H130
                  refine cw_region rfl ?_
                  refine st H130 (mv rfl) ?_
                  refine st H130 (mv rfl) ?_
                  refine st H130 (bld zc28 pl28 rfl rfl) ?_
                  refine st H130 (asg rfl) ?_
                  refine st_st 1 H130 rfl rfl rfl sz28 rfl rfl rfl rfl fun w135 H134 => ?_
                  refine wl_nil ?_
                  refine cw_ret ?_
                  refine ret2 rfl rfl ⟨_, rfl, own_lda H134 0 (vs := [_, _]) rfl ag28 rfl⟩ ?_
                  exact Or.inr ⟨er3, (skipS s i : Nat), hx1.trans (lexF_er hends ht3), by first | decide | omega, rfl, (((H134.er 0).er 0).er 0)⟩
                · have h0 := of_decide_eq_false hb133
                  omega
      · have hp67 := hb67
        try simp at hp67
        have hsl : slashB s (i + runS blankB s i) = false := by rw [← prefix_slash (by omega)]; exact hb67
        have hse : skipS s i = i + runS blankB s i := by rw [skipS, if_neg (by rw [hsl]; decide)]
        refine cw_skip ?_
        refine cw_seq ?_
        refine cw_sub (E0 := [(0, .string s), (2, .slice none 0 0), (3, .pointer (some ⟨b3, 0, none⟩)), (4, .slice A1 l.length c1), (5, .int .i64 (skipS s i : Nat)), (6, .int .i64 0), (7, .pointer (some ⟨b7, 0, none⟩))]) ⟨rfl, rfl, rfl, rfl, congrArg (fun z => some (Value.int .i64 z)) (by omega), rfl, rfl, trivial⟩ ?_
        try dsimp only [PT, List.eraseIdx] at H65
        refine cw_region rfl ?_
        refine st H65 (mv rfl) ?_
        refine st H65 (mv rfl) ?_
        refine st H65 (lens Tryz.underlying9 rfl) ?_
        refine st H65 (eqi rfl rfl) ?_
        refine st H65 (mv rfl) ?_
        refine wl_case (t := 32) rfl (fun hg136 => ?_) (fun hg136 => ?_)
        · have hp136 := hg136
          try simp at hp136
          have hends : endsB s (skipS s i) = true := by simp [endsB, show skipS s i = s.size by omega]
          refine goff rfl rfl hg136 ?_
          refine goff rfl rfl hg136 ?_
          refine goff rfl rfl hg136 ?_
          refine goff rfl rfl hg136 ?_
          refine st H65 (pk_t rfl hg136 rfl) ?_
          refine st H65 (asg rfl) ?_
          refine wl_nil ?_
          refine cw_seq ?_
          refine cw_block ?_
          refine cw_seq ?_
          try dsimp only [PT, List.eraseIdx] at H65
          refine cw_region rfl ?_
          refine st H65 (mv rfl) ?_
          refine st H65 (mv rfl) ?_
          refine gon rfl rfl rfl ?_
          refine st H65 (mv rfl) ?_
          refine gon rfl rfl rfl ?_
          refine st H65 (lenl Tryz.underlying31 rfl) ?_
          refine gon rfl rfl rfl ?_
          refine st H65 (eqi rfl rfl) ?_
          refine gon rfl rfl rfl ?_
          refine st H65 (mv rfl) ?_
          refine wl_case (t := 51) rfl (fun hg137 => ?_) (fun hg137 => ?_)
          · have hp137 := hg137
            try simp at hp137
            have hl0 : l = [] := List.eq_nil_of_length_eq_zero (by have h0 := of_decide_eq_true hg137; omega)
            have hla : lastB l = false := by rw [hl0]; rfl
            refine goff rfl rfl hg137 ?_
            refine goff rfl rfl hg137 ?_
            refine goff rfl rfl hg137 ?_
            refine goff rfl rfl hg137 ?_
            refine goff rfl rfl hg137 ?_
            refine goff rfl rfl hg137 ?_
            refine goff rfl rfl hg137 ?_
            refine goff rfl rfl hg137 ?_
            refine gon rfl rfl rfl ?_
            refine st H65 (pk_t rfl hg137 rfl) ?_
            refine st H65 (pk_t rfl rfl rfl) ?_
            refine st H65 (asg rfl) ?_
            refine wl_nil ?_
            refine cw_cond_t rfl rfl ?_
            refine cw_goto ?_
            exact ⟨(true, skipS s i, l, A1, c1, f, b7), rfl, ⟨rfl, rfl, rfl, rfl, rfl, rfl, rfl, trivial⟩, ⟨_, _, _, (((H65.fr 2 rfl).fr 2 rfl).fr 2 rfl), by first | omega | (dsimp only; omega), by first | omega | (simp <;> omega), by first | omega | (dsimp only; omega), hx1.trans (lexF_stop hends hla)⟩, by dsimp only; omega⟩
          · have hp137 := hg137
            try simp at hp137
            have hne0 : l.length ≠ 0 := by have h0 := of_decide_eq_false hg137; omega
            obtain ⟨z, hz⟩ : ∃ z, l[l.length - 1]? = some z := ⟨l[l.length - 1]'(by omega), by simp [show l.length - 1 < l.length by omega]⟩
            refine gon rfl rfl hg137 ?_
            refine st H65 (mv rfl) ?_
            refine gon rfl rfl hg137 ?_
            refine st H65 (mv rfl) ?_
            refine gon rfl rfl hg137 ?_
            refine st H65 (lenl Tryz.underlying31 rfl) ?_
            refine gon rfl rfl hg137 ?_
            refine st H65 (sub rfl rfl (by omega) (by omega)) ?_
            refine gon rfl rfl hg137 ?_
            refine st H65 (ixR (l.length - 1) sl31 2 rfl rfl rfl (by omega) (by omega)) ?_
            refine gon rfl rfl hg137 ?_
            refine st H65 (ldR ag38 2 rfl rfl hz) ?_
            refine gon rfl rfl hg137 ?_
            refine st_call cf54 rfl (closing_c z H65) ?_
            rintro _ w139 ⟨rfl, H138⟩
            refine gon rfl rfl hg137 ?_
            refine st H138 (notb rfl) ?_
            refine gon rfl rfl rfl ?_
            refine st H138 (pk_f rfl hg137 rfl) ?_
            refine st H138 (pk_t rfl rfl rfl) ?_
            refine st H138 (asg rfl) ?_
            refine wl_nil ?_
            refine cw_cond rfl (fun hb140 => ?_) (fun hb140 => ?_)
            · have hp140 := hb140
              try simp at hp140
              have hla : lastB l = false := by simp [lastB, hz, hp140]
              refine cw_goto ?_
              exact ⟨(true, skipS s i, l, A1, c1, f, b7), rfl, ⟨rfl, rfl, rfl, rfl, rfl, rfl, rfl, trivial⟩, ⟨_, _, _, (((H138.fr 2 rfl).fr 2 rfl).fr 2 rfl), by first | omega | (dsimp only; omega), by first | omega | (simp <;> omega), by first | omega | (dsimp only; omega), hx1.trans (lexF_stop hends hla)⟩, by dsimp only; omega⟩
            · have hp140 := hb140
              try simp at hp140
              have hla : lastB l = true := by simp [lastB, hz, hp140]
              refine cw_seq ?_
              try dsimp only [PT, List.eraseIdx] at H138
              refine cw_region rfl ?_
              refine st H138 (mv rfl) ?_
              refine st H138 (asg rfl) ?_
              refine wl_nil ?_
              refine cw_cond_t rfl rfl ?_
              try dsimp only [PT, List.eraseIdx] at H138
              refine cw_region rfl ?_
              refine st H138 (bld zc38 pl38 rfl rfl) ?_
              refine st_st 1 H138 rfl rfl rfl sz38 rfl rfl rfl rfl fun w142 H141 => ?_
              refine wl_nil ?_
              refine cw_seq ?_
              refine cw_seq ?_
              try dsimp only [PT, List.eraseIdx] at H141
              refine cw_region rfl ?_
              refine st H141 (mv rfl) ?_
              refine st H141 (eqi rfl rfl) ?_
              refine st H141 (mv rfl) ?_
              refine gon rfl rfl (by decide) ?_
              refine st H141 (mv rfl) ?_
              refine gon rfl rfl (by decide) ?_
              refine st H141 (lenl Tryz.underlying31 rfl) ?_
              refine gon rfl rfl (by decide) ?_
              refine st H141 (eqi rfl rfl) ?_
              refine st H141 (pk_t rfl (by decide) rfl) ?_
              refine wl_nil ?_
              refine cw_cond rfl (fun hb143 => ?_) (fun hb143 => ?_)
              · have hp143 := hb143
                try simp at hp143
                have h1024 : l.length = 1024 := by first | omega | simp
                try dsimp only [PT, List.eraseIdx] at H141
                refine cw_region rfl ?_
                refine st H141 (asg rfl) ?_
                refine wl_nil ?_
                refine cw_seq ?_
                refine cw_seq ?_
                try dsimp only [PT, List.eraseIdx] at H141
                refine cw_region rfl ?_
                refine st H141 (mv rfl) ?_
                refine st H141 (nei rfl rfl) ?_
                refine wl_nil ?_
                refine cw_cond_t rfl (by decide) ?_
                refine cw_seq ?_
                try dsimp only [PT, List.eraseIdx] at H141
                refine cw_region rfl ?_
                refine st H141 (mv rfl) ?_
                refine st H141 (mv rfl) ?_
                refine st H141 (bld zc28 pl28 rfl rfl) ?_
                refine st H141 (asg rfl) ?_
                refine st_st 1 H141 rfl rfl rfl sz28 rfl rfl rfl rfl fun w145 H144 => ?_
                refine wl_nil ?_
                refine cw_ret ?_
                refine ret2 rfl rfl ⟨_, rfl, own_lda H144 0 (vs := [_, _]) rfl ag28 rfl⟩ ?_
                exact Or.inr ⟨3, (skipS s i : Nat), hx1.trans (lexF_long1 hends hla h1024), by first | decide | omega, rfl, (((H144.er 0).er 0).er 0)⟩
              · have hp143 := hb143
                try simp at hp143
                have h1024 : ¬ l.length = 1024 := by first | omega | simp
                refine cw_skip ?_
                refine cw_seq ?_
                refine cw_seq ?_
                try dsimp only [PT, List.eraseIdx] at H141
                refine cw_region rfl ?_
                refine st H141 (mv rfl) ?_
                refine st H141 (nei rfl rfl) ?_
                refine wl_nil ?_
                refine cw_cond_f rfl (by decide) ?_
                refine cw_skip ?_
                refine cw_seq ?_
                try dsimp only [PT, List.eraseIdx] at H141
                refine cw_region rfl ?_
                refine st H141 (mv rfl) ?_
                refine st H141 (fa fo38_2 rfl) ?_
                refine st_st 0 H141 rfl rfl rfl sz3 rfl rfl rfl rfl fun w147 H146 => ?_
                refine wl_nil ?_
                refine cw_seq ?_
                try dsimp only [PT, List.eraseIdx] at H146
                refine cw_region rfl ?_
                refine st H146 (mv rfl) ?_
                refine st H146 (lda ag38 0 rfl rfl rfl rfl) ?_
                refine st_bs H146 sl31 zc38 rfl rfl rfl rfl rfl fun b150 w149 H148 => ?_
                refine st_app 3 0 ([Tk.mk 5 ((⟨#[]⟩ : ByteArray)) ((skipS s i : Nat) : Int)]) H148 sl31 zc38 rfl rfl rfl rfl rfl rfl rfl rfl (by intro y hy; simp at hy; subst hy; exact ⟨rfl, rfl⟩) (by first | omega | (simp <;> omega)) (by first | omega | (simp <;> omega)) fun A153 c154 w152 H151 => ?_
                refine st H151 (asg rfl) ?_
                refine wl_nil ?_
                refine cw_seq ?_
                refine cw_seq ?_
                try dsimp only [PT, List.eraseIdx] at H151
                refine cw_region rfl ?_
                refine st H151 (mv rfl) ?_
                refine st H151 (notb rfl) ?_
                refine wl_nil ?_
                refine cw_cond_f rfl rfl ?_
                refine cw_skip ?_
                refine cw_seq ?_
                refine cw_label ?_
                refine cw_seq ?_
                refine cw_seq ?_
                obtain ⟨F2, hF2⟩ : ∃ k, f = k + 1 := ⟨f - 1, by omega⟩
                have hx2 : lexS s = lexF s (F2 + 1) true (skipS s i) (l ++ [Tk.mk 5 ((⟨#[]⟩ : ByteArray)) ((skipS s i : Nat) : Int)]) := by rw [← hF2]; exact hx1.trans (lexF_end hends hla h1024)
                try dsimp only [PT, List.eraseIdx] at H151
                refine cw_region rfl ?_
                refine st H151 (mv rfl) ?_
                refine st H151 (mv rfl) ?_
                refine st H151 (lens Tryz.underlying9 rfl) ?_
                refine st H151 (lti rfl rfl) ?_
                refine wl_nil ?_
                refine cw_cond rfl (fun hb155 => ?_) (fun hb155 => ?_)
                · have hp155 := hb155
                  try simp at hp155
                  have hlt : skipS s i < s.size := by omega
                  refine cw_seq ?_
                  try dsimp only [PT, List.eraseIdx] at H151
                  refine cw_region rfl ?_
                  refine st H151 (mv rfl) ?_
                  refine st H151 (add rfl rfl (by omega) (by omega)) ?_
                  refine st H151 (asg rfl) ?_
                  refine wl_nil ?_
                  refine cw_goto ?_
                  exact ⟨(false, skipS s i + 1, (l ++ [Tk.mk 5 ((⟨#[]⟩ : ByteArray)) ((skipS s i : Nat) : Int)]), A153, c154, F2, b7), rfl, ⟨rfl, rfl, rfl, rfl, rfl, rfl, rfl, trivial⟩, ⟨_, _, _, (((H151.fr 2 rfl).fr 3 rfl).er 3), by first | omega | (dsimp only; omega), by first | omega | (simp <;> omega), by first | omega | (dsimp only; omega), hx2.trans (lexF_on hlt)⟩, by dsimp only; omega⟩
                · have hp155 := hb155
                  try simp at hp155
                  have hlt : ¬ skipS s i < s.size := by omega
                  refine cw_skip ?_
                  refine cw_seq ?_
                  try dsimp only [PT, List.eraseIdx] at H151
                  refine cw_region rfl ?_
                  refine st H151 (mv rfl) ?_
                  refine st H151 (bld zc28 pl28 rfl rfl) ?_
                  refine st H151 (asg rfl) ?_
                  refine st_st 3 H151 rfl rfl rfl sz28 rfl rfl rfl rfl fun w157 H156 => ?_
                  refine wl_nil ?_
                  refine cw_ret ?_
                  refine ret2 rfl rfl ⟨_, rfl, own_lda H156 0 (vs := [_, _]) rfl ag28 rfl⟩ ?_
                  exact Or.inl ⟨_, _, _, hx2.trans (lexF_ok hlt), rfl, ((((H156.fr 1 rfl).er 1).er 1).er 1)⟩
        · have hp136 := hg136
          try simp at hp136
          have hne : skipS s i < s.size := by omega
          refine gon rfl rfl hg136 ?_
          refine st H65 (mv rfl) ?_
          refine gon rfl rfl hg136 ?_
          refine st H65 (mv rfl) ?_
          refine gon rfl rfl hg136 ?_
          refine st H65 (ixs Tryz.underlying9 rfl rfl (skipS s i) rfl (by omega)) ?_
          refine gon rfl rfl hg136 ?_
          refine st H65 (eqi rfl rfl) ?_
          refine st H65 (pk_f rfl hg136 rfl) ?_
          refine st H65 (asg rfl) ?_
          refine wl_nil ?_
          refine cw_seq ?_
          refine cw_block ?_
          refine cw_seq ?_
          try dsimp only [PT, List.eraseIdx] at H65
          refine cw_region rfl ?_
          refine st H65 (mv rfl) ?_
          refine st H65 (mv rfl) ?_
          refine wl_case (t := 47) rfl (fun hg158 => ?_) (fun hg158 => ?_)
          · have hp158 := hg158
            try simp at hp158
            have hends : endsB s (skipS s i) = true := by simp [endsB, hp158]
            refine gon rfl rfl hg158 ?_
            refine st H65 (mv rfl) ?_
            refine gon rfl rfl hg158 ?_
            refine st H65 (lenl Tryz.underlying31 rfl) ?_
            refine gon rfl rfl hg158 ?_
            refine st H65 (eqi rfl rfl) ?_
            refine gon rfl rfl hg158 ?_
            refine st H65 (mv rfl) ?_
            refine wl_case (t := 51) rfl (fun hg159 => ?_) (fun hg159 => ?_)
            · have hp159 := hg159
              try simp at hp159
              have hl0 : l = [] := List.eq_nil_of_length_eq_zero (by have h0 := of_decide_eq_true hg159; omega)
              have hla : lastB l = false := by rw [hl0]; rfl
              refine goff rfl rfl hg159 ?_
              refine goff rfl rfl hg159 ?_
              refine goff rfl rfl hg159 ?_
              refine goff rfl rfl hg159 ?_
              refine goff rfl rfl hg159 ?_
              refine goff rfl rfl hg159 ?_
              refine goff rfl rfl hg159 ?_
              refine goff rfl rfl hg159 ?_
              refine gon rfl rfl hg158 ?_
              refine st H65 (pk_t rfl hg159 rfl) ?_
              refine st H65 (pk_t rfl hg158 rfl) ?_
              refine st H65 (asg rfl) ?_
              refine wl_nil ?_
              refine cw_cond_t rfl rfl ?_
              refine cw_goto ?_
              exact ⟨(true, skipS s i, l, A1, c1, f, b7), rfl, ⟨rfl, rfl, rfl, rfl, rfl, rfl, rfl, trivial⟩, ⟨_, _, _, (((H65.fr 2 rfl).fr 2 rfl).fr 2 rfl), by first | omega | (dsimp only; omega), by first | omega | (simp <;> omega), by first | omega | (dsimp only; omega), hx1.trans (lexF_stop hends hla)⟩, by dsimp only; omega⟩
            · have hp159 := hg159
              try simp at hp159
              have hne0 : l.length ≠ 0 := by have h0 := of_decide_eq_false hg159; omega
              obtain ⟨z, hz⟩ : ∃ z, l[l.length - 1]? = some z := ⟨l[l.length - 1]'(by omega), by simp [show l.length - 1 < l.length by omega]⟩
              refine gon rfl rfl hg159 ?_
              refine st H65 (mv rfl) ?_
              refine gon rfl rfl hg159 ?_
              refine st H65 (mv rfl) ?_
              refine gon rfl rfl hg159 ?_
              refine st H65 (lenl Tryz.underlying31 rfl) ?_
              refine gon rfl rfl hg159 ?_
              refine st H65 (sub rfl rfl (by omega) (by omega)) ?_
              refine gon rfl rfl hg159 ?_
              refine st H65 (ixR (l.length - 1) sl31 2 rfl rfl rfl (by omega) (by omega)) ?_
              refine gon rfl rfl hg159 ?_
              refine st H65 (ldR ag38 2 rfl rfl hz) ?_
              refine gon rfl rfl hg159 ?_
              refine st_call cf54 rfl (closing_c z H65) ?_
              rintro _ w161 ⟨rfl, H160⟩
              refine gon rfl rfl hg159 ?_
              refine st H160 (notb rfl) ?_
              refine gon rfl rfl hg158 ?_
              refine st H160 (pk_f rfl hg159 rfl) ?_
              refine st H160 (pk_t rfl hg158 rfl) ?_
              refine st H160 (asg rfl) ?_
              refine wl_nil ?_
              refine cw_cond rfl (fun hb162 => ?_) (fun hb162 => ?_)
              · have hp162 := hb162
                try simp at hp162
                have hla : lastB l = false := by simp [lastB, hz, hp162]
                refine cw_goto ?_
                exact ⟨(true, skipS s i, l, A1, c1, f, b7), rfl, ⟨rfl, rfl, rfl, rfl, rfl, rfl, rfl, trivial⟩, ⟨_, _, _, (((H160.fr 2 rfl).fr 2 rfl).fr 2 rfl), by first | omega | (dsimp only; omega), by first | omega | (simp <;> omega), by first | omega | (dsimp only; omega), hx1.trans (lexF_stop hends hla)⟩, by dsimp only; omega⟩
              · have hp162 := hb162
                try simp at hp162
                have hla : lastB l = true := by simp [lastB, hz, hp162]
                refine cw_seq ?_
                try dsimp only [PT, List.eraseIdx] at H160
                refine cw_region rfl ?_
                refine st H160 (mv rfl) ?_
                refine st H160 (asg rfl) ?_
                refine wl_nil ?_
                refine cw_cond_t rfl hg158 ?_
                try dsimp only [PT, List.eraseIdx] at H160
                refine cw_region rfl ?_
                refine st H160 (bld zc38 pl38 rfl rfl) ?_
                refine st_st 1 H160 rfl rfl rfl sz38 rfl rfl rfl rfl fun w164 H163 => ?_
                refine wl_nil ?_
                refine cw_seq ?_
                refine cw_seq ?_
                try dsimp only [PT, List.eraseIdx] at H163
                refine cw_region rfl ?_
                refine st H163 (mv rfl) ?_
                refine st H163 (eqi rfl rfl) ?_
                refine st H163 (mv rfl) ?_
                refine gon rfl rfl (by decide) ?_
                refine st H163 (mv rfl) ?_
                refine gon rfl rfl (by decide) ?_
                refine st H163 (lenl Tryz.underlying31 rfl) ?_
                refine gon rfl rfl (by decide) ?_
                refine st H163 (eqi rfl rfl) ?_
                refine st H163 (pk_t rfl (by decide) rfl) ?_
                refine wl_nil ?_
                refine cw_cond rfl (fun hb165 => ?_) (fun hb165 => ?_)
                · have hp165 := hb165
                  try simp at hp165
                  have h1024 : l.length = 1024 := by first | omega | simp
                  try dsimp only [PT, List.eraseIdx] at H163
                  refine cw_region rfl ?_
                  refine st H163 (asg rfl) ?_
                  refine wl_nil ?_
                  refine cw_seq ?_
                  refine cw_seq ?_
                  try dsimp only [PT, List.eraseIdx] at H163
                  refine cw_region rfl ?_
                  refine st H163 (mv rfl) ?_
                  refine st H163 (nei rfl rfl) ?_
                  refine wl_nil ?_
                  refine cw_cond_t rfl (by decide) ?_
                  refine cw_seq ?_
                  try dsimp only [PT, List.eraseIdx] at H163
                  refine cw_region rfl ?_
                  refine st H163 (mv rfl) ?_
                  refine st H163 (mv rfl) ?_
                  refine st H163 (bld zc28 pl28 rfl rfl) ?_
                  refine st H163 (asg rfl) ?_
                  refine st_st 1 H163 rfl rfl rfl sz28 rfl rfl rfl rfl fun w167 H166 => ?_
                  refine wl_nil ?_
                  refine cw_ret ?_
                  refine ret2 rfl rfl ⟨_, rfl, own_lda H166 0 (vs := [_, _]) rfl ag28 rfl⟩ ?_
                  exact Or.inr ⟨3, (skipS s i : Nat), hx1.trans (lexF_long1 hends hla h1024), by first | decide | omega, rfl, (((H166.er 0).er 0).er 0)⟩
                · have hp165 := hb165
                  try simp at hp165
                  have h1024 : ¬ l.length = 1024 := by first | omega | simp
                  refine cw_skip ?_
                  refine cw_seq ?_
                  refine cw_seq ?_
                  try dsimp only [PT, List.eraseIdx] at H163
                  refine cw_region rfl ?_
                  refine st H163 (mv rfl) ?_
                  refine st H163 (nei rfl rfl) ?_
                  refine wl_nil ?_
                  refine cw_cond_f rfl (by decide) ?_
                  refine cw_skip ?_
                  refine cw_seq ?_
                  try dsimp only [PT, List.eraseIdx] at H163
                  refine cw_region rfl ?_
                  refine st H163 (mv rfl) ?_
                  refine st H163 (fa fo38_2 rfl) ?_
                  refine st_st 0 H163 rfl rfl rfl sz3 rfl rfl rfl rfl fun w169 H168 => ?_
                  refine wl_nil ?_
                  refine cw_seq ?_
                  try dsimp only [PT, List.eraseIdx] at H168
                  refine cw_region rfl ?_
                  refine st H168 (mv rfl) ?_
                  refine st H168 (lda ag38 0 rfl rfl rfl rfl) ?_
                  refine st_bs H168 sl31 zc38 rfl rfl rfl rfl rfl fun b172 w171 H170 => ?_
                  refine st_app 3 0 ([Tk.mk 5 ((⟨#[]⟩ : ByteArray)) ((skipS s i : Nat) : Int)]) H170 sl31 zc38 rfl rfl rfl rfl rfl rfl rfl rfl (by intro y hy; simp at hy; subst hy; exact ⟨rfl, rfl⟩) (by first | omega | (simp <;> omega)) (by first | omega | (simp <;> omega)) fun A175 c176 w174 H173 => ?_
                  refine st H173 (asg rfl) ?_
                  refine wl_nil ?_
                  refine cw_seq ?_
                  refine cw_seq ?_
                  try dsimp only [PT, List.eraseIdx] at H173
                  refine cw_region rfl ?_
                  refine st H173 (mv rfl) ?_
                  refine st H173 (notb rfl) ?_
                  refine wl_nil ?_
                  refine cw_cond_f rfl (by rw [hg158]; rfl) ?_
                  refine cw_skip ?_
                  refine cw_seq ?_
                  refine cw_label ?_
                  refine cw_seq ?_
                  refine cw_seq ?_
                  obtain ⟨F2, hF2⟩ : ∃ k, f = k + 1 := ⟨f - 1, by omega⟩
                  have hx2 : lexS s = lexF s (F2 + 1) true (skipS s i) (l ++ [Tk.mk 5 ((⟨#[]⟩ : ByteArray)) ((skipS s i : Nat) : Int)]) := by rw [← hF2]; exact hx1.trans (lexF_end hends hla h1024)
                  try dsimp only [PT, List.eraseIdx] at H173
                  refine cw_region rfl ?_
                  refine st H173 (mv rfl) ?_
                  refine st H173 (mv rfl) ?_
                  refine st H173 (lens Tryz.underlying9 rfl) ?_
                  refine st H173 (lti rfl rfl) ?_
                  refine wl_nil ?_
                  refine cw_cond rfl (fun hb177 => ?_) (fun hb177 => ?_)
                  · have hp177 := hb177
                    try simp at hp177
                    have hlt : skipS s i < s.size := by omega
                    refine cw_seq ?_
                    try dsimp only [PT, List.eraseIdx] at H173
                    refine cw_region rfl ?_
                    refine st H173 (mv rfl) ?_
                    refine st H173 (add rfl rfl (by omega) (by omega)) ?_
                    refine st H173 (asg rfl) ?_
                    refine wl_nil ?_
                    refine cw_goto ?_
                    exact ⟨(false, skipS s i + 1, (l ++ [Tk.mk 5 ((⟨#[]⟩ : ByteArray)) ((skipS s i : Nat) : Int)]), A175, c176, F2, b7), rfl, ⟨rfl, rfl, rfl, rfl, rfl, rfl, rfl, trivial⟩, ⟨_, _, _, (((H173.fr 2 rfl).fr 3 rfl).er 3), by first | omega | (dsimp only; omega), by first | omega | (simp <;> omega), by first | omega | (dsimp only; omega), hx2.trans (lexF_on hlt)⟩, by dsimp only; omega⟩
                  · have hp177 := hb177
                    try simp at hp177
                    have hlt : ¬ skipS s i < s.size := by omega
                    refine cw_skip ?_
                    refine cw_seq ?_
                    try dsimp only [PT, List.eraseIdx] at H173
                    refine cw_region rfl ?_
                    refine st H173 (mv rfl) ?_
                    refine st H173 (bld zc28 pl28 rfl rfl) ?_
                    refine st H173 (asg rfl) ?_
                    refine st_st 3 H173 rfl rfl rfl sz28 rfl rfl rfl rfl fun w179 H178 => ?_
                    refine wl_nil ?_
                    refine cw_ret ?_
                    refine ret2 rfl rfl ⟨_, rfl, own_lda H178 0 (vs := [_, _]) rfl ag28 rfl⟩ ?_
                    exact Or.inl ⟨_, _, _, hx2.trans (lexF_ok hlt), rfl, ((((H178.fr 1 rfl).er 1).er 1).er 1)⟩
          · have hp158 := hg158
            try simp at hp158
            have hends : endsB s (skipS s i) = false := by simp [endsB, hp158]; omega
            refine goff rfl rfl hg158 ?_
            refine goff rfl rfl hg158 ?_
            refine goff rfl rfl hg158 ?_
            refine goff rfl rfl hg158 ?_
            refine goffu rfl rfl ?_
            refine goffu rfl rfl ?_
            refine goffu rfl rfl ?_
            refine goffu rfl rfl ?_
            refine goffu rfl rfl ?_
            refine goffu rfl rfl ?_
            refine goffu rfl rfl ?_
            refine goffu rfl rfl ?_
            refine goff rfl rfl hg158 ?_
            refine st H65 (pk_f rfl hg158 rfl) ?_
            refine st H65 (asg rfl) ?_
            refine wl_nil ?_
            refine cw_cond_f rfl rfl ?_
            refine cw_seq ?_
            try dsimp only [PT, List.eraseIdx] at H65
            refine cw_region rfl ?_
            refine st H65 (mv rfl) ?_
            refine st H65 (asg rfl) ?_
            refine wl_nil ?_
            refine cw_cond_f rfl hg158 ?_
            try dsimp only [PT, List.eraseIdx] at H65
            refine cw_region rfl ?_
            refine st H65 (mv rfl) ?_
            refine st H65 (mv rfl) ?_
            refine st H65 (slsf Tryz.underlying9 rfl rfl (skipS s i) rfl (by omega)) ?_
            refine st_call cf55 rfl (token_c (s.extract (skipS s i) s.size) H65 (by rw [ext_from (by omega)]; omega) (by rw [ext_from (by omega)]; omega)) ?_
            rintro e w181 hpH180
            rcases hpH180 with ⟨k4, n4, ht4, hn4, hm4, rfl, H180⟩ | ⟨er4, ht4, he4, rfl, H180⟩
            · refine st H180 (mv rfl) ?_
              refine st H180 (ext rfl rfl) ?_
              refine st H180 (ext rfl rfl) ?_
              refine st_st 1 H180 rfl rfl rfl sz38 rfl rfl rfl rfl fun w183 H182 => ?_
              refine st H182 (asg rfl) ?_
              refine wl_nil ?_
              refine cw_seq ?_
              refine cw_seq ?_
              try dsimp only [PT, List.eraseIdx] at H182
              refine cw_region rfl ?_
              refine st H182 (mv rfl) ?_
              refine st H182 (eqi rfl rfl) ?_
              refine st H182 (mv rfl) ?_
              refine gon rfl rfl (by decide) ?_
              refine st H182 (mv rfl) ?_
              refine gon rfl rfl (by decide) ?_
              refine st H182 (lenl Tryz.underlying31 rfl) ?_
              refine gon rfl rfl (by decide) ?_
              refine st H182 (eqi rfl rfl) ?_
              refine st H182 (pk_t rfl (by decide) rfl) ?_
              refine wl_nil ?_
              refine cw_cond rfl (fun hb184 => ?_) (fun hb184 => ?_)
              · have hp184 := hb184
                try simp at hp184
                have h1024 : l.length = 1024 := by first | omega | simp
                try dsimp only [PT, List.eraseIdx] at H182
                refine cw_region rfl ?_
                refine st H182 (asg rfl) ?_
                refine wl_nil ?_
                refine cw_seq ?_
                refine cw_seq ?_
                try dsimp only [PT, List.eraseIdx] at H182
                refine cw_region rfl ?_
                refine st H182 (mv rfl) ?_
                refine st H182 (nei rfl rfl) ?_
                refine wl_nil ?_
                refine cw_cond_t rfl (by decide) ?_
                refine cw_seq ?_
                try dsimp only [PT, List.eraseIdx] at H182
                refine cw_region rfl ?_
                refine st H182 (mv rfl) ?_
                refine st H182 (mv rfl) ?_
                refine st H182 (bld zc28 pl28 rfl rfl) ?_
                refine st H182 (asg rfl) ?_
                refine st_st 1 H182 rfl rfl rfl sz28 rfl rfl rfl rfl fun w186 H185 => ?_
                refine wl_nil ?_
                refine cw_ret ?_
                refine ret2 rfl rfl ⟨_, rfl, own_lda H185 0 (vs := [_, _]) rfl ag28 rfl⟩ ?_
                exact Or.inr ⟨3, (skipS s i : Nat), hx1.trans (lexF_long2 hends ht4 h1024), by first | decide | omega, rfl, (((H185.er 0).er 0).er 0)⟩
              · have hp184 := hb184
                try simp at hp184
                have h1024 : ¬ l.length = 1024 := by first | omega | simp
                refine cw_skip ?_
                refine cw_seq ?_
                refine cw_seq ?_
                try dsimp only [PT, List.eraseIdx] at H182
                refine cw_region rfl ?_
                refine st H182 (mv rfl) ?_
                refine st H182 (nei rfl rfl) ?_
                refine wl_nil ?_
                refine cw_cond_f rfl (by decide) ?_
                refine cw_skip ?_
                refine cw_seq ?_
                have hts : ((s.extract (skipS s i) s.size).extract 0 n4).size = n4 := ext_size (by assumption)
                have hex := ext_from (s := s) (i := skipS s i) (by omega)
                try dsimp only [PT, List.eraseIdx] at H182
                refine cw_region rfl ?_
                refine st H182 (mv rfl) ?_
                refine st H182 (fa fo38_2 rfl) ?_
                refine st_st 0 H182 rfl rfl rfl sz3 rfl rfl rfl rfl fun w188 H187 => ?_
                refine wl_nil ?_
                refine cw_seq ?_
                try dsimp only [PT, List.eraseIdx] at H187
                refine cw_region rfl ?_
                refine st H187 (mv rfl) ?_
                refine st H187 (lda ag38 0 rfl rfl rfl rfl) ?_
                refine st_bs H187 sl31 zc38 rfl rfl rfl rfl rfl fun b191 w190 H189 => ?_
                refine st_app 3 0 ([Tk.mk k4 ((s.extract (skipS s i) s.size).extract 0 n4) ((skipS s i : Nat) : Int)]) H189 sl31 zc38 rfl rfl rfl rfl rfl rfl rfl rfl (by intro y hy; simp at hy; subst hy; exact ⟨rfl, rfl⟩) (by first | omega | (simp <;> omega)) (by first | omega | (simp <;> omega)) fun A194 c195 w193 H192 => ?_
                refine st H192 (asg rfl) ?_
                refine wl_nil ?_
                refine cw_seq ?_
                refine cw_seq ?_
                try dsimp only [PT, List.eraseIdx] at H192
                refine cw_region rfl ?_
                refine st H192 (mv rfl) ?_
                refine st H192 (notb rfl) ?_
                refine wl_nil ?_
                refine cw_cond_t rfl (by rw [hg158]; rfl) ?_
                refine cw_seq ?_
                try dsimp only [PT, List.eraseIdx] at H192
                refine cw_region rfl ?_
                refine st H192 (mv rfl) ?_
                refine st H192 (fa fo38_1 rfl) ?_
                refine st H192 (ld sc9 2 rfl rfl rfl) ?_
                refine st H192 (lens Tryz.underlying9 rfl) ?_
                refine st H192 (add rfl rfl (by omega) (by omega)) ?_
                refine st H192 (asg rfl) ?_
                refine wl_nil ?_
                refine cw_goto ?_
                exact ⟨(false, skipS s i + ((s.extract (skipS s i) s.size).extract 0 n4).size, (l ++ [Tk.mk k4 ((s.extract (skipS s i) s.size).extract 0 n4) ((skipS s i : Nat) : Int)]), A194, c195, f, b7), rfl, ⟨rfl, rfl, rfl, rfl, rfl, rfl, rfl, trivial⟩, ⟨_, _, _, (((H192.fr 2 rfl).fr 3 rfl).er 3), by first | omega | (dsimp only; omega), by first | omega | (simp <;> omega), by first | omega | (dsimp only; omega), hx1.trans (lexF_tok hends ht4 h1024)⟩, by dsimp only; omega⟩
            · refine st H180 (mv rfl) ?_
              refine st H180 (ext rfl rfl) ?_
              refine st H180 (ext rfl rfl) ?_
              refine st_st 1 H180 rfl rfl rfl sz38 rfl rfl rfl rfl fun w197 H196 => ?_
              refine st H196 (asg rfl) ?_
              refine wl_nil ?_
              refine cw_seq ?_
              refine cw_seq ?_
              try dsimp only [PT, List.eraseIdx] at H196
              refine cw_region rfl ?_
              refine st H196 (mv rfl) ?_
              refine st H196 (eqi rfl rfl) ?_
              refine st H196 (mv rfl) ?_
              refine wl_case (t := 67) rfl (fun hg198 => ?_) (fun hg198 => ?_)
              · have h0 := of_decide_eq_true hg198
                omega
              · have hp198 := hg198
                try simp at hp198
                refine goff rfl rfl hg198 ?_
                refine goff rfl rfl hg198 ?_
                refine goff rfl rfl hg198 ?_
                refine st H196 (pk_f rfl hg198 rfl) ?_
                refine wl_nil ?_
                refine cw_cond_f rfl rfl ?_
                refine cw_skip ?_
                refine cw_seq ?_
                refine cw_seq ?_
                try dsimp only [PT, List.eraseIdx] at H196
                refine cw_region rfl ?_
                refine st H196 (mv rfl) ?_
                refine st H196 (nei rfl rfl) ?_
                refine wl_nil ?_
                refine cw_cond rfl (fun hb199 => ?_) (fun hb199 => ?_)
                · have hp199 := hb199
                  try simp at hp199
                  refine cw_seq ?_
                  try dsimp only [PT, List.eraseIdx] at H196
                  refine cw_region rfl ?_
                  refine st H196 (mv rfl) ?_
                  refine st H196 (mv rfl) ?_
                  refine st H196 (bld zc28 pl28 rfl rfl) ?_
                  refine st H196 (asg rfl) ?_
                  refine st_st 1 H196 rfl rfl rfl sz28 rfl rfl rfl rfl fun w201 H200 => ?_
                  refine wl_nil ?_
                  refine cw_ret ?_
                  refine ret2 rfl rfl ⟨_, rfl, own_lda H200 0 (vs := [_, _]) rfl ag28 rfl⟩ ?_
                  exact Or.inr ⟨er4, (skipS s i : Nat), hx1.trans (lexF_er hends ht4), by first | decide | omega, rfl, (((H200.er 0).er 0).er 0)⟩
                · have h0 := of_decide_eq_false hb199
                  omega
    · try dsimp only at hF
      obtain ⟨f, rfl⟩ : ∃ k, f = k + 1 := ⟨f - 1, by omega⟩
      refine cw_seq ?_
      refine cw_skip ?_
      refine cw_seq ?_
      refine cw_seq ?_
      try dsimp only [PT, List.eraseIdx] at H61
      refine cw_region rfl ?_
      refine st H61 (mv rfl) ?_
      refine st H61 (mv rfl) ?_
      refine st H61 (lens Tryz.underlying9 rfl) ?_
      refine st H61 (lti rfl rfl) ?_
      refine wl_nil ?_
      refine cw_cond rfl (fun hb202 => ?_) (fun hb202 => ?_)
      · have hp202 := hb202
        try simp at hp202
        have hlt : i < s.size := by omega
        refine cw_seq ?_
        try dsimp only [PT, List.eraseIdx] at H61
        refine cw_region rfl ?_
        refine st H61 (mv rfl) ?_
        refine st H61 (add rfl rfl (by omega) (by omega)) ?_
        refine st H61 (asg rfl) ?_
        refine wl_nil ?_
        refine cw_goto ?_
        exact ⟨(false, i + 1, l, A1, c1, f, b7), rfl, ⟨rfl, rfl, rfl, rfl, rfl, rfl, rfl, trivial⟩, ⟨_, _, _, (((H61.fr 2 rfl).fr 2 rfl).fr 2 rfl), by first | omega | (dsimp only; omega), by first | omega | (simp <;> omega), by first | omega | (dsimp only; omega), hx1.trans (lexF_on hlt)⟩, by dsimp only; omega⟩
      · have hp202 := hb202
        try simp at hp202
        have hlt : ¬ i < s.size := by omega
        refine cw_skip ?_
        refine cw_seq ?_
        try dsimp only [PT, List.eraseIdx] at H61
        refine cw_region rfl ?_
        refine st H61 (mv rfl) ?_
        refine st H61 (bld zc28 pl28 rfl rfl) ?_
        refine st H61 (asg rfl) ?_
        refine st_st 0 H61 rfl rfl rfl sz28 rfl rfl rfl rfl fun w204 H203 => ?_
        refine wl_nil ?_
        refine cw_ret ?_
        refine ret2 rfl rfl ⟨_, rfl, own_lda H203 0 (vs := [_, _]) rfl ag28 rfl⟩ ?_
        exact Or.inl ⟨_, _, _, hx1.trans (lexF_ok hlt), rfl, (((H203.fr 2 rfl).er 1).er 1)⟩
end
end Go.Proofs.YtmkijgmfefkgeaaGreatDoor
