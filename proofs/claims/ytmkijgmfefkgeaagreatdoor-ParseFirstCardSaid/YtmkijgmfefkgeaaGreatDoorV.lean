/- lex.Value: what a quoted text says; and what it calls of the library's Builder. No condition. -/
import Derived.Test.YtmkijgmfefkgeaaGreatDoorL3
import Derived.Laws.RangeString
import Derived.Lib.UnsafeStr
set_option autoImplicit false
set_option linter.unusedVariables false
set_option linter.unusedSimpArgs false
set_option linter.unusedSectionVars false
namespace Go.Proofs.YtmkijgmfefkgeaaGreatDoor
open Go Go.Shelf Go.RowKit
def lx240_ren : Ren := ⟨fun | 240 => 105 | 276 => 143 | n => n, fun | 0 => 0 | 4 => 4 | 9 => 9 | 20 => 20 | 70 => 93 | 37 => 94 | 72 => 96 | 164 => 164 | n => n, fun | n => n⟩
theorem lx240 : Go.Proofs.Lays.n240 Tryz.prog lx240_ren := {
  mixed := by kernel_rfl,
  f240 := Tryz.func105.trans (congrArg some (by kernel_rfl)),
  f276 := Tryz.func143.trans (congrArg some (by kernel_rfl)),
  t0 := Tryz.underlying0,
  a0 := Tryz.isAgg0,
  z0 := Tryz.sizeOf0,
  v0 := Tryz.zeroValue0,
  t4 := Tryz.underlying4,
  a4 := Tryz.isAgg4,
  z4 := Tryz.sizeOf4,
  v4 := Tryz.zeroValue4,
  t9 := Tryz.underlying9,
  a9 := Tryz.isAgg9,
  z9 := Tryz.sizeOf9,
  v9 := Tryz.zeroValue9,
  t20 := Tryz.underlying20,
  a20 := Tryz.isAgg20,
  z20 := Tryz.sizeOf20,
  v20 := Tryz.zeroValue20,
  t70 := Tryz.underlying93,
  a70 := Tryz.isAgg93,
  z70 := Tryz.sizeOf93,
  v70 := Tryz.zeroValue93,
  t72 := Tryz.underlying96,
  a72 := Tryz.isAgg96,
  z72 := Tryz.sizeOf96,
  v72 := Tryz.zeroValue96,
  t164 := Tryz.underlying164,
  a164 := Tryz.isAgg164,
  z164 := Tryz.sizeOf164,
  v164 := Tryz.zeroValue164 }
theorem c5Z : Pg.cellsOf 5 = 1 := by kernel_rfl
theorem x72 : Builder.X72 Tryz.prog lx240_ren := ⟨by kernel_rfl, by kernel_rfl⟩
def u8c (x : UInt8) : List Value := [.int .u8 x.toNat]
/-! ### more steps -/
section
variable {P : Program} {n : Nat} {D : List Deferred} {ops : Array Oper} {K : En → World → Prop} {X : List PanicEntry → World → Prop} {E : En} {w : World} {rest : List Oper} {d : Option Tmp} {ty : TypeId} {ps : String} {af : Array Edge} {g : World} {L : List SP}
theorem cvw {C : World → Prop} {src dst : TypeId} {k k' : IntKind} {dd : TypeDesc} {x : Operand} {i j : Int} (hs : P.underlying src = some dd) (hd : P.underlying dst = some (.int k')) (hx : ev E x = some (.int k i)) (hj : k'.wrap i = j) : RV P n D C E (.convert src dst x) ty (.int k' j) := by
  subst hj
  exact cv hs hd hx
abbrev itr (b : Nat) (s : ByteArray) (p : Nat) : SP := blk b (.stringIter s p)
theorem st_range {t : TypeId} {x : Operand} {s : ByteArray} (H : Own g L w) (ht : P.underlying t = some .string) (hx : ev E x = some (.string s)) (h : ∀ b w', Own g (itr b s 0 :: L) w' → WL P n D ops K X rest (pt d (.pointer (some ⟨b, 0, none⟩)) E) w') :
    WL P n D ops K X (⟨d, .range t x, ty, ps, af, none⟩ :: rest) E w := by
  intro hok a ha
  obtain ⟨hd, hr⟩ := ok_cons hok
  refine wpList_plain rfl fun K' hK => ?_
  have e : (execOp a.eval ⟨d, .range t x, ty, ps, af, none⟩).run P w = .ok (.value (.pointer (some ⟨w.heap.size, 0, none⟩))) (w.alloc (.stringIter s 0)) := by
    have h1 := run_range_string (P := P) w t s ht
    simp only [execOp, ha.ev hx]
    simp [h1, World.iter]
  unfold Oper.wp
  rw [e]
  exact hK _ _ (h w.heap.size _ (H.al _) hr _ (ha.put _ hd))
theorem st_next_on {x : Operand} {s : ByteArray} {b p : Nat} (z : UInt8) (i : Nat) (H : Own g L w) (hx : ev E x = some (.pointer (some ⟨b, 0, none⟩))) (hi : L[i]? = some (itr b s p)) (hp : p < s.size) (hz : byteAt s p = (z.toNat : Int)) (ha8 : byteAt s p < 128) (h : ∀ w', Own g (itr b s (p + 1) :: L.eraseIdx i) w' → WL P n D ops K X rest (pt d (.tuple #[.bool true, .int .i64 p, .int .i32 z.toNat]) E) w') :
    WL P n D ops K X (⟨d, .next x true, ty, ps, af, none⟩ :: rest) E w := by
  intro hok a ha
  obtain ⟨hd, hr⟩ := ok_cons hok
  refine wpList_plain rfl fun K' hK => ?_
  have hb : byteAt s p = (s[p].toNat : Int) := by
    have h1 := ByteArray.getElem?_lt' s p hp
    simp [byteAt, h1]
  have h1 := Lib.run_next_ascii_at (P := P) w b s p ty (H.at i hi) hp (by omega)
  have e : (execOp a.eval ⟨d, .next x true, ty, ps, af, none⟩).run P w = .ok (.value (.tuple #[.bool true, .int .i64 p, .int .i32 z.toNat])) (w.iterAt b s (p + 1)) := by
    simp only [execOp, ha.ev hx]
    rw [← hz, hb]
    simp [h1]
  unfold Oper.wp
  rw [e]
  refine hK _ _ (h _ ?_ hr _ (ha.put _ hd))
  have hlt : b < w.heap.size := (Array.getElem?_eq_some_iff.1 (H.at i hi)).1
  exact (H.fr i hi).upd rfl rfl rfl (by simp [World.iterAt, hlt]) (fun k hk => Lib.iterAt_other w b k s (p + 1) hk)
theorem st_next_end {x : Operand} {s : ByteArray} {b p : Nat} (i : Nat) (H : Own g L w) (hx : ev E x = some (.pointer (some ⟨b, 0, none⟩))) (hi : L[i]? = some (itr b s p)) (hp : ¬ p < s.size) (h : WL P n D ops K X rest (pt d (.tuple #[.bool false]) E) w) :
    WL P n D ops K X (⟨d, .next x true, ty, ps, af, none⟩ :: rest) E w := by
  intro hok a ha
  obtain ⟨hd, hr⟩ := ok_cons hok
  refine wpList_plain rfl fun K' hK => ?_
  have hk := H.at i hi
  have e : (execOp a.eval ⟨d, .next x true, ty, ps, af, none⟩).run P w = .ok (.value (.tuple #[.bool false])) w := by
    simp only [execOp, ha.ev hx]
    simp [Instr.next, getObj, Sem.run, hk, hp]
  unfold Oper.wp
  rw [e]
  exact hK _ _ (h hr _ (ha.put _ hd))
theorem usd {C : World → Prop} {t : TypeId} {x : Operand} {A : Addr} {m c : Nat} (hc : c ≠ 0) (hx : ev E x = some (.slice (some A) m c)) : RV P n D C E (.call { callee := .builtin .unsafeSliceData, args := #[x], argTypes := #[t] }) ty (.pointer (some A)) := fun a w ha _ => by
  have h := Lib.run_unsafeSliceData_row (P := P) w #[t] ty A m c hc
  simp [execOp, ha.ev hx, resolve, invoke, builtin, h]
theorem usdn {C : World → Prop} {t : TypeId} {x : Operand} {m c : Nat} (hx : ev E x = some (.slice none m c)) : RV P n D C E (.call { callee := .builtin .unsafeSliceData, args := #[x], argTypes := #[t] }) ty (.pointer none) := fun a w ha _ => by
  have h := Lib.run_unsafeSliceData_nil (P := P) (w := w) #[t] ty m c
  simp [execOp, ha.ev hx, resolve, invoke, builtin, h]
theorem usn {C : World → Prop} {t e : TypeId} {u : TypeId} {x y : Operand} (ht : P.underlying t = some (.pointer e)) (hx : ev E x = some (.pointer none)) (hy : ev E y = some (.int .i64 0)) : RV P n D C E (.call { callee := .builtin .unsafeString, args := #[x, y], argTypes := #[t, u] }) ty (.string ⟨#[]⟩) := fun a w ha _ => by
  have h : (Builtin.unsafeString_ #[t, u] ty #[.pointer none, .int .i64 0]).run P w = .ok (.string ⟨#[]⟩) w := by
    exact Lib.run_unsafeString_none (P := P) (w := w) t u ty none
  simp [execOp, ha.ev hx, ha.ev hy, resolve, invoke, builtin, h]
/-- unsafe.String over a row of one's own: the row is given up. -/
theorem st_ustr {pt0 it : TypeId} {x y : Operand} {b c : Nat} {l : List UInt8} (i : Nat) (H : Own g L w) (hp : P.underlying pt0 = some (.pointer 5)) (hc5 : P.cellsOf 5 = 1) (hx : ev E x = some (.pointer (some ⟨b, 0, none⟩))) (hy : ev E y = some (.int .i64 l.length)) (hi : L[i]? = some (Rw 5 u8c 1 (some ⟨b, 0, none⟩) c l)) (hl : l ≠ [])
    (h : ∀ w', Own g (L.eraseIdx i) w' → WL P n D ops K X rest (pt d (.string ⟨l.toArray⟩) E) w') : WL P n D ops K X (⟨d, .call { callee := .builtin .unsafeString, args := #[x, y], argTypes := #[pt0, it] }, ty, ps, af, none⟩ :: rest) E w := by
  intro hok a ha
  obtain ⟨hd, hr⟩ := ok_cons hok
  refine wpList_plain rfl fun K' hK => ?_
  obtain ⟨hf, hcc⟩ := (H.fr i hi).rw_cells
  rcases hcc with hcc | ⟨b', cur, hA, h3, h4, h5, h6, H'⟩
  · exact absurd hcc hl
  · simp only [Option.some.injEq, Addr.mk.injEq, and_true] at hA
    subst hA
    have hblk := H'.get
    have hcell : ∀ (j : Nat) (z : UInt8), l[j]? = some z → w.cell? ((⟨b, 0, none⟩ : Addr).add j) = some (.int .u8 z.toNat) := by
      intro j z hz
      rw [add_at, cell_at hblk]
      have h7 := flat_at (f := u8c) (sz := 1) (l := l) (fun q hq => (hf q hq).1) hz (i := 0) (v := .int .u8 z.toNat) rfl
      rw [← h6, List.getElem?_take] at h7
      split at h7
      · simpa using h7
      · cases h7
    have hlen : l.length ≤ cur.toArray.size := by simp; omega
    have hrun := Lib.run_unsafeString_row (P := P) w pt0 it ty 5 hp hc5 b cur.toArray.size (by simp [World.shape?, hblk]) l hl hlen (by unfold maxLen at h4; omega) hcell
    have e : (execOp a.eval ⟨d, .call { callee := .builtin .unsafeString, args := #[x, y], argTypes := #[pt0, it] }, ty, ps, af, none⟩).run P w = .ok (.value (.string ⟨l.toArray⟩)) (w.freeze ⟨b, 0, none⟩ l.length) := by
      simp [execOp, ha.ev hx, ha.ev hy, resolve, invoke, builtin, hrun]
    unfold Oper.wp
    rw [e]
    refine hK _ _ (h _ ?_ hr _ (ha.put _ hd))
    have hl0 : l.length ≠ 0 := by intro h0; exact hl (List.eq_nil_of_length_eq_zero h0)
    have hlt : b < w.heap.size := (Array.getElem?_eq_some_iff.1 hblk).1
    obtain ⟨o', ho'⟩ : ∃ o', (w.freeze ⟨b, 0, none⟩ l.length).heap[b]? = some o' := ⟨_, Array.getElem?_eq_getElem (by simp [World.freeze, hl0]; exact hlt)⟩
    exact (Own.upd (o' := o') H' (by simp [World.freeze, hl0]) (by simp [World.freeze, hl0]) (by simp [World.freeze, hl0]) ho' (fun k hk => by simp [World.freeze, hl0, Array.getElem?_modify, Ne.symm hk])).drop
end
/-! ### the plain law -/
def escV (c : Int) : UInt8 := if c = 110 then 10 else c.toNat.toUInt8
def VI (s : ByteArray) (tot : List UInt8) (p : Nat) (pair : Bool) (l : List UInt8) : Prop := match pair with
  | false => (∃ f, textF s f (p + 1) = s.size) ∧ ∃ f, s.size ≤ f + (p + 1) ∧ l ++ valF s f (p + 1) = tot
  | true => (byteAt s (p + 1) = 34 ∨ byteAt s (p + 1) = 92 ∨ byteAt s (p + 1) = 110) ∧ (∃ f, textF s f (p + 2) = s.size) ∧ ∃ f, s.size ≤ f + (p + 2) ∧ l ++ escV (byteAt s (p + 1)) :: valF s f (p + 2) = tot
section
variable {s : ByteArray} {tot l : List UInt8} {p : Nat}
theorem textF_pos {f i : Nat} (h : textF s f i = s.size) (h0 : s.size ≠ 0) : i < s.size ∧ ∃ g, f = g + 1 ∧ (byteAt s i = 34 → i + 1 = s.size) ∧ (byteAt s i = 92 → i + 1 < s.size ∧ (byteAt s (i + 1) = 34 ∨ byteAt s (i + 1) = 92 ∨ byteAt s (i + 1) = 110) ∧ textF s g (i + 2) = s.size) ∧ (byteAt s i ≠ 34 → byteAt s i ≠ 92 → 32 ≤ byteAt s i ∧ byteAt s i ≤ 126 ∧ textF s g (i + 1) = s.size) := by
  cases f with
  | zero => exact absurd h.symm (by simpa [textF] using h0)
  | succ g =>
    unfold textF at h
    split at h
    · rename_i hi
      refine ⟨hi, g, rfl, fun h1 => ?_, fun h1 => ?_, fun h1 h2 => ?_⟩
      · rw [if_pos h1] at h; exact h
      · rw [if_neg (by omega), if_pos h1] at h
        split at h
        · rename_i hc; exact ⟨hc.1, hc.2, h⟩
        · omega
      · rw [if_neg h1, if_neg h2] at h
        split at h
        · omega
        · rename_i hc; exact ⟨by omega, by omega, h⟩
    · omega
theorem vi_in (h : VI s tot p false l) (h0 : s.size ≠ 0) (hp : p < s.size - 2) : byteAt s (p + 1) < 128 := by
  obtain ⟨⟨f, hf⟩, _⟩ := h
  obtain ⟨a, g, _, b, c, d⟩ := textF_pos hf h0
  by_cases h1 : byteAt s (p + 1) = 34
  · omega
  · by_cases h2 : byteAt s (p + 1) = 92
    · omega
    · have := d h1 h2; omega
theorem vi_in2 (h : VI s tot p true l) : byteAt s (p + 1) < 128 := by
  obtain ⟨h1, _⟩ := h
  omega
theorem vi_slash (h : VI s tot p false l) (h0 : s.size ≠ 0) (hp : p < s.size - 2) (hc : byteAt s (p + 1) = 92) : VI s tot (p + 1) true l := by
  obtain ⟨⟨f, hf⟩, f2, h1, h2⟩ := h
  obtain ⟨a, g, _, b, c, d⟩ := textF_pos hf h0
  obtain ⟨c1, c2, c3⟩ := c hc
  refine ⟨c2, ⟨g, c3⟩, ?_⟩
  cases f2 with
  | zero => omega
  | succ f2 =>
    unfold valF at h2
    rw [if_pos (by omega), if_pos hc] at h2
    refine ⟨f2, by omega, ?_⟩
    exact h2
theorem vi_plain (h : VI s tot p false l) (h0 : s.size ≠ 0) (hp : p < s.size - 2) (hc : byteAt s (p + 1) ≠ 92) : VI s tot (p + 1) false (l ++ [(byteAt s (p + 1)).toNat.toUInt8]) := by
  obtain ⟨⟨f, hf⟩, f2, h1, h2⟩ := h
  obtain ⟨a, g, _, b, c, d⟩ := textF_pos hf h0
  have h34 : byteAt s (p + 1) ≠ 34 := fun e => by have := b e; omega
  refine ⟨⟨g, (d h34 hc).2.2⟩, ?_⟩
  cases f2 with
  | zero => omega
  | succ f2 =>
    unfold valF at h2
    rw [if_pos (by omega), if_neg hc] at h2
    exact ⟨f2, by omega, by simpa using h2⟩
theorem vi_esc (h : VI s tot p true l) (h0 : s.size ≠ 0) : VI s tot (p + 1) false (l ++ [escV (byteAt s (p + 1))]) := by
  obtain ⟨h1, ⟨f, hf⟩, f2, h2, h3⟩ := h
  exact ⟨⟨f, hf⟩, f2, h2, by simpa using h3⟩
theorem vi_end (h : VI s tot p false l) (hp : ¬ p < s.size - 2) : l = tot := by
  obtain ⟨_, f2, h1, h2⟩ := h
  cases f2 with
  | zero => simpa [valF] using h2
  | succ f2 =>
    unfold valF at h2
    rw [if_neg (by omega)] at h2
    simpa using h2
theorem vi_end2 (h : VI s tot p true l) (h0 : s.size ≠ 0) (hp : ¬ p < s.size - 2) : False := by
  obtain ⟨_, ⟨f, hf⟩, _⟩ := h
  have := (textF_pos hf h0).1
  omega
end
section
variable {g w : World} {L : List SP} [Glo g]
theorem copy_c {b : Nat} {p : Option Addr} {v : Value} (H : Own g (bk b 96 [.pointer p, v] :: L) w) (hp : p = none ∨ p = some ⟨b, 0, none⟩) : Calls Pg 105 #[.pointer (some ⟨b, 0, none⟩)] w fun e w' => e = .returned (.tuple #[]) ∧ Own g (bk b 96 [.pointer (some ⟨b, 0, none⟩), v] :: L) w' := by
  have hb := H.get
  rcases hp with rfl | rfl
  · refine (Any.Builder_copyCheck_fresh lx240 x72 b w (by rw [cell_at hb]; rfl) (by simp [World.shape?, hb, lx240_ren]) (frozen_at hb)).mono fun e w' h => ⟨h.1, ?_⟩
    rw [h.2]
    have := H.set (off := 0) (.pointer (some ⟨b, 0, none⟩))
    simpa [bk] using this
  · exact (Any.Builder_copyCheck_used lx240 x72 b w (by rw [cell_at hb]; rfl)).mono fun e w' h => ⟨h.1, by rw [h.2]; exact H⟩
theorem writeByte_c {b cc : Nat} {p A : Option Addr} {l : List UInt8} (x : UInt8) (H : Own g (bk b 96 [.pointer p, .slice A (l).length cc] :: Rw 5 u8c 1 A cc (l) :: L) w) (hp : p = none ∨ p = some ⟨b, 0, none⟩) (hl : l.length ≤ 140737488355327) : Calls Pg 61 #[.pointer (some ⟨b, 0, none⟩), .int .u8 x.toNat] w fun e w' => e = .returned .nilIface ∧ ∃ A' c', Own g (bk b 96 [.pointer (some ⟨b, 0, none⟩), .slice A' (l ++ [x]).length c'] :: Rw 5 u8c 1 A' c' (l ++ [x]) :: L) w' := by
  refine calls_cw (vs := [_, _]) Tryz.func61 rfl rfl rfl ?_
  refine cw_seq ?_
  refine cw_region rfl ?_
  refine st H (asg rfl) ?_
  refine wl_nil ?_
  refine cw_seq ?_
  refine cw_region rfl ?_
  refine st H (mv rfl) ?_
  refine st_call cf105 rfl (copy_c H hp) ?_
  rintro _ w2 ⟨rfl, H1⟩
  refine wl_nil ?_
  refine cw_seq ?_
  refine cw_region rfl ?_
  refine st H1 (mv rfl) ?_
  refine st H1 (mv rfl) ?_
  refine st H1 (nck rfl) ?_
  refine st H1 (fa fo96_1 rfl) ?_
  refine st H1 (ld sc94 0 rfl rfl rfl) ?_
  refine st H1 (mv rfl) ?_
  refine st_bs H1 sl94 zc5 rfl rfl rfl rfl rfl fun b5 w4 H3 => ?_
  refine st_app 2 0 ([x]) H3 sl94 zc5 rfl rfl rfl rfl rfl rfl rfl rfl (by intro y hy; simp at hy; subst hy; exact ⟨rfl, rfl⟩) (by simp; omega) (by simp; omega) fun A8 c9 w7 H6 => ?_
  refine st H6 (nck rfl) ?_
  refine st H6 (fa fo96_1 rfl) ?_
  refine st_st 2 H6 rfl rfl rfl sz94 rfl rfl rfl rfl fun w11 H10 => ?_
  refine wl_nil ?_
  refine cw_seq ?_
  refine cw_region rfl ?_
  refine st H10 (asg rfl) ?_
  refine wl_nil ?_
  refine cw_ret ?_
  refine ret1 rfl rfl ?_
  exact ⟨rfl, _, _, (((H10.fr 1 rfl).fr 1 rfl).er 2)⟩
theorem wrap8 {x : UInt8} (hx : x.toNat < 128) : IntKind.u8.wrap (x.toNat : Int) = (x.toNat : Int) := by
  have := x.toNat_lt
  simp [IntKind.wrap, IntKind.bits, IntKind.signed]; omega
theorem wrap32 {x : UInt8} (hx : x.toNat < 128) : IntKind.u32.wrap (x.toNat : Int) = (x.toNat : Int) := by
  simp [IntKind.wrap, IntKind.bits, IntKind.signed]; omega
theorem appendRune_c {cc : Nat} {A : Option Addr} {l : List UInt8} (x : UInt8) (H : Own g (Rw 5 u8c 1 A cc l :: L) w) (hx : x.toNat < 128) (hl : l.length ≤ 140737488355327) : Calls Pg 181 #[.slice A l.length cc, .int .i32 x.toNat] w fun e w' => ∃ A' c', e = .returned (.slice A' (l ++ [x]).length c') ∧ Own g (Rw 5 u8c 1 A' c' (l ++ [x]) :: L) w' := by
  refine calls_cw (vs := [_, _]) Tryz.func181 rfl rfl rfl ?_
  refine cw_seq ?_
  refine cw_region rfl ?_
  refine st H (asg rfl) ?_
  refine wl_nil ?_
  refine cw_seq ?_
  refine cw_seq ?_
  refine cw_region rfl ?_
  refine st H (mv rfl) ?_
  refine st H (cvw Tryz.underlying21 Tryz.underlying200 rfl (wrap32 hx)) ?_
  refine st H (lei rfl rfl) ?_
  refine wl_nil ?_
  refine cw_cond rfl (fun hb1 => ?_) (fun hb1 => ?_)
  · have hp1 := hb1
    try simp at hp1
    refine cw_seq ?_
    refine cw_region rfl ?_
    refine st H (mv rfl) ?_
    refine st H (mv rfl) ?_
    refine st H (cvw Tryz.underlying21 Tryz.underlying5 rfl (wrap8 hx)) ?_
    refine st_bs H sl94 zc5 rfl rfl rfl rfl rfl fun b4 w3 H2 => ?_
    refine st_app 1 0 ([x]) H2 sl94 zc5 rfl rfl rfl rfl rfl rfl rfl rfl (by intro y hy; simp at hy; subst hy; exact ⟨rfl, rfl⟩) (by simp; omega) (by simp; omega) fun A7 c8 w6 H5 => ?_
    refine st H5 (asg rfl) ?_
    refine wl_nil ?_
    refine cw_ret ?_
    refine ret1 rfl rfl ?_
    exact ⟨_, _, rfl, (H5.er 1)⟩
  · exact absurd (of_decide_eq_false hb1) (by omega)
theorem writeRune_c {b cc : Nat} {p A : Option Addr} {l : List UInt8} (x : UInt8) (H : Own g (bk b 96 [.pointer p, .slice A (l).length cc] :: Rw 5 u8c 1 A cc (l) :: L) w) (hp : p = none ∨ p = some ⟨b, 0, none⟩) (hx : x.toNat < 128) (hl : l.length ≤ 140737488355327) : Calls Pg 157 #[.pointer (some ⟨b, 0, none⟩), .int .i32 x.toNat] w fun e w' => ∃ m, e = .returned (.tuple #[.int .i64 m, .nilIface]) ∧ ∃ A' c', Own g (bk b 96 [.pointer (some ⟨b, 0, none⟩), .slice A' (l ++ [x]).length c'] :: Rw 5 u8c 1 A' c' (l ++ [x]) :: L) w' := by
  refine calls_cw (vs := [_, _]) Tryz.func157 rfl rfl rfl ?_
  refine cw_seq ?_
  refine cw_region rfl ?_
  refine st H (asg rfl) ?_
  refine st H (asg rfl) ?_
  refine wl_nil ?_
  refine cw_seq ?_
  refine cw_region rfl ?_
  refine st H (mv rfl) ?_
  refine st_call cf105 rfl (copy_c H hp) ?_
  rintro _ w2 ⟨rfl, H1⟩
  refine wl_nil ?_
  refine cw_seq ?_
  refine cw_region rfl ?_
  refine st H1 (mv rfl) ?_
  refine st H1 (nck rfl) ?_
  refine st H1 (fa fo96_1 rfl) ?_
  refine st H1 (ld sc94 0 rfl rfl rfl) ?_
  refine st H1 (lenl Tryz.underlying94 rfl) ?_
  refine st H1 (asg rfl) ?_
  refine wl_nil ?_
  refine cw_seq ?_
  refine cw_region rfl ?_
  refine st H1 (mv rfl) ?_
  refine st H1 (mv rfl) ?_
  refine st H1 (nck rfl) ?_
  refine st H1 (fa fo96_1 rfl) ?_
  refine st H1 (ld sc94 0 rfl rfl rfl) ?_
  refine st H1 (mv rfl) ?_
  refine st_call cf181 rfl (appendRune_c x (H1.fr 1 rfl) hx hl) ?_
  rintro _ w4 ⟨A7, c7, rfl, H3⟩
  refine st H3 (nck rfl) ?_
  refine st H3 (fa fo96_1 rfl) ?_
  refine st_st 1 H3 rfl rfl rfl sz94 rfl rfl rfl rfl fun w6 H5 => ?_
  refine wl_nil ?_
  refine cw_seq ?_
  refine cw_region rfl ?_
  refine st H5 (mv rfl) ?_
  refine st H5 (nck rfl) ?_
  refine st H5 (fa fo96_1 rfl) ?_
  refine st H5 (ld sc94 0 rfl rfl rfl) ?_
  refine st H5 (lenl Tryz.underlying94 rfl) ?_
  refine st H5 (mv rfl) ?_
  refine st H5 (sub rfl rfl (by simp <;> omega) (by simp <;> omega)) ?_
  refine st H5 (asg rfl) ?_
  refine st H5 (asg rfl) ?_
  refine wl_nil ?_
  refine cw_ret ?_
  refine ret2 rfl rfl rfl ?_
  exact ⟨_, rfl, _, _, ((H5.fr 1 rfl).fr 1 rfl)⟩
set_option maxRecDepth 20000 in
theorem stringNil_c {b : Nat} {v : Value} (H : Own g (bk b 96 [v, .slice none 0 0] :: L) w) : Calls Pg 64 #[.pointer (some ⟨b, 0, none⟩)] w fun e w' => e = .returned (.string ⟨#[]⟩) ∧ Own g L w' := by
  refine calls_cw (vs := [_]) Tryz.func64 rfl rfl rfl ?_
  refine cw_seq ?_
  refine cw_region rfl ?_
  refine st H (asg rfl) ?_
  refine wl_nil ?_
  refine cw_seq ?_
  refine cw_sched (Keep _ [_]) 11 (.q 0 (.q 1 (.q 2 (.q 3 (.q 4 (.q 5 (.q 6 (.q 7 (.q 8 (.q 9 (.a 10 (.a 11 .e)))))))))))) hm H (fun w h => ⟨_, h⟩) (by kernel_rfl) (by kernel_rfl) rfl (fun w2 H1 => ?_)
  refine sw rfl rfl (mv rfl) ?_
  refine sw rfl rfl (nck rfl) ?_
  refine sw rfl rfl (fa fo96_1 rfl) ?_
  refine sw rfl rfl (ks fun L' => ld sc94 0 rfl rfl rfl) ?_
  refine sw rfl rfl (usdn rfl) ?_
  refine sw rfl rfl (mv rfl) ?_
  refine sw rfl rfl (nck rfl) ?_
  refine sw rfl rfl (fa fo96_1 rfl) ?_
  refine sw rfl rfl (ks fun L' => ld sc94 0 rfl rfl rfl) ?_
  refine sw rfl rfl (lenl Tryz.underlying94 rfl) ?_
  refine sa rfl rfl ?_
  refine st H1 (usn pp140 rfl rfl) ?_
  refine wl_nil ⟨.inr ⟨_, H1⟩, ?_⟩
  refine sa rfl rfl ?_
  refine st H1 (asg rfl) ?_
  refine wl_nil ⟨.inl rfl, ?_⟩
  refine ws_nil ?_
  refine cw_ret ?_
  refine ret1 rfl rfl ?_
  exact ⟨rfl, (H1.er 0)⟩
set_option maxRecDepth 20000 in
theorem string_c {b rb cc : Nat} {v : Value} {l : List UInt8} (H : Own g (bk b 96 [v, .slice (some ⟨rb, 0, none⟩) l.length cc] :: Rw 5 u8c 1 (some ⟨rb, 0, none⟩) cc l :: L) w) (hl : l ≠ []) (hc : cc ≠ 0) : Calls Pg 64 #[.pointer (some ⟨b, 0, none⟩)] w fun e w' => e = .returned (.string ⟨l.toArray⟩) ∧ Own g L w' := by
  refine calls_cw (vs := [_]) Tryz.func64 rfl rfl rfl ?_
  refine cw_seq ?_
  refine cw_region rfl ?_
  refine st H (asg rfl) ?_
  refine wl_nil ?_
  refine cw_seq ?_
  refine cw_sched (Keep _ [_]) 11 (.q 0 (.q 1 (.q 2 (.q 3 (.q 4 (.q 5 (.q 6 (.q 7 (.q 8 (.q 9 (.a 10 (.a 11 .e)))))))))))) hm H (fun w h => ⟨_, h⟩) (by kernel_rfl) (by kernel_rfl) rfl (fun w2 H1 => ?_)
  refine sw rfl rfl (mv rfl) ?_
  refine sw rfl rfl (nck rfl) ?_
  refine sw rfl rfl (fa fo96_1 rfl) ?_
  refine sw rfl rfl (ks fun L' => ld sc94 0 rfl rfl rfl) ?_
  refine sw rfl rfl (usd hc rfl) ?_
  refine sw rfl rfl (mv rfl) ?_
  refine sw rfl rfl (nck rfl) ?_
  refine sw rfl rfl (fa fo96_1 rfl) ?_
  refine sw rfl rfl (ks fun L' => ld sc94 0 rfl rfl rfl) ?_
  refine sw rfl rfl (lenl Tryz.underlying94 rfl) ?_
  refine sa rfl rfl ?_
  refine st_ustr 1 H1 pp140 c5Z rfl rfl rfl hl fun w4 H3 => ?_
  refine wl_nil ⟨.inr ⟨_, H3⟩, ?_⟩
  refine sa rfl rfl ?_
  refine st H3 (asg rfl) ?_
  refine wl_nil ⟨.inl rfl, ?_⟩
  refine ws_nil ?_
  refine cw_ret ?_
  refine ret1 rfl rfl ?_
  exact ⟨rfl, (H3.er 0)⟩
set_option maxHeartbeats 1000000 in
theorem z_of (c : Int) (h : 0 ≤ c ∧ c ≤ 255) : c = ((c.toNat.toUInt8).toNat : Int) := by
  show c = ((UInt8.ofNat c.toNat).toNat : Int)
  rw [UInt8.toNat_ofNat']
  omega
/-- What was written, whatever it is. -/
theorem stringAny_c {b cc : Nat} {v : Value} {A : Option Addr} {l : List UInt8} (H : Own g (bk b 96 [v, .slice A l.length cc] :: Rw 5 u8c 1 A cc l :: L) w) (hn : l = [] → A = none ∧ cc = 0) : Calls Pg 64 #[.pointer (some ⟨b, 0, none⟩)] w fun e w' => e = .returned (.string ⟨l.toArray⟩) ∧ Own g L w' := by
  cases l with
  | nil =>
    obtain ⟨rfl, rfl⟩ := hn rfl
    exact (stringNil_c (H.er 1)).mono fun e w' h => ⟨h.1, h.2⟩
  | cons x r =>
    obtain ⟨_, hc⟩ := (H.fr 1 rfl).rw_cells
    rcases hc with hc | ⟨b', cur, rfl, h3, _⟩
    · cases hc
    · exact string_c H (by simp) (by simp at h3; omega)
theorem alone_text {t : Tk} (hk : t.k = 3) (h : aloneB t = true) : t.s.size ≠ 0 ∧ textF t.s t.s.size 1 = t.s.size := by
  unfold aloneB at h
  split at h
  · rename_i h0
    have := of_decide_eq_true h
    omega
  · rename_i h0
    refine ⟨h0, ?_⟩
    split at h
    · rename_i k n hn
      simp only [Bool.and_eq_true, decide_eq_true_eq] at h
      obtain ⟨h1, h2⟩ := h
      have h3 : k = 3 := by omega
      subst h3
      have h4 : n = textS t.s := by
        unfold tokS at hn
        dsimp only at hn
        split at hn
        · split at hn <;> simp at hn
        · split at hn
          · split at hn
            · cases hn
            · split at hn <;> simp at hn
          · split at hn
            · split at hn
              · cases hn
              · simp at hn; exact hn.symm
            · split at hn
              · simp at hn
              · split at hn <;> simp at hn
      have h5 := congrArg ByteArray.size h2
      simp at h5
      have h6 := textF_le t.s t.s.size 1
      have h7 : textS t.s = textF t.s t.s.size 1 := rfl
      omega
    · cases h
theorem byteAt_mid {s : ByteArray} {p : Nat} (h : p < s.size - 2) : byteAt (s.extract 1 (s.size - 1)) p = byteAt s (p + 1) := by
  have h1 : p < (s.extract 1 (s.size - 1)).size := by simp; omega
  have h2 : p + 1 < s.size := by omega
  unfold byteAt
  rw [ByteArray.getElem?_lt' _ p h1, ByteArray.getElem?_lt' s (p + 1) h2]
  simp [ByteArray.getElem_extract, Nat.add_comm]
set_option maxHeartbeats 1000000 in
theorem value_c (t : Tk) (H : Own g L w) (ht : t.s.size ≤ 140737488355327) : Calls Pg 127 #[.agg #[.int .i64 t.k, .string t.s, .int .i64 t.a]] w fun e w' => ∃ er, e = .returned (.tuple #[.string (valV t), .int .i64 er]) ∧ Own g L w' := by
  refine calls_cw (vs := [_]) Tryz.func127 rfl rfl rfl ?_
  refine cw_seq ?_
  refine cw_region rfl ?_
  refine st_box H rfl rfl fun b3 w2 H1 => ?_
  refine st H1 (asg rfl) ?_
  refine st H1 (asg rfl) ?_
  refine wl_nil ?_
  refine cw_seq ?_
  refine cw_seq ?_
  refine cw_region rfl ?_
  refine st H1 (fa fo38_0 rfl) ?_
  refine st H1 (ld sc3 0 rfl rfl rfl) ?_
  refine st H1 (nei rfl rfl) ?_
  refine st H1 (mv rfl) ?_
  refine wl_case (t := 11) rfl (fun hg4 => ?_) (fun hg4 => ?_)
  · have hp4 := hg4
    try simp at hp4
    refine goff rfl rfl hg4 ?_
    refine goff rfl rfl hg4 ?_
    refine goff rfl rfl hg4 ?_
    refine st H1 (pk_t rfl hg4 rfl) ?_
    refine wl_nil ?_
    refine cw_cond_t rfl rfl ?_
    have hv : valV t = ⟨#[]⟩ := by
      simp only [valV]
      rw [if_neg]
      rintro ⟨hk3, hal⟩
      simp_all
    refine cw_seq ?_
    refine cw_region rfl ?_
    refine st H1 (asg rfl) ?_
    refine st H1 (asg rfl) ?_
    refine wl_nil ?_
    refine cw_ret ?_
    refine ret2 rfl rfl rfl ?_
    exact ⟨_, by rw [hv], (H1.er 0)⟩
  · have hp4 := hg4
    try simp at hp4
    refine gon rfl rfl hg4 ?_
    refine st H1 (lda ag38 0 rfl rfl rfl rfl) ?_
    refine gon rfl rfl hg4 ?_
    refine st_call cf56 rfl (alone_c t H1 ht) ?_
    rintro _ w6 ⟨rfl, H5⟩
    refine gon rfl rfl hg4 ?_
    refine st H5 (notb rfl) ?_
    refine st H5 (pk_f rfl hg4 rfl) ?_
    refine wl_nil ?_
    refine cw_cond rfl (fun hb7 => ?_) (fun hb7 => ?_)
    · have hp7 := hb7
      try simp at hp7
      have hv : valV t = ⟨#[]⟩ := by
        simp only [valV]
        rw [if_neg]
        rintro ⟨hk3, hal⟩
        simp_all
      refine cw_seq ?_
      refine cw_region rfl ?_
      refine st H5 (asg rfl) ?_
      refine st H5 (asg rfl) ?_
      refine wl_nil ?_
      refine cw_ret ?_
      refine ret2 rfl rfl rfl ?_
      exact ⟨_, by rw [hv], (H5.er 0)⟩
    · have hp7 := hb7
      try simp at hp7
      have hk3 : t.k = 3 := by simp_all
      have hal : aloneB t = true := by simp_all
      obtain ⟨h0, htx⟩ := alone_text hk3 hal
      have h2 := (textF_pos htx h0).1
      obtain ⟨tot, htot⟩ : ∃ tot, tot = valF t.s t.s.size 1 := ⟨_, rfl⟩
      have hvi : VI t.s tot 0 false [] := ⟨⟨_, htx⟩, t.s.size, by omega, by rw [htot]; rfl⟩
      have husz : (t.s.extract 1 (t.s.size - 1)).size = t.s.size - 2 := by simp; omega
      refine cw_skip ?_
      refine cw_seq ?_
      refine cw_region rfl ?_
      refine st_al H5 zc96 fun b10 w9 H8 => ?_
      refine wl_nil ?_
      refine cw_seq ?_
      refine cw_region rfl ?_
      refine st H8 (asg rfl) ?_
      refine wl_nil ?_
      refine cw_seq ?_
      refine cw_seq ?_
      refine cw_region rfl ?_
      refine st H8 (fa fo38_1 rfl) ?_
      refine st H8 (ld sc9 1 rfl rfl rfl) ?_
      refine st H8 (fa fo38_1 rfl) ?_
      refine st H8 (ld sc9 1 rfl rfl rfl) ?_
      refine st H8 (lens Tryz.underlying9 rfl) ?_
      refine st H8 (sub rfl rfl (by omega) (by omega)) ?_
      refine st H8 (sls Tryz.underlying9 rfl rfl rfl (1) (t.s.size - 1) rfl (by omega) (by omega) (by omega)) ?_
      refine st_range H8 Tryz.underlying9 rfl fun b13 w12 H11 => ?_
      refine wl_nil ?_
      refine cw_block ?_
      have HN := H11.rw_nil (e := 5) (f := u8c) (sz := 1)
      refine cw_loop (σ := Nat × Bool) (fun s => [(4, .pointer (some ⟨b10, 0, none⟩)), (23, .pointer (some ⟨b13, 0, none⟩)), (5, .bool s.2)]) (fun s w => ∃ pz A c l2, Own g (itr b13 (t.s.extract 1 (t.s.size - 1)) s.1 :: bk b10 96 [.pointer pz, .slice A l2.length c] :: Rw 5 u8c 1 A c l2 :: L) w ∧ (pz = none ∨ pz = some ⟨b10, 0, none⟩) ∧ s.1 ≤ t.s.size - 2 ∧ l2.length ≤ s.1 ∧ (l2 = [] → A = none ∧ c = 0) ∧ VI t.s tot s.1 s.2 l2) (fun s => t.s.size - 2 - s.1) (0, false) ⟨rfl, rfl, rfl, trivial⟩ ⟨_, _, _, [], (((HN.fr 2 rfl).fr 2 rfl).er 3), .inl rfl, by omega, by simp, fun _ => ⟨rfl, rfl⟩, hvi⟩ ?_
      rintro s w15 ⟨pz, A, c, l2, H14, hpz, hsp, hll, hn, hvi2⟩
      obtain ⟨sp, sb⟩ := s
      dsimp only at *
      refine cw_seq ?_
      refine cw_region rfl ?_
      rcases Nat.lt_or_ge sp (t.s.size - 2) with hlt2 | hlt2
      · have hub := byteAt_mid hlt2
        have h128 : byteAt t.s (sp + 1) < 128 := by cases sb with | true => exact vi_in2 hvi2 | false => exact vi_in hvi2 h0 hlt2
        have hbr := byteAt_range (t.s.extract 1 (t.s.size - 1)) sp
        obtain ⟨z, hz⟩ : ∃ z : UInt8, byteAt (t.s.extract 1 (t.s.size - 1)) sp = (z.toNat : Int) := ⟨_, z_of _ hbr⟩
        refine st_next_on z 0 H14 rfl rfl (by omega) hz (by omega) fun w17 H16 => ?_
        refine st H16 (ext rfl rfl) ?_
        refine wl_nil ?_
        refine cw_seq ?_
        refine cw_cond_t rfl rfl ?_
        refine cw_skip ?_
        refine cw_block ?_
        refine cw_seq ?_
        refine cw_region rfl ?_
        refine st H16 (ext rfl rfl) ?_
        refine st H16 (asg rfl) ?_
        refine wl_nil ?_
        refine cw_seq ?_
        refine cw_block ?_
        refine cw_seq ?_
        refine cw_region rfl ?_
        refine st H16 (mv rfl) ?_
        refine st H16 (mv rfl) ?_
        refine wl_case (t := 29) rfl (fun hg18 => ?_) (fun hg18 => ?_)
        · have hp18 := hg18
          try simp at hp18
          refine gon rfl rfl hg18 ?_
          refine st H16 (mv rfl) ?_
          refine gon rfl rfl hg18 ?_
          refine st H16 (eqi rfl rfl) ?_
          refine st H16 (pk_t rfl hg18 rfl) ?_
          refine st H16 (asg rfl) ?_
          refine wl_nil ?_
          refine cw_cond rfl (fun hb19 => ?_) (fun hb19 => ?_)
          · have hp19 := hb19
            try simp at hp19
            have hz110 : (z.toNat : Int) = 110 := of_decide_eq_true hb19
            refine cw_region rfl ?_
            refine st_call cf61 rfl (writeByte_c 10 ((H16.fr 2 rfl).fr 2 rfl) hpz (by omega)) ?_
            rintro _ w21 ⟨rfl, A8, c8, H20⟩
            refine wl_nil ?_
            refine cw_region rfl ?_
            refine st H20 (mv rfl) ?_
            refine st H20 (notb rfl) ?_
            refine st H20 (mv rfl) ?_
            refine goff rfl rfl (by rw [hg18] <;> rfl) ?_
            refine goff rfl rfl (by rw [hg18] <;> rfl) ?_
            refine st H20 (pk_f rfl (by rw [hg18] <;> rfl) rfl) ?_
            refine st H20 (asg rfl) ?_
            refine wl_nil ?_
            have hvi3 : VI t.s tot sp true l2 := by rw [← hg18]; exact hvi2
            exact ⟨(sp + 1, false), ⟨rfl, rfl, rfl, trivial⟩, ⟨_, _, _, (l2 ++ [10]), (((H20.fr 1 rfl).fr 1 rfl).fr 2 rfl), .inr rfl, by omega, by first | omega | (simp; omega), fun h => by simp at h, by have h9 := vi_esc hvi3 h0; rw [← hub, hz] at h9; simpa [escV, hz110] using h9⟩, by show t.s.size - 2 - (sp + 1) < t.s.size - 2 - sp; omega⟩
          · have hp19 := hb19
            try simp at hp19
            have hz110 : ¬ (z.toNat : Int) = 110 := of_decide_eq_false hb19
            refine cw_seq ?_
            refine cw_region rfl ?_
            refine st H16 (mv rfl) ?_
            refine st H16 (mv rfl) ?_
            refine goff rfl rfl hg18 ?_
            refine goff rfl rfl hg18 ?_
            refine st H16 (pk_t rfl hg18 rfl) ?_
            refine st H16 (asg rfl) ?_
            refine wl_nil ?_
            refine cw_cond_t rfl rfl ?_
            refine cw_region rfl ?_
            refine st H16 (mv rfl) ?_
            refine st_call cf157 rfl (writeRune_c z ((H16.fr 2 rfl).fr 2 rfl) hpz (by omega) (by omega)) ?_
            rintro _ w23 ⟨m9, rfl, A8, c8, H22⟩
            refine wl_nil ?_
            refine cw_region rfl ?_
            refine st H22 (mv rfl) ?_
            refine st H22 (notb rfl) ?_
            refine st H22 (mv rfl) ?_
            refine goff rfl rfl (by rw [hg18] <;> rfl) ?_
            refine goff rfl rfl (by rw [hg18] <;> rfl) ?_
            refine st H22 (pk_f rfl (by rw [hg18] <;> rfl) rfl) ?_
            refine st H22 (asg rfl) ?_
            refine wl_nil ?_
            have hvi3 : VI t.s tot sp true l2 := by rw [← hg18]; exact hvi2
            exact ⟨(sp + 1, false), ⟨rfl, rfl, rfl, trivial⟩, ⟨_, _, _, (l2 ++ [z]), (((H22.fr 1 rfl).fr 1 rfl).fr 2 rfl), .inr rfl, by omega, by first | omega | (simp; omega), fun h => by simp at h, by have h9 := vi_esc hvi3 h0; rw [← hub, hz] at h9; simpa [escV, hz110] using h9⟩, by show t.s.size - 2 - (sp + 1) < t.s.size - 2 - sp; omega⟩
        · have hp18 := hg18
          try simp at hp18
          refine goff rfl rfl hg18 ?_
          refine goff rfl rfl hg18 ?_
          refine st H16 (pk_f rfl hg18 rfl) ?_
          refine st H16 (asg rfl) ?_
          refine wl_nil ?_
          refine cw_cond_f rfl rfl ?_
          refine cw_seq ?_
          refine cw_region rfl ?_
          refine st H16 (mv rfl) ?_
          refine st H16 (mv rfl) ?_
          refine gon rfl rfl hg18 ?_
          refine st H16 (mv rfl) ?_
          refine gon rfl rfl hg18 ?_
          refine st H16 (nei rfl rfl) ?_
          refine st H16 (pk_f rfl hg18 rfl) ?_
          refine st H16 (asg rfl) ?_
          refine wl_nil ?_
          refine cw_cond rfl (fun hb24 => ?_) (fun hb24 => ?_)
          · have hp24 := hb24
            try simp at hp24
            have hz92 : ¬ (z.toNat : Int) = 92 := of_decide_eq_true hb24
            refine cw_region rfl ?_
            refine st H16 (mv rfl) ?_
            refine st_call cf157 rfl (writeRune_c z ((H16.fr 2 rfl).fr 2 rfl) hpz (by omega) (by omega)) ?_
            rintro _ w26 ⟨m9, rfl, A8, c8, H25⟩
            refine wl_nil ?_
            refine cw_region rfl ?_
            refine st H25 (mv rfl) ?_
            refine st H25 (notb rfl) ?_
            refine st H25 (mv rfl) ?_
            refine gon rfl rfl (by rw [hg18] <;> rfl) ?_
            refine st H25 (mv rfl) ?_
            refine gon rfl rfl (by rw [hg18] <;> rfl) ?_
            refine st H25 (eqi rfl rfl) ?_
            refine st H25 (pk_t rfl (by rw [hg18] <;> rfl) rfl) ?_
            refine st H25 (asg rfl) ?_
            refine wl_nil ?_
            have hvi3 : VI t.s tot sp false l2 := by rw [← hg18]; exact hvi2
            exact ⟨(sp + 1, decide ((z.toNat : Int) = 92)), ⟨rfl, rfl, rfl, trivial⟩, ⟨_, _, _, (l2 ++ [z]), (((H25.fr 1 rfl).fr 1 rfl).fr 2 rfl), .inr rfl, by omega, by first | omega | (simp; omega), fun h => by simp at h, by rw [decide_eq_false (show ¬ (z.toNat : Int) = 92 from hz92)]; have h9 := vi_plain hvi3 h0 hlt2 (by rw [← hub, hz]; exact hz92); rw [← hub, hz] at h9; simpa using h9⟩, by show t.s.size - 2 - (sp + 1) < t.s.size - 2 - sp; omega⟩
          · have hp24 := hb24
            try simp at hp24
            have hz92 : (z.toNat : Int) = 92 := by have h9 := of_decide_eq_false hb24; omega
            refine cw_skip ?_
            refine cw_region rfl ?_
            refine st H16 (mv rfl) ?_
            refine st H16 (notb rfl) ?_
            refine st H16 (mv rfl) ?_
            refine gon rfl rfl (by rw [hg18] <;> rfl) ?_
            refine st H16 (mv rfl) ?_
            refine gon rfl rfl (by rw [hg18] <;> rfl) ?_
            refine st H16 (eqi rfl rfl) ?_
            refine st H16 (pk_t rfl (by rw [hg18] <;> rfl) rfl) ?_
            refine st H16 (asg rfl) ?_
            refine wl_nil ?_
            have hvi3 : VI t.s tot sp false l2 := by rw [← hg18]; exact hvi2
            exact ⟨(sp + 1, decide ((z.toNat : Int) = 92)), ⟨rfl, rfl, rfl, trivial⟩, ⟨_, _, _, l2, (((H16.fr 2 rfl).fr 2 rfl).fr 2 rfl), hpz, by omega, by first | omega | (simp; omega), hn, by rw [decide_eq_true (show (z.toNat : Int) = 92 from hz92)]; exact vi_slash hvi3 h0 hlt2 (by rw [← hub, hz]; exact hz92)⟩, by show t.s.size - 2 - (sp + 1) < t.s.size - 2 - sp; omega⟩
      · refine st_next_end 0 H14 rfl rfl (by omega) ?_
        refine st H14 (ext rfl rfl) ?_
        refine wl_nil ?_
        refine cw_seq ?_
        refine cw_cond_f rfl rfl ?_
        refine cw_exit ?_
        refine cw_seq ?_
        refine cw_region rfl ?_
        refine st_call cf64 rfl (stringAny_c ((H14.fr 2 rfl).fr 2 rfl) hn) ?_
        rintro _ w28 ⟨rfl, H27⟩
        refine st H27 (asg rfl) ?_
        refine st H27 (asg rfl) ?_
        refine wl_nil ?_
        refine cw_ret ?_
        refine ret2 rfl rfl rfl ?_
        have hvv : (⟨l2.toArray⟩ : ByteArray) = valV t := by
          cases sb with
          | true => exact (vi_end2 hvi2 h0 (by omega)).elim
          | false => simp [valV, hk3, hal, vi_end hvi2 (by omega), htot]
        exact ⟨_, by rw [hvv], (H27.er 0)⟩
end
end Go.Proofs.YtmkijgmfefkgeaaGreatDoor
