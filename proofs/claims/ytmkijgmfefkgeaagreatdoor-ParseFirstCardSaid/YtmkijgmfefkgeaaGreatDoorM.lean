/- More steps: empty rows, cuts of rows, rows that are copied. No condition. -/
import Derived.Test.YtmkijgmfefkgeaaGreatDoorV
set_option autoImplicit false
set_option linter.unusedVariables false
set_option linter.unusedSimpArgs false
namespace Go.Proofs.YtmkijgmfefkgeaaGreatDoor
open Go
theorem flat_all {α : Type} {f : α → List Value} {sz : Nat} {C : Nat → Value → Prop} : ∀ (l : List α) (o : Nat), (∀ y ∈ l, (f y).length = sz) → (∀ (j : Nat) (y : α), l[j]? = some y → ∀ (q : Nat) (u : Value), (f y)[q]? = some u → C (o + (j * sz + q)) u) → ∀ q u, (l.flatMap f)[q]? = some u → C (o + q) u
  | [], o, _, _, q, u, h => by simp at h
  | y :: r, o, hl, hc, q, u, h => by
    have hy := hl y (by simp)
    rw [List.flatMap_cons] at h
    rcases Nat.lt_or_ge q sz with hq | hq
    · rw [List.getElem?_append_left (by omega)] at h
      have := hc 0 y rfl q u h
      simpa using this
    · rw [List.getElem?_append_right (by omega), hy] at h
      have := flat_all r (o + sz) (fun z hz => hl z (by simp [hz])) (fun j z hz q' u' hu => by
        have h9 := hc (j + 1) z (by simpa using hz) q' u' hu
        rw [show o + sz + (j * sz + q') = o + ((j + 1) * sz + q') by rw [Nat.add_mul]; omega]
        exact h9) (q - sz) u h
      rw [show o + sz + (q - sz) = o + q by omega] at this
      exact this
section
variable {P : Program} {n : Nat} {D : List Deferred} {C : World → Prop} {E : En} {ty : TypeId}
theorem slto {t e sz bytes : Nat} {x z : Operand} {A : Addr} {m c : Nat} {k : IntKind} {i : Int} (ht : slN P t = some (e, sz, bytes)) (hx : ev E x = some (.slice (some A) m c)) (hz : ev E z = some (.int k i)) (b : Nat) (hi : i = (b : Int)) (h : b ≤ c) :
    RV P n D C E (.slice t x none (some z) none) ty (.slice (some A) b c) := fun ac w ha _ => by
  subst hi
  unfold slN at ht
  split at ht
  · rename_i el hu
    obtain ⟨inf, hin, hsz⟩ := Option.map_eq_some_iff.1 ht
    have h1 : (b : Int) ≤ (c : Int) := by omega
    have h2 : (Instr.sliceAt t (.slice (some A) m c) none (some (.int k (b : Int))) none).run P w = .ok (.slice (some A) b c) w := by
      simp [Instr.sliceAt, Instr.slice, Instr.sliceBounds, Instr.sliceBound, asIntOf, run_underlying hu, h1, sizeOf, typeInfo, hin, program, Sem.run, Addr.add]
      intro h9
      omega
    simp [execOp, ha.ev hx, ha.ev hz, h2]
  · cases ht
end
section
variable {P : Program} {n : Nat} {D : List Deferred} {ops : Array Oper} {K : En → World → Prop} {X : List PanicEntry → World → Prop} {E : En} {w : World} {rest : List Oper} {d : Option Tmp} {op : Op} {ty : TypeId} {ps : String} {af : Array Edge} {g : World} {L : List SP}
theorem st_bs0 {α : Type} {f : α → List Value} {t e sz bytes : Nat} (H : Own g L w) (ht : slN P t = some (e, sz, bytes)) (h : ∀ b w', Own g (Rw e f sz (some ⟨b, 0, none⟩) 0 ([] : List α) :: L) w' → WL P n D ops K X rest (pt d (.slice (some ⟨b, 0, none⟩) 0 0) E) w') :
    WL P n D ops K X (⟨d, .buildSlice t 0 #[], ty, ps, af, none⟩ :: rest) E w := by
  intro hok a ha
  obtain ⟨hd, hr⟩ := ok_cons hok
  refine wpList_plain rfl fun K' hK => ?_
  unfold slN at ht
  split at ht
  case h_2 => cases ht
  rename_i el hu
  obtain ⟨inf, hin, hsz⟩ := Option.map_eq_some_iff.1 ht
  simp only [Prod.mk.injEq] at hsz
  obtain ⟨rfl, hsz, hby⟩ := hsz
  have e : (execOp a.eval ⟨d, .buildSlice t 0 #[], ty, ps, af, none⟩).run P w = .ok (.value (.slice (some ⟨w.heap.size, 0, none⟩) 0 0)) (w.alloc (.cells #[] el)) := by
    simp [execOp, Instr.buildSlice, run_underlying hu, sizeOf, typeInfo, hin, program, Sem.run, Instr.fill, newRow, newObj]
    have h9 : (Array.map (fun (_ : Nat) => (default : Value)) (Array.range 0)) = #[] := Array.eq_empty_of_size_eq_zero (by simp)
    rw [h9]
  unfold Oper.wp
  rw [e]
  refine hK _ _ (h w.heap.size _ ((H.al _).mono fun hh hb => ?_) hr _ (ha.put _ hd))
  exact ⟨by simp, .inr ⟨_, #[], rfl, by rw [hb]; simp, by simp, by simp [maxLen], by simp, by simp⟩⟩
theorem st_appC {α : Type} {f : α → List Value} {t e sz bytes m m' : Nat} {z : List Value} {s x : Operand} {A : Option Addr} {ad : Addr} {c : Nat} {l : List α} (i : Nat) (ys : List α) (H : Own g L w) (ht : slN P t = some (e, sz, bytes)) (hz : zcN P e = some z) (hzl : z.length = sz) (h0 : Nat.ble 1 sz = true)
    (hs : ev E s = some (.slice A l.length c)) (hx : ev E x = some (.slice (some ad) m m')) (hi : L[i]? = some (Rw e f sz A c l)) (hcell : ∀ j y, ys[j]? = some y → ∀ q u, (f y)[q]? = some u → w.cell? (ad.add (j * sz + q)) = some u) (hm : ys.length = m) (hf : ∀ y ∈ ys, (f y).length = sz ∧ ones (f y) = true)
    (hb : (l.length + m) * bytes ≤ 140737488355328) (hl : l.length + m ≤ 140737488355328)
    (h : ∀ A' c' w', Own g (Rw e f sz A' c' (l ++ ys) :: L.eraseIdx i) w' → WL P n D ops K X rest (pt d (.slice A' (l ++ ys).length c') E) w') :
    WL P n D ops K X (⟨d, .call { callee := .builtin .append, args := #[s, x], argTypes := #[t, t] }, ty, ps, af, none⟩ :: rest) E w := by
  intro hok a ha
  obtain ⟨hd, hr⟩ := ok_cons hok
  refine wpList_plain rfl fun K' hK => ?_
  have h0 := Nat.le_of_ble_eq_true h0
  unfold slN at ht
  split at ht
  case h_2 => cases ht
  rename_i el hu
  obtain ⟨inf, hin, hsz⟩ := Option.map_eq_some_iff.1 ht
  simp only [Prod.mk.injEq] at hsz
  obtain ⟨rfl, hsz, hby⟩ := hsz
  obtain ⟨v, hv, hvz⟩ := Option.map_eq_some_iff.1 hz
  obtain ⟨i', hi', hiz⟩ := Option.bind_eq_some_iff.1 hv
  rw [hin] at hi'
  cases hi'
  obtain ⟨k, ⟨a1, r, hdis, hjoin, hRw, hrest⟩, hsub⟩ := (H.fr i hi).heap
  have hRw' := hRw
  have hown := rw_owns (w := w) hRw (fun q o hq => hsub q o (by rw [hjoin q, hq]; rfl))
  obtain ⟨cs, hcs⟩ : ∃ cs, cs = ys.flatMap f := ⟨_, rfl⟩
  have hcell' : ∀ q u, cs[q]? = some u → w.cell? (ad.add q) = some u := fun q u hq => by
    rw [hcs] at hq
    have h9 := flat_all (C := fun q u => w.cell? (ad.add q) = some u) ys 0 (fun y hy => (hf y hy).1) (fun j y hy q u hu => by have := hcell j y hy q u hu; simpa using this) q u hq
    simpa using h9
  have hcl : cs.length = m * sz := by rw [hcs, flat_len (fun y hy => (hf y hy).1), hm]
  have hone : ∀ u ∈ cs, u.oneCell' = true := fun u hu => one_oneCell (ones_mem (by rw [hcs]; exact ones_flat fun y hy => (hf y hy).2) u hu)
  obtain ⟨v', w', hrun, hown', hg, hnil, hat⟩ := run_append_own_at (P := P) (w := w) 0 t ty el inf v sz bytes hu hin hiz hsz hby (by rw [← hzl, ← hvz]; simp) h0 (.slice A l.length c) l.length (l.flatMap f) hown ad m m' cs hcl hcell' hone
    (by simp only [maxLen]; omega) hb (Nat.zero_le _)
  have hlen : (l ++ ys).length = l.length + m := by simp [hm]
  have hfl : l.flatMap f ++ cs = (l ++ ys).flatMap f := by rw [List.flatMap_append, hcs]
  have hall : ∀ y ∈ l ++ ys, (f y).length = sz ∧ ones (f y) = true := by
    intro y hy
    rcases List.mem_append.1 hy with hy | hy
    · exact hRw'.1 y hy
    · exact hf y hy
  have hrk : ∀ q o, r q = some o → w.heap[q]? = some o := by
    intro q o hq
    refine hsub q o ?_
    rw [hjoin q]
    rcases hdis q with e | e
    · simp [e, hq]
    · rw [e] at hq; cases hq
  have hrb : ∀ b0, (Value.slice A l.length c).ownBlock = some b0 → r b0 = none := by
    intro b0 hb0
    obtain ⟨_, ⟨rfl, _⟩ | ⟨b, cur, rfl, hb1, _⟩⟩ := hRw'
    · cases hb0
    · simp only [Value.ownBlock, Option.some.injEq] at hb0
      subst hb0
      rcases hdis b with e | e
      · rw [e] at hb1; cases hb1
      · exact e
  have hkeep : ∀ q o, r q = some o → w'.heap[q]? = some o := by
    intro q o hq
    have h1 := hrk q o hq
    rw [hg.block q (Array.getElem?_eq_some_iff.1 h1).1 (fun e => by rw [hrb q e.symm] at hq; cases hq)]
    exact h1
  have hglb : ∀ b0, (Value.slice A l.length c).ownBlock = some b0 → gl g b0 = none := by
    intro b0 hb0
    obtain ⟨_, ⟨rfl, _⟩ | ⟨b, cur, rfl, hb1, _⟩⟩ := hRw'
    · cases hb0
    · simp only [Value.ownBlock, Option.some.injEq] at hb0
      subst hb0
      rcases hsub.dis b with e | e
      · rw [hjoin b, hb1] at e; cases e
      · exact e
  have hglk : ∀ q o, gl g q = some o → w'.heap[q]? = some o := by
    intro q o hq
    have h1 := hsub.glo q o hq
    rw [hg.block q (Array.getElem?_eq_some_iff.1 h1).1 (fun e => by rw [hglb q e.symm] at hq; cases hq)]
    exact h1
  have hdis : ∀ q, r q = none ∨ gl g q = none := by
    intro q
    rcases hsub.dis q with e | e
    · left
      rw [hjoin q] at e
      rcases hdis q with d | d
      · simpa [d] using e
      · exact d
    · exact .inr e
  obtain ⟨A', c', hv', hR⟩ : ∃ A' c', v' = .slice A' (l ++ ys).length c' ∧ Own g (Rw el f sz A' c' (l ++ ys) :: L.eraseIdx i) w' := by
    rcases hown'.2 with ⟨rfl, hn⟩ | ⟨b', cap, cur, rfl, _, hh, hnc, hcm, hcs', htk⟩
    · have hl0 : l ++ ys = [] := List.eq_nil_of_length_eq_zero (by omega)
      refine ⟨none, 0, by rw [hl0]; rfl, hg.os.trans H.os, hg.tape.trans H.tape, hg.output.trans H.output, r, ⟨fun _ => none, r, fun _ => .inl rfl, fun _ => by simp, ?_, hrest⟩, hkeep, hglk, hdis⟩
      rw [hl0]
      exact Rw.nil
    · have hb' : r b' = none := by
        rcases hat with hat | hat
        · exact hrb b' (by rw [← hat]; rfl)
        · simp only [Value.ownBlock, Option.some.injEq] at hat
          cases hq : r b' with
          | none => rfl
          | some o =>
            have := (Array.getElem?_eq_some_iff.1 (hrk _ _ hq)).1
            omega
      refine ⟨some ⟨b', 0, none⟩, cap, by rw [hlen], hg.os.trans H.os, hg.tape.trans H.tape, hg.output.trans H.output, fun q => if q = b' then some (.cells cur el (0, 0)) else r q, ⟨fun q => if q = b' then some (.cells cur el (0, 0)) else none, r, fun q => ?_, fun q => ?_, ⟨hall, .inr ⟨b', cur, rfl, by simp, by rw [hlen]; exact hnc, hcm, hcs', ?_⟩⟩, hrest⟩, fun q o hq => ?_, hglk, fun q => ?_⟩
      · by_cases e : q = b'
        · right; rw [e]; exact hb'
        · left; simp [e]
      · by_cases e : q = b' <;> simp [e]
      · rw [hlen, htk, hfl]
      · by_cases e : q = b'
        · simp only [e, if_true] at hq; cases hq; rw [e]; exact hh
        · simp only [e, if_false] at hq; exact hkeep q o hq
      · by_cases e : q = b'
        · right
          subst e
          rcases hat with hat | hat
          · exact hglb q (by rw [← hat]; rfl)
          · simp only [Value.ownBlock, Option.some.injEq] at hat
            cases hq : gl g q with
            | none => rfl
            | some o =>
              have := (Array.getElem?_eq_some_iff.1 (hsub.glo _ _ hq)).1
              omega
        · simp only [e, if_false]; exact hdis q
  have e : (execOp a.eval ⟨d, .call { callee := .builtin .append, args := #[s, x], argTypes := #[t, t] }, ty, ps, af, none⟩).run P w = .ok (.value v') w' := by
    simp [execOp, resolve, invoke, builtin, ha.ev hs, ha.ev hx, hrun]
  unfold Oper.wp
  rw [e]
  subst hv'
  exact hK _ _ (h A' c' w' hR hr _ (ha.put _ hd))
end
end Go.Proofs.YtmkijgmfefkgeaaGreatDoor
