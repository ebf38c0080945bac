/- A row of tokens that comes in: what it is, and that it reads behind the call as before. No condition. -/
import Derived.Test.YtmkijgmfefkgeaaGreatDoorZ
import Derived.Deep.Slices
import Derived.Deep.Strs
import Derived.Carry
import Derived.OpenShut
set_option autoImplicit false
set_option maxRecDepth 100000
set_option linter.unusedVariables false
set_option linter.unusedSimpArgs false
namespace Go.Proofs.YtmkijgmfefkgeaaGreatDoor
open Go Go.ChangeShapes Go.WideShapes Go.ChangeAt Go.RowKit
theorem laidOutZ : laidOutB Tryz.prog = true := by kernel_rfl
theorem rd31 : Tryz.prog.readableRec 31 = true := by kernel_rfl
theorem rd9 : Tryz.prog.readableRec 9 = true := by kernel_rfl
theorem szT31 : 31 < Tryz.prog.types.size := by
  have h : Tryz.prog.types.size = 235 := by kernel_rfl
  omega
theorem c38 : Tryz.prog.cellsOf 38 = 3 := by kernel_rfl
theorem c3Z : Tryz.prog.cellsOf 3 = 1 := by kernel_rfl
theorem c9Z : Tryz.prog.cellsOf 9 = 1 := by kernel_rfl
theorem by38 : Tryz.prog.bytesOf 38 = 32 := by kernel_rfl
theorem own_below {W W' : World} {L : List SP} (H : Own W L W') : Below W.heap.size W W' := by
  have hk : ∀ k, k < W.heap.size → W'.heap[k]? = W.heap[k]? := fun k hk => by
    have h1 : W.heap[k]? = some W.heap[k] := Array.getElem?_eq_getElem hk
    rw [h1]
    exact H.var h1
  refine ⟨H.os, H.tape, H.output, ?_, hk⟩
  rcases Nat.eq_zero_or_pos W.heap.size with h0 | h0
  · omega
  · have h1 := hk (W.heap.size - 1) (by omega)
    rw [Array.getElem?_eq_getElem (show W.heap.size - 1 < W.heap.size by omega)] at h1
    have := (Array.getElem?_eq_some_iff.1 h1).1
    omega
theorem wAll_mem {H : Type} {P : Program} {e : TypeId} : ∀ {l : List (DataW H)} {d : DataW H}, d ∈ l → ∀ n ∈ d.weights P e, n ∈ DataW.weightsAll P e l
  | x :: r, d, h, n, hn => by
    unfold DataW.weightsAll
    rcases List.mem_cons.1 h with rfl | h
    · exact List.mem_append_left _ hn
    · exact List.mem_append_right _ (wAll_mem h n hn)
instance : Inhabited Tk := ⟨⟨0, ⟨#[]⟩, 0⟩⟩
theorem open_toks {H : Type} {enc : TypeId × Value → H} {W : World} {sp : Nat → Bool} {v : Value} {d : DataW H} {ps : List MemPlace} (h : DataW.Trod enc Tryz.prog W 0 sp true 31 v d ps) (hv : one v = true) (hw : ∀ n ∈ d.weights Tryz.prog 31, n ≤ reachBytes) :
    ∃ (A : Option Addr) (c : Nat) (l : List Tk), v = .slice A l.length c ∧ (l = [] ∨ ∃ b off cur e fr, A = some ⟨b, off, none⟩ ∧ W.heap[b]? = some (.cells cur e fr) ∧ ∀ j x, l[j]? = some x → (tkc x).length = 3 ∧ ∀ i u, (tkc x)[i]? = some u → cur[off + j * 3 + i]? = some u) ∧ (∀ t ∈ l, t.s.size ≤ 140737488355327 ∧ -9223372036854775808 ≤ t.a ∧ t.a ≤ 9223372036854775807) ∧ l.length ≤ 4398046511104 := by
  obtain ⟨fuel, h⟩ := h
  have hcv : v.cells.toList = [v] := by rw [one_cells hv]
  rw [hcv] at h
  rcases Go.Deep.open_slice Tryz.underlying31 h with ⟨h1, _⟩ | ⟨a, len, cap, m, n, D, Pl, h1, _, hlc, hcm, hm, hx, hel⟩
  · simp only [List.cons.injEq, and_true] at h1
    subst h1
    exact ⟨none, 0, [], rfl, .inl rfl, by simp, by simp⟩
  · simp only [List.cons.injEq, and_true] at h1
    subst h1
    have hd1 : d = .slice ((List.range len).map D) ((List.range (m - len)).map fun j => D (len + j)) := congrArg Prod.fst hx
    have hlm : len ≤ m := by rw [hm]; split <;> omega
    have key : ∀ i, i < len → ∃ t : Tk, (∀ j u, (tkc t)[j]? = some u → W.cell? (a.add (i * 3 + j)) = some u) ∧ t.s.size ≤ 140737488355327 ∧ -9223372036854775808 ≤ t.a ∧ t.a ≤ 9223372036854775807 := by
      intro i hi
      obtain ⟨cs', hc', hd⟩ := hel i (by omega)
      rw [c38] at hc'
      obtain ⟨_, hcl, hcell⟩ := World.cells?_some hc'
      obtain ⟨y0, y1, y2, n', hD, hlen, t0, t1, t2⟩ := Go.Deep.trod_struct3 Tryz.underlying38 hd
      match cs', hcl with
      | [u0, u1, u2], _ =>
        simp only [c3Z, c9Z] at t0 t1 t2
        obtain ⟨k, e0, _, _⟩ := DataW.trod_int Tryz.underlying3 (show DataW.trod enc Tryz.prog W 0 sp true n' 3 [u0] = some y0 from t0)
        obtain ⟨s, e1, hy1, hs⟩ := DataW.trod_string Tryz.underlying9 (show DataW.trod enc Tryz.prog W 0 sp true n' 9 [u1] = some y1 from t1)
        obtain ⟨q, e2, _, hwf⟩ := DataW.trod_int Tryz.underlying3 (show DataW.trod enc Tryz.prog W 0 sp true n' 3 [u2] = some y2 from t2)
        simp only [List.cons.injEq, and_true] at e0 e1 e2
        subst e0 e1 e2
        refine ⟨⟨k, s, q⟩, fun j u hu => ?_, ?_, ?_⟩
        · have hj : j < 3 := by
            rcases Nat.lt_or_ge j 3 with h | h
            · exact h
            · rw [List.getElem?_eq_none (by simpa [tkc] using h)] at hu; cases hu
          have h9 := hcell j hj
          rw [Go.Deep.add_add] at h9
          rw [h9]
          exact hu
        · have hmem : D i ∈ (List.range len).map D := List.mem_map.2 ⟨i, by simpa using hi, rfl⟩
          have hwt : s.data.toList.length ∈ (D i).weights Tryz.prog 38 := by
            have hDi : D i = .agg [y0.1, y1.1, y2.1] := congrArg Prod.fst hD
            rw [hDi, hy1]
            simp only [DataW.weights, Tryz.underlying38, List.map_cons, List.map_nil, DataW.weightsEach]
            simp
          have h9 := hw s.data.toList.length (by
            rw [hd1]
            simp only [DataW.weights, Tryz.underlying31]
            exact List.mem_cons_of_mem _ (List.mem_append_left _ (wAll_mem hmem _ hwt)))
          have h10 : s.size = s.data.toList.length := by cases s; simp [ByteArray.size]
          unfold reachBytes at h9
          show s.size ≤ 140737488355327
          omega
        · exact bounds_i64 hwf
    have hlen : len ≤ 4398046511104 := by
      have h9 := hw ((len + (m - len)) * 32) (by
        rw [hd1]
        simp only [DataW.weights, Tryz.underlying31]
        rw [by38]
        simp)
      unfold reachBytes at h9
      rcases Nat.lt_or_ge 4398046511104 len with h | h
      · have : 4398046511104 * 32 ≤ len * 32 := Nat.mul_le_mul_right _ (by omega)
        rw [Nat.add_mul] at h9
        omega
      · exact h
    obtain ⟨T, hT⟩ := Go.Deep.choose_lt (α := Tk) (h := key)
    refine ⟨some a, cap, (List.range len).map T, by simp, ?_, fun t ht => ?_, by simpa using hlen⟩
    · rcases Nat.eq_zero_or_pos len with h0 | h0
      · subst h0; exact .inl rfl
      · right
        obtain ⟨hc0, _⟩ := hT 0 h0
        have h00 := hc0 0 (.int .i64 (T 0).k) rfl
        obtain ⟨b, off, spot⟩ := a
        have hspot : spot = none := by simpa [Addr.add] using World.cell?_spot h00
        subst hspot
        simp only [Nat.zero_mul, Nat.add_zero, add_at] at h00
        unfold World.cell? at h00
        split at h00
        · rename_i cur e fr hb
          refine ⟨b, off, cur, e, fr, rfl, hb, fun j x hx => ⟨rfl, fun i u hu => ?_⟩⟩
          have hj : j < len := by
            have := (List.getElem?_eq_some_iff.1 hx).1
            simpa using this
          have hxT : x = T j := by
            rw [List.getElem?_map, List.getElem?_range hj] at hx
            simpa using hx.symm
          subst hxT
          have h9 := (hT j hj).1 i u hu
          rw [add_at, cell_at hb] at h9
          rw [Nat.add_assoc]
          exact h9
        · cases h00
    · obtain ⟨i, hi, rfl⟩ := List.mem_map.1 ht
      exact (hT i (by simpa using hi)).2
end Go.Proofs.YtmkijgmfefkgeaaGreatDoor
