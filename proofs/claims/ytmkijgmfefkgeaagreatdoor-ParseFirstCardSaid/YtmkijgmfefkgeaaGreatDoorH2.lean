/- More of the operations: bits, conversions, interface values. -/
import Derived.Test.YtmkijgmfefkgeaaGreatDoorH
import Derived.Test.YtmkijgmfefkgeaaGreatDoorG2
set_option autoImplicit false
set_option linter.unusedVariables false
set_option linter.unusedSimpArgs false
set_option linter.unusedSectionVars false
namespace Go.Proofs.YtmkijgmfefkgeaaGreatDoor
open Go
def or8 (x y : Int) : Int := IntKind.u8.wrap ((BitVec.ofInt 8 x ||| BitVec.ofInt 8 y).toNat : Nat)
section
variable {P : Program} {n : Nat} {D : List Deferred} {C : World → Prop} {E : En} {ty : TypeId}
theorem orb {t u : TypeId} {x y : Operand} {i j : Int} (hx : ev E x = some (.int .u8 i)) (hy : ev E y = some (.int .u8 j)) : RV P n D C E (.binOp .or t x y u) ty (.int .u8 (or8 i j)) := fun a w ha _ => by
  simp [execOp, ha.ev hx, ha.ev hy, eqGuard, binOp, Op.intBits, or8]
  rfl
theorem cv {src dst : TypeId} {k k' : IntKind} {d : TypeDesc} {x : Operand} {i : Int} (hs : P.underlying src = some d) (hd : P.underlying dst = some (.int k')) (hx : ev E x = some (.int k i)) : RV P n D C E (.convert src dst x) ty (.int k' (k'.wrap i)) := fun a w ha _ => by
  have hk : P.intKind dst = k' := by simp [Program.intKind, hd]
  have h := run_convert_int (P := P) w src dst k i (by simp [hs]) (by rw [hk]; exact hd)
  rw [hk] at h
  simp [execOp, ha.ev hx, h]
theorem neg1 {t u : TypeId} {x : Operand} {k : IntKind} {i : Int} (hx : ev E x = some (.int k i)) : RV P n D C E (.unOp .neg t x) ty (.int k (k.wrap (-i))) := fun a w ha _ => by
  simp [execOp, ha.ev hx, Op.unary, Op.intArith]
theorem eqI {t u v : TypeId} {x y : Operand} {k k' : IntKind} {a b : Int} {ms : Array (String × TypeId)} {inf : TypeInfo} (hu : P.underlying t = some (.interface ms)) (hi : P.info? v = some inf) (hc : inf.comparable = true) (hv : P.underlying v = some (.int k')) (hx : ev E x = some (.iface v (.int k a))) (hy : ev E y = some (.iface v (.int k b))) :
    RV P n D C E (.binOp .eql t x y u) ty (.bool (decide (a = b))) := fun ac w ha _ => by
  have h : ∀ d : Nat, (Op.equalIn (d + 1 + 1) t (.iface v (.int k a)) (.iface v (.int k b))).run P w = .ok (decide (a = b)) w := fun d => by
    simp [Op.equalIn, run_underlying hu, run_underlying hv, typeInfo, hi, hc]
    by_cases e : a = b <;> simp [e]
  have h2 : (binOp .eql t (.iface v (.int k a)) (.iface v (.int k b))).run P w = .ok (.bool (decide (a = b))) w := by
    simp only [binOp]
    simp [Op.equal, Op.maxDepth, h 9998]
  simp only [execOp, ha.ev hx, ha.ev hy]
  simp [h2, eqGuard]
theorem neI {t u v : TypeId} {x y : Operand} {k k' : IntKind} {a b : Int} {ms : Array (String × TypeId)} {inf : TypeInfo} (hu : P.underlying t = some (.interface ms)) (hi : P.info? v = some inf) (hc : inf.comparable = true) (hv : P.underlying v = some (.int k')) (hx : ev E x = some (.iface v (.int k a))) (hy : ev E y = some (.iface v (.int k b))) :
    RV P n D C E (.binOp .neq t x y u) ty (.bool (decide (a ≠ b))) := fun ac w ha _ => by
  have h : ∀ d : Nat, (Op.equalIn (d + 1 + 1) t (.iface v (.int k a)) (.iface v (.int k b))).run P w = .ok (decide (a = b)) w := fun d => by
    simp [Op.equalIn, run_underlying hu, run_underlying hv, typeInfo, hi, hc]
    by_cases e : a = b <;> simp [e]
  have h2 : (binOp .neq t (.iface v (.int k a)) (.iface v (.int k b))).run P w = .ok (.bool (decide (a ≠ b))) w := by
    simp only [binOp]
    simp [Op.equal, Op.maxDepth, h 9998]
  simp only [execOp, ha.ev hx, ha.ev hy]
  simp [h2, eqGuard]
theorem shl63 {t u : TypeId} {x y : Operand} (hx : ev E x = some (.int .u64 1)) (hy : ev E y = some (.int .u64 63)) : RV P n D C E (.binOp .shl t x y u) ty (.int .u64 9223372036854775808) := fun a w ha _ => by
  have h : (binOp .shl t (.int .u64 1) (.int .u64 63)).run P w = .ok (.int .u64 9223372036854775808) w := by
    simp [binOp, Op.shift]
    decide
  simp only [execOp, ha.ev hx, ha.ev hy]
  simp [h, eqGuard]
end
theorem uf98 : ∃ ms, Pg.underlying 98 = some (.interface ms) := ⟨_, Tryz.underlying98⟩
theorem byteAt_nn (s : ByteArray) (i : Nat) : 0 ≤ byteAt s i ∧ byteAt s i ≤ 255 := by
  unfold byteAt
  split
  · rename_i b hb
    have := b.toNat_lt
    omega
  · omega
theorem letter_or (n : Fin 256) : ((decide (97 ≤ or8 (n.val : Int) 32) && decide (or8 (n.val : Int) 32 ≤ 122)) || decide ((n.val : Int) = 95)) = letterB n.val := by
  revert n
  decide +kernel
end Go.Proofs.YtmkijgmfefkgeaaGreatDoor
