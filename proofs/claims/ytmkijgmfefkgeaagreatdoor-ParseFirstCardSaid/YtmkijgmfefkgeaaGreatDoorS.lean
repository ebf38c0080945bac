/- What the parser does, in plain Lean: tokens, trees, and each function of it, with a number that bounds how deep it calls itself. No condition. -/
set_option autoImplicit false
set_option linter.unusedVariables false
namespace Go.Proofs.YtmkijgmfefkgeaaGreatDoor
structure Tk where
  k : Int
  s : ByteArray
  a : Int
def endAt (l : List Tk) (k : Nat) : Int := match k with
  | 0 => 0
  | j + 1 => match l[j]? with
    | some t => t.a + t.s.size
    | none => 0
def nxt (l : List Tk) (k : Nat) : Tk := match l[k]? with
  | some t => t
  | none => ⟨0, ⟨#[]⟩, endAt l k⟩
/-! ### bytes -/
def byteAt (s : ByteArray) (i : Nat) : Int := match s[i]? with
  | some b => b.toNat
  | none => 0
def digitB (c : Int) : Bool := decide (48 ≤ c) && decide (c ≤ 57)
def letterB (c : Int) : Bool := (decide (97 ≤ c) && decide (c ≤ 122)) || (decide (65 ≤ c) && decide (c ≤ 90)) || decide (c = 95)
def blankB (c : Int) : Bool := decide (c = 9) || decide (c = 13) || decide (c = 32)
/-- How many bytes from i on are so; at most f. -/
def runF (p : Int → Bool) (s : ByteArray) : Nat → Nat → Nat
  | 0, _ => 0
  | f + 1, i => if i < s.size then (if p (byteAt s i) then runF p s f (i + 1) + 1 else 0) else 0
def runS (p : Int → Bool) (s : ByteArray) (i : Nat) : Nat := runF p s (s.size - i) i
/-- The number that the first i digits are. -/
def decV (s : ByteArray) : Nat → Int
  | 0 => 0
  | i + 1 => 10 * decV s i + (byteAt s i - 48)
/-- The number of digits, if they may be. -/
def wholeS (s : ByteArray) : Option Int :=
  if s.size = 0 then none else if runS digitB s 0 ≠ s.size then none else if 1 < s.size ∧ byteAt s 0 = 48 then none
  else if 9223372036854775807 < decV s s.size then none else some (decV s s.size)
/-- How many bytes of a quoted text, from its first quote on, there are; 0: it is none. -/
def textF (s : ByteArray) : Nat → Nat → Nat
  | 0, _ => 0
  | f + 1, i => if i < s.size then
      (if byteAt s i = 34 then i + 1
       else if byteAt s i = 92 then (if i + 1 < s.size ∧ (byteAt s (i + 1) = 34 ∨ byteAt s (i + 1) = 92 ∨ byteAt s (i + 1) = 110) then textF s f (i + 2) else 0)
       else if byteAt s i < 32 ∨ 126 < byteAt s i then 0 else textF s f (i + 1))
    else 0
def textS (s : ByteArray) : Nat := textF s s.size 1
def sign2B (s : ByteArray) : Bool := decide (1 < s.size) && (
  (decide (byteAt s 0 = 58) && decide (byteAt s 1 = 61)) || (decide (byteAt s 0 = 61) && decide (byteAt s 1 = 61)) || (decide (byteAt s 0 = 33) && decide (byteAt s 1 = 61)) ||
  (decide (byteAt s 0 = 60) && decide (byteAt s 1 = 61)) || (decide (byteAt s 0 = 62) && decide (byteAt s 1 = 61)) || (decide (byteAt s 0 = 38) && decide (byteAt s 1 = 38)) || (decide (byteAt s 0 = 124) && decide (byteAt s 1 = 124)))
def sign1B (c : Int) : Bool := [40, 41, 123, 125, 91, 93, 44, 46, 58, 61, 43, 45, 42, 47, 37, 60, 62, 33].contains c
def signS (s : ByteArray) : Nat := if sign2B s then 2 else if sign1B (byteAt s 0) then 1 else 0
inductive TR where
  | tok (k : Int) (n : Nat)
  | er (e : Int)
/-- The token that a text begins with (it is not empty): its kind, its bytes; or the error. -/
def tokS (s : ByteArray) : TR :=
  let c := byteAt s 0
  if letterB c then (if 24 < runS (fun c => letterB c || digitB c) s 0 then .er 3 else .tok 1 (runS (fun c => letterB c || digitB c) s 0))
  else if digitB c then
    (let n := runS digitB s 0
     if n < s.size ∧ letterB (byteAt s n) then .er 201 else if (wholeS (s.extract 0 n)).isNone then .er 201 else .tok 2 n)
  else if c = 34 then (if textS s = 0 then .er 200 else .tok 3 (textS s))
  else if c = 59 then .tok 5 1
  else if signS s = 0 then .er 200 else .tok 4 (signS s)
/-- Is a token's text one token of its kind? -/
def aloneB (t : Tk) : Bool := if t.s.size = 0 then decide (t.k = 5) else match tokS t.s with
  | .tok k n => decide (k = t.k) && decide (t.s.extract 0 n = t.s)
  | .er _ => false
def closingB (t : Tk) : Bool := decide (t.k = 1) || decide (t.k = 2) || decide (t.k = 3) || (decide (t.k = 4) && (decide (t.s = ⟨#[41]⟩) || decide (t.s = ⟨#[93]⟩) || decide (t.s = ⟨#[125]⟩) || decide (t.s = ⟨#[41, 93]⟩) || decide (t.s = ⟨#[93, 125]⟩) || decide (t.s = ⟨#[41, 93, 125]⟩)))
/-- What a token says as a number; 0, if nothing. -/
def numV (t : Tk) : Int := if t.k = 2 ∧ aloneB t = true then (wholeS t.s).getD 0 else 0
/-- What stands between the quotes, from i on. -/
def valF (s : ByteArray) : Nat → Nat → List UInt8
  | 0, _ => []
  | f + 1, i => if i + 1 < s.size then
      (if byteAt s i = 92 then (if byteAt s (i + 1) = 110 then 10 else (byteAt s (i + 1)).toNat.toUInt8) :: valF s f (i + 2) else (byteAt s i).toNat.toUInt8 :: valF s f (i + 1))
    else []
def valV (t : Tk) : ByteArray := if t.k = 3 ∧ aloneB t = true then ⟨(valF t.s t.s.size 1).toArray⟩ else ⟨#[]⟩
/-! ### words and signs -/
abbrev kPackage : ByteArray := ⟨#[112, 97, 99, 107, 97, 103, 101]⟩
abbrev kImport : ByteArray := ⟨#[105, 109, 112, 111, 114, 116]⟩
abbrev kConst : ByteArray := ⟨#[99, 111, 110, 115, 116]⟩
abbrev kVar : ByteArray := ⟨#[118, 97, 114]⟩
abbrev kType : ByteArray := ⟨#[116, 121, 112, 101]⟩
abbrev kStruct : ByteArray := ⟨#[115, 116, 114, 117, 99, 116]⟩
abbrev kFunc : ByteArray := ⟨#[102, 117, 110, 99]⟩
abbrev kIf : ByteArray := ⟨#[105, 102]⟩
abbrev kElse : ByteArray := ⟨#[101, 108, 115, 101]⟩
abbrev kFor : ByteArray := ⟨#[102, 111, 114]⟩
abbrev kReturn : ByteArray := ⟨#[114, 101, 116, 117, 114, 110]⟩
abbrev kTrue : ByteArray := ⟨#[116, 114, 117, 101]⟩
abbrev kFalse : ByteArray := ⟨#[102, 97, 108, 115, 101]⟩
abbrev kInt : ByteArray := ⟨#[105, 110, 116]⟩
abbrev kBool : ByteArray := ⟨#[98, 111, 111, 108]⟩
abbrev kString : ByteArray := ⟨#[115, 116, 114, 105, 110, 103]⟩
def keptL : List ByteArray := [kPackage, kImport, kConst, kVar, kType, kStruct, kFunc, kIf, kElse, kFor, kReturn, kTrue, kFalse, kInt, kBool, kString]
def memB : List ByteArray → ByteArray → Bool
  | [], _ => false
  | x :: r, s => if s = x then true else memB r s
def kept (s : ByteArray) : Bool := memB keptL s
abbrev gOr : ByteArray := ⟨#[124, 124]⟩
abbrev gAnd : ByteArray := ⟨#[38, 38]⟩
abbrev gEq : ByteArray := ⟨#[61, 61]⟩
abbrev gNe : ByteArray := ⟨#[33, 61]⟩
abbrev gLt : ByteArray := ⟨#[60]⟩
abbrev gLe : ByteArray := ⟨#[60, 61]⟩
abbrev gGt : ByteArray := ⟨#[62]⟩
abbrev gGe : ByteArray := ⟨#[62, 61]⟩
abbrev gPlus : ByteArray := ⟨#[43]⟩
abbrev gMinus : ByteArray := ⟨#[45]⟩
abbrev gStar : ByteArray := ⟨#[42]⟩
abbrev gSlash : ByteArray := ⟨#[47]⟩
abbrev gMod : ByteArray := ⟨#[37]⟩
abbrev gSet : ByteArray := ⟨#[61]⟩
abbrev gShort : ByteArray := ⟨#[58, 61]⟩
abbrev gDot : ByteArray := ⟨#[46]⟩
abbrev gComma : ByteArray := ⟨#[44]⟩
abbrev gL : ByteArray := ⟨#[40]⟩
abbrev gR : ByteArray := ⟨#[41]⟩
abbrev gLb : ByteArray := ⟨#[123]⟩
abbrev gRb : ByteArray := ⟨#[125]⟩
abbrev gNot : ByteArray := ⟨#[33]⟩
/-- The signs of two sides, the lowest row first. -/
def rowsL : List (List ByteArray) := [[gOr], [gAnd], [gEq, gNe, gLt, gLe, gGt, gGe], [gPlus, gMinus], [gStar, gSlash, gMod]]
/-! ### trees -/
structure Nd where
  kind : Int
  text : ByteArray
  num : Int
  pos : Int
  frm : Int
  to : Int
  beg : Int
/-- Trees, one behind the other: the first one's node, its kids, the rest. -/
inductive Fo where
  | nil
  | cons (d : Nd) (kids rest : Fo)
structure Tr where
  d : Nd
  kids : Fo
def Fo.one (t : Tr) : Fo := .cons t.d t.kids .nil
def Fo.app : Fo → Fo → Fo
  | .nil, g => g
  | .cons d k r, g => .cons d k (r.app g)
def Fo.len : Fo → Nat
  | .nil => 0
  | .cons _ _ r => r.len + 1
/-! ### the parser -/
inductive PR (α : Type) where
  | ok (x : α) (k : Nat)
  | er (q : Int)
  | fu
variable (l : List Tk)
def isB (k : Nat) (s : ByteArray) : Bool := decide ((nxt l k).s = s) && (decide ((nxt l k).k = 4) || (decide ((nxt l k).k = 1) && kept s))
def namedB (k : Nat) : Bool := decide ((nxt l k).k = 1) && !(kept (nxt l k).s)
def needS (k : Nat) (s : ByteArray) : PR Tk := if isB l k s then .ok (nxt l k) (k + 1) else .er (nxt l k).a
def nameS (k : Nat) : PR Tk := if namedB l k then .ok (nxt l k) (k + 1) else .er (nxt l k).a
def kindS (k : Nat) (n : Int) : PR Tk := if (nxt l k).k = n then .ok (nxt l k) (k + 1) else .er (nxt l k).a
def begN (kind : Int) (t : Tk) (text : ByteArray) : Nd := ⟨kind, text, 0, t.a, t.a, 0, t.a⟩
def doneN (k : Nat) (d : Nd) : Nd := { d with to := endAt l k }
def wordedS (k : Nat) (kind : Int) : PR Nd := match nameS l (k + 1) with
  | .ok n k1 => .ok { begN kind (nxt l k) n.s with pos := n.a } k1
  | .er q => .er q
  | .fu => .fu
def firstB (k : Nat) : List ByteArray → Option ByteArray
  | [] => none
  | s :: r => if isB l k s then some s else firstB k r
def kindOfS (k : Nat) : PR Tr := match firstB l k [kInt, kBool, kString] with
  | some s => .ok ⟨doneN l (k + 1) (begN 10 (nxt l k) s), .nil⟩ (k + 1)
  | none => match nameS l k with
  | .ok n k1 => if isB l k1 gDot then
      (match nameS l (k1 + 1) with
       | .ok m k2 => .ok ⟨doneN l k2 { begN 12 n m.s with pos := m.a }, .one ⟨{ doneN l k1 (begN 11 n n.s) with kind := 23 }, .nil⟩⟩ k2
       | .er q => .er q
       | .fu => .fu)
    else .ok ⟨doneN l k1 (begN 11 n n.s), .nil⟩ k1
  | .er q => .er q
  | .fu => .fu
def numberS (k : Nat) : PR Tr := match kindS l k 2 with
  | .ok t k1 => .ok ⟨doneN l k1 { begN 20 t ⟨#[]⟩ with num := numV t }, .nil⟩ k1
  | .er q => .er q
  | .fu => .fu
def literalS (k : Nat) : PR (Option Tr) :=
  if (nxt l k).k = 2 then (match numberS l k with | .ok t k1 => .ok (some t) k1 | .er q => .er q | .fu => .fu)
  else if (nxt l k).k = 3 then .ok (some ⟨doneN l (k + 1) (begN 21 (nxt l k) (valV (nxt l k))), .nil⟩) (k + 1)
  else if isB l k kTrue || isB l k kFalse then .ok (some ⟨doneN l (k + 1) (begN 22 (nxt l k) (nxt l k).s), .nil⟩) (k + 1)
  else .ok none k
def valueS (k : Nat) : PR Tr :=
  if isB l k gMinus then (match numberS l (k + 1) with | .ok t k1 => .ok ⟨doneN l k1 (begN 26 (nxt l k) gMinus), .one t⟩ k1 | .er q => .er q | .fu => .fu)
  else match literalS l k with
  | .ok (some t) k1 => .ok t k1
  | .ok none k1 => .er (nxt l k1).a
  | .er q => .er q
  | .fu => .fu
def typedS (kind : Int) (k : Nat) : PR Tr := match nameS l k with
  | .ok n k1 => (match kindOfS l k1 with | .ok t k2 => .ok ⟨doneN l k2 (begN kind n n.s), .one t⟩ k2 | .er q => .er q | .fu => .fu)
  | .er q => .er q
  | .fu => .fu
/-- What stands between braces, with ends between: f rounds at most; x: the kids so far. -/
def listS (one : Nat → PR Tr) : Nat → Nat → Fo → PR Fo
  | 0, _, _ => .fu
  | f + 1, k, x => if isB l k gRb then (match needS l k gRb with | .ok _ k1 => .ok x k1 | .er q => .er q | .fu => .fu)
    else match one k with
    | .ok t k1 => if isB l k1 gRb then (match needS l k1 gRb with | .ok _ k2 => .ok (x.app (.one t)) k2 | .er q => .er q | .fu => .fu)
      else (match kindS l k1 5 with
        | .ok _ k2 => listS one f k2 (x.app (.one t))
        | .er q => .er q
        | .fu => .fu)
    | .er q => .er q
    | .fu => .fu
/-- What goes on behind a part of a row of commas. -/
def commasF (one : Nat → PR Tr) : Nat → Nat → Fo → PR Fo
  | 0, _, _ => .fu
  | f + 1, k, x => if isB l k gComma then
      (match one (k + 1) with
       | .ok t k1 => commasF one f k1 (x.app (.one t))
       | .er q => .er q
       | .fu => .fu)
    else match needS l k gR with | .ok _ k1 => .ok x k1 | .er q => .er q | .fu => .fu
def commasS (one : Nat → PR Tr) (f k : Nat) (x : Fo) : PR Fo :=
  if isB l k gR then (match needS l k gR with | .ok _ k1 => .ok x k1 | .er q => .er q | .fu => .fu)
  else match one k with
  | .ok t k1 => commasF l one f k1 (x.app (.one t))
  | .er q => .er q
  | .fu => .fu
/-- What calls itself. -/
inductive NT where
  | row (r : Nat)
  | unary
  | post
  | prim
  | block
  | stmt
  | branch
/-- Signs of a row, and what stands behind them: x is what stands ahead. -/
def rowF (up : Nat → PR Tr) (r : Nat) : Nat → Nat → Tr → PR Tr
  | 0, _, _ => .fu
  | f + 1, k, x => if (nxt l k).k = 4 ∧ memB (rowsL.getD r []) (nxt l k).s = true then
      (match up (k + 1) with
       | .ok t k1 =>
         let y : Tr := ⟨doneN l k1 { begN 27 (nxt l k) (nxt l k).s with frm := x.d.beg, beg := x.d.beg }, (Fo.one x).app (.one t)⟩
         if r = 2 then .ok y k1 else rowF up r f k1 y
       | .er q => .er q
       | .fu => .fu)
    else .ok x k
def postF (ex : Nat → PR Tr) : Nat → Nat → Tr → PR Tr
  | 0, _, _ => .fu
  | f + 1, k, x => if isB l k gDot then
      (match nameS l (k + 1) with
       | .ok n k1 => postF ex f k1 ⟨doneN l k1 { begN 24 n n.s with frm := x.d.beg, beg := x.d.beg }, .one x⟩
       | .er q => .er q
       | .fu => .fu)
    else if isB l k gL then
      (match commasS l ex (l.length + 1) (k + 1) (.one x) with
       | .ok ks k1 => postF ex f k1 ⟨doneN l k1 ⟨25, ⟨#[]⟩, 0, x.d.beg, x.d.beg, 0, x.d.beg⟩, ks⟩
       | .er q => .er q
       | .fu => .fu)
    else .ok x k
def variableS (ex : Nat → PR Tr) (k : Nat) : PR Tr := match wordedS l k 4 with
  | .ok d k1 => (match kindOfS l k1 with
    | .ok t k2 => if isB l k2 gSet then
        (match ex (k2 + 1) with | .ok e k3 => .ok ⟨doneN l k3 d, (Fo.one t).app (.one e)⟩ k3 | .er q => .er q | .fu => .fu)
      else .ok ⟨doneN l k2 d, .one t⟩ k2
    | .er q => .er q
    | .fu => .fu)
  | .er q => .er q
  | .fu => .fu
def stepS (rec : NT → Nat → PR Tr) : NT → Nat → PR Tr
  | .row r, k => if r = 5 then rec .unary k else (match rec (.row (r + 1)) k with
    | .ok x k1 => rowF l (rec (.row (r + 1))) r (l.length + 1) k1 x
    | .er q => .er q
    | .fu => .fu)
  | .unary, k => if isB l k gMinus || isB l k gNot then (match rec .unary (k + 1) with
      | .ok t k1 => .ok ⟨doneN l k1 (begN 26 (nxt l k) (nxt l k).s), .one t⟩ k1
      | .er q => .er q
      | .fu => .fu)
    else rec .post k
  | .post, k => (match rec .prim k with
    | .ok x k1 => postF l (rec (.row 0)) (l.length + 1) k1 x
    | .er q => .er q
    | .fu => .fu)
  | .prim, k => (match literalS l k with
    | .ok (some t) k1 => .ok t k1
    | .ok none k1 => if isB l k1 gL then
        (match rec (.row 0) (k1 + 1) with
         | .ok x k2 => (match needS l k2 gR with
           | .ok _ k3 => .ok ⟨{ x.d with beg := (nxt l k1).a }, x.kids⟩ k3
           | .er q => .er q
           | .fu => .fu)
         | .er q => .er q
         | .fu => .fu)
      else (match nameS l k1 with
        | .ok n k2 => .ok ⟨doneN l k2 (begN 23 n n.s), .nil⟩ k2
        | .er q => .er q
        | .fu => .fu)
    | .er q => .er q
    | .fu => .fu)
  | .block, k => (match needS l k gLb with
    | .ok t k1 => (match listS l (rec .stmt) (l.length + 1) k1 .nil with
      | .ok ks k2 => .ok ⟨doneN l k2 (begN 13 t ⟨#[]⟩), ks⟩ k2
      | .er q => .er q
      | .fu => .fu)
    | .er q => .er q
    | .fu => .fu)
  | .stmt, k =>
    if isB l k gLb then rec .block k
    else if isB l k kVar then variableS l (rec (.row 0)) k
    else if isB l k kIf then rec .branch k
    else if isB l k kFor then (match rec (.row 0) (k + 1) with
      | .ok e k1 => (match rec .block k1 with
        | .ok b k2 => .ok ⟨doneN l k2 (begN 15 (nxt l k) ⟨#[]⟩), (Fo.one e).app (.one b)⟩ k2
        | .er q => .er q
        | .fu => .fu)
      | .er q => .er q
      | .fu => .fu)
    else if isB l k kReturn then
      (if (nxt l (k + 1)).k ≠ 5 ∧ isB l (k + 1) gRb = false then (match rec (.row 0) (k + 1) with
        | .ok e k1 => .ok ⟨doneN l k1 (begN 16 (nxt l k) ⟨#[]⟩), .one e⟩ k1
        | .er q => .er q
        | .fu => .fu)
       else .ok ⟨doneN l (k + 1) (begN 16 (nxt l k) ⟨#[]⟩), .nil⟩ (k + 1))
    else if namedB l k = true ∧ k + 1 < l.length ∧ (nxt l (k + 1)).k = 4 ∧ (nxt l (k + 1)).s = gShort then (match rec (.row 0) (k + 2) with
      | .ok e k1 => .ok ⟨doneN l k1 (begN 17 (nxt l k) (nxt l k).s), .one e⟩ k1
      | .er q => .er q
      | .fu => .fu)
    else (match rec (.row 0) k with
      | .ok e k1 => if isB l k1 gSet then (match rec (.row 0) (k1 + 1) with
          | .ok e2 k2 => .ok ⟨doneN l k2 (begN 18 (nxt l k) ⟨#[]⟩), (Fo.one e).app (.one e2)⟩ k2
          | .er q => .er q
          | .fu => .fu)
        else .ok ⟨doneN l k1 (begN 19 (nxt l k) ⟨#[]⟩), .one e⟩ k1
      | .er q => .er q
      | .fu => .fu)
  | .branch, k => (match needS l k kIf with
    | .ok t k1 => (match rec (.row 0) k1 with
      | .ok e k2 => (match rec .block k2 with
        | .ok b k3 => if isB l k3 kElse then
            (if isB l (k3 + 1) kIf then (match rec .branch (k3 + 1) with
              | .ok c k4 => .ok ⟨doneN l k4 (begN 14 t ⟨#[]⟩), ((Fo.one e).app (.one b)).app (.one c)⟩ k4
              | .er q => .er q
              | .fu => .fu)
             else (match rec .block (k3 + 1) with
              | .ok c k4 => .ok ⟨doneN l k4 (begN 14 t ⟨#[]⟩), ((Fo.one e).app (.one b)).app (.one c)⟩ k4
              | .er q => .er q
              | .fu => .fu))
          else .ok ⟨doneN l k3 (begN 14 t ⟨#[]⟩), (Fo.one e).app (.one b)⟩ k3
        | .er q => .er q
        | .fu => .fu)
      | .er q => .er q
      | .fu => .fu)
    | .er q => .er q
    | .fu => .fu)
/-- n bounds how deep it goes. -/
def parS : Nat → NT → Nat → PR Tr
  | 0, _, _ => .fu
  | n + 1, t, k => stepS l (parS n) t k
def functionS (n k : Nat) : PR Tr :=
  let recv : PR Fo := if isB l (k + 1) gL then (match nameS l (k + 2) with
      | .ok m k1 => (match nameS l k1 with
        | .ok t k2 => (match needS l k2 gR with
          | .ok _ k3 => .ok (.one ⟨doneN l k2 (begN 8 m m.s), .one ⟨doneN l k2 (begN 11 t t.s), .nil⟩⟩) k3
          | .er q => .er q
          | .fu => .fu)
        | .er q => .er q
        | .fu => .fu)
      | .er q => .er q
      | .fu => .fu)
    else .ok .nil (k + 1)
  match recv with
  | .ok ks k1 => (match nameS l k1 with
    | .ok m k2 => (match needS l k2 gL with
      | .ok _ k3 => (match commasS l (typedS l 9) (l.length + 1) k3 ks with
        | .ok ks k4 =>
          let res : PR Fo := if isB l k4 gLb then .ok ks k4 else (match kindOfS l k4 with
            | .ok t k5 => .ok (ks.app (.one t)) k5
            | .er q => .er q
            | .fu => .fu)
          (match res with
           | .ok ks k5 => (match parS l n .block k5 with
             | .ok b k6 => .ok ⟨doneN l k6 { begN 7 (nxt l k) m.s with pos := m.a }, ks.app (.one b)⟩ k6
             | .er q => .er q
             | .fu => .fu)
           | .er q => .er q
           | .fu => .fu)
        | .er q => .er q
        | .fu => .fu)
      | .er q => .er q
      | .fu => .fu)
    | .er q => .er q
    | .fu => .fu)
  | .er q => .er q
  | .fu => .fu
def declS (n k : Nat) : PR Tr :=
  if isB l k kConst then (match wordedS l k 3 with
    | .ok d k1 => (match needS l k1 gSet with
      | .ok _ k2 => (match valueS l k2 with
        | .ok t k3 => .ok ⟨doneN l k3 d, .one t⟩ k3
        | .er q => .er q
        | .fu => .fu)
      | .er q => .er q
      | .fu => .fu)
    | .er q => .er q
    | .fu => .fu)
  else if isB l k kVar then variableS l (parS l n (.row 0)) k
  else if isB l k kType then (match wordedS l k 5 with
    | .ok d k1 => (match needS l k1 kStruct with
      | .ok _ k2 => (match needS l k2 gLb with
        | .ok _ k3 => (match listS l (typedS l 6) (l.length + 1) k3 .nil with
          | .ok ks k4 => .ok ⟨doneN l k4 d, ks⟩ k4
          | .er q => .er q
          | .fu => .fu)
        | .er q => .er q
        | .fu => .fu)
      | .er q => .er q
      | .fu => .fu)
    | .er q => .er q
    | .fu => .fu)
  else if isB l k kFunc then functionS l n k
  else .er (nxt l k).a
/-- The imports, and where they end. -/
def importsS : Nat → Nat → Fo → PR Fo
  | 0, _, _ => .fu
  | f + 1, k, x => if isB l k kImport then (match kindS l (k + 1) 3 with
      | .ok t k1 => (match kindS l k1 5 with
        | .ok _ k2 => importsS f k2 (x.app (.one ⟨doneN l k1 { begN 2 (nxt l k) (valV t) with pos := t.a }, .nil⟩))
        | .er q => .er q
        | .fu => .fu)
      | .er q => .er q
      | .fu => .fu)
    else .ok x k
def declsS (n : Nat) : Nat → Nat → Fo → PR Fo
  | 0, _, _ => .fu
  | f + 1, k, x => if k < l.length then (match declS l n k with
      | .ok t k1 => (match kindS l k1 5 with
        | .ok _ k2 => declsS n f k2 (x.app (.one t))
        | .er q => .er q
        | .fu => .fu)
      | .er q => .er q
      | .fu => .fu)
    else .ok x k
def fileS (n : Nat) : PR Tr := match needS l 0 kPackage with
  | .ok t k1 => (match nameS l k1 with
    | .ok m k2 => (match kindS l k2 5 with
      | .ok _ k3 => (match importsS l (l.length + 1) k3 .nil with
        | .ok x k4 => (match declsS l n (l.length + 1) k4 x with
          | .ok y k5 => .ok ⟨doneN l k5 { begN 1 t m.s with pos := m.a }, y⟩ k5
          | .er q => .er q
          | .fu => .fu)
        | .er q => .er q
        | .fu => .fu)
      | .er q => .er q
      | .fu => .fu)
    | .er q => .er q
    | .fu => .fu)
  | .er q => .er q
  | .fu => .fu
end Go.Proofs.YtmkijgmfefkgeaaGreatDoor
