/-
  Plain words for scripts: their kinds, steps, textual form, and what reading a text gives. No program in sight.
-/
namespace Go.Proofs.YtecdkgiandbkeaaGreatDoor.ScSpec
abbrev Bytes := List UInt8
/-- A kind: its name, the least and the greatest number of arguments, whether it may have a text. -/
structure Row where
  name : Bytes
  least : Nat
  most : Nat
  text : Bool
structure Stp where
  kind : Int
  args : List Int
  text : Bytes
structure Scr where
  texts : List Bytes
  steps : List Stp

def noRow : Row := ⟨[], 0, 0, false⟩
def rows : List Row := [
  noRow,
  ⟨[99, 117, 115, 116, 111, 100, 105, 97, 110, 115], 2, 2, false⟩,
  ⟨[109, 111, 100, 117, 108, 101], 3, 3, false⟩,
  ⟨[98, 111, 111, 116], 1, 1, false⟩,
  ⟨[99, 111, 109, 109, 97, 110, 100], 8, 18, true⟩,
  ⟨[112, 114, 111, 112, 111, 115, 101], 7, 17, true⟩,
  ⟨[97, 112, 112, 114, 111, 118, 101], 3, 3, false⟩,
  ⟨[119, 105, 116, 104, 100, 114, 97, 119], 3, 3, false⟩,
  ⟨[98, 101, 116, 114, 97, 121], 1, 1, false⟩,
  ⟨[101, 110, 116, 101, 114], 3, 3, false⟩,
  ⟨[116, 105, 99, 107], 1, 1, false⟩,
  ⟨[116, 114, 105, 112], 2, 2, false⟩,
  ⟨[109, 111, 117, 110, 116], 1, 17, false⟩,
  ⟨[115, 101, 110, 115, 101], 3, 3, false⟩,
  ⟨[98, 97, 116, 116, 101, 114, 121], 1, 1, false⟩,
  ⟨[105, 109, 97, 103, 101], 1, 1, false⟩,
  ⟨[112, 117, 116], 2, 2, false⟩,
  ⟨[115, 116, 97, 108, 101], 2, 2, false⟩,
  ⟨[119, 101, 97, 114], 2, 2, false⟩,
  ⟨[114, 101, 115, 101, 116], 2, 2, false⟩,
  ⟨[115, 101, 115, 115, 105, 111, 110], 2, 2, false⟩,
  ⟨[115, 101, 110, 100], 8, 18, true⟩,
  ⟨[114, 101, 112, 108, 97, 121], 2, 2, false⟩,
  ⟨[97, 117, 100, 105, 116], 1, 1, false⟩]
def kRow (k : Nat) : Row := rows.getD k noRow
def isKind (k : Int) : Bool := decide (1 ≤ k) && decide (k < 24)
def name (k : Int) : Bytes := if isKind k then (kRow k.toNat).name else []
/-- The first row with a name, from the row number i on. -/
def kindFrom (n : Bytes) : Nat → List Row → Nat
  | _, [] => 0
  | i, r :: l => if r.name = n then i else kindFrom n (i + 1) l
def kindOf (n : Bytes) : Nat := if n = [] then 0 else kindFrom n 0 rows

def isDigit (c : UInt8) : Bool := decide (48 ≤ c.toNat) && decide (c.toNat ≤ 57)
def decVal : Nat → Bytes → Option Nat
  | n, [] => some n
  | n, c :: r => if isDigit c then decVal (10 * n + (c.toNat - 48)) r else none
/-- The number that a word denotes: at most 13 digits, no leading zeros. -/
def dec (w : Bytes) : Option Nat := if w.length = 0 ∨ 13 < w.length ∨ (1 < w.length ∧ w.head? = some 48) then none else decVal 0 w

/-- What a step's text says: its content, the number, the error. -/
def data : Bytes → Bytes × Int × Int
  | [] => ([], -1, 0)
  | c :: r =>
    if c.toNat = 61 ∧ r.length ≤ 4000 then (r, -1, 0)
    else if c.toNat = 64 then
      match dec r with
      | some n => if n ≤ 65535 then ([], (n : Int), 0) else ([], -1, 1)
      | none => ([], -1, 1)
    else ([], -1, 1)

def okArg (a : Int) : Bool := decide (0 ≤ a) && decide (a ≤ 2199023255552)
def isStep (x : Stp) : Bool :=
  isKind x.kind && decide ((kRow x.kind.toNat).least ≤ x.args.length) && decide (x.args.length ≤ (kRow x.kind.toNat).most) && ((kRow x.kind.toNat).text || x.text.isEmpty) && x.args.all okArg && decide ((data x.text).2.2 = 0)
def oddC (c : UInt8) : Bool := decide (c.toNat ≠ 10) && (decide (c.toNat < 32) || decide (126 < c.toNat))
/-- The first faulty step, from number i on. -/
def firstBad : Nat → List Stp → Int × Int
  | _, [] => (0, 0)
  | i, x :: l => if isStep x then firstBad (i + 1) l else ((i : Int), 1)
def check (s : Scr) : Int × Int :=
  if 8 < s.texts.length ∨ 400 < s.steps.length ∨ s.texts.any (fun t => decide (4000 < t.length)) then (-1, 2)
  else if s.texts.any (fun t => t.any oddC) then (-1, 1)
  else firstBad 0 s.steps

/-- A number in decimal notation. -/
def digits (n : Nat) : Bytes := if n < 10 then [UInt8.ofNat (48 + n)] else digits (n / 10) ++ [UInt8.ofNat (48 + n % 10)]
def hexD (n : Nat) : UInt8 := UInt8.ofNat (if n < 10 then 48 + n else 87 + n)
def hexs (t : Bytes) : Bytes := t.flatMap fun c => [hexD (c.toNat / 16), hexD (c.toNat % 16)]
def printTail : Bytes → Bytes
  | [] => []
  | c :: r => if c.toNat = 64 then 32 :: c :: r else 32 :: 61 :: hexs r
def printStep (x : Stp) : Bytes := name x.kind ++ x.args.flatMap (fun n => 32 :: digits n.toNat) ++ printTail x.text ++ [10]
def barred (t : Bytes) : Bytes := t.flatMap fun c => if c.toNat = 10 then [10, 124] else [c]
def printText (t : Bytes) : Bytes := [116, 101, 120, 116, 10, 124] ++ barred t ++ [10]
def printed (s : Scr) : Bytes := s.texts.flatMap printText ++ s.steps.flatMap printStep
def print (s : Scr) : Bytes × Int := if (check s).2 = 0 then (printed s, 0) else ([], (check s).2)

def unhexD (c : UInt8) : Option Nat := if isDigit c then some (c.toNat - 48) else if 97 ≤ c.toNat ∧ c.toNat ≤ 102 then some (c.toNat - 87) else none
def unhex : Bytes → Option Bytes
  | [] => some []
  | [_] => none
  | a :: b :: r =>
    match unhexD a, unhexD b, unhex r with
    | some x, some y, some t => some (UInt8.ofNat (16 * x + y) :: t)
    | _, _, _ => none
/-- The text that a word denotes, which begins with @ or =. -/
def literal : Bytes → Option Bytes
  | [] => none
  | c :: r => if c.toNat = 64 then some (c :: r) else (unhex r).map (61 :: ·)
def isLit : Bytes → Bool
  | [] => false
  | c :: _ => decide (c.toNat = 64) || decide (c.toNat = 61)
/-- The arguments and the text of the words behind the first. -/
def readArgs : List Bytes → Option (List Int × Bytes)
  | [] => some ([], [])
  | [w] => if isLit w then (literal w).map fun t => ([], t) else (dec w).map fun n => ([(n : Int)], [])
  | w :: v :: l =>
    match dec w, readArgs (v :: l) with
    | some n, some (a, t) => some ((n : Int) :: a, t)
    | _, _ => none
/-- The step of the words of a line, or its error. -/
def step (l : List Bytes) : Stp × Int :=
  if kindOf (l.headD []) = 0 then (⟨0, [], []⟩, 4)
  else match readArgs l.tail with
    | none => (⟨0, [], []⟩, 3)
    | some (a, t) => if isStep ⟨(kindOf (l.headD []) : Nat), a, t⟩ then (⟨(kindOf (l.headD []) : Nat), a, t⟩, 0) else (⟨0, [], []⟩, 1)

/-- The pieces of a text between bytes d. -/
def split (d : UInt8) : Bytes → List Bytes
  | [] => [[]]
  | c :: l => if c = d then [] :: split d l else match split d l with
    | [] => [[c]]
    | p :: ps => (c :: p) :: ps
def words (l : Bytes) : List Bytes := (split 32 l).filter fun w => !w.isEmpty
def textW : Bytes := [116, 101, 120, 116]
def addLast (ts : List Bytes) (x : Bytes) : List Bytes := ts.dropLast ++ [ts.getLastD [] ++ x]

structure Out where
  s : Scr
  line : Int
  e : Int
def fail (line e : Int) : Out := ⟨⟨[], []⟩, line, e⟩
/-- What stands behind the last line. -/
def finish (k : Nat) (o e : Bool) (ts : List Bytes) (ss : List Stp) : Out :=
  if o && e then fail k 3 else if (check ⟨ts, ss⟩).2 = 0 then ⟨⟨ts, ss⟩, 0, 0⟩ else fail 0 (check ⟨ts, ss⟩).2
/-- The lines from number k on: o: the line before belongs to a text; e: it is its first line. -/
def parseL (k : Nat) (o e : Bool) (ts : List Bytes) (ss : List Stp) : List Bytes → Out
  | [] => finish k o e ts ss
  | l :: r =>
    if l.head? = some 124 then
      if o then parseL (k + 1) true false (addLast ts ((if e then [] else [10]) ++ l.tail)) ss r else fail (k + 1 : Nat) 3
    else if o && e then fail k 3
    else if words l = [] ∨ l.head? = some 35 then parseL (k + 1) false e ts ss r
    else if words l = [textW] then parseL (k + 1) true true (ts ++ [[]]) ss r
    else if (step (words l)).2 = 0 then parseL (k + 1) false e ts (ss ++ [(step (words l)).1]) r
    else fail (k + 1 : Nat) (step (words l)).2
def parse (t : Bytes) : Out := parseL 0 false false [] [] (split 10 t)
end Go.Proofs.YtecdkgiandbkeaaGreatDoor.ScSpec
