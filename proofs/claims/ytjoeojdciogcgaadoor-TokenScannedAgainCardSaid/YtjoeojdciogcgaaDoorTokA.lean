/- Plain words on the tokens of a source: what stands at the beginning of a text, and the tokens of the whole. Nothing is claimed here. -/
import Derived.Test.YtjoeojdciogcgaaDoorTokP
namespace Go.Proofs.YtjoeojdciogcgaaDoor
open Go.Lib

def isLet (c : UInt8) : Bool := (decide (97 ≤ c) && decide (c ≤ 122)) || (decide (65 ≤ c) && decide (c ≤ 90)) || c == 95
def isDig (c : UInt8) : Bool := decide (48 ≤ c) && decide (c ≤ 57)
def isWrd (c : UInt8) : Bool := isLet c || isDig c
def isHex (c : UInt8) : Bool := isDig c || (decide (97 ≤ c) && decide (c ≤ 102))
def isBin (c : UInt8) : Bool := c == 48 || c == 49
def inLn (c : UInt8) : Bool := c != 10
def isBlk (c : UInt8) : Bool := c == 32
/-- how many bytes of a kind stand at the beginning -/
def span (p : UInt8 → Bool) (l : List UInt8) : Nat := (l.takeWhile p).length

/-- the words that are reserved -/
def kws : List (List UInt8) :=
  [[97, 110, 100], [97, 115], [97, 115, 115, 101, 114, 116], [97, 115, 121, 110, 99], [97, 119, 97, 105, 116], [98, 114, 101, 97, 107], [99, 97, 115, 101], 
   [99, 97, 116, 99, 104], [99, 108, 97, 115, 115], [99, 111, 110, 116, 105, 110, 117, 101], [100, 101, 102], [100, 101, 108], [101, 108, 105, 102], [101, 108, 115, 101], 
   [102, 97, 108, 115, 101], [102, 105, 110, 97, 108, 108, 121], [102, 110], [102, 111, 114], [102, 114, 111, 109], [103, 108, 111, 98, 97, 108], [105, 102], 
   [105, 109, 112, 111, 114, 116], [105, 110], [105, 115], [109, 97, 116, 99, 104], [110, 105, 108], [110, 111, 116], [111, 114], [111, 117, 116, 101, 114], 
   [112, 97, 115, 115], [114, 97, 105, 115, 101], [114, 101, 116, 117, 114, 110], [115, 117, 112, 101, 114], [116, 114, 117, 101], [116, 114, 121], [119, 104, 105, 108, 101], 
   [119, 105, 116, 104], [121, 105, 101, 108, 100]]
/-- the signs, longer ones ahead of shorter ones -/
def sgs : List (List UInt8) :=
  [[42, 42, 61], [47, 47, 61], [60, 60, 61], [62, 62, 61], [42, 42], [47, 47], [60, 60], [62, 62], [60, 61], [62, 61], [61, 61], [33, 61], [43, 61], [45, 61], [42, 61], 
   [47, 61], [37, 61], [38, 61], [124, 61], [94, 61], [45, 62], [43], [45], [42], [47], [37], [38], [124], [94], [126], [60], [62], [40], [41], [91], [93], [123], [125], 
   [44], [58], [46], [61], [64]]

/-- what stands at the beginning of a text: its kind and its length, or a fault and its distance -/
abbrev Lex := Except (Int × Nat) (Int × Nat)
/-- the byte at a distance -/
def at0 (r : List UInt8) (k : Nat) : UInt8 := r.getD k 0
def lexName (r : List UInt8) : Lex := if 24 < span isWrd r then .error (7, 0) else .ok (if kws.contains (r.take (span isWrd r)) then 5 else 4, span isWrd r)
def numTail (r : List UInt8) (n : Nat) : Lex := if isWrd (at0 r n) then .error (1, n) else if 600 < n then .error (3, 0) else .ok (6, n)
def radix (r : List UInt8) : UInt8 → Bool := if at0 r 1 = 120 then isHex else isBin
def intLen (r : List UInt8) : Nat := if at0 r 0 = 48 then 1 else 1 + span isDig (r.drop 1)
def numLen (r : List UInt8) : Nat := if at0 r (intLen r) = 46 ∧ isDig (at0 r (intLen r + 1)) = true then intLen r + 1 + span isDig (r.drop (intLen r + 1)) else intLen r
def lexNum (r : List UInt8) : Lex :=
  if at0 r 0 = 48 ∧ (at0 r 1 = 120 ∨ at0 r 1 = 98) then
    if span (radix r) (r.drop 2) = 0 then .error (1, 2) else numTail r (2 + span (radix r) (r.drop 2))
  else numTail r (numLen r)
/-- where a string ends (esc: the byte stands behind a backslash) -/
def strEnd (q : List UInt8) (raw : Bool) : List UInt8 → Bool → Nat → Except (Int × Nat) Nat
  | [], _, k => .error (15, k)
  | c :: r, esc, k =>
    if esc then strEnd q raw r false (k + 1)
    else if q.isPrefixOf (c :: r) then .ok (k + q.length)
    else if c = 10 ∧ q.length = 1 then .error (1, k)
    else strEnd q raw r (c == 92 && !raw && decide (r ≠ []) && at0 r 0 != 10) (k + 1)
/-- the quotes that a string begins with -/
def quotes (r : List UInt8) : List UInt8 := if r.take 3 = [34, 34, 34] then [34, 34, 34] else r.take 1
def lexStr (p : Nat) (r : List UInt8) : Lex :=
  match strEnd (quotes (r.drop p)) (decide (0 < p) && at0 r 0 == 114) (r.drop (p + (quotes (r.drop p)).length)) false (p + (quotes (r.drop p)).length) with
  | .error e => .error e
  | .ok n => .ok (7, n)
def lexSign (r : List UInt8) : Lex := match sgs.find? (·.isPrefixOf r) with
  | none => .error (1, 0)
  | some s => .ok (8, s.length)
def isQuo (c : UInt8) : Bool := c == 34 || c == 39
def isPre (c : UInt8) : Bool := c == 114 || c == 98 || c == 102
def lexTok (r : List UInt8) : Lex :=
  if isQuo (at0 r 0) then lexStr 0 r
  else if isPre (at0 r 0) && isQuo (at0 r 1) then lexStr 1 r
  else if isLet (at0 r 0) then lexName r
  else if isDig (at0 r 0) then lexNum r
  else lexSign r
/-- the blanks and the comment at the beginning -/
def skipLen (r : List UInt8) : Nat := if at0 r (span isBlk r) = 35 then span isBlk r + span inLn (r.drop (span isBlk r)) else span isBlk r

/-- a token: its kind, its text, its line and column -/
structure Tok where
  kind : Int
  text : List UInt8
  line : Int
  col : Int
/-- where an offset of a text lies -/
def lineAt (l : List UInt8) (i : Nat) : Int := ((l.take i).count 10 : Nat) + 1
def colAt (l : List UInt8) (i : Nat) : Int := (runeCountL (tailNl (l.take i)) : Nat) + 1
/-- a token of a text -/
def tokAt (l : List UInt8) (kind : Int) (text : List UInt8) (i : Nat) : Tok := ⟨kind, text, lineAt l i, colAt l i⟩
/-- the state of a scan: the offset, the indentations, the open brackets, the tokens, whether the line has none yet -/
structure Scn where
  at_ : Nat
  ind : List Nat
  op : List UInt8
  toks : List Tok
  fresh : Bool
/-- an indentation is compared with those that are open: the new ones and the tokens -/
def dedent (n : Nat) : List Nat → List Nat × Nat
  | [] => ([], 0)
  | x :: l => if n < x then ((dedent n l).1, (dedent n l).2 + 1) else (x :: l, 0)
def indent (n : Nat) (ind : List Nat) : Option (List Nat × List Int) :=
  if ind.headD 0 < n then some (n :: ind, [2])
  else if ind.contains n then some ((dedent n ind).1, List.replicate (dedent n ind).2 3)
  else none
/-- the brackets that are open behind a sign -/
def bracket (op : List UInt8) (s : List UInt8) : Option (List UInt8) :=
  if s = [40] ∨ s = [91] ∨ s = [123] then some (at0 s 0 :: op)
  else if s = [41] then (if op.head? = some 40 then some op.tail else none)
  else if s = [93] then (if op.head? = some 91 then some op.tail else none)
  else if s = [125] then (if op.head? = some 123 then some op.tail else none)
  else some op
/-- the width of the part of the line that is behind -/
def width (l : List UInt8) (i : Nat) : Nat := (tailNl (l.take i)).length
/-- the tokens at the end of a text -/
def closing (l : List UInt8) (s : Scn) (i : Nat) : List Tok :=
  s.toks ++ (if s.fresh then [] else [tokAt l 1 [] i]) ++ List.replicate (s.ind.length - 1) (tokAt l 3 [] i) ++ [tokAt l 0 [] i]
/-- a step of a scan: the end, a fault, or one more state -/
inductive Stp where
  | done (t : List Tok)
  | fault (c : Int) (i : Nat)
  | more (s : Scn)
/-- the token at an offset is taken -/
def takeTok (l : List UInt8) (i : Nat) (s : Scn) : Stp := match lexTok (l.drop i) with
  | .error (c, k) => .fault c (i + k)
  | .ok (kind, n) =>
    if kind = 8 then match bracket s.op ((l.drop i).take n) with
      | none => .fault 1 i
      | some op => .more { s with at_ := i + n, op := op, toks := s.toks ++ [tokAt l 8 ((l.drop i).take n) i] }
    else .more { s with at_ := i + n, toks := s.toks ++ [tokAt l kind ((l.drop i).take n) i] }
def stepB (l : List UInt8) (s : Scn) (i : Nat) : Stp :=
  if l.length ≤ i then (if s.op ≠ [] then .fault 15 i else .done (closing l s i))
  else if at0 l i = 10 then
    (if s.fresh = false ∧ s.op = [] then .more { s with at_ := i + 1, toks := s.toks ++ [tokAt l 1 [] i], fresh := true } else .more { s with at_ := i + 1 })
  else if s.fresh then match indent (width l i) s.ind with
    | none => .fault 17 i
    | some (ind, ks) => takeTok l i { s with ind := ind, toks := s.toks ++ ks.map fun k => tokAt l k [] i, fresh := false }
  else takeTok l i s
def stepS (l : List UInt8) (s : Scn) : Stp := stepB l s (s.at_ + skipLen (l.drop s.at_))
/-- the whole scan -/
def scanF (l : List UInt8) : Nat → Scn → Except (Int × Int) (List Tok)
  | 0, _ => .error (0, 0)
  | f + 1, s => match stepS l s with
    | .done t => .ok t
    | .fault c i => .error (c, i)
    | .more s => scanF l f s
def scanT (l : List UInt8) : Except (Int × Int) (List Tok) :=
  if (sfault l).1 ≠ 0 then .error (sfault l) else scanF l (l.length + 1) ⟨0, [0], [], [], true⟩

theorem span_le (p : UInt8 → Bool) (l : List UInt8) : span p l ≤ l.length := by
  have := congrArg List.length (List.takeWhile_append_dropWhile (p := p) (l := l))
  rw [List.length_append] at this
  unfold span
  omega
theorem at0_cons (c : UInt8) (r : List UInt8) (k : Nat) : at0 (c :: r) (k + 1) = at0 r k := rfl
theorem at0_drop (r : List UInt8) (i k : Nat) : at0 (r.drop i) k = at0 r (i + k) := by simp [at0, List.getD, List.getElem?_drop]
theorem at0_lt (r : List UInt8) (k : Nat) (h : k < r.length) : at0 r k = r[k] := by simp [at0, h]
theorem at0_ge (r : List UInt8) (k : Nat) (h : r.length ≤ k) : at0 r k = 0 := by simp [at0, h]

end Go.Proofs.YtjoeojdciogcgaaDoor
