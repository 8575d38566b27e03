/- Chapter 26: what its functions are, in plain Lean; their contracts. -/
import Derived.Test.YtohelfcinfpmaaaSxVI
namespace Go.Proofs.C26
open Go Go.Sx

/-! ### primes and roots -/
/-- is there no divisor from i on? (f: how many are tried at most) -/
def noDiv (n : Nat) : Nat → Nat → Bool
  | 0, _ => true
  | f + 1, i => if n < i * i then true else if n % i = 0 then false else noDiv n f (i + 1)
def primeN (n : Nat) : Bool := decide (1 < n) && noDiv n n 2
/-- has this number of tables a prime? -/
def hasP (t : Int) : Bool := decide (2 ≤ t ∧ t ≤ 24) && primeN (2 * t - 1).toNat && !([2, 4, 8, 16, 32].contains (2 * t - 2))
def primeV (t : Int) : Int := if hasP t then 2 * t - 1 else 0
/-- how many steps x, multiplied by w again and again, takes to 1, and n more -/
def ordGo (p w : Nat) : Nat → Nat → Nat → Nat
  | 0, _, n => n
  | f + 1, x, n => if x = 1 then n else ordGo p w f (x * w % p) (n + 1)
def ordN (p w : Nat) : Nat := ordGo p w p (w % p) 1
def rootGo (p : Nat) : Nat → Nat → Nat
  | 0, w => w
  | f + 1, w => if ordN p w = p - 1 then w else rootGo p f (w + 1)
def rootN (p : Nat) : Nat := rootGo p 20 2
def rootE (p : Int) : Int := if 3 ≤ p ∧ p ≤ 1000 ∧ primeN p.toNat = true then 0 else 2
def rootV (p : Int) : Int := if 3 ≤ p ∧ p ≤ 1000 ∧ primeN p.toNat = true then rootN p.toNat else 0

/-! ### starters -/
def powN (w p : Nat) : Nat → Nat
  | 0 => 1
  | e + 1 => powN w p e * w % p
/-- the greatest power of two in n, halved -/
def halfTwo (n : Nat) : Nat := (Nat.gcd n 64) / 2
def startRow (t i : Nat) : List Int :=
  let p := 2 * t - 1
  if hasP t then
    let w := rootN p
    let d := halfTwo (p - 1)
    let k := i / d * (2 * d) + i % d
    [(powN w p k : Int), powN w p (k + d)]
  else [(i + 1 : Int), (p : Int) - i - 1]
def startL (t : Int) : List (List Int) := if 2 ≤ t ∧ t ≤ 24 then (List.range (t.toNat - 1)).map (startRow t.toNat) else []
def startE (t : Int) : Int := if 2 ≤ t ∧ t ≤ 24 then 0 else 2

/-! ### strong starters -/
/-- how often a number is there, as a number, a difference, a sum -/
def occ1 (n x y what k : Int) : Nat :=
  if what = 0 then (if x = k then 1 else 0) + (if y = k then 1 else 0)
  else if what = 1 then (if (x - y + n).tmod n = k then 1 else 0) + (if (y - x + n).tmod n = k then 1 else 0)
  else if what = 2 then (if (x + y).tmod n = k then 1 else 0) else 0
def occ (n : Int) (l : List (List Int)) (what k : Int) : Nat :=
  (l.map fun r => occ1 n (r.getD 0 0) (r.getD 1 0) what k).sum
def inside (n : Int) (r : List Int) : Bool := decide (1 ≤ r.getD 0 0 ∧ r.getD 0 0 < n ∧ 1 ≤ r.getD 1 0 ∧ r.getD 1 0 < n)
def starts (n : Int) (l : List (List Int)) : Bool := (l.all (inside n)) && (List.range (n.toNat - 1)).all fun (k : Nat) => occ n l 0 (k + 1) == 1 && occ n l 1 (k + 1) == 1
def strongS (n : Int) (l : List (List Int)) : Bool := occ n l 2 0 == 0 && (List.range (n.toNat - 1)).all fun (k : Nat) => decide (occ n l 2 (k + 1) ≤ 1)
def checkE (n : Int) (l : List (List Int)) : Int := if n.tmod 2 = 0 ∨ n < 3 ∨ 47 < n then 2 else if starts n l then 0 else 260
def checkS (n : Int) (l : List (List Int)) : Bool := decide (checkE n l = 0) && strongS n l

/-! ### movements -/
def rowR (n r : Int) (i : Nat) (x : List Int) : List Int := [r, i + 1, (x.getD 0 0 + r).tmod n + 1, (x.getD 1 0 + r).tmod n + 1, (x.getD 0 0 + x.getD 1 0 + r).tmod n]
def roundR (n : Int) (l : List (List Int)) (r : Int) : List (List Int) := [r, 0, n + 1, r + 1, r] :: l.mapIdx (rowR n r)
def rowsR (n : Int) (l : List (List Int)) (k : Nat) : List (List Int) := (List.range k).flatMap fun (r : Nat) => roundR n l r
def fromE (n k : Int) (l : List (List Int)) : Int := if checkE n l ≠ 0 then checkE n l else if k < 1 then 2 else if n < k then 5 else 0
/-- the parts of the movement: tables, rounds, sets, copies, winners -/
def fromF (j : Nat) (n k : Int) (l : List (List Int)) : Int :=
  if fromE n k l ≠ 0 then 0 else
  match j with
  | 0 => (n + 1).tdiv 2
  | 1 => k
  | 2 => n
  | 3 => if checkS n l then 1 else (n + 1).tdiv 2
  | _ => 1
def fromR (n k : Int) (l : List (List Int)) : List (List Int) := if fromE n k l ≠ 0 then [] else rowsR n l k.toNat
def makeE (t k : Int) : Int := if startE t ≠ 0 then 2 else fromE (2 * t - 1) k (startL t)
def makeF (j : Nat) (t k : Int) : Int := if startE t ≠ 0 then 0 else fromF j (2 * t - 1) k (startL t)
def makeR (t k : Int) : List (List Int) := if startE t ≠ 0 then [] else fromR (2 * t - 1) k (startL t)

/-- two lists of rows, looked at up to column w -/
def eqR (w : Nat) (a b : List (List Int)) : Bool := a.length == b.length && (List.range a.length).all fun i => (List.range w).all fun c => (a.getD i []).getD c 0 == (b.getD i []).getD c 0

/-! ### fair movements -/
structure FS where
  plays : Nat
  meets : Nat
  sits : Nat
  stands : List (List Int)

/-- one row of a fair movement of T tables, S sets, C copies -/
def fairRow (T S C : Nat) (round table : Nat) (r : List Int) (s : FS) : Option FS :=
  let ns := r.getD 2 0
  let ew := r.getD 3 0
  let set := r.getD 4 0
  if r.getD 0 0 = round ∧ r.getD 1 0 = table ∧ 1 ≤ ns ∧ ns ≤ 2 * T ∧ 1 ≤ ew ∧ ew ≤ 2 * T ∧ ns ≠ ew ∧ 0 ≤ set ∧ set < S then
    let a := ns.toNat
    let b := ew.toNat
    let q := set.toNat
    let m := min a b * (2 * T + 1) + max a b
    let n := (s.stands.getD q []).getD 0 0 + 1
    if !s.sits.testBit a && !s.sits.testBit b && !s.plays.testBit (a * S + q) && !s.plays.testBit (b * S + q) && !s.meets.testBit m && decide (n ≤ C) then
      some { plays := (s.plays ||| 1 <<< (a * S + q)) ||| 1 <<< (b * S + q), meets := s.meets ||| 1 <<< m, sits := (s.sits ||| 1 <<< a) ||| 1 <<< b, stands := setAt s.stands q 0 n }
    else none
  else none

def fairRows (T S C : Nat) : List (List Int) → Nat → Nat → FS → Bool
  | [], _, table, _ => table == 0
  | r :: rows, round, table, s =>
    match fairRow T S C round table r s with
    | none => false
    | some s' => if table + 1 = T then fairRows T S C rows (round + 1) 0 { s' with sits := 0, stands := List.replicate S [0] } else fairRows T S C rows round (table + 1) s'

def fairB (h : List Int) (rows : List (List Int)) : Bool :=
  let T := (h.getD 0 0).toNat
  let S := (h.getD 2 0).toNat
  decide (1 ≤ h.getD 0 0 ∧ h.getD 0 0 ≤ 24 ∧ 0 ≤ h.getD 1 0 ∧ h.getD 1 0 ≤ 47 ∧ 1 ≤ h.getD 2 0 ∧ h.getD 2 0 ≤ 47 ∧ 0 ≤ h.getD 3 0 ∧ h.getD 3 0 ≤ 24 ∧ rows.length = T * (h.getD 1 0).toNat) &&
    fairRows T S (h.getD 3 0).toNat rows 0 0 ⟨0, 0, 0, List.replicate S [0]⟩

def I26 : Itp where
  f1 := fun f u => match f with
    | 0 => { b := primeN u.i.toNat }
    | 1 => { i := primeV u.i }
    | 2 => { b := hasP u.i }
    | 3 => { i := rootV u.i }
    | 4 => { i := rootE u.i }
    | 5 => { l := startL u.i }
    | _ => { i := startE u.i }
  f2 := fun f u v => match f with
    | 0 => { b := checkS u.i v.l }
    | 1 => { i := checkE u.i v.l }
    | 2 => { i := makeE u.i v.i }
    | 3 => { l := makeR u.i v.i }
    | 4 => { b := eqR 2 u.l v.l }
    | 10 => { b := eqR 5 u.l v.l }
    | 11 => { b := fairB u.r v.l }
    | f => { i := makeF (f - 5) u.i v.i }
  f3 := fun f u v x => match f with
    | 0 => { i := fromE u.i v.i x.l }
    | 1 => { l := fromR u.i v.i x.l }
    | 20 => { i := powN u.i.toNat v.i.toNat x.i.toNat }
    | f => { i := fromF (f - 2) u.i v.i x.l }
  f4 := fun _ n l what k => { i := occ n.i l.l what.i k.i }

def F26 : FnS where
  s1 := fun f => match f with
    | 0 => (.b, .i)
    | 1 => (.i, .i)
    | 2 => (.b, .i)
    | 3 => (.i, .i)
    | 4 => (.i, .i)
    | 5 => (.l, .i)
    | _ => (.i, .i)
  s2 := fun f => match f with
    | 0 => (.b, .i, .l)
    | 1 => (.i, .i, .l)
    | 2 => (.i, .i, .i)
    | 3 => (.l, .i, .i)
    | 4 => (.b, .l, .l)
    | 10 => (.b, .l, .l)
    | 11 => (.b, .r, .l)
    | _ => (.i, .i, .i)
  s3 := fun f => match f with
    | 0 => (.i, .i, .i, .l)
    | 1 => (.l, .i, .i, .l)
    | 20 => (.i, .i, .i, .i)
    | _ => (.i, .i, .i, .l)
  s4 := fun _ => (.i, .i, .l, .i, .i)

theorem resp26 : I26.Resp F26 where
  r1 := by
    intro f u
    match f with
    | 0 | 1 | 2 | 3 | 4 | 5 | _ + 6 => rfl
  r2 := by
    intro f u v
    match f with
    | 0 | 1 | 2 | 3 | 4 | 5 | 6 | 7 | 8 | 9 | 10 | 11 | _ + 12 => rfl
  r3 := by
    intro f u v x
    match f with
    | 0 | 1 | 2 | 3 | 4 | 5 | 6 | 7 | 8 | 9 | 10 | 11 | 12 | 13 | 14 | 15 | 16 | 17 | 18 | 19 | 20 | _ + 21 => rfl
  r4 := by
    intro f u v x y
    rfl

def i64 (e : E) : V := .int .i64 e
def k2 : List CK := [.int .i64, .int .i64]
def k5 : List CK := [.int .i64, .int .i64, .int .i64, .int .i64, .int .i64]
def cPrime : Ctr := { fn := 26, nv := 1, args := [i64 (.var 0)], H := [], pre := [.bi .le (.lit 0) (.var 0), .bi .le (.var 0) (.lit 1000)], outs := [.fn1 0 (.var 0)], res := .bool (.var 0), post := [], new := [] }
def cRPrime : Ctr := { cPrime with fn := 35 }
def cPrimeT : Ctr := { fn := 11, nv := 1, args := [i64 (.var 0)], H := [], pre := [], outs := [.fn1 1 (.var 0), .fn1 2 (.var 0)], res := .tup [i64 (.var 0), .bool (.var 1)], post := [], new := [] }
def cRPrimeT : Ctr := { cPrimeT with fn := 22 }
def cRoot : Ctr := { fn := 18, nv := 1, args := [i64 (.var 0)], H := [], pre := [], outs := [.fn1 3 (.var 0), .fn1 4 (.var 0)], res := .tup [i64 (.var 0), i64 (.var 1)], post := [], new := [] }
def cRRoot : Ctr := { cRoot with fn := 23 }
def cPow : Ctr := { fn := 34, nv := 3, args := [i64 (.var 0), i64 (.var 1), i64 (.var 2)], H := [], pre := [.bi .le (.lit 0) (.var 0), .bi .le (.var 0) (.lit 47), .bi .le (.lit 0) (.var 1), .bi .le (.var 1) (.lit 200), .bi .le (.lit 1) (.var 2), .bi .le (.var 2) (.lit 47)], outs := [.fn3 20 (.var 0) (.var 2) (.var 1)], res := i64 (.var 0), post := [], new := [] }
def cStart : Ctr := { fn := 15, nv := 1, args := [i64 (.var 0)], H := [], pre := [], outs := [.fn1 5 (.var 0), .fn1 6 (.var 0)], res := .tup [.slice 0 2 (.lit 0) (.un .len (.var 0)) none, i64 (.var 1)], post := [], new := [.rows false k2 (.var 0)] }
def cRStart : Ctr := { cStart with fn := 20 }
def l2 (v : Nat) : V := .slice 0 2 (.lit 0) (.un .len (.var v)) none
def r2 (v : Nat) : O := .rows true k2 (.var v)
def few (v : Nat) : E := .bi .le (.un .len (.var v)) (.lit 100)
def cTimes : Ctr := { fn := 38, nv := 4, args := [i64 (.var 0), l2 1, i64 (.var 2), i64 (.var 3)], H := [r2 1], pre := [.bi .le (.lit 3) (.var 0), .bi .le (.var 0) (.lit 47), few 1, .te .elems (.var 1) (.lit 0) (.lit 47)], outs := [.fn4 0 (.var 0) (.var 1) (.var 3) (.var 2)], res := i64 (.var 0), post := [none], new := [] }
def cCheck : Ctr := { fn := 16, nv := 2, args := [i64 (.var 0), l2 1], H := [r2 1], pre := [few 1], outs := [.fn2 0 (.var 0) (.var 1), .fn2 1 (.var 0) (.var 1)], res := .tup [.bool (.var 0), i64 (.var 1)], post := [none], new := [] }
def cRCheck : Ctr := { cCheck with fn := 32 }
def cRows : Ctr := { fn := 27, nv := 2, args := [.slice 0 5 (.lit 0) (.un .len (.var 0)) none, .slice 1 5 (.lit 0) (.un .len (.var 1)) none], H := [.rows true k5 (.var 0), .rows true k5 (.var 1)], pre := [], outs := [(.fn2 10 (.var 0) (.var 1))], res := .bool (.var 0), post := [none, none], new := [] }
def movV (h v : Nat) : V := .agg [i64 (.var v), i64 (.var (v + 1)), i64 (.var (v + 2)), i64 (.var (v + 3)), i64 (.var (v + 4)), .slice h 5 (.lit 0) (.un .len (.var (v + 5))) none]
def cFrom : Ctr := { fn := 17, nv := 3, args := [i64 (.var 0), i64 (.var 1), l2 2], H := [r2 2], pre := [few 2], outs := ((List.range 5).map fun j => .fn3 (j + 2) (.var 0) (.var 1) (.var 2)) ++ [.fn3 1 (.var 0) (.var 1) (.var 2), .fn3 0 (.var 0) (.var 1) (.var 2)], res := .tup [movV 1 0, i64 (.var 6)], post := [none], new := [.rows false k5 (.var 5)] }
def cRFrom : Ctr := { cFrom with fn := 33 }
def cMake : Ctr := { fn := 12, nv := 2, args := [i64 (.var 0), i64 (.var 1)], H := [], pre := [], outs := ((List.range 5).map fun j => .fn2 (j + 5) (.var 0) (.var 1)) ++ [.fn2 3 (.var 0) (.var 1), .fn2 2 (.var 0) (.var 1)], res := .tup [movV 0 0, i64 (.var 6)], post := [], new := [.rows false k5 (.var 5)] }
def cRMake : Ctr := { cMake with fn := 24 }
def cEq2 : Ctr := { fn := 25, nv := 2, args := [l2 0, .slice 1 2 (.lit 0) (.un .len (.var 1)) none], H := [r2 0, r2 1], pre := [], outs := [.fn2 4 (.var 0) (.var 1)], res := .bool (.var 0), post := [none, none], new := [] }
def r5 (v : Nat) : O := .rows true k5 (.var v)
def cSame : Ctr := { fn := 14, nv := 12, args := [movV 0 0, movV 1 6], H := [r5 5, r5 11], pre := [], outs := [.bi .and (.bi .eq (.var 0) (.var 6)) (.bi .and (.bi .eq (.var 1) (.var 7)) (.bi .and (.bi .eq (.var 2) (.var 8)) (.bi .and (.bi .eq (.var 3) (.var 9)) (.bi .and (.bi .eq (.var 4) (.var 10)) (.fn2 10 (.var 5) (.var 11))))))], res := .bool (.var 0), post := [none, none], new := [] }
def yes : V := .bool (.bl true)
def le' (a : Int) (v : Nat) (b : Int) : List E := [.bi .le (.lit a) (.var v), .bi .le (.var v) (.lit b)]
def cFair : Ctr := { fn := 13, nv := 6, args := [movV 0 0], H := [r5 5], pre := le' 1 0 24 ++ le' 0 1 47 ++ le' 1 2 47 ++ le' 0 3 24 ++ [.te .elems (.var 5) (.lit 0) (.lit 100), .fn2 11 (rowOf [.var 0, .var 1, .var 2, .var 3]) (.var 5)], outs := [.bl true], res := .bool (.var 0), post := [none], new := [] }
def cAw : Ctr := { fn := 10, nv := 0, args := [], H := [], pre := [], outs := [], res := yes, post := [], new := [] }
end Go.Proofs.C26
