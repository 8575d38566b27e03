/- Chapter 25: what its functions are, in plain Lean; their contracts. -/
import Derived.Test.YtbknfmmoniammaaSxVI
namespace Go.Proofs.C25
open Go Go.Sx

/-! ### movements -/
/-- is there a movement of this kind? -/
def wayE (t k : Int) : Int := if t < 2 ∨ 24 < t ∨ k < 1 ∨ 3 < k then 2 else if (k = 1) ↔ (t.tmod 2 = 1) then 0 else 6
def mostV (t k : Int) : Int := if wayE t k ≠ 0 then 0 else if k = 2 then t - 1 else t
/-- the pair that moves, and the set -/
def pairM (t k round table : Nat) : Nat := (((table : Int) - (if k = 2 ∧ t / 2 ≤ round then (round : Int) + 1 else round)) % (t : Int)).toNat
def setM (t k round table : Nat) : Nat := ((if k = 3 ∧ t / 2 ≤ table then table + 1 else table) + round) % t
def rowM (t k round table : Nat) : List Int := [round, table, table + 1, t + 1 + pairM t k round table, setM t k round table]
def rowsM (t k rounds : Nat) : List (List Int) := (List.range rounds).flatMap fun r => (List.range t).map fun j => rowM t k r j
def makeE (t r k : Int) : Int := if wayE t k ≠ 0 then wayE t k else if r < 1 then 2 else if mostV t k < r then 5 else 0
def makeF (j : Nat) (t r k : Int) : Int :=
  if makeE t r k ≠ 0 then 0 else
  match j with
  | 0 => t
  | 1 => r
  | 2 => t
  | 3 => if k = 3 then 2 else 1
  | _ => 2
def makeR (t r k : Int) : List (List Int) := if makeE t r k ≠ 0 then [] else rowsM t.toNat k.toNat r.toNat
/-- with a rover: who stays at table 2r plays it -/
def roverRow (t : Nat) (x : List Int) : List Int := if x.getD 1 0 = (2 * x.getD 0 0).tmod t then x.set 2 (2 * t + 1) else x
def roverE (t r : Int) : Int := if wayE t 1 = 0 ∧ t.tmod 3 = 0 then 6 else makeE t r 1
def roverF (j : Nat) (t r : Int) : Int := if roverE t r ≠ 0 then 0 else makeF j t r 1
def roverR (t r : Int) : List (List Int) := if roverE t r ≠ 0 then [] else (makeR t r 1).map (roverRow t.toNat)

def eqR (w : Nat) (a b : List (List Int)) : Bool := a.length == b.length && (List.range a.length).all fun i => (List.range w).all fun c => (a.getD i []).getD c 0 == (b.getD i []).getD c 0

/-! ### lists of numbers; who sits where -/
def nums (A : List (List Int)) : List Int := A.map fun r => r.getD 0 0
def ones (l : List Int) : List (List Int) := l.map fun x => [x]
/-- one of each of neighbours that are alike -/
def uniq : List Int → List Int
  | [] => []
  | [x] => [x]
  | x :: y :: l => if x = y then uniq (y :: l) else x :: uniq (y :: l)
def sortU (l : List Int) : List Int := uniq ((l.filter fun x => decide (1 ≤ x)).mergeSort fun x y => decide (x ≤ y))
/-- what sorted makes of a list: behind the numbers nothing but 0 -/
def srtAll (A : List (List Int)) : List (List Int) := ones (sortU (nums A)) ++ List.replicate (A.length - (sortU (nums A)).length) [0]
def srtLen (A : List (List Int)) : Int := (sortU (nums A)).length
def seats (m : List (List Int)) : List (List Int) := m.flatMap fun r => [[r.getD 2 0], [r.getD 3 0]]
def hasN (A : List (List Int)) (n : Nat) (x : Int) : Bool := (nums (A.take n)).contains x
def hasP (m : List (List Int)) (p : Int) : Bool := decide (1 ≤ p) && (nums (seats m)).contains p
def lessRow (p : Int) (r : List Int) : List Int := [r.getD 0 0, r.getD 1 0, if r.getD 2 0 = p then 0 else r.getD 2 0, if r.getD 3 0 = p then 0 else r.getD 3 0, r.getD 4 0]
def lessE (m : List (List Int)) (p : Int) : Int := if hasP m p then 0 else 6
def lessR (m : List (List Int)) (p : Int) : List (List Int) := if hasP m p then m.map (lessRow p) else []
def whereR (m : List (List Int)) (round p : Int) : List (List Int) := (m.find? fun r => decide (1 ≤ p) && (r.getD 0 0 == round && (r.getD 2 0 == p || r.getD 3 0 == p))).toList
def outOf (m : List (List Int)) (round : Int) : List (List Int) :=
  let here := nums (seats (m.filter fun r => r.getD 0 0 == round))
  ones (nums (seats (m.filter fun r => r.getD 0 0 == round && (r.getD 2 0 == 0 || r.getD 3 0 == 0))) ++ (nums (seats (m.filter fun r => r.getD 0 0 != round))).filter fun x => !here.contains x)

/-! ### what the laws make of numbers -/
def madeT0 (a : Int) : Int := 2 + a.tmod 23
def madeK (a c : Int) : Int := if c.tmod 4 = 0 ∧ (madeT0 a).tmod 6 ≠ 1 ∧ (madeT0 a).tmod 6 ≠ 5 then 1 else c.tmod 4
def madeT (a c : Int) : Int := if madeK a c = 0 then madeT0 a else if madeK a c = 1 then (if (madeT0 a).tmod 2 = 1 then madeT0 a else if 24 < madeT0 a + 1 then madeT0 a - 1 else madeT0 a + 1) else madeT0 a - (madeT0 a).tmod 2
def madeM (a c : Int) : Int := mostV (madeT a c) (if madeK a c < 1 then 1 else madeK a c)
def madeN (a b c : Int) : Int := 1 + b.tmod (if madeM a c < 1 then 1 else madeM a c)
def madeF (j : Nat) (a b c : Int) : Int := if madeK a c = 0 then roverF j (madeT a c) (madeN a b c) else makeF j (madeT a c) (madeN a b c) (madeK a c)
def madeR (a b c : Int) : List (List Int) := if madeK a c = 0 then roverR (madeT a c) (madeN a b c) else makeR (madeT a c) (madeN a b c) (madeK a c)

/-! ### fair movements -/
def sitKeys (r : List Int) : List (List Int) := ([r.getD 2 0, r.getD 3 0].filter fun p => p != 0).map fun p => [r.getD 0 0, p]
def playKeys (r : List Int) : List (List Int) := ([r.getD 2 0, r.getD 3 0].filter fun p => p != 0).map fun p => [p, r.getD 4 0]
def meetKeys (r : List Int) : List (List Int) := if r.getD 2 0 * r.getD 3 0 = 0 then [] else [[if r.getD 3 0 < r.getD 2 0 then r.getD 3 0 else r.getD 2 0, if r.getD 3 0 > r.getD 2 0 then r.getD 3 0 else r.getD 2 0]]
def standKey (r : List Int) : List Int := [r.getD 0 0, r.getD 4 0]
structure FairRow (T R S : Int) (r : List Int) : Prop where
  r0 : 0 ≤ r.getD 0 0 ∧ r.getD 0 0 < R
  r1 : 0 ≤ r.getD 1 0 ∧ r.getD 1 0 < T
  r2 : 0 ≤ r.getD 2 0 ∧ r.getD 2 0 ≤ 1000
  r3 : 0 ≤ r.getD 3 0 ∧ r.getD 3 0 ≤ 1000
  r4 : 0 ≤ r.getD 4 0 ∧ r.getD 4 0 < S
structure FairM (T R S C : Int) (rows : List (List Int)) : Prop where
  row : ∀ r ∈ rows, FairRow T R S r
  sits : (rows.flatMap sitKeys).Nodup
  plays : (rows.flatMap playKeys).Nodup
  meets : (rows.flatMap meetKeys).Nodup
  stands : ∀ k, ((rows.map standKey).count k : Int) ≤ C
open Classical in
noncomputable def fairP (h : List Int) (rows : List (List Int)) : Bool := decide (FairM (h.getD 0 0) (h.getD 1 0) (h.getD 2 0) (h.getD 3 0) rows)

/-! ### what the reference makes of lists -/
def putL (A : List (List Int)) (n : Int) : List (List Int) := if n < 1 then A else A.takeWhile (fun r => decide (r.getD 0 0 < n)) ++ (if (A.dropWhile (fun r => decide (r.getD 0 0 < n))).head? = some [n] then [] else [[n]]) ++ A.dropWhile (fun r => decide (r.getD 0 0 < n))
def pairsL (m : List (List Int)) : List (List Int) := ones (sortU (nums (seats m)))
def outL (m : List (List Int)) (round : Int) : List (List Int) := ones (sortU (nums (outOf m round)))
def sameN (A : List (List Int)) (n : Int) (B : List (List Int)) (k : Int) : Bool := n == k && (List.range n.toNat).all fun i => (A.getD i []).getD 0 0 == (B.getD i []).getD 0 0

noncomputable def I25 : Itp where
  f1 := fun f u => match f with
    | 0 => { l := srtAll u.l }
    | 1 => { i := srtLen u.l }
    | 2 => { l := srtAll (seats u.l) }
    | 3 => { i := srtLen (seats u.l) }
    | 4 => { l := pairsL u.l }
    | _ => {}
  f2 := fun f u v => match f with
    | 0 => { i := mostV u.i v.i }
    | 1 => { i := wayE u.i v.i }
    | 2 => { i := roverE u.i v.i }
    | 3 => { l := roverR u.i v.i }
    | 10 => { b := eqR 5 u.l v.l }
    | 11 => { i := u.i % v.i }
    | 12 => { l := sortPre u.l v.i.toNat }
    | 13 => { l := lessR u.l v.i }
    | 14 => { i := lessE u.l v.i }
    | 15 => { l := srtAll (outOf u.l v.i) }
    | 16 => { i := srtLen (outOf u.l v.i) }
    | 17 => { b := fairP u.r v.l }
    | 18 => { l := putL u.l v.i }
    | 19 => { l := outL u.l v.i }
    | f => { i := roverF (f - 5) u.i v.i }
  f3 := fun f u v x => match f with
    | 0 => { i := makeE u.i v.i x.i }
    | 1 => { l := makeR u.i v.i x.i }
    | 10 => { b := hasN u.l v.i.toNat x.i }
    | 11 => { l := whereR u.l v.i x.i }
    | 20 => { i := madeF 0 u.i v.i x.i }
    | 21 => { i := madeF 1 u.i v.i x.i }
    | 22 => { i := madeF 2 u.i v.i x.i }
    | 23 => { i := madeF 3 u.i v.i x.i }
    | 24 => { i := madeF 4 u.i v.i x.i }
    | 25 => { l := madeR u.i v.i x.i }
    | f => { i := makeF (f - 2) u.i v.i x.i }
  f4 := fun f t r j k => match f with
    | 0 => { i := pairM t.i.toNat k.i.toNat r.i.toNat j.i.toNat }
    | 2 => { b := sameN t.l r.i j.l k.i }
    | _ => { i := setM t.i.toNat k.i.toNat r.i.toNat j.i.toNat }

def F25 : FnS where
  s1 := fun f => match f with
    | 0 => (.l, .l)
    | 1 => (.i, .l)
    | 2 => (.l, .l)
    | 3 => (.i, .l)
    | 4 => (.l, .l)
    | _ => (.i, .i)
  s2 := fun f => match f with
    | 3 => (.l, .i, .i)
    | 10 => (.b, .l, .l)
    | 12 => (.l, .l, .i)
    | 13 => (.l, .l, .i)
    | 14 => (.i, .l, .i)
    | 15 => (.l, .l, .i)
    | 16 => (.i, .l, .i)
    | 17 => (.b, .r, .l)
    | 18 => (.l, .l, .i)
    | 19 => (.l, .l, .i)
    | _ => (.i, .i, .i)
  s3 := fun f => match f with
    | 1 => (.l, .i, .i, .i)
    | 10 => (.b, .l, .i, .i)
    | 11 => (.l, .l, .i, .i)
    | 25 => (.l, .i, .i, .i)
    | _ => (.i, .i, .i, .i)
  s4 := fun f => match f with
    | 2 => (.b, .l, .i, .l, .i)
    | _ => (.i, .i, .i, .i, .i)

theorem resp25 : I25.Resp F25 where
  r1 := by
    intro f u
    match f with
    | 0 | 1 | 2 | 3 | 4 | _ + 5 => rfl
  r2 := by
    intro f u v
    match f with
    | 0 | 1 | 2 | 3 | 4 | 5 | 6 | 7 | 8 | 9 | 10 | 11 | 12 | 13 | 14 | 15 | 16 | 17 | 18 | 19 | _ + 20 => rfl
  r3 := by
    intro f u v x
    match f with
    | 0 | 1 | 2 | 3 | 4 | 5 | 6 | 7 | 8 | 9 | 10 | 11 | 12 | 13 | 14 | 15 | 16 | 17 | 18 | 19 | 20 | 21 | 22 | 23 | 24 | 25 | _ + 26 => rfl
  r4 := by
    intro f u v x y
    match f with
    | 0 | 1 | 2 | _ + 3 => rfl

def i64 (e : E) : V := .int .i64 e
def u8 (v : Nat) : V := .int .u8 (.var v)
def k5 : List CK := [.int .i64, .int .i64, .int .i64, .int .i64, .int .i64]
def r5 (v : Nat) : O := .rows true k5 (.var v)
def le' (a : Int) (v : Nat) (b : Int) : List E := [.bi .le (.lit a) (.var v), .bi .le (.var v) (.lit b)]
def movV (h v : Nat) : V := .agg [i64 (.var v), i64 (.var (v + 1)), i64 (.var (v + 2)), i64 (.var (v + 3)), i64 (.var (v + 4)), .slice h 5 (.lit 0) (.un .len (.var (v + 5))) none]
def most (v : Nat) : E := .bi .le (.un .len (.var v)) (.lit 5000)

def cMost : Ctr := { fn := 16, nv := 2, args := [i64 (.var 0), u8 1], H := [], pre := le' 0 1 255, outs := [.fn2 0 (.var 0) (.var 1), .fn2 1 (.var 0) (.var 1)], res := .tup [i64 (.var 0), i64 (.var 1)], post := [], new := [] }
def cRMost : Ctr := { cMost with fn := 24 }
def cMake : Ctr := { fn := 17, nv := 3, args := [i64 (.var 0), i64 (.var 1), u8 2], H := [], pre := le' 0 2 255, outs := ((List.range 5).map fun j => .fn3 (j + 2) (.var 0) (.var 1) (.var 2)) ++ [.fn3 1 (.var 0) (.var 1) (.var 2), .fn3 0 (.var 0) (.var 1) (.var 2)], res := .tup [movV 0 0, i64 (.var 6)], post := [], new := [.rows false k5 (.var 5)] }
def cRMake : Ctr := { cMake with fn := 21 }
def cRover : Ctr := { fn := 19, nv := 2, args := [i64 (.var 0), i64 (.var 1)], H := [], pre := [], outs := ((List.range 5).map fun j => .fn2 (j + 5) (.var 0) (.var 1)) ++ [.fn2 3 (.var 0) (.var 1), .fn2 2 (.var 0) (.var 1)], res := .tup [movV 0 0, i64 (.var 6)], post := [], new := [.rows false k5 (.var 5)] }
def cRRover : Ctr := { cRover with fn := 25 }
def cRows : Ctr := { fn := 32, nv := 2, args := [.slice 0 5 (.lit 0) (.un .len (.var 0)) none, .slice 1 5 (.lit 0) (.un .len (.var 1)) none], H := [r5 0, r5 1], pre := [most 0], outs := [.fn2 10 (.var 0) (.var 1)], res := .bool (.var 0), post := [none, none], new := [] }
/-- the two movements are the same: then this is said -/
def cSame : Ctr := { fn := 20, nv := 12, args := [movV 0 0, movV 1 6], H := [r5 5, r5 11], pre := [most 5, .bi .eq (.var 0) (.var 6), .bi .eq (.var 1) (.var 7), .bi .eq (.var 2) (.var 8), .bi .eq (.var 3) (.var 9), .bi .eq (.var 4) (.var 10), .fn2 10 (.var 5) (.var 11)], outs := [.bl true], res := .bool (.var 0), post := [none, none], new := [] }
def cMod : Ctr := { fn := 43, nv := 2, args := [i64 (.var 0), i64 (.var 1)], H := [], pre := le' (-100) 0 200 ++ le' 1 1 24, outs := [.fn2 11 (.var 0) (.var 1)], res := i64 (.var 0), post := [], new := [] }
def cRow : Ctr := { fn := 33, nv := 4, args := [i64 (.var 0), i64 (.var 1), i64 (.var 2), u8 3], H := [], pre := le' 2 0 24 ++ le' 0 1 24 ++ le' 0 2 24 ++ le' 1 3 3, outs := [.var 1, .var 2, .bi .add (.var 2) (.lit 1), .bi .add (.bi .add (.var 0) (.lit 1)) (.fn4 0 (.var 0) (.var 1) (.var 2) (.var 3)), .fn4 1 (.var 0) (.var 1) (.var 2) (.var 3)], res := .agg [i64 (.var 0), i64 (.var 1), i64 (.var 2), i64 (.var 3), i64 (.var 4)], post := [], new := [] }
def small3 : List E := le' 0 0 24 ++ le' 0 1 24 ++ le' 0 2 24
def cMoves : Ctr := { fn := 59, nv := 3, args := [i64 (.var 0), i64 (.var 1), i64 (.var 2)], H := [], pre := small3, outs := [.bi .sub (.var 2) (.var 1)], res := i64 (.var 0), post := [], new := [] }
def cNext : Ctr := { cMoves with fn := 60, outs := [.bi .add (.var 2) (.var 1)] }
def cSkip : Ctr := { cMoves with fn := 61, outs := [.bi .sub (.var 2) (.te .ite (.bi .le (.bi .quo (.var 0) (.lit 2)) (.var 1)) (.bi .add (.var 1) (.lit 1)) (.var 1))] }
def cShare : Ctr := { cMoves with fn := 62, outs := [.bi .add (.te .ite (.bi .le (.bi .quo (.var 0) (.lit 2)) (.var 2)) (.bi .add (.var 2) (.lit 1)) (.var 2)) (.var 1)] }
def cMakes : Ctr := { fn := 9, nv := 3, args := [i64 (.var 0), i64 (.var 1), u8 2], H := [], pre := le' 0 2 255, outs := [.bl true], res := .bool (.var 0), post := [], new := [] }

/-! ### lists of numbers -/
def r1 (v : Nat) : O := .rows true [.int .i64] (.var v)
def w1 (v : Nat) : O := .rows false [.int .i64] (.var v)
def long (v : Nat) : E := .bi .le (.un .len (.var v)) (.lit 100000)
def cSort47 : Ctr := cSort 47 12
def cHas : Ctr := { fn := 15, nv := 3, args := [.slice 0 1 (.lit 0) (.var 1) none, i64 (.var 2)], H := [r1 0], pre := [.bi .le (.lit 0) (.var 1), .bi .le (.var 1) (.un .len (.var 0)), long 0], outs := [.fn3 10 (.var 0) (.var 1) (.var 2)], res := .bool (.var 0), post := [none], new := [] }
def cSorted : Ctr := { fn := 27, nv := 1, args := [.slice 0 1 (.lit 0) (.un .len (.var 0)) none], H := [w1 0], pre := [long 0], outs := [.fn1 0 (.var 0), .fn1 1 (.var 0)], res := .slice 0 1 (.lit 0) (.var 1) none, post := [some (w1 0)], new := [] }
def cPairs : Ctr := { fn := 13, nv := 6, args := [movV 0 0], H := [r5 5], pre := [most 5], outs := [.fn1 2 (.var 5), .fn1 3 (.var 5)], res := .slice 1 1 (.lit 0) (.var 1) none, post := [none], new := [w1 0] }
def isOk (e x : E) : E := .te .ite (.bi .eq e (.lit 0)) x (.lit 0)
def cWithout : Ctr := { fn := 14, nv := 7, args := [movV 0 0, i64 (.var 6)], H := [r5 5], pre := [most 5], outs := ((List.range 5).map fun j => isOk (.fn2 14 (.var 5) (.var 6)) (.var j)) ++ [.fn2 13 (.var 5) (.var 6), .fn2 14 (.var 5) (.var 6)], res := .tup [movV 1 0, i64 (.var 6)], post := [none], new := [.rows false k5 (.var 5)] }
def cWhere : Ctr := { fn := 23, nv := 8, args := [movV 0 0, i64 (.var 6), i64 (.var 7)], H := [r5 5], pre := [most 5], outs := ((List.range 5).map fun (j : Nat) => .te .get (.fn3 11 (.var 5) (.var 6) (.var 7)) (.lit 0) (.lit j)) ++ [.bi .lt (.lit 0) (.un .len (.fn3 11 (.var 5) (.var 6) (.var 7)))], res := .tup [.agg [i64 (.var 0), i64 (.var 1), i64 (.var 2), i64 (.var 3), i64 (.var 4)], .bool (.var 5)], post := [none], new := [] }
def cOut : Ctr := { fn := 26, nv := 7, args := [movV 0 0, i64 (.var 6)], H := [r5 5], pre := [most 5], outs := [.fn2 15 (.var 5) (.var 6), .fn2 16 (.var 5) (.var 6)], res := .slice 1 1 (.lit 0) (.var 1) none, post := [none], new := [w1 0] }

def rowOf : List E → E
  | [] => .nil
  | e :: l => .bi .cons e (rowOf l)
def cFair : Ctr := { fn := 12, nv := 6, args := [movV 0 0], H := [r5 5], pre := [most 5, .fn2 17 (rowOf [.var 0, .var 1, .var 2, .var 3]) (.var 5)], outs := [.bl true], res := .bool (.var 0), post := [none], new := [] }
def cAw : Ctr := { fn := 10, nv := 0, args := [], H := [], pre := [], outs := [.bl true], res := .bool (.var 0), post := [], new := [] }
def u8s : List E := le' 0 0 255 ++ le' 0 1 255 ++ le' 0 2 255
def cMade : Ctr := { fn := 11, nv := 3, args := [u8 0, u8 1, u8 2], H := [], pre := u8s, outs := (List.range 6).map fun j => .fn3 (20 + j) (.var 0) (.var 1) (.var 2), res := movV 0 0, post := [], new := [.rows false k5 (.var 5)] }
def cSameP : Ctr := cSame.win 1 5 11
/-- the same as nothing -/
def cRowsN : Ctr := { fn := 32, nv := 1, args := [.slice 0 5 (.lit 0) (.un .len (.var 0)) none, .nils], H := [r5 0], pre := [.bi .eq (.un .len (.var 0)) (.lit 0)], outs := [.bl true], res := .bool (.var 0), post := [none], new := [] }
def cSameN : Ctr := { fn := 20, nv := 11, args := [movV 0 0, .agg [i64 (.var 6), i64 (.var 7), i64 (.var 8), i64 (.var 9), i64 (.var 10), .nils]], H := [r5 5], pre := [.bi .eq (.un .len (.var 5)) (.lit 0), .bi .eq (.var 0) (.var 6), .bi .eq (.var 1) (.var 7), .bi .eq (.var 2) (.var 8), .bi .eq (.var 3) (.var 9), .bi .eq (.var 4) (.var 10)], outs := [.bl true], res := .bool (.var 0), post := [none], new := [] }
/-! ### the laws -/
def cLMakes : Ctr := { cMakes with fn := 3 }
def cLFair : Ctr := { fn := 4, nv := 4, args := [u8 0, u8 1, u8 2, u8 3], H := [], pre := u8s ++ le' 0 3 255, outs := [.bl true], res := .bool (.var 0), post := [], new := [] }
def cLFull : Ctr := { fn := 5, nv := 2, args := [u8 0, u8 1], H := [], pre := le' 0 0 255 ++ le' 0 1 255, outs := [.bl true], res := .bool (.var 0), post := [], new := [] }
def cLBegins : Ctr := { cLFair with fn := 6 }
def cLWrong : Ctr := { fn := 8, nv := 4, args := [i64 (.var 0), u8 1, u8 2, u8 3], H := [], pre := le' (-9223372036854775808) 0 9223372036854775807 ++ le' 0 1 255 ++ le' 0 2 255 ++ le' 0 3 255, outs := [.bl true], res := .bool (.var 0), post := [], new := [] }
end Go.Proofs.C25
