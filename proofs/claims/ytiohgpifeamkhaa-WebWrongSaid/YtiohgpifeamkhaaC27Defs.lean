/- Chapter 27: what its functions are, in plain Lean; their contracts. -/
import Derived.Test.YtiohgpifeamkhaaSxVI
import Derived.Test.YtiohgpifeamkhaaSxVI
namespace Go.Proofs.C27
open Go Go.Sx

/-! ### movements -/
/-- is there a movement of this kind? -/
def wayE (t k : Int) : Int := if t < 2 ∨ 24 < t then 2 else if k = 1 then (if t.tmod 2 = 1 then 6 else 0) else if k = 2 then (if t = 2 ∨ t.tmod 2 = 1 then 6 else 0) else if k = 3 then 0 else 2
def mostV (t k : Int) : Int := if wayE t k ≠ 0 then 0 else if k = 3 then t else t.tdiv 2
def setsV (t k : Int) : Int := if k = 3 then t else if k = 2 then t - 1 else if (t.tdiv 2).tmod 2 = 1 then t.tdiv 2 else t.tdiv 2 + 1
def copiesK (t k : Int) : Int := if k = 3 then t else 2
def rowW (t k S r j : Nat) : List Int := [r, j, j + 1, t + 1 + (if r ≤ j then j - r else j + t - r : Nat), if k = 3 then r else ((j + r) % S : Nat)]
def rowsW (t k S R : Nat) : List (List Int) := (List.range R).flatMap fun r => (List.range t).map fun j => rowW t k S r j
def makeE (t r k : Int) : Int := if wayE t k ≠ 0 then wayE t k else if r < 1 then 2 else if mostV t k < r then 5 else 0
def makeF (j : Nat) (t r k : Int) : Int :=
  if makeE t r k ≠ 0 then 0 else
  match j with
  | 0 => t
  | 1 => r
  | 2 => setsV t k
  | 3 => copiesK t k
  | _ => 2
def makeR (t r k : Int) : List (List Int) := if makeE t r k ≠ 0 then [] else rowsW t.toNat k.toNat (setsV t k).toNat r.toNat

def eqR (w : Nat) (a b : List (List Int)) : Bool := a.length == b.length && (List.range a.length).all fun i => (List.range w).all fun c => (a.getD i []).getD c 0 == (b.getD i []).getD c 0

/-! ### what the laws make of numbers -/
def madeK (c : Int) : Int := 1 + c.tmod 3
def madeT (a c : Int) : Int :=
  let t := 2 + a.tmod 23
  let t := if madeK c = 3 then t else t - t.tmod 2
  if madeK c = 2 ∧ t < 4 then 4 else t
def madeN (a b c : Int) : Int := 1 + b.tmod (if mostV (madeT a c) (madeK c) < 1 then 1 else mostV (madeT a c) (madeK c))

/-! ### who has which set -/
def nums (A : List (List Int)) : List Int := A.map fun r => r.getD 0 0
def ones (l : List Int) : List (List Int) := l.map fun x => [x]
def setsOf (m : List (List Int)) (round : Int) : List (List Int) := ones ((m.filter fun r => r.getD 0 0 == round).map fun r => r.getD 4 0)
def loadsL (s : Int) (m : List (List Int)) (round : Int) : List (List Int) := if s < 1 ∨ 4096 < s then [] else ones ((List.range s.toNat).map fun (q : Nat) => ((((m.filter fun r => r.getD 0 0 == round).map fun r => r.getD 4 0).count (q : Int) : Nat) : Int))
def idleL (s : Int) (m : List (List Int)) (round : Int) : List (List Int) := ones ((((List.range (loadsL s m round).length).filter fun q => ((loadsL s m round).getD q []).getD 0 0 == 0)).map fun (q : Nat) => (q : Int))
def standKey (r : List Int) : List Int := [r.getD 0 0, r.getD 4 0]
def copiesAt (pre : List (List Int)) : List (List Int) → Nat → Nat
  | [], most => most
  | x :: rest, most => copiesAt (pre ++ [standKey x]) rest (max most ((pre ++ [standKey x]).count (standKey x)))
def copiesV (m : List (List Int)) : Int := copiesAt [] m 0
/-- who shares a set: row by row with those before it -/
def sharedA (round : Int) (before : List (List Int)) (a : List Int) : List (List Int) := (before.filter fun b => a.getD 0 0 == round && (b.getD 0 0 == round && (a.getD 4 0 == b.getD 4 0 && a.getD 1 0 != b.getD 1 0))).map fun b => [if b.getD 1 0 < a.getD 1 0 then b.getD 1 0 else a.getD 1 0, if b.getD 1 0 > a.getD 1 0 then b.getD 1 0 else a.getD 1 0]
def sharedP (m : List (List Int)) (round : Int) : List (List Int) := (List.range m.length).flatMap fun i => sharedA round (m.take i) (m.getD i [])
def feedsA (m : List (List Int)) (round table : Int) (a : List Int) : List (List Int) := (m.filter fun b => decide (b.getD 0 0 < round) && (b.getD 0 0 == IntKind.wrap .i64 (round - 1) && (b.getD 4 0 == a.getD 4 0 && b.getD 1 0 != table))).map fun b => [b.getD 1 0]
def feedsP (m : List (List Int)) (round table : Int) : List (List Int) := (m.filter fun a => a.getD 0 0 == round && a.getD 1 0 == table).flatMap (feedsA m round table)
/-- one of each of neighbours that are alike -/
def uniq : List Int → List Int
  | [] => []
  | [x] => [x]
  | x :: y :: l => if x = y then uniq (y :: l) else x :: uniq (y :: l)

/-! ### fair movements -/
structure FS where
  plays : Nat
  meets : Nat
  sits : Nat
  stands : List (List Int)
/-- one row of a fair movement of T tables, S sets, C copies -/
def fairRow (T S C : Nat) (round table : Nat) (r : List Int) (s : FS) : Option FS :=
  let ns := r.getD 2 0
  let ew := r.getD 3 0
  let set := r.getD 4 0
  if r.getD 0 0 = round ∧ r.getD 1 0 = table ∧ 1 ≤ ns ∧ ns ≤ 2 * T ∧ 1 ≤ ew ∧ ew ≤ 2 * T ∧ ns ≠ ew ∧ 0 ≤ set ∧ set < S then
    let a := ns.toNat
    let b := ew.toNat
    let q := set.toNat
    let m := min a b * (2 * T + 1) + max a b
    let n := (s.stands.getD q []).getD 0 0 + 1
    if !s.sits.testBit a && !s.sits.testBit b && !s.plays.testBit (a * S + q) && !s.plays.testBit (b * S + q) && !s.meets.testBit m && decide (n ≤ C) then
      some { plays := (s.plays ||| 1 <<< (a * S + q)) ||| 1 <<< (b * S + q), meets := s.meets ||| 1 <<< m, sits := (s.sits ||| 1 <<< a) ||| 1 <<< b, stands := setAt s.stands q 0 n }
    else none
  else none
def fairRows (T S C : Nat) : List (List Int) → Nat → Nat → FS → Bool
  | [], _, table, _ => table == 0
  | r :: rows, round, table, s =>
    match fairRow T S C round table r s with
    | none => false
    | some s' => if table + 1 = T then fairRows T S C rows (round + 1) 0 { s' with sits := 0, stands := List.replicate S [0] } else fairRows T S C rows round (table + 1) s'
def fairB (h : List Int) (rows : List (List Int)) : Bool :=
  let T := (h.getD 0 0).toNat
  let S := (h.getD 2 0).toNat
  decide (1 ≤ h.getD 0 0 ∧ h.getD 0 0 ≤ 24 ∧ 0 ≤ h.getD 1 0 ∧ h.getD 1 0 ≤ 47 ∧ 1 ≤ h.getD 2 0 ∧ h.getD 2 0 ≤ 47 ∧ 0 ≤ h.getD 3 0 ∧ h.getD 3 0 ≤ 24 ∧ rows.length = T * (h.getD 1 0).toNat) &&
    fairRows T S (h.getD 3 0).toNat rows 0 0 ⟨0, 0, 0, List.replicate S [0]⟩

def I27 : Itp where
  f1 := fun f u => match f with
    | 0 => { i := copiesV u.l }
    | _ => {}
  f2 := fun f u v => match f with
    | 0 => { i := mostV u.i v.i }
    | 1 => { i := wayE u.i v.i }
    | 2 => { l := setsOf u.l v.i }
    | 3 => { i := setsV u.i v.i }
    | 10 => { b := eqR 5 u.l v.l }
    | 11 => { b := fairB u.r v.l }
    | 12 => { l := sortPre u.l v.i.toNat }
    | 13 => { b := eqR 1 u.l v.l }
    | 14 => { b := eqR 2 u.l v.l }
    | 15 => { i := madeT u.i v.i }
    | 16 => { l := sharedP u.l v.i }
    | _ => {}
  f3 := fun f u v x => match f with
    | 0 => { i := makeE u.i v.i x.i }
    | 1 => { l := makeR u.i v.i x.i }
    | 10 => { l := loadsL u.i v.l x.i }
    | 11 => { l := idleL u.i v.l x.i }
    | 12 => { i := madeN u.i v.i x.i }
    | 13 => { l := feedsP u.l v.i x.i }
    | f => { i := makeF (f - 2) u.i v.i x.i }
  f4 := fun _ _ _ _ _ => {}

def F27 : FnS where
  s1 := fun f => match f with
    | 0 => (.i, .l)
    | _ => (.i, .i)
  s2 := fun f => match f with
    | 2 => (.l, .l, .i)
    | 10 => (.b, .l, .l)
    | 11 => (.b, .r, .l)
    | 12 => (.l, .l, .i)
    | 13 => (.b, .l, .l)
    | 14 => (.b, .l, .l)
    | 16 => (.l, .l, .i)
    | _ => (.i, .i, .i)
  s3 := fun f => match f with
    | 1 => (.l, .i, .i, .i)
    | 10 => (.l, .i, .l, .i)
    | 11 => (.l, .i, .l, .i)
    | 13 => (.l, .l, .i, .i)
    | _ => (.i, .i, .i, .i)
  s4 := fun _ => (.i, .i, .i, .i, .i)

theorem resp27 : I27.Resp F27 where
  r1 := by
    intro f u
    match f with
    | 0 | _ + 1 => rfl
  r2 := by
    intro f u v
    match f with
    | 0 | 1 | 2 | 3 | 4 | 5 | 6 | 7 | 8 | 9 | 10 | 11 | 12 | 13 | 14 | 15 | 16 | _ + 17 => rfl
  r3 := by
    intro f u v x
    match f with
    | 0 | 1 | 2 | 3 | 4 | 5 | 6 | 7 | 8 | 9 | 10 | 11 | 12 | 13 | _ + 14 => rfl
  r4 := by
    intro f u v x y
    rfl

def i64 (e : E) : V := .int .i64 e
def u8 (v : Nat) : V := .int .u8 (.var v)
def u8e (e : E) : V := .int .u8 e
def k5 : List CK := [.int .i64, .int .i64, .int .i64, .int .i64, .int .i64]
def r5 (v : Nat) : O := .rows true k5 (.var v)
def r1 (v : Nat) : O := .rows true [.int .i64] (.var v)
def w1 (v : Nat) : O := .rows false [.int .i64] (.var v)
def le' (a : Int) (v : Nat) (b : Int) : List E := [.bi .le (.lit a) (.var v), .bi .le (.var v) (.lit b)]
def movV (h v : Nat) : V := .agg [i64 (.var v), i64 (.var (v + 1)), i64 (.var (v + 2)), i64 (.var (v + 3)), i64 (.var (v + 4)), .slice h 5 (.lit 0) (.un .len (.var (v + 5))) none]
def most (v : Nat) : E := .bi .le (.un .len (.var v)) (.lit 5000)
def rowOf : List E → E
  | [] => .nil
  | e :: l => .bi .cons e (rowOf l)

def cMost : Ctr := { fn := 20, nv := 2, args := [i64 (.var 0), u8 1], H := [], pre := le' 0 1 255, outs := [.fn2 0 (.var 0) (.var 1), .fn2 1 (.var 0) (.var 1)], res := .tup [i64 (.var 0), i64 (.var 1)], post := [], new := [] }
def cRMost : Ctr := { cMost with fn := 27 }
def cRSets : Ctr := { fn := 40, nv := 2, args := [i64 (.var 0), u8 1], H := [], pre := le' 2 0 24 ++ le' 1 1 3, outs := [.fn2 3 (.var 0) (.var 1)], res := i64 (.var 0), post := [], new := [] }
def cMake : Ctr := { fn := 18, nv := 3, args := [i64 (.var 0), i64 (.var 1), u8 2], H := [], pre := le' 0 2 255, outs := ((List.range 5).map fun j => .fn3 (j + 2) (.var 0) (.var 1) (.var 2)) ++ [.fn3 1 (.var 0) (.var 1) (.var 2), .fn3 0 (.var 0) (.var 1) (.var 2)], res := .tup [movV 0 0, i64 (.var 6)], post := [], new := [.rows false k5 (.var 5)] }
def cRMake : Ctr := { cMake with fn := 14 }
def cRows : Ctr := { fn := 42, nv := 2, args := [.slice 0 5 (.lit 0) (.un .len (.var 0)) none, .slice 1 5 (.lit 0) (.un .len (.var 1)) none], H := [r5 0, r5 1], pre := [most 0], outs := [.fn2 10 (.var 0) (.var 1)], res := .bool (.var 0), post := [none, none], new := [] }
/-- the two movements are the same: then this is said -/
def cSame : Ctr := { fn := 19, nv := 12, args := [movV 0 0, movV 1 6], H := [r5 5, r5 11], pre := [most 5, .bi .eq (.var 0) (.var 6), .bi .eq (.var 1) (.var 7), .bi .eq (.var 2) (.var 8), .bi .eq (.var 3) (.var 9), .bi .eq (.var 4) (.var 10), .fn2 10 (.var 5) (.var 11)], outs := [.bl true], res := .bool (.var 0), post := [none, none], new := [] }
def cSameP : Ctr := cSame.win 1 5 11
/-- the same as nothing -/
def cRowsN : Ctr := { fn := 42, nv := 1, args := [.slice 0 5 (.lit 0) (.un .len (.var 0)) none, .nils], H := [r5 0], pre := [.bi .eq (.un .len (.var 0)) (.lit 0)], outs := [.bl true], res := .bool (.var 0), post := [none], new := [] }
def cSameN : Ctr := { fn := 19, nv := 11, args := [movV 0 0, .agg [i64 (.var 6), i64 (.var 7), i64 (.var 8), i64 (.var 9), i64 (.var 10), .nils]], H := [r5 5], pre := [.bi .eq (.un .len (.var 5)) (.lit 0), .bi .eq (.var 0) (.var 6), .bi .eq (.var 1) (.var 7), .bi .eq (.var 2) (.var 8), .bi .eq (.var 3) (.var 9), .bi .eq (.var 4) (.var 10)], outs := [.bl true], res := .bool (.var 0), post := [none], new := [] }
def cMakes : Ctr := { fn := 11, nv := 3, args := [i64 (.var 0), i64 (.var 1), u8 2], H := [], pre := le' 0 2 255, outs := [.bl true], res := .bool (.var 0), post := [], new := [] }
def made (j : Nat) : E := .fn3 j (.fn2 15 (.var 0) (.var 2)) (.fn3 12 (.var 0) (.var 1) (.var 2)) (.bi .add (.bi .rem (.var 2) (.lit 3)) (.lit 1))
def u8s : List E := le' 0 0 255 ++ le' 0 1 255 ++ le' 0 2 255
def cMade : Ctr := { fn := 15, nv := 3, args := [u8 0, u8 1, u8 2], H := [], pre := u8s, outs := [made 2, made 3, made 4, made 5, made 6, made 1, .bi .add (.bi .rem (.var 2) (.lit 3)) (.lit 1)], res := .tup [movV 0 0, u8 6], post := [], new := [.rows false k5 (.var 5)] }
def cFair : Ctr := { fn := 16, nv := 6, args := [movV 0 0], H := [r5 5], pre := le' 1 0 24 ++ le' 0 1 47 ++ le' 1 2 47 ++ le' 0 3 24 ++ [.te .elems (.var 5) (.lit 0) (.lit 100), .fn2 11 (rowOf [.var 0, .var 1, .var 2, .var 3]) (.var 5)], outs := [.bl true], res := .bool (.var 0), post := [none], new := [] }
def cCopies : Ctr := { fn := 17, nv := 6, args := [movV 0 0], H := [r5 5], pre := [most 5], outs := [.fn1 0 (.var 5)], res := i64 (.var 0), post := [none], new := [] }
def cSets : Ctr := { fn := 29, nv := 7, args := [movV 0 0, i64 (.var 6)], H := [r5 5], pre := [most 5], outs := [.fn2 2 (.var 5) (.var 6)], res := .slice 1 1 (.lit 0) (.un .len (.var 0)) none, post := [none], new := [w1 0] }
def cEq1 : Ctr := { fn := 28, nv := 2, args := [.slice 0 1 (.lit 0) (.un .len (.var 0)) none, .slice 1 1 (.lit 0) (.un .len (.var 1)) none], H := [r1 0, r1 1], pre := [most 0], outs := [.fn2 13 (.var 0) (.var 1)], res := .bool (.var 0), post := [none, none], new := [] }
def cLoads : Ctr := { fn := 21, nv := 7, args := [movV 0 0, i64 (.var 6)], H := [r5 5], pre := [most 5], outs := [.fn3 10 (.var 2) (.var 5) (.var 6)], res := .slice 1 1 (.lit 0) (.un .len (.var 0)) none, post := [none], new := [w1 0] }
def cIdle : Ctr := { fn := 22, nv := 7, args := [movV 0 0, i64 (.var 6)], H := [r5 5], pre := [most 5], outs := [.fn3 11 (.var 2) (.var 5) (.var 6)], res := .slice 1 1 (.lit 0) (.un .len (.var 0)) none, post := [none], new := [w1 0] }
def cSort1 : Ctr := cSort 49 12
def r2 (v : Nat) : O := .rows true [.int .i64, .int .i64] (.var v)
def w2 (v : Nat) : O := .rows false [.int .i64, .int .i64] (.var v)
def cLen1 : Ctr := { fn := 61, nv := 1, args := [.int .u64 (.var 0)], H := [], pre := le' 0 0 1, outs := [.var 0], res := i64 (.var 0), post := [], new := [] }
def cSort2 : Ctr := { fn := 44, nv := 1, args := [.slice 0 2 (.lit 0) (.un .len (.var 0)) none, .func 45 []], H := [w2 0], pre := [.bi .le (.un .len (.var 0)) (.lit 1)], outs := [.var 0], res := .tup [], post := [some (w2 0)], new := [] }
def cEq2 : Ctr := { fn := 30, nv := 2, args := [.slice 0 2 (.lit 0) (.un .len (.var 0)) none, .slice 1 2 (.lit 0) (.un .len (.var 1)) none], H := [r2 0, r2 1], pre := [most 0], outs := [.fn2 14 (.var 0) (.var 1)], res := .bool (.var 0), post := [none, none], new := [] }
def cCompact1 : Ctr := { fn := 50, nv := 2, args := [.slice 0 1 (.lit 0) (.var 1) none], H := [w1 0], pre := [.bi .le (.lit 0) (.var 1), .bi .le (.var 1) (.lit 1), .bi .le (.var 1) (.un .len (.var 0))], outs := [.var 0, .var 1], res := .slice 0 1 (.lit 0) (.var 1) none, post := [some (w1 0)], new := [] }
/-- at most one pair of tables -/
def cShared : Ctr := { fn := 23, nv := 7, args := [movV 0 0, i64 (.var 6)], H := [r5 5], pre := [most 5, .bi .le (.un .len (.fn2 16 (.var 5) (.var 6))) (.lit 1)], outs := [.fn2 16 (.var 5) (.var 6)], res := .slice 1 2 (.lit 0) (.un .len (.var 0)) none, post := [none], new := [w2 0] }
def cFeeds : Ctr := { fn := 24, nv := 8, args := [movV 0 0, i64 (.var 6), i64 (.var 7)], H := [r5 5], pre := [most 5, .bi .le (.un .len (.fn3 13 (.var 5) (.var 6) (.var 7))) (.lit 1)], outs := [.fn3 13 (.var 5) (.var 6) (.var 7), .un .len (.fn3 13 (.var 5) (.var 6) (.var 7))], res := .slice 1 1 (.lit 0) (.var 1) none, post := [none], new := [w1 0] }
def cAw : Ctr := { fn := 12, nv := 0, args := [], H := [], pre := [], outs := [.bl true], res := .bool (.var 0), post := [], new := [] }
/-! ### the laws -/
def cLMakes : Ctr := { cMakes with fn := 3 }
def cLFair : Ctr := { fn := 6, nv := 3, args := [u8 0, u8 1, u8 2], H := [], pre := u8s, outs := [.bl true], res := .bool (.var 0), post := [], new := [] }
def cLMoves : Ctr := { cLFair with fn := 8 }
def cLBegins : Ctr := { fn := 7, nv := 4, args := [u8 0, u8 1, u8 2, u8 3], H := [], pre := u8s ++ le' 0 3 255, outs := [.bl true], res := .bool (.var 0), post := [], new := [] }
def cLWrong : Ctr := { fn := 9, nv := 3, args := [i64 (.var 0), u8 1, u8 2], H := [], pre := le' (-9223372036854775808) 0 9223372036854775807 ++ le' 0 1 255 ++ le' 0 2 255, outs := [.bl true], res := .bool (.var 0), post := [], new := [] }
end Go.Proofs.C27
