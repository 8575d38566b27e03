/- Chapter 24: what its functions are, in plain Lean; their contracts. -/
import Derived.Test.YtnpadkajapialaaDoorSxVI
namespace Go.Proofs.C24
open Go Go.Sx

def scaleL : List Int := [20, 50, 90, 130, 170, 220, 270, 320, 370, 430, 500, 600, 750, 900, 1100, 1300, 1500, 1750, 2000, 2250, 2500, 3000, 3500, 4000]
def GA : E := rowsOf (scaleL.map fun n => Sx.rowOf [.lit n])
def GH : List O := [.rows true [.int .i64] GA]
/-- what IMP is -/
def impN (d : Int) : Int := (scaleL.map fun s => if s ≤ d then (1 : Int) else if d ≤ 0 - s then -1 else 0).sum

def nums (A : List (List Int)) : List Int := A.map fun r => r.getD 0 0
def ones (l : List Int) : List (List Int) := l.map fun x => [x]
def gF (a b : Int) : Int := (Int.gcd a b : Nat)
def frN (a b : Int) : Int := a.tdiv (gF a b)
def frD (a b : Int) : Int := b.tdiv (gF a b)
def errI (l : List Int) : Int := if 24 < l.length then 5 else if l.all (fun s => decide (-7600 ≤ s ∧ s ≤ 7600)) then 0 else 240
def crossS (l : List Int) (s : Int) : Int := (l.map fun o => impN (s - o)).sum
def crossI (l : List Int) : List (List Int) := if errI l ≠ 0 then [] else l.map fun s => [frN (crossS l s) (if 1 > (l.length : Int) - 1 then 1 else (l.length : Int) - 1), frD (crossS l s) (if 1 > (l.length : Int) - 1 then 1 else (l.length : Int) - 1)]
def plainI (l : List Int) : List (List Int) := if errI l ≠ 0 then [] else l.map fun s => [frN (s * l.length - l.sum) l.length, frD (s * l.length - l.sum) l.length]
def leftI (l : List Int) (d : Int) : List Int := ((l.mergeSort fun x y => decide (x ≤ y)).drop d.toNat).take (l.length - 2 * d.toNat)
def tensI (l : List Int) : Int := (2 * (if -l.sum > l.sum then -l.sum else l.sum) + 10 * l.length).tdiv (20 * l.length)
def meanI (l : List Int) : Int := 10 * (if l.sum < 0 then -tensI l else tensI l)
def datE (l : List Int) (d : Int) : Int := if errI l ≠ 0 then errI l else if d < 0 ∨ ((l.length : Int) + 1).tdiv 2 ≤ d then 2 else 0
def datV (l : List Int) (d : Int) : Int := if datE l d ≠ 0 then 0 else meanI (leftI l d)
def butI (l : List Int) (d : Int) : List Int := if datE l d ≠ 0 then [] else l.map fun s => impN (s - datV l d)
def scoreI (n : Int) : Int := if n.tmod 8 ≠ 0 then (n.tmod 7601).tdiv 10 * 10 else n.tmod 7601
def scoresI (l : List Int) : List Int := (l.take 24).map scoreI
def eqR (w : Nat) (a b : List (List Int)) : Bool := a.length == b.length && (List.range a.length).all fun i => (List.range w).all fun c => (a.getD i []).getD c 0 == (b.getD i []).getD c 0

def I24 : Itp where
  f1 := fun f u => match f with
    | 0 => { i := impN u.i }
    | 1 => { i := errI (nums u.l) }
    | 2 => { l := crossI (nums u.l) }
    | 3 => { l := plainI (nums u.l) }
    | 4 => { l := ones (scoresI (nums u.l)) }
    | _ => {}
  f2 := fun f u v => match f with
    | 0 => { i := frN u.i v.i }
    | 1 => { i := frD u.i v.i }
    | 2 => { i := gF u.i v.i }
    | 3 => { i := datV (nums u.l) v.i }
    | 4 => { i := datE (nums u.l) v.i }
    | 5 => { l := ones (butI (nums u.l) v.i) }
    | 12 => { l := sortPre u.l v.i.toNat }
    | 13 => { b := eqR 1 u.l v.l }
    | 14 => { b := eqR 2 u.l v.l }
    | _ => {}
  f3 := fun _ _ _ _ => {}
  f4 := fun _ _ _ _ _ => {}
def F24 : FnS where
  s1 := fun f => match f with
    | 1 => (.i, .l)
    | 2 => (.l, .l)
    | 3 => (.l, .l)
    | 4 => (.l, .l)
    | _ => (.i, .i)
  s2 := fun f => match f with
    | 3 => (.i, .l, .i)
    | 4 => (.i, .l, .i)
    | 5 => (.l, .l, .i)
    | 12 => (.l, .l, .i)
    | 13 => (.b, .l, .l)
    | 14 => (.b, .l, .l)
    | _ => (.i, .i, .i)
  s3 := fun _ => (.i, .i, .i, .i)
  s4 := fun _ => (.i, .i, .i, .i, .i)
theorem resp24 : I24.Resp F24 where
  r1 := by
    intro f u
    match f with
    | 0 | 1 | 2 | 3 | 4 | _ + 5 => rfl
  r2 := by
    intro f u v
    match f with
    | 0 | 1 | 2 | 3 | 4 | 5 | 6 | 7 | 8 | 9 | 10 | 11 | 12 | 13 | 14 | _ + 15 => rfl
  r3 := by
    intro f u v x
    rfl
  r4 := by
    intro f u v x y
    rfl

def i64 (e : E) : V := .int .i64 e
def le' (a : Int) (v : Nat) (b : Int) : List E := [.bi .le (.lit a) (.var v), .bi .le (.var v) (.lit b)]
def r1 (v : Nat) : O := .rows true [.int .i64] (.var v)
def w1 (v : Nat) : O := .rows false [.int .i64] (.var v)
def r2 (v : Nat) : O := .rows true [.int .i64, .int .i64] (.var v)
def w2 (v : Nat) : O := .rows false [.int .i64, .int .i64] (.var v)
def sl (h w v : Nat) : V := .slice h w (.lit 0) (.un .len (.var v)) none
def many (v : Nat) : E := .bi .le (.un .len (.var v)) (.lit 100000)

def cImp : Ctr := { fn := 19, nv := 1, args := [i64 (.var 0)], H := GH, pre := [], outs := [.fn1 0 (.var 0)], res := i64 (.var 0), post := [none], new := [] }
def cGcd : Ctr := { fn := 54, nv := 2, args := [.int .u64 (.var 0), .int .u64 (.var 1)], H := [.dead], pre := le' 0 0 1000000000000 ++ le' 0 1 1000000000000, outs := [.fn2 2 (.var 0) (.var 1)], res := .int .u64 (.var 0), post := [none], new := [] }
def cFit : Ctr := { fn := 62, nv := 3, args := [.bool (.var 0), .agg [.int .u64 (.var 1), .int .u64 (.lit 0)], .agg [.int .u64 (.var 2), .int .u64 (.lit 0)]], H := [.dead], pre := le' 0 1 1000000000000 ++ le' 1 2 1000000000000, outs := [.te .ite (.var 0) (.bi .sub (.lit 0) (.var 1)) (.var 1), .var 2], res := .tup [.agg [i64 (.var 0), i64 (.var 1)], i64 (.lit 0)], post := [none], new := [] }
def cFMake : Ctr := { fn := 51, nv := 2, args := [i64 (.var 0), i64 (.var 1)], H := [.dead], pre := le' (-1000000000) 0 1000000000 ++ le' 1 1 1000000, outs := [.fn2 0 (.var 0) (.var 1), .fn2 1 (.var 0) (.var 1)], res := .tup [.agg [i64 (.var 0), i64 (.var 1)], i64 (.lit 0)], post := [none], new := [] }
def cRight : Ctr := { fn := 28, nv := 1, args := [sl 1 1 0], H := [.dead, r1 0], pre := [many 0], outs := [.fn1 1 (.var 0)], res := i64 (.var 0), post := [none, none], new := [] }
def cCross : Ctr := { fn := 13, nv := 1, args := [sl 1 1 0], H := GH ++ [r1 0], pre := [many 0], outs := [.fn1 2 (.var 0), .fn1 1 (.var 0)], res := .tup [sl 2 2 0, i64 (.var 1)], post := [none, none], new := [w2 0] }
def cPlain : Ctr := { fn := 14, nv := 1, args := [sl 1 1 0], H := [.dead, r1 0], pre := [many 0], outs := [.fn1 3 (.var 0), .fn1 1 (.var 0)], res := .tup [sl 2 2 0, i64 (.var 1)], post := [none, none], new := [w2 0] }
def cSort1 : Ctr := cSortD 64 12
def cDatum : Ctr := { fn := 16, nv := 2, args := [sl 1 1 0, i64 (.var 1)], H := GH ++ [r1 0], pre := [many 0], outs := [.fn2 3 (.var 0) (.var 1), .fn2 4 (.var 0) (.var 1)], res := .tup [i64 (.var 0), i64 (.var 1)], post := [none, none], new := [] }
def cButler : Ctr := { fn := 15, nv := 2, args := [sl 1 1 0, i64 (.var 1)], H := GH ++ [r1 0], pre := [many 0], outs := [.fn2 5 (.var 0) (.var 1), .fn2 4 (.var 0) (.var 1)], res := .tup [sl 2 1 0, i64 (.var 1)], post := [none, none], new := [w1 0] }
/-- of a part of a list -/
def cDatumP : Ctr := cDatum.win 1 1 0
def cEqI : Ctr := { fn := 26, nv := 2, args := [sl 1 1 0, sl 2 1 1], H := [.dead, r1 0, r1 1], pre := [many 0], outs := [.fn2 13 (.var 0) (.var 1)], res := .bool (.var 0), post := [none, none, none], new := [] }
def cEqF : Ctr := { fn := 23, nv := 2, args := [sl 1 2 0, sl 2 2 1], H := [.dead, r2 0, r2 1], pre := [many 0], outs := [.fn2 14 (.var 0) (.var 1)], res := .bool (.var 0), post := [none, none, none], new := [] }
def ro16 (v : Nat) : O := .rows true [.int .i16] (.var v)
def el16 (v : Nat) : E := .te .elems (.var v) (.lit (-32768)) (.lit 32767)
def cScores : Ctr := { fn := 12, nv := 1, args := [sl 1 1 0], H := [.dead, ro16 0], pre := [el16 0], outs := [.fn1 4 (.var 0)], res := sl 2 1 0, post := [none, none], new := [w1 0] }
def cAw : Ctr := { fn := 11, nv := 0, args := [], H := GH, pre := [], outs := [.bl true], res := .bool (.var 0), post := [none], new := [] }
/-! ### the laws -/
def u8 (v : Nat) : V := .int .u8 (.var v)
def cLDatum : Ctr := { fn := 6, nv := 2, args := [sl 1 1 0, u8 1], H := GH ++ [ro16 0], pre := [el16 0] ++ le' 0 1 255, outs := [.bl true], res := .bool (.var 0), post := [none, none], new := [] }
def cLTurned : Ctr := { cLDatum with fn := 5 }
def cLWrong : Ctr := { fn := 7, nv := 4, args := [sl 1 1 0, u8 1, i64 (.var 2), .bool (.var 3)], H := GH ++ [ro16 0], pre := [el16 0] ++ le' 0 1 255 ++ le' (-9223372036854775808) 2 9223372036854775807, outs := [.bl true], res := .bool (.var 0), post := [none, none], new := [] }
def lenBad : E := .bi .add (.bi .min (.un .len (.fn1 4 (.var 0))) (.lit 23)) (.lit 1)
def lenMany : E := .bi .add (.bi .min (.un .len (.fn1 4 (.var 0))) (.lit 23)) (.lit 25)
def hWrong : List (List E) := [[], [], [.bi .eq (.un .len (.var 2)) lenBad, .bi .eq (.un .len (.var 3)) lenMany]]
end Go.Proofs.C24
