/- Chapter 19: what its functions are, in plain Lean; their contracts. -/
import Derived.Test.YtmncmboeddlcmaaDoorSxV
namespace Go.Proofs.C19
open Go Go.Sx

def scaleL : List Int := [20, 50, 90, 130, 170, 220, 270, 320, 370, 430, 500, 600, 750, 900, 1100, 1300, 1500, 1750, 2000, 2250, 2500, 3000, 3500, 4000]
def GA : E := rowsOf (scaleL.map fun n => rowOf [.lit n])
def GH : List O := [.rows true [.int .i64] GA]

/-- what IMP is -/
def impN (d : Int) : Int := (scaleL.map fun s => if s ≤ d then (1 : Int) else if d ≤ 0 - s then -1 else 0).sum
def ok1 (r : List Int) : Bool := decide (-7600 ≤ r.getD 0 0 ∧ r.getD 0 0 ≤ 7600 ∧ -7600 ≤ r.getD 1 0 ∧ r.getD 1 0 ≤ 7600)
def errB (B : List (List Int)) : Int := if 128 < B.length then 5 else if B.all ok1 then 0 else 190
def swB (r : List Int) : Int := impN (r.getD 0 0 - r.getD 1 0)
def winA (B : List (List Int)) : Int := if errB B = 0 then (B.map fun r => if swB r > 0 then swB r else 0).sum else 0
def winB (B : List (List Int)) : Int := if errB B = 0 then (B.map fun r => if swB r > 0 then 0 else -swB r).sum else 0
def sumF (f : List Int → Int) (B : List (List Int)) (k : Nat) : Int := ((B.take k).map f).sum
def runP (B : List (List Int)) (k : Nat) : List (List Int) := (List.range k).map fun j => [sumF swB B (j + 1)]
def runB (B : List (List Int)) : List (List Int) := if errB B = 0 then runP B B.length else []
def zipB (o c : List (List Int)) : List (List Int) := List.zipWith (fun o c => [o.getD 0 0, c.getD 0 0]) o c

def swE (o c : Int) : Int := if -7600 ≤ o ∧ o ≤ 7600 ∧ -7600 ≤ c ∧ c ≤ 7600 then 0 else 190
def swV (o c : Int) : Int := if -7600 ≤ o ∧ o ≤ 7600 ∧ -7600 ≤ c ∧ c ≤ 7600 then impN (o - c) else 0

def madeR (r : List Int) : List Int := [(r.getD 0 0).tmod 1521 * 10 + -7600, ((r.getD 0 0).tdiv 1521).tmod 1521 * 10 + -7600]
def madeB (l : List (List Int)) : List (List Int) := (l.take 128).map madeR

def I19 : Itp where
  f1 := fun f u => match f with
    | 0 => { i := impN u.i }
    | 1 => { i := errB u.l }
    | 2 => { i := winA u.l }
    | 3 => { i := winB u.l }
    | 4 => { l := runB u.l }
    | _ => { l := madeB u.l }
  f2 := fun f u v => match f with
    | 0 => { l := zipB u.l v.l }
    | 1 => { i := swV u.i v.i }
    | _ => { i := swE u.i v.i }
  f3 := fun _ u _ _ => u
  f4 := fun _ u _ _ _ => u

def cImp : Ctr := { fn := 15, nv := 1, args := [.int .i64 (.var 0)], H := GH, pre := [], outs := [.fn1 0 (.var 0)], res := .int .i64 (.var 0), post := [none], new := [] }
def cScale : Ctr := { fn := 22, nv := 0, args := [], H := [.dead], pre := [], outs := [], res := .slice 1 1 (.lit 0) (.lit 24) none, post := [none], new := [.cells false (scaleL.map fun n => .int .i64 (.lit n))] }
def cRefP : Ctr := { fn := 16, nv := 1, args := [.int .i64 (.var 0)], H := [.dead], pre := [.bi .le (.lit 0) (.var 0)], outs := [.fn1 0 (.var 0)], res := .int .i64 (.var 0), post := [none], new := [] }
def cRef : Ctr := { fn := 16, nv := 1, args := [.int .i64 (.var 0)], H := [.dead], pre := [], outs := [.fn1 0 (.var 0)], res := .int .i64 (.var 0), post := [none], new := [] }

def cSw : Ctr := { fn := 13, nv := 2, args := [.agg [.int .i64 (.var 0), .int .i64 (.var 1)]], H := GH, pre := [], outs := [.fn2 1 (.var 0) (.var 1), .fn2 2 (.var 0) (.var 1)], res := .tup [.int .i64 (.var 0), .int .i64 (.var 1)], post := [none], new := [] }
def cRSw : Ctr := { fn := 14, nv := 2, args := [.int .i64 (.var 0), .int .i64 (.var 1)], H := [.dead], pre := [], outs := [.fn2 1 (.var 0) (.var 1), .fn2 2 (.var 0) (.var 1)], res := .tup [.int .i64 (.var 0), .int .i64 (.var 1)], post := [none], new := [] }
def bd : O := .rows true [.int .i64, .int .i64] (.var 0)
def bv : E := .bi .take (.var 0) (.var 1)
def bpre : List E := [.bi .le (.lit 0) (.var 1), .bi .le (.var 1) (.un .len (.var 0))]
def cMatch : Ctr := { fn := 20, nv := 2, args := [.slice 1 2 (.lit 0) (.var 1) none], H := GH ++ [bd], pre := bpre, outs := [.fn1 2 bv, .fn1 3 bv, .fn1 1 bv], res := .tup [.int .i64 (.var 0), .int .i64 (.var 1), .int .i64 (.var 2)], post := [none, none], new := [] }
def cRun : Ctr := { fn := 21, nv := 2, args := [.slice 1 2 (.lit 0) (.var 1) none], H := GH ++ [bd], pre := bpre, outs := [.fn1 4 bv, .fn1 1 bv], res := .tup [.slice 2 1 (.lit 0) (.un .len (.var 0)) none, .int .i64 (.var 1)], post := [none, none], new := [.rows false [.int .i64] (.var 0)] }
def zz : E := .fn2 0 (.var 0) (.var 1)
def oc : List O := [.dead, .rows true [.int .i64] (.var 0), .rows true [.int .i64] (.var 1)]
def ocA : List V := [.slice 1 1 (.lit 0) (.un .len (.var 0)) none, .slice 2 1 (.lit 0) (.un .len (.var 1)) none]
def cRRun : Ctr := { fn := 25, nv := 2, args := ocA, H := oc, pre := [.bi .eq (.un .len (.var 0)) (.un .len (.var 1))], outs := [.fn1 4 zz, .fn1 1 zz], res := .tup [.slice 3 1 (.lit 0) (.un .len (.var 0)) none, .int .i64 (.var 1)], post := [none, none, none], new := [.rows false [.int .i64] (.var 0)] }
def cRMatch : Ctr := { fn := 24, nv := 2, args := ocA, H := oc, pre := [.bi .eq (.un .len (.var 0)) (.un .len (.var 1))], outs := [.fn1 2 zz, .fn1 3 zz, .fn1 1 zz], res := .tup [.int .i64 (.var 0), .int .i64 (.var 1), .int .i64 (.var 2)], post := [none, none, none], new := [] }
def cAw : Ctr := { fn := 17, nv := 0, args := [], H := GH, pre := [], outs := [.bl true], res := .bool (.var 0), post := [none], new := [] }
def cMt : Ctr := { fn := 18, nv := 1, args := [.slice 1 2 (.lit 0) (.un .len (.var 0)) none], H := GH ++ [bd], pre := [.bi .le (.un .len (.var 0)) (.lit 200)], outs := [.bl true], res := .bool (.var 0), post := [none, none], new := [] }
def cMd : Ctr := { fn := 19, nv := 2, args := [.slice 1 1 (.lit 0) (.var 1) none], H := [.dead, .rows true [.int .u32] (.var 0)], pre := [.te .elems (.var 0) (.lit 0) (.lit 4294967295), .bi .le (.lit 0) (.var 1), .bi .le (.var 1) (.un .len (.var 0))], outs := [.fn1 5 bv], res := .slice 2 2 (.lit 0) (.un .len (.var 0)) none, post := [none, none], new := [.rows false [.int .i64, .int .i64] (.var 0)] }

/-! ### the laws -/
def int64 (v : Nat) : List E := [.bi .le (.lit (-9223372036854775808)) (.var v), .bi .le (.var v) (.lit 9223372036854775807)]
def u32 (v : Nat) : List E := [.bi .le (.lit 0) (.var v), .bi .le (.var v) (.lit 4294967295)]
def u8 (v : Nat) : List E := [.bi .le (.lit 0) (.var v), .bi .le (.var v) (.lit 255)]
def yes : V := .bool (.bl true)
def cTells : Ctr := { fn := 3, nv := 4, args := [.int .i64 (.var 0), .int .i64 (.var 1), .int .i64 (.var 2), .int .i64 (.var 3)], H := GH, pre := [], outs := [], res := yes, post := [none], new := [] }
def cMatches : Ctr := { fn := 4, nv := 1, args := [.slice 1 2 (.lit 0) (.un .len (.var 0)) none], H := GH ++ [bd], pre := [], outs := [], res := yes, post := [none, none], new := [] }
def cSmall : Ctr := { fn := 5, nv := 0, args := [], H := GH, pre := [], outs := [], res := yes, post := [none], new := [] }
def cTwo : Ctr := { fn := 6, nv := 2, args := [.int .u32 (.var 0), .int .u32 (.var 1)], H := GH, pre := u32 0 ++ u32 1, outs := [], res := yes, post := [none], new := [] }
def cLeast : Ctr := { fn := 7, nv := 2, args := [.int .u8 (.var 0), .int .u32 (.var 1)], H := GH, pre := u8 0 ++ u32 1, outs := [], res := yes, post := [none], new := [] }
def sl1 (h v : Nat) : V := .slice h 1 (.lit 0) (.un .len (.var v)) none
def ro32 (v : Nat) : O := .rows true [.int .u32] (.var v)
def el32 (v : Nat) : E := .te .elems (.var v) (.lit 0) (.lit 4294967295)
def cTeams : Ctr := { fn := 8, nv := 1, args := [sl1 1 0], H := GH ++ [ro32 0], pre := [el32 0], outs := [], res := yes, post := [none, none], new := [] }
def cParts : Ctr := { fn := 9, nv := 2, args := [sl1 1 0, sl1 2 1], H := GH ++ [ro32 0, ro32 1], pre := [el32 0, el32 1], outs := [], res := yes, post := [none, none, none], new := [] }
def cWrong : Ctr := { fn := 10, nv := 4, args := [sl1 1 0, .int .u8 (.var 1), .int .i64 (.var 2), .bool (.var 3)], H := GH ++ [ro32 0], pre := [el32 0] ++ u8 1 ++ int64 2, outs := [], res := yes, post := [none, none], new := [] }
end Go.Proofs.C19
