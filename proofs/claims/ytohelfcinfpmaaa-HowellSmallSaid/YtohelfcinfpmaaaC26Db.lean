/- Chapter 26: contracts for HowellSmall. -/
import Derived.Test.YtohelfcinfpmaaaC26Da
namespace Go.Proofs.C26
open Go Go.Sx
def cFromP : Ctr := cFrom.win 0 2 2
def cKEq2P : Ctr := cKEq2.win 0 2 0
def cRCheckN : Ctr := { fn := 32, nv := 1, args := [i64 (.var 0), .nils], H := [], pre := [], outs := [.fn2 0 (.var 0) .nil, .fn2 1 (.var 0) .nil], res := .tup [.bool (.var 0), i64 (.var 1)], post := [], new := [] }
def cRFromN : Ctr := { fn := 33, nv := 2, args := [i64 (.var 0), i64 (.var 1), .nils], H := [], pre := [.un .not (.bi .eq (.fn2 1 (.var 0) .nil) (.lit 0))], outs := [.fn3 0 (.var 0) (.var 1) .nil], res := .tup [.agg [i64 (.lit 0), i64 (.lit 0), i64 (.lit 0), i64 (.lit 0), i64 (.lit 0), .nils], i64 (.var 0)], post := [], new := [] }
def cKFromsN : Ctr := { fn := 19, nv := 2, args := [i64 (.var 0), i64 (.var 1), .nils], H := [], pre := [.un .not (.bi .eq (.fn2 1 (.var 0) .nil) (.lit 0))], outs := [.bl true], res := .bool (.var 0), post := [], new := [] }
def cKEq2N : Ctr := { fn := 25, nv := 1, args := [.slice 0 2 (.lit 0) (.un .len (.var 0)) none, .nils], H := [r2 0], pre := [.bi .eq (.un .len (.var 0)) (.lit 0)], outs := [.bl true], res := .bool (.var 0), post := [none], new := [] }
def cKEq2NP : Ctr := cKEq2N.win 0 2 0
end Go.Proofs.C26
