/- Chapter 26: more contracts: lists compared, the laws. -/
import Derived.Test.YtohelfcinfpmaaaC26Defs
import Derived.Test.YtohelfcinfpmaaaSxVI
namespace Go.Proofs.C26
open Go Go.Sx
def most (v : Nat) : E := .bi .le (.un .len (.var v)) (.lit 5000)
/-- the two lists are the same: then this is said -/
def cKEq2 : Ctr := { cEq2 with pre := [few 0, .fn2 4 (.var 0) (.var 1)], outs := [.bl true] }
def cKRows : Ctr := { cRows with pre := [most 0] }
def cKSame : Ctr := { cSame with pre := [most 5, .bi .eq (.var 0) (.var 6), .bi .eq (.var 1) (.var 7), .bi .eq (.var 2) (.var 8), .bi .eq (.var 3) (.var 9), .bi .eq (.var 4) (.var 10), .fn2 10 (.var 5) (.var 11)], outs := [.bl true] }
def cKTells : Ctr := { fn := 9, nv := 3, args := [i64 (.var 0), i64 (.var 1), i64 (.var 2)], H := [], pre := [], outs := [.bl true], res := .bool (.var 0), post := [], new := [] }
def cLTells : Ctr := { fn := 3, nv := 3, args := [i64 (.var 0), i64 (.var 1), i64 (.var 2)], H := [], pre := [], outs := [], res := yes, post := [], new := [] }
def u8 (v : Nat) : V := .int .u8 (.var v)
def cLMeets : Ctr := { fn := 4, nv := 2, args := [u8 0, u8 1], H := [], pre := le' 0 0 255 ++ le' 0 1 255, outs := [.bl true], res := .bool (.var 0), post := [], new := [] }
def cLStrong : Ctr := { cLMeets with fn := 5 }
def cLRoot : Ctr := { cLMeets with fn := 6 }
def cLSmall : Ctr := { fn := 7, nv := 0, args := [], H := [], pre := [], outs := [.bl true], res := .bool (.var 0), post := [], new := [] }
def cLWrong : Ctr := { fn := 8, nv := 3, args := [i64 (.var 0), u8 1, u8 2], H := [], pre := le' (-9223372036854775808) 0 9223372036854775807 ++ le' 0 1 255 ++ le' 0 2 255, outs := [.bl true], res := .bool (.var 0), post := [], new := [] }
/-- the same as nothing -/
def cKRowsN : Ctr := { fn := 27, nv := 1, args := [.slice 0 5 (.lit 0) (.un .len (.var 0)) none, .nils], H := [r5 0], pre := [.bi .eq (.un .len (.var 0)) (.lit 0)], outs := [.bl true], res := .bool (.var 0), post := [none], new := [] }
def cKSameN : Ctr := { fn := 14, nv := 11, args := [movV 0 0, .agg [i64 (.var 6), i64 (.var 7), i64 (.var 8), i64 (.var 9), i64 (.var 10), .nils]], H := [r5 5], pre := [.bi .eq (.un .len (.var 5)) (.lit 0), .bi .eq (.var 0) (.var 6), .bi .eq (.var 1) (.var 7), .bi .eq (.var 2) (.var 8), .bi .eq (.var 3) (.var 9), .bi .eq (.var 4) (.var 10)], outs := [.bl true], res := .bool (.var 0), post := [none], new := [] }
def cKFroms : Ctr := { fn := 19, nv := 3, args := [i64 (.var 0), i64 (.var 1), l2 2], H := [r2 2], pre := [few 2], outs := [.bl true], res := .bool (.var 0), post := [none], new := [] }
def cKAw : Ctr := { cAw with outs := [.bl true], res := .bool (.var 0) }
def cKSameP : Ctr := cKSame.win 0 5 5
def cCheckP : Ctr := cCheck.win 0 2 1
def cKFromsP : Ctr := cKFroms.win 0 2 2
end Go.Proofs.C26
