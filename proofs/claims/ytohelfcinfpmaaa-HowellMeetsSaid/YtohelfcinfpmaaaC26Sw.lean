/- Chapter 26: summaries, as the kernel reckons them. -/
import Derived.Test.YtohelfcinfpmaaaC26S
import Derived.Test.YtohelfcinfpmaaaC26Da
namespace Go.Proofs.Ytohelfcinfpmaaa
open Go Go.Sx Go.Proofs.C26

noncomputable def tmsKAw : List Tm := [entryTm Try.prog cKAw,
  ⟨⟨⟨10, tl 216 [(23, (.ptr 0 (.lit 0) (.lit 0)))], [.at [0, 0, 1, 0, 1], .lp [0, 1, 0, 1], .blk 0, .at [1, 1]], [], none⟩, [], [(.iter (some 1) 4 [] 4), (.amap [(.int .i64)] [(.int .i64)] false false (.bi .row (.bi .cons (.lit 4) (.bi .cons (.lit 7) .nil)) (.bi .row (.bi .cons (.lit 5) (.bi .cons (.lit 0) .nil)) (.bi .row (.bi .cons (.lit 9) (.bi .cons (.lit 0) .nil)) (.bi .row (.bi .cons (.lit 7) (.bi .cons (.lit 13) .nil)) .nil)))))]⟩, 0, []⟩,
  ⟨⟨⟨10, tl 216 [(23, (.ptr 0 (.lit 0) (.lit 0)))], [.at [0, 0, 1, 0, 1], .lp [0, 1, 0, 1], .blk 0, .at [1, 1]], [], none⟩, [], [(.iter (some 1) 4 [0] 4), (.amap [(.int .i64)] [(.int .i64)] false false (.bi .row (.bi .cons (.lit 4) (.bi .cons (.lit 7) .nil)) (.bi .row (.bi .cons (.lit 5) (.bi .cons (.lit 0) .nil)) (.bi .row (.bi .cons (.lit 9) (.bi .cons (.lit 0) .nil)) (.bi .row (.bi .cons (.lit 7) (.bi .cons (.lit 13) .nil)) .nil)))))]⟩, 0, []⟩,
  ⟨⟨⟨10, tl 216 [(23, (.ptr 0 (.lit 0) (.lit 0)))], [.at [0, 0, 1, 0, 1], .lp [0, 1, 0, 1], .blk 0, .at [1, 1]], [], none⟩, [], [(.iter (some 1) 4 [1] 4), (.amap [(.int .i64)] [(.int .i64)] false false (.bi .row (.bi .cons (.lit 4) (.bi .cons (.lit 7) .nil)) (.bi .row (.bi .cons (.lit 5) (.bi .cons (.lit 0) .nil)) (.bi .row (.bi .cons (.lit 9) (.bi .cons (.lit 0) .nil)) (.bi .row (.bi .cons (.lit 7) (.bi .cons (.lit 13) .nil)) .nil)))))]⟩, 0, []⟩,
  ⟨⟨⟨10, tl 216 [(23, (.ptr 0 (.lit 0) (.lit 0)))], [.at [0, 0, 1, 0, 1], .lp [0, 1, 0, 1], .blk 0, .at [1, 1]], [], none⟩, [], [(.iter (some 1) 4 [2] 4), (.amap [(.int .i64)] [(.int .i64)] false false (.bi .row (.bi .cons (.lit 4) (.bi .cons (.lit 7) .nil)) (.bi .row (.bi .cons (.lit 5) (.bi .cons (.lit 0) .nil)) (.bi .row (.bi .cons (.lit 9) (.bi .cons (.lit 0) .nil)) (.bi .row (.bi .cons (.lit 7) (.bi .cons (.lit 13) .nil)) .nil)))))]⟩, 0, []⟩,
  ⟨⟨⟨10, tl 216 [(23, (.ptr 0 (.lit 0) (.lit 0)))], [.at [0, 0, 1, 0, 1], .lp [0, 1, 0, 1], .blk 0, .at [1, 1]], [], none⟩, [], [(.iter (some 1) 4 [3] 4), (.amap [(.int .i64)] [(.int .i64)] false false (.bi .row (.bi .cons (.lit 4) (.bi .cons (.lit 7) .nil)) (.bi .row (.bi .cons (.lit 5) (.bi .cons (.lit 0) .nil)) (.bi .row (.bi .cons (.lit 9) (.bi .cons (.lit 0) .nil)) (.bi .row (.bi .cons (.lit 7) (.bi .cons (.lit 13) .nil)) .nil)))))]⟩, 0, []⟩,
  ⟨⟨⟨10, tl 216 [(23, (.ptr 0 (.lit 0) (.lit 0)))], [.at [0, 0, 1, 0, 1], .lp [0, 1, 0, 1], .blk 0, .at [1, 1]], [], none⟩, [], [(.iter (some 1) 4 [0, 1] 4), (.amap [(.int .i64)] [(.int .i64)] false false (.bi .row (.bi .cons (.lit 4) (.bi .cons (.lit 7) .nil)) (.bi .row (.bi .cons (.lit 5) (.bi .cons (.lit 0) .nil)) (.bi .row (.bi .cons (.lit 9) (.bi .cons (.lit 0) .nil)) (.bi .row (.bi .cons (.lit 7) (.bi .cons (.lit 13) .nil)) .nil)))))]⟩, 0, []⟩,
  ⟨⟨⟨10, tl 216 [(23, (.ptr 0 (.lit 0) (.lit 0)))], [.at [0, 0, 1, 0, 1], .lp [0, 1, 0, 1], .blk 0, .at [1, 1]], [], none⟩, [], [(.iter (some 1) 4 [0, 2] 4), (.amap [(.int .i64)] [(.int .i64)] false false (.bi .row (.bi .cons (.lit 4) (.bi .cons (.lit 7) .nil)) (.bi .row (.bi .cons (.lit 5) (.bi .cons (.lit 0) .nil)) (.bi .row (.bi .cons (.lit 9) (.bi .cons (.lit 0) .nil)) (.bi .row (.bi .cons (.lit 7) (.bi .cons (.lit 13) .nil)) .nil)))))]⟩, 0, []⟩,
  ⟨⟨⟨10, tl 216 [(23, (.ptr 0 (.lit 0) (.lit 0)))], [.at [0, 0, 1, 0, 1], .lp [0, 1, 0, 1], .blk 0, .at [1, 1]], [], none⟩, [], [(.iter (some 1) 4 [0, 3] 4), (.amap [(.int .i64)] [(.int .i64)] false false (.bi .row (.bi .cons (.lit 4) (.bi .cons (.lit 7) .nil)) (.bi .row (.bi .cons (.lit 5) (.bi .cons (.lit 0) .nil)) (.bi .row (.bi .cons (.lit 9) (.bi .cons (.lit 0) .nil)) (.bi .row (.bi .cons (.lit 7) (.bi .cons (.lit 13) .nil)) .nil)))))]⟩, 0, []⟩,
  ⟨⟨⟨10, tl 216 [(23, (.ptr 0 (.lit 0) (.lit 0)))], [.at [0, 0, 1, 0, 1], .lp [0, 1, 0, 1], .blk 0, .at [1, 1]], [], none⟩, [], [(.iter (some 1) 4 [1, 0] 4), (.amap [(.int .i64)] [(.int .i64)] false false (.bi .row (.bi .cons (.lit 4) (.bi .cons (.lit 7) .nil)) (.bi .row (.bi .cons (.lit 5) (.bi .cons (.lit 0) .nil)) (.bi .row (.bi .cons (.lit 9) (.bi .cons (.lit 0) .nil)) (.bi .row (.bi .cons (.lit 7) (.bi .cons (.lit 13) .nil)) .nil)))))]⟩, 0, []⟩,
  ⟨⟨⟨10, tl 216 [(23, (.ptr 0 (.lit 0) (.lit 0)))], [.at [0, 0, 1, 0, 1], .lp [0, 1, 0, 1], .blk 0, .at [1, 1]], [], none⟩, [], [(.iter (some 1) 4 [1, 2] 4), (.amap [(.int .i64)] [(.int .i64)] false false (.bi .row (.bi .cons (.lit 4) (.bi .cons (.lit 7) .nil)) (.bi .row (.bi .cons (.lit 5) (.bi .cons (.lit 0) .nil)) (.bi .row (.bi .cons (.lit 9) (.bi .cons (.lit 0) .nil)) (.bi .row (.bi .cons (.lit 7) (.bi .cons (.lit 13) .nil)) .nil)))))]⟩, 0, []⟩,
  ⟨⟨⟨10, tl 216 [(23, (.ptr 0 (.lit 0) (.lit 0)))], [.at [0, 0, 1, 0, 1], .lp [0, 1, 0, 1], .blk 0, .at [1, 1]], [], none⟩, [], [(.iter (some 1) 4 [1, 3] 4), (.amap [(.int .i64)] [(.int .i64)] false false (.bi .row (.bi .cons (.lit 4) (.bi .cons (.lit 7) .nil)) (.bi .row (.bi .cons (.lit 5) (.bi .cons (.lit 0) .nil)) (.bi .row (.bi .cons (.lit 9) (.bi .cons (.lit 0) .nil)) (.bi .row (.bi .cons (.lit 7) (.bi .cons (.lit 13) .nil)) .nil)))))]⟩, 0, []⟩,
  ⟨⟨⟨10, tl 216 [(23, (.ptr 0 (.lit 0) (.lit 0)))], [.at [0, 0, 1, 0, 1], .lp [0, 1, 0, 1], .blk 0, .at [1, 1]], [], none⟩, [], [(.iter (some 1) 4 [2, 0] 4), (.amap [(.int .i64)] [(.int .i64)] false false (.bi .row (.bi .cons (.lit 4) (.bi .cons (.lit 7) .nil)) (.bi .row (.bi .cons (.lit 5) (.bi .cons (.lit 0) .nil)) (.bi .row (.bi .cons (.lit 9) (.bi .cons (.lit 0) .nil)) (.bi .row (.bi .cons (.lit 7) (.bi .cons (.lit 13) .nil)) .nil)))))]⟩, 0, []⟩,
  ⟨⟨⟨10, tl 216 [(23, (.ptr 0 (.lit 0) (.lit 0)))], [.at [0, 0, 1, 0, 1], .lp [0, 1, 0, 1], .blk 0, .at [1, 1]], [], none⟩, [], [(.iter (some 1) 4 [2, 1] 4), (.amap [(.int .i64)] [(.int .i64)] false false (.bi .row (.bi .cons (.lit 4) (.bi .cons (.lit 7) .nil)) (.bi .row (.bi .cons (.lit 5) (.bi .cons (.lit 0) .nil)) (.bi .row (.bi .cons (.lit 9) (.bi .cons (.lit 0) .nil)) (.bi .row (.bi .cons (.lit 7) (.bi .cons (.lit 13) .nil)) .nil)))))]⟩, 0, []⟩,
  ⟨⟨⟨10, tl 216 [(23, (.ptr 0 (.lit 0) (.lit 0)))], [.at [0, 0, 1, 0, 1], .lp [0, 1, 0, 1], .blk 0, .at [1, 1]], [], none⟩, [], [(.iter (some 1) 4 [2, 3] 4), (.amap [(.int .i64)] [(.int .i64)] false false (.bi .row (.bi .cons (.lit 4) (.bi .cons (.lit 7) .nil)) (.bi .row (.bi .cons (.lit 5) (.bi .cons (.lit 0) .nil)) (.bi .row (.bi .cons (.lit 9) (.bi .cons (.lit 0) .nil)) (.bi .row (.bi .cons (.lit 7) (.bi .cons (.lit 13) .nil)) .nil)))))]⟩, 0, []⟩,
  ⟨⟨⟨10, tl 216 [(23, (.ptr 0 (.lit 0) (.lit 0)))], [.at [0, 0, 1, 0, 1], .lp [0, 1, 0, 1], .blk 0, .at [1, 1]], [], none⟩, [], [(.iter (some 1) 4 [3, 0] 4), (.amap [(.int .i64)] [(.int .i64)] false false (.bi .row (.bi .cons (.lit 4) (.bi .cons (.lit 7) .nil)) (.bi .row (.bi .cons (.lit 5) (.bi .cons (.lit 0) .nil)) (.bi .row (.bi .cons (.lit 9) (.bi .cons (.lit 0) .nil)) (.bi .row (.bi .cons (.lit 7) (.bi .cons (.lit 13) .nil)) .nil)))))]⟩, 0, []⟩,
  ⟨⟨⟨10, tl 216 [(23, (.ptr 0 (.lit 0) (.lit 0)))], [.at [0, 0, 1, 0, 1], .lp [0, 1, 0, 1], .blk 0, .at [1, 1]], [], none⟩, [], [(.iter (some 1) 4 [3, 1] 4), (.amap [(.int .i64)] [(.int .i64)] false false (.bi .row (.bi .cons (.lit 4) (.bi .cons (.lit 7) .nil)) (.bi .row (.bi .cons (.lit 5) (.bi .cons (.lit 0) .nil)) (.bi .row (.bi .cons (.lit 9) (.bi .cons (.lit 0) .nil)) (.bi .row (.bi .cons (.lit 7) (.bi .cons (.lit 13) .nil)) .nil)))))]⟩, 0, []⟩,
  ⟨⟨⟨10, tl 216 [(23, (.ptr 0 (.lit 0) (.lit 0)))], [.at [0, 0, 1, 0, 1], .lp [0, 1, 0, 1], .blk 0, .at [1, 1]], [], none⟩, [], [(.iter (some 1) 4 [3, 2] 4), (.amap [(.int .i64)] [(.int .i64)] false false (.bi .row (.bi .cons (.lit 4) (.bi .cons (.lit 7) .nil)) (.bi .row (.bi .cons (.lit 5) (.bi .cons (.lit 0) .nil)) (.bi .row (.bi .cons (.lit 9) (.bi .cons (.lit 0) .nil)) (.bi .row (.bi .cons (.lit 7) (.bi .cons (.lit 13) .nil)) .nil)))))]⟩, 0, []⟩,
  ⟨⟨⟨10, tl 216 [(23, (.ptr 0 (.lit 0) (.lit 0)))], [.at [0, 0, 1, 0, 1], .lp [0, 1, 0, 1], .blk 0, .at [1, 1]], [], none⟩, [], [(.iter (some 1) 4 [0, 1, 2] 4), (.amap [(.int .i64)] [(.int .i64)] false false (.bi .row (.bi .cons (.lit 4) (.bi .cons (.lit 7) .nil)) (.bi .row (.bi .cons (.lit 5) (.bi .cons (.lit 0) .nil)) (.bi .row (.bi .cons (.lit 9) (.bi .cons (.lit 0) .nil)) (.bi .row (.bi .cons (.lit 7) (.bi .cons (.lit 13) .nil)) .nil)))))]⟩, 0, []⟩,
  ⟨⟨⟨10, tl 216 [(23, (.ptr 0 (.lit 0) (.lit 0)))], [.at [0, 0, 1, 0, 1], .lp [0, 1, 0, 1], .blk 0, .at [1, 1]], [], none⟩, [], [(.iter (some 1) 4 [0, 1, 3] 4), (.amap [(.int .i64)] [(.int .i64)] false false (.bi .row (.bi .cons (.lit 4) (.bi .cons (.lit 7) .nil)) (.bi .row (.bi .cons (.lit 5) (.bi .cons (.lit 0) .nil)) (.bi .row (.bi .cons (.lit 9) (.bi .cons (.lit 0) .nil)) (.bi .row (.bi .cons (.lit 7) (.bi .cons (.lit 13) .nil)) .nil)))))]⟩, 0, []⟩,
  ⟨⟨⟨10, tl 216 [(23, (.ptr 0 (.lit 0) (.lit 0)))], [.at [0, 0, 1, 0, 1], .lp [0, 1, 0, 1], .blk 0, .at [1, 1]], [], none⟩, [], [(.iter (some 1) 4 [0, 2, 1] 4), (.amap [(.int .i64)] [(.int .i64)] false false (.bi .row (.bi .cons (.lit 4) (.bi .cons (.lit 7) .nil)) (.bi .row (.bi .cons (.lit 5) (.bi .cons (.lit 0) .nil)) (.bi .row (.bi .cons (.lit 9) (.bi .cons (.lit 0) .nil)) (.bi .row (.bi .cons (.lit 7) (.bi .cons (.lit 13) .nil)) .nil)))))]⟩, 0, []⟩,
  ⟨⟨⟨10, tl 216 [(23, (.ptr 0 (.lit 0) (.lit 0)))], [.at [0, 0, 1, 0, 1], .lp [0, 1, 0, 1], .blk 0, .at [1, 1]], [], none⟩, [], [(.iter (some 1) 4 [0, 2, 3] 4), (.amap [(.int .i64)] [(.int .i64)] false false (.bi .row (.bi .cons (.lit 4) (.bi .cons (.lit 7) .nil)) (.bi .row (.bi .cons (.lit 5) (.bi .cons (.lit 0) .nil)) (.bi .row (.bi .cons (.lit 9) (.bi .cons (.lit 0) .nil)) (.bi .row (.bi .cons (.lit 7) (.bi .cons (.lit 13) .nil)) .nil)))))]⟩, 0, []⟩,
  ⟨⟨⟨10, tl 216 [(23, (.ptr 0 (.lit 0) (.lit 0)))], [.at [0, 0, 1, 0, 1], .lp [0, 1, 0, 1], .blk 0, .at [1, 1]], [], none⟩, [], [(.iter (some 1) 4 [0, 3, 1] 4), (.amap [(.int .i64)] [(.int .i64)] false false (.bi .row (.bi .cons (.lit 4) (.bi .cons (.lit 7) .nil)) (.bi .row (.bi .cons (.lit 5) (.bi .cons (.lit 0) .nil)) (.bi .row (.bi .cons (.lit 9) (.bi .cons (.lit 0) .nil)) (.bi .row (.bi .cons (.lit 7) (.bi .cons (.lit 13) .nil)) .nil)))))]⟩, 0, []⟩,
  ⟨⟨⟨10, tl 216 [(23, (.ptr 0 (.lit 0) (.lit 0)))], [.at [0, 0, 1, 0, 1], .lp [0, 1, 0, 1], .blk 0, .at [1, 1]], [], none⟩, [], [(.iter (some 1) 4 [0, 3, 2] 4), (.amap [(.int .i64)] [(.int .i64)] false false (.bi .row (.bi .cons (.lit 4) (.bi .cons (.lit 7) .nil)) (.bi .row (.bi .cons (.lit 5) (.bi .cons (.lit 0) .nil)) (.bi .row (.bi .cons (.lit 9) (.bi .cons (.lit 0) .nil)) (.bi .row (.bi .cons (.lit 7) (.bi .cons (.lit 13) .nil)) .nil)))))]⟩, 0, []⟩,
  ⟨⟨⟨10, tl 216 [(23, (.ptr 0 (.lit 0) (.lit 0)))], [.at [0, 0, 1, 0, 1], .lp [0, 1, 0, 1], .blk 0, .at [1, 1]], [], none⟩, [], [(.iter (some 1) 4 [1, 0, 2] 4), (.amap [(.int .i64)] [(.int .i64)] false false (.bi .row (.bi .cons (.lit 4) (.bi .cons (.lit 7) .nil)) (.bi .row (.bi .cons (.lit 5) (.bi .cons (.lit 0) .nil)) (.bi .row (.bi .cons (.lit 9) (.bi .cons (.lit 0) .nil)) (.bi .row (.bi .cons (.lit 7) (.bi .cons (.lit 13) .nil)) .nil)))))]⟩, 0, []⟩,
  ⟨⟨⟨10, tl 216 [(23, (.ptr 0 (.lit 0) (.lit 0)))], [.at [0, 0, 1, 0, 1], .lp [0, 1, 0, 1], .blk 0, .at [1, 1]], [], none⟩, [], [(.iter (some 1) 4 [1, 0, 3] 4), (.amap [(.int .i64)] [(.int .i64)] false false (.bi .row (.bi .cons (.lit 4) (.bi .cons (.lit 7) .nil)) (.bi .row (.bi .cons (.lit 5) (.bi .cons (.lit 0) .nil)) (.bi .row (.bi .cons (.lit 9) (.bi .cons (.lit 0) .nil)) (.bi .row (.bi .cons (.lit 7) (.bi .cons (.lit 13) .nil)) .nil)))))]⟩, 0, []⟩,
  ⟨⟨⟨10, tl 216 [(23, (.ptr 0 (.lit 0) (.lit 0)))], [.at [0, 0, 1, 0, 1], .lp [0, 1, 0, 1], .blk 0, .at [1, 1]], [], none⟩, [], [(.iter (some 1) 4 [1, 2, 0] 4), (.amap [(.int .i64)] [(.int .i64)] false false (.bi .row (.bi .cons (.lit 4) (.bi .cons (.lit 7) .nil)) (.bi .row (.bi .cons (.lit 5) (.bi .cons (.lit 0) .nil)) (.bi .row (.bi .cons (.lit 9) (.bi .cons (.lit 0) .nil)) (.bi .row (.bi .cons (.lit 7) (.bi .cons (.lit 13) .nil)) .nil)))))]⟩, 0, []⟩,
  ⟨⟨⟨10, tl 216 [(23, (.ptr 0 (.lit 0) (.lit 0)))], [.at [0, 0, 1, 0, 1], .lp [0, 1, 0, 1], .blk 0, .at [1, 1]], [], none⟩, [], [(.iter (some 1) 4 [1, 2, 3] 4), (.amap [(.int .i64)] [(.int .i64)] false false (.bi .row (.bi .cons (.lit 4) (.bi .cons (.lit 7) .nil)) (.bi .row (.bi .cons (.lit 5) (.bi .cons (.lit 0) .nil)) (.bi .row (.bi .cons (.lit 9) (.bi .cons (.lit 0) .nil)) (.bi .row (.bi .cons (.lit 7) (.bi .cons (.lit 13) .nil)) .nil)))))]⟩, 0, []⟩,
  ⟨⟨⟨10, tl 216 [(23, (.ptr 0 (.lit 0) (.lit 0)))], [.at [0, 0, 1, 0, 1], .lp [0, 1, 0, 1], .blk 0, .at [1, 1]], [], none⟩, [], [(.iter (some 1) 4 [1, 3, 0] 4), (.amap [(.int .i64)] [(.int .i64)] false false (.bi .row (.bi .cons (.lit 4) (.bi .cons (.lit 7) .nil)) (.bi .row (.bi .cons (.lit 5) (.bi .cons (.lit 0) .nil)) (.bi .row (.bi .cons (.lit 9) (.bi .cons (.lit 0) .nil)) (.bi .row (.bi .cons (.lit 7) (.bi .cons (.lit 13) .nil)) .nil)))))]⟩, 0, []⟩,
  ⟨⟨⟨10, tl 216 [(23, (.ptr 0 (.lit 0) (.lit 0)))], [.at [0, 0, 1, 0, 1], .lp [0, 1, 0, 1], .blk 0, .at [1, 1]], [], none⟩, [], [(.iter (some 1) 4 [1, 3, 2] 4), (.amap [(.int .i64)] [(.int .i64)] false false (.bi .row (.bi .cons (.lit 4) (.bi .cons (.lit 7) .nil)) (.bi .row (.bi .cons (.lit 5) (.bi .cons (.lit 0) .nil)) (.bi .row (.bi .cons (.lit 9) (.bi .cons (.lit 0) .nil)) (.bi .row (.bi .cons (.lit 7) (.bi .cons (.lit 13) .nil)) .nil)))))]⟩, 0, []⟩,
  ⟨⟨⟨10, tl 216 [(23, (.ptr 0 (.lit 0) (.lit 0)))], [.at [0, 0, 1, 0, 1], .lp [0, 1, 0, 1], .blk 0, .at [1, 1]], [], none⟩, [], [(.iter (some 1) 4 [2, 0, 1] 4), (.amap [(.int .i64)] [(.int .i64)] false false (.bi .row (.bi .cons (.lit 4) (.bi .cons (.lit 7) .nil)) (.bi .row (.bi .cons (.lit 5) (.bi .cons (.lit 0) .nil)) (.bi .row (.bi .cons (.lit 9) (.bi .cons (.lit 0) .nil)) (.bi .row (.bi .cons (.lit 7) (.bi .cons (.lit 13) .nil)) .nil)))))]⟩, 0, []⟩,
  ⟨⟨⟨10, tl 216 [(23, (.ptr 0 (.lit 0) (.lit 0)))], [.at [0, 0, 1, 0, 1], .lp [0, 1, 0, 1], .blk 0, .at [1, 1]], [], none⟩, [], [(.iter (some 1) 4 [2, 0, 3] 4), (.amap [(.int .i64)] [(.int .i64)] false false (.bi .row (.bi .cons (.lit 4) (.bi .cons (.lit 7) .nil)) (.bi .row (.bi .cons (.lit 5) (.bi .cons (.lit 0) .nil)) (.bi .row (.bi .cons (.lit 9) (.bi .cons (.lit 0) .nil)) (.bi .row (.bi .cons (.lit 7) (.bi .cons (.lit 13) .nil)) .nil)))))]⟩, 0, []⟩,
  ⟨⟨⟨10, tl 216 [(23, (.ptr 0 (.lit 0) (.lit 0)))], [.at [0, 0, 1, 0, 1], .lp [0, 1, 0, 1], .blk 0, .at [1, 1]], [], none⟩, [], [(.iter (some 1) 4 [2, 1, 0] 4), (.amap [(.int .i64)] [(.int .i64)] false false (.bi .row (.bi .cons (.lit 4) (.bi .cons (.lit 7) .nil)) (.bi .row (.bi .cons (.lit 5) (.bi .cons (.lit 0) .nil)) (.bi .row (.bi .cons (.lit 9) (.bi .cons (.lit 0) .nil)) (.bi .row (.bi .cons (.lit 7) (.bi .cons (.lit 13) .nil)) .nil)))))]⟩, 0, []⟩,
  ⟨⟨⟨10, tl 216 [(23, (.ptr 0 (.lit 0) (.lit 0)))], [.at [0, 0, 1, 0, 1], .lp [0, 1, 0, 1], .blk 0, .at [1, 1]], [], none⟩, [], [(.iter (some 1) 4 [2, 1, 3] 4), (.amap [(.int .i64)] [(.int .i64)] false false (.bi .row (.bi .cons (.lit 4) (.bi .cons (.lit 7) .nil)) (.bi .row (.bi .cons (.lit 5) (.bi .cons (.lit 0) .nil)) (.bi .row (.bi .cons (.lit 9) (.bi .cons (.lit 0) .nil)) (.bi .row (.bi .cons (.lit 7) (.bi .cons (.lit 13) .nil)) .nil)))))]⟩, 0, []⟩,
  ⟨⟨⟨10, tl 216 [(23, (.ptr 0 (.lit 0) (.lit 0)))], [.at [0, 0, 1, 0, 1], .lp [0, 1, 0, 1], .blk 0, .at [1, 1]], [], none⟩, [], [(.iter (some 1) 4 [2, 3, 0] 4), (.amap [(.int .i64)] [(.int .i64)] false false (.bi .row (.bi .cons (.lit 4) (.bi .cons (.lit 7) .nil)) (.bi .row (.bi .cons (.lit 5) (.bi .cons (.lit 0) .nil)) (.bi .row (.bi .cons (.lit 9) (.bi .cons (.lit 0) .nil)) (.bi .row (.bi .cons (.lit 7) (.bi .cons (.lit 13) .nil)) .nil)))))]⟩, 0, []⟩,
  ⟨⟨⟨10, tl 216 [(23, (.ptr 0 (.lit 0) (.lit 0)))], [.at [0, 0, 1, 0, 1], .lp [0, 1, 0, 1], .blk 0, .at [1, 1]], [], none⟩, [], [(.iter (some 1) 4 [2, 3, 1] 4), (.amap [(.int .i64)] [(.int .i64)] false false (.bi .row (.bi .cons (.lit 4) (.bi .cons (.lit 7) .nil)) (.bi .row (.bi .cons (.lit 5) (.bi .cons (.lit 0) .nil)) (.bi .row (.bi .cons (.lit 9) (.bi .cons (.lit 0) .nil)) (.bi .row (.bi .cons (.lit 7) (.bi .cons (.lit 13) .nil)) .nil)))))]⟩, 0, []⟩,
  ⟨⟨⟨10, tl 216 [(23, (.ptr 0 (.lit 0) (.lit 0)))], [.at [0, 0, 1, 0, 1], .lp [0, 1, 0, 1], .blk 0, .at [1, 1]], [], none⟩, [], [(.iter (some 1) 4 [3, 0, 1] 4), (.amap [(.int .i64)] [(.int .i64)] false false (.bi .row (.bi .cons (.lit 4) (.bi .cons (.lit 7) .nil)) (.bi .row (.bi .cons (.lit 5) (.bi .cons (.lit 0) .nil)) (.bi .row (.bi .cons (.lit 9) (.bi .cons (.lit 0) .nil)) (.bi .row (.bi .cons (.lit 7) (.bi .cons (.lit 13) .nil)) .nil)))))]⟩, 0, []⟩,
  ⟨⟨⟨10, tl 216 [(23, (.ptr 0 (.lit 0) (.lit 0)))], [.at [0, 0, 1, 0, 1], .lp [0, 1, 0, 1], .blk 0, .at [1, 1]], [], none⟩, [], [(.iter (some 1) 4 [3, 0, 2] 4), (.amap [(.int .i64)] [(.int .i64)] false false (.bi .row (.bi .cons (.lit 4) (.bi .cons (.lit 7) .nil)) (.bi .row (.bi .cons (.lit 5) (.bi .cons (.lit 0) .nil)) (.bi .row (.bi .cons (.lit 9) (.bi .cons (.lit 0) .nil)) (.bi .row (.bi .cons (.lit 7) (.bi .cons (.lit 13) .nil)) .nil)))))]⟩, 0, []⟩,
  ⟨⟨⟨10, tl 216 [(23, (.ptr 0 (.lit 0) (.lit 0)))], [.at [0, 0, 1, 0, 1], .lp [0, 1, 0, 1], .blk 0, .at [1, 1]], [], none⟩, [], [(.iter (some 1) 4 [3, 1, 0] 4), (.amap [(.int .i64)] [(.int .i64)] false false (.bi .row (.bi .cons (.lit 4) (.bi .cons (.lit 7) .nil)) (.bi .row (.bi .cons (.lit 5) (.bi .cons (.lit 0) .nil)) (.bi .row (.bi .cons (.lit 9) (.bi .cons (.lit 0) .nil)) (.bi .row (.bi .cons (.lit 7) (.bi .cons (.lit 13) .nil)) .nil)))))]⟩, 0, []⟩,
  ⟨⟨⟨10, tl 216 [(23, (.ptr 0 (.lit 0) (.lit 0)))], [.at [0, 0, 1, 0, 1], .lp [0, 1, 0, 1], .blk 0, .at [1, 1]], [], none⟩, [], [(.iter (some 1) 4 [3, 1, 2] 4), (.amap [(.int .i64)] [(.int .i64)] false false (.bi .row (.bi .cons (.lit 4) (.bi .cons (.lit 7) .nil)) (.bi .row (.bi .cons (.lit 5) (.bi .cons (.lit 0) .nil)) (.bi .row (.bi .cons (.lit 9) (.bi .cons (.lit 0) .nil)) (.bi .row (.bi .cons (.lit 7) (.bi .cons (.lit 13) .nil)) .nil)))))]⟩, 0, []⟩,
  ⟨⟨⟨10, tl 216 [(23, (.ptr 0 (.lit 0) (.lit 0)))], [.at [0, 0, 1, 0, 1], .lp [0, 1, 0, 1], .blk 0, .at [1, 1]], [], none⟩, [], [(.iter (some 1) 4 [3, 2, 0] 4), (.amap [(.int .i64)] [(.int .i64)] false false (.bi .row (.bi .cons (.lit 4) (.bi .cons (.lit 7) .nil)) (.bi .row (.bi .cons (.lit 5) (.bi .cons (.lit 0) .nil)) (.bi .row (.bi .cons (.lit 9) (.bi .cons (.lit 0) .nil)) (.bi .row (.bi .cons (.lit 7) (.bi .cons (.lit 13) .nil)) .nil)))))]⟩, 0, []⟩,
  ⟨⟨⟨10, tl 216 [(23, (.ptr 0 (.lit 0) (.lit 0)))], [.at [0, 0, 1, 0, 1], .lp [0, 1, 0, 1], .blk 0, .at [1, 1]], [], none⟩, [], [(.iter (some 1) 4 [3, 2, 1] 4), (.amap [(.int .i64)] [(.int .i64)] false false (.bi .row (.bi .cons (.lit 4) (.bi .cons (.lit 7) .nil)) (.bi .row (.bi .cons (.lit 5) (.bi .cons (.lit 0) .nil)) (.bi .row (.bi .cons (.lit 9) (.bi .cons (.lit 0) .nil)) (.bi .row (.bi .cons (.lit 7) (.bi .cons (.lit 13) .nil)) .nil)))))]⟩, 0, []⟩,
  ⟨⟨⟨10, tl 216 [(23, (.ptr 0 (.lit 0) (.lit 0)))], [.at [0, 0, 1, 0, 1], .lp [0, 1, 0, 1], .blk 0, .at [1, 1]], [], none⟩, [], [(.iter (some 1) 4 [0, 1, 2, 3] 4), (.amap [(.int .i64)] [(.int .i64)] false false (.bi .row (.bi .cons (.lit 4) (.bi .cons (.lit 7) .nil)) (.bi .row (.bi .cons (.lit 5) (.bi .cons (.lit 0) .nil)) (.bi .row (.bi .cons (.lit 9) (.bi .cons (.lit 0) .nil)) (.bi .row (.bi .cons (.lit 7) (.bi .cons (.lit 13) .nil)) .nil)))))]⟩, 0, []⟩,
  ⟨⟨⟨10, tl 216 [(23, (.ptr 0 (.lit 0) (.lit 0)))], [.at [0, 0, 1, 0, 1], .lp [0, 1, 0, 1], .blk 0, .at [1, 1]], [], none⟩, [], [(.iter (some 1) 4 [0, 1, 3, 2] 4), (.amap [(.int .i64)] [(.int .i64)] false false (.bi .row (.bi .cons (.lit 4) (.bi .cons (.lit 7) .nil)) (.bi .row (.bi .cons (.lit 5) (.bi .cons (.lit 0) .nil)) (.bi .row (.bi .cons (.lit 9) (.bi .cons (.lit 0) .nil)) (.bi .row (.bi .cons (.lit 7) (.bi .cons (.lit 13) .nil)) .nil)))))]⟩, 0, []⟩,
  ⟨⟨⟨10, tl 216 [(23, (.ptr 0 (.lit 0) (.lit 0)))], [.at [0, 0, 1, 0, 1], .lp [0, 1, 0, 1], .blk 0, .at [1, 1]], [], none⟩, [], [(.iter (some 1) 4 [0, 2, 1, 3] 4), (.amap [(.int .i64)] [(.int .i64)] false false (.bi .row (.bi .cons (.lit 4) (.bi .cons (.lit 7) .nil)) (.bi .row (.bi .cons (.lit 5) (.bi .cons (.lit 0) .nil)) (.bi .row (.bi .cons (.lit 9) (.bi .cons (.lit 0) .nil)) (.bi .row (.bi .cons (.lit 7) (.bi .cons (.lit 13) .nil)) .nil)))))]⟩, 0, []⟩,
  ⟨⟨⟨10, tl 216 [(23, (.ptr 0 (.lit 0) (.lit 0)))], [.at [0, 0, 1, 0, 1], .lp [0, 1, 0, 1], .blk 0, .at [1, 1]], [], none⟩, [], [(.iter (some 1) 4 [0, 2, 3, 1] 4), (.amap [(.int .i64)] [(.int .i64)] false false (.bi .row (.bi .cons (.lit 4) (.bi .cons (.lit 7) .nil)) (.bi .row (.bi .cons (.lit 5) (.bi .cons (.lit 0) .nil)) (.bi .row (.bi .cons (.lit 9) (.bi .cons (.lit 0) .nil)) (.bi .row (.bi .cons (.lit 7) (.bi .cons (.lit 13) .nil)) .nil)))))]⟩, 0, []⟩,
  ⟨⟨⟨10, tl 216 [(23, (.ptr 0 (.lit 0) (.lit 0)))], [.at [0, 0, 1, 0, 1], .lp [0, 1, 0, 1], .blk 0, .at [1, 1]], [], none⟩, [], [(.iter (some 1) 4 [0, 3, 1, 2] 4), (.amap [(.int .i64)] [(.int .i64)] false false (.bi .row (.bi .cons (.lit 4) (.bi .cons (.lit 7) .nil)) (.bi .row (.bi .cons (.lit 5) (.bi .cons (.lit 0) .nil)) (.bi .row (.bi .cons (.lit 9) (.bi .cons (.lit 0) .nil)) (.bi .row (.bi .cons (.lit 7) (.bi .cons (.lit 13) .nil)) .nil)))))]⟩, 0, []⟩,
  ⟨⟨⟨10, tl 216 [(23, (.ptr 0 (.lit 0) (.lit 0)))], [.at [0, 0, 1, 0, 1], .lp [0, 1, 0, 1], .blk 0, .at [1, 1]], [], none⟩, [], [(.iter (some 1) 4 [0, 3, 2, 1] 4), (.amap [(.int .i64)] [(.int .i64)] false false (.bi .row (.bi .cons (.lit 4) (.bi .cons (.lit 7) .nil)) (.bi .row (.bi .cons (.lit 5) (.bi .cons (.lit 0) .nil)) (.bi .row (.bi .cons (.lit 9) (.bi .cons (.lit 0) .nil)) (.bi .row (.bi .cons (.lit 7) (.bi .cons (.lit 13) .nil)) .nil)))))]⟩, 0, []⟩,
  ⟨⟨⟨10, tl 216 [(23, (.ptr 0 (.lit 0) (.lit 0)))], [.at [0, 0, 1, 0, 1], .lp [0, 1, 0, 1], .blk 0, .at [1, 1]], [], none⟩, [], [(.iter (some 1) 4 [1, 0, 2, 3] 4), (.amap [(.int .i64)] [(.int .i64)] false false (.bi .row (.bi .cons (.lit 4) (.bi .cons (.lit 7) .nil)) (.bi .row (.bi .cons (.lit 5) (.bi .cons (.lit 0) .nil)) (.bi .row (.bi .cons (.lit 9) (.bi .cons (.lit 0) .nil)) (.bi .row (.bi .cons (.lit 7) (.bi .cons (.lit 13) .nil)) .nil)))))]⟩, 0, []⟩,
  ⟨⟨⟨10, tl 216 [(23, (.ptr 0 (.lit 0) (.lit 0)))], [.at [0, 0, 1, 0, 1], .lp [0, 1, 0, 1], .blk 0, .at [1, 1]], [], none⟩, [], [(.iter (some 1) 4 [1, 0, 3, 2] 4), (.amap [(.int .i64)] [(.int .i64)] false false (.bi .row (.bi .cons (.lit 4) (.bi .cons (.lit 7) .nil)) (.bi .row (.bi .cons (.lit 5) (.bi .cons (.lit 0) .nil)) (.bi .row (.bi .cons (.lit 9) (.bi .cons (.lit 0) .nil)) (.bi .row (.bi .cons (.lit 7) (.bi .cons (.lit 13) .nil)) .nil)))))]⟩, 0, []⟩,
  ⟨⟨⟨10, tl 216 [(23, (.ptr 0 (.lit 0) (.lit 0)))], [.at [0, 0, 1, 0, 1], .lp [0, 1, 0, 1], .blk 0, .at [1, 1]], [], none⟩, [], [(.iter (some 1) 4 [1, 2, 0, 3] 4), (.amap [(.int .i64)] [(.int .i64)] false false (.bi .row (.bi .cons (.lit 4) (.bi .cons (.lit 7) .nil)) (.bi .row (.bi .cons (.lit 5) (.bi .cons (.lit 0) .nil)) (.bi .row (.bi .cons (.lit 9) (.bi .cons (.lit 0) .nil)) (.bi .row (.bi .cons (.lit 7) (.bi .cons (.lit 13) .nil)) .nil)))))]⟩, 0, []⟩,
  ⟨⟨⟨10, tl 216 [(23, (.ptr 0 (.lit 0) (.lit 0)))], [.at [0, 0, 1, 0, 1], .lp [0, 1, 0, 1], .blk 0, .at [1, 1]], [], none⟩, [], [(.iter (some 1) 4 [1, 2, 3, 0] 4), (.amap [(.int .i64)] [(.int .i64)] false false (.bi .row (.bi .cons (.lit 4) (.bi .cons (.lit 7) .nil)) (.bi .row (.bi .cons (.lit 5) (.bi .cons (.lit 0) .nil)) (.bi .row (.bi .cons (.lit 9) (.bi .cons (.lit 0) .nil)) (.bi .row (.bi .cons (.lit 7) (.bi .cons (.lit 13) .nil)) .nil)))))]⟩, 0, []⟩,
  ⟨⟨⟨10, tl 216 [(23, (.ptr 0 (.lit 0) (.lit 0)))], [.at [0, 0, 1, 0, 1], .lp [0, 1, 0, 1], .blk 0, .at [1, 1]], [], none⟩, [], [(.iter (some 1) 4 [1, 3, 0, 2] 4), (.amap [(.int .i64)] [(.int .i64)] false false (.bi .row (.bi .cons (.lit 4) (.bi .cons (.lit 7) .nil)) (.bi .row (.bi .cons (.lit 5) (.bi .cons (.lit 0) .nil)) (.bi .row (.bi .cons (.lit 9) (.bi .cons (.lit 0) .nil)) (.bi .row (.bi .cons (.lit 7) (.bi .cons (.lit 13) .nil)) .nil)))))]⟩, 0, []⟩,
  ⟨⟨⟨10, tl 216 [(23, (.ptr 0 (.lit 0) (.lit 0)))], [.at [0, 0, 1, 0, 1], .lp [0, 1, 0, 1], .blk 0, .at [1, 1]], [], none⟩, [], [(.iter (some 1) 4 [1, 3, 2, 0] 4), (.amap [(.int .i64)] [(.int .i64)] false false (.bi .row (.bi .cons (.lit 4) (.bi .cons (.lit 7) .nil)) (.bi .row (.bi .cons (.lit 5) (.bi .cons (.lit 0) .nil)) (.bi .row (.bi .cons (.lit 9) (.bi .cons (.lit 0) .nil)) (.bi .row (.bi .cons (.lit 7) (.bi .cons (.lit 13) .nil)) .nil)))))]⟩, 0, []⟩,
  ⟨⟨⟨10, tl 216 [(23, (.ptr 0 (.lit 0) (.lit 0)))], [.at [0, 0, 1, 0, 1], .lp [0, 1, 0, 1], .blk 0, .at [1, 1]], [], none⟩, [], [(.iter (some 1) 4 [2, 0, 1, 3] 4), (.amap [(.int .i64)] [(.int .i64)] false false (.bi .row (.bi .cons (.lit 4) (.bi .cons (.lit 7) .nil)) (.bi .row (.bi .cons (.lit 5) (.bi .cons (.lit 0) .nil)) (.bi .row (.bi .cons (.lit 9) (.bi .cons (.lit 0) .nil)) (.bi .row (.bi .cons (.lit 7) (.bi .cons (.lit 13) .nil)) .nil)))))]⟩, 0, []⟩,
  ⟨⟨⟨10, tl 216 [(23, (.ptr 0 (.lit 0) (.lit 0)))], [.at [0, 0, 1, 0, 1], .lp [0, 1, 0, 1], .blk 0, .at [1, 1]], [], none⟩, [], [(.iter (some 1) 4 [2, 0, 3, 1] 4), (.amap [(.int .i64)] [(.int .i64)] false false (.bi .row (.bi .cons (.lit 4) (.bi .cons (.lit 7) .nil)) (.bi .row (.bi .cons (.lit 5) (.bi .cons (.lit 0) .nil)) (.bi .row (.bi .cons (.lit 9) (.bi .cons (.lit 0) .nil)) (.bi .row (.bi .cons (.lit 7) (.bi .cons (.lit 13) .nil)) .nil)))))]⟩, 0, []⟩,
  ⟨⟨⟨10, tl 216 [(23, (.ptr 0 (.lit 0) (.lit 0)))], [.at [0, 0, 1, 0, 1], .lp [0, 1, 0, 1], .blk 0, .at [1, 1]], [], none⟩, [], [(.iter (some 1) 4 [2, 1, 0, 3] 4), (.amap [(.int .i64)] [(.int .i64)] false false (.bi .row (.bi .cons (.lit 4) (.bi .cons (.lit 7) .nil)) (.bi .row (.bi .cons (.lit 5) (.bi .cons (.lit 0) .nil)) (.bi .row (.bi .cons (.lit 9) (.bi .cons (.lit 0) .nil)) (.bi .row (.bi .cons (.lit 7) (.bi .cons (.lit 13) .nil)) .nil)))))]⟩, 0, []⟩,
  ⟨⟨⟨10, tl 216 [(23, (.ptr 0 (.lit 0) (.lit 0)))], [.at [0, 0, 1, 0, 1], .lp [0, 1, 0, 1], .blk 0, .at [1, 1]], [], none⟩, [], [(.iter (some 1) 4 [2, 1, 3, 0] 4), (.amap [(.int .i64)] [(.int .i64)] false false (.bi .row (.bi .cons (.lit 4) (.bi .cons (.lit 7) .nil)) (.bi .row (.bi .cons (.lit 5) (.bi .cons (.lit 0) .nil)) (.bi .row (.bi .cons (.lit 9) (.bi .cons (.lit 0) .nil)) (.bi .row (.bi .cons (.lit 7) (.bi .cons (.lit 13) .nil)) .nil)))))]⟩, 0, []⟩,
  ⟨⟨⟨10, tl 216 [(23, (.ptr 0 (.lit 0) (.lit 0)))], [.at [0, 0, 1, 0, 1], .lp [0, 1, 0, 1], .blk 0, .at [1, 1]], [], none⟩, [], [(.iter (some 1) 4 [2, 3, 0, 1] 4), (.amap [(.int .i64)] [(.int .i64)] false false (.bi .row (.bi .cons (.lit 4) (.bi .cons (.lit 7) .nil)) (.bi .row (.bi .cons (.lit 5) (.bi .cons (.lit 0) .nil)) (.bi .row (.bi .cons (.lit 9) (.bi .cons (.lit 0) .nil)) (.bi .row (.bi .cons (.lit 7) (.bi .cons (.lit 13) .nil)) .nil)))))]⟩, 0, []⟩,
  ⟨⟨⟨10, tl 216 [(23, (.ptr 0 (.lit 0) (.lit 0)))], [.at [0, 0, 1, 0, 1], .lp [0, 1, 0, 1], .blk 0, .at [1, 1]], [], none⟩, [], [(.iter (some 1) 4 [2, 3, 1, 0] 4), (.amap [(.int .i64)] [(.int .i64)] false false (.bi .row (.bi .cons (.lit 4) (.bi .cons (.lit 7) .nil)) (.bi .row (.bi .cons (.lit 5) (.bi .cons (.lit 0) .nil)) (.bi .row (.bi .cons (.lit 9) (.bi .cons (.lit 0) .nil)) (.bi .row (.bi .cons (.lit 7) (.bi .cons (.lit 13) .nil)) .nil)))))]⟩, 0, []⟩,
  ⟨⟨⟨10, tl 216 [(23, (.ptr 0 (.lit 0) (.lit 0)))], [.at [0, 0, 1, 0, 1], .lp [0, 1, 0, 1], .blk 0, .at [1, 1]], [], none⟩, [], [(.iter (some 1) 4 [3, 0, 1, 2] 4), (.amap [(.int .i64)] [(.int .i64)] false false (.bi .row (.bi .cons (.lit 4) (.bi .cons (.lit 7) .nil)) (.bi .row (.bi .cons (.lit 5) (.bi .cons (.lit 0) .nil)) (.bi .row (.bi .cons (.lit 9) (.bi .cons (.lit 0) .nil)) (.bi .row (.bi .cons (.lit 7) (.bi .cons (.lit 13) .nil)) .nil)))))]⟩, 0, []⟩,
  ⟨⟨⟨10, tl 216 [(23, (.ptr 0 (.lit 0) (.lit 0)))], [.at [0, 0, 1, 0, 1], .lp [0, 1, 0, 1], .blk 0, .at [1, 1]], [], none⟩, [], [(.iter (some 1) 4 [3, 0, 2, 1] 4), (.amap [(.int .i64)] [(.int .i64)] false false (.bi .row (.bi .cons (.lit 4) (.bi .cons (.lit 7) .nil)) (.bi .row (.bi .cons (.lit 5) (.bi .cons (.lit 0) .nil)) (.bi .row (.bi .cons (.lit 9) (.bi .cons (.lit 0) .nil)) (.bi .row (.bi .cons (.lit 7) (.bi .cons (.lit 13) .nil)) .nil)))))]⟩, 0, []⟩,
  ⟨⟨⟨10, tl 216 [(23, (.ptr 0 (.lit 0) (.lit 0)))], [.at [0, 0, 1, 0, 1], .lp [0, 1, 0, 1], .blk 0, .at [1, 1]], [], none⟩, [], [(.iter (some 1) 4 [3, 1, 0, 2] 4), (.amap [(.int .i64)] [(.int .i64)] false false (.bi .row (.bi .cons (.lit 4) (.bi .cons (.lit 7) .nil)) (.bi .row (.bi .cons (.lit 5) (.bi .cons (.lit 0) .nil)) (.bi .row (.bi .cons (.lit 9) (.bi .cons (.lit 0) .nil)) (.bi .row (.bi .cons (.lit 7) (.bi .cons (.lit 13) .nil)) .nil)))))]⟩, 0, []⟩,
  ⟨⟨⟨10, tl 216 [(23, (.ptr 0 (.lit 0) (.lit 0)))], [.at [0, 0, 1, 0, 1], .lp [0, 1, 0, 1], .blk 0, .at [1, 1]], [], none⟩, [], [(.iter (some 1) 4 [3, 1, 2, 0] 4), (.amap [(.int .i64)] [(.int .i64)] false false (.bi .row (.bi .cons (.lit 4) (.bi .cons (.lit 7) .nil)) (.bi .row (.bi .cons (.lit 5) (.bi .cons (.lit 0) .nil)) (.bi .row (.bi .cons (.lit 9) (.bi .cons (.lit 0) .nil)) (.bi .row (.bi .cons (.lit 7) (.bi .cons (.lit 13) .nil)) .nil)))))]⟩, 0, []⟩,
  ⟨⟨⟨10, tl 216 [(23, (.ptr 0 (.lit 0) (.lit 0)))], [.at [0, 0, 1, 0, 1], .lp [0, 1, 0, 1], .blk 0, .at [1, 1]], [], none⟩, [], [(.iter (some 1) 4 [3, 2, 0, 1] 4), (.amap [(.int .i64)] [(.int .i64)] false false (.bi .row (.bi .cons (.lit 4) (.bi .cons (.lit 7) .nil)) (.bi .row (.bi .cons (.lit 5) (.bi .cons (.lit 0) .nil)) (.bi .row (.bi .cons (.lit 9) (.bi .cons (.lit 0) .nil)) (.bi .row (.bi .cons (.lit 7) (.bi .cons (.lit 13) .nil)) .nil)))))]⟩, 0, []⟩,
  ⟨⟨⟨10, tl 216 [(23, (.ptr 0 (.lit 0) (.lit 0)))], [.at [0, 0, 1, 0, 1], .lp [0, 1, 0, 1], .blk 0, .at [1, 1]], [], none⟩, [], [(.iter (some 1) 4 [3, 2, 1, 0] 4), (.amap [(.int .i64)] [(.int .i64)] false false (.bi .row (.bi .cons (.lit 4) (.bi .cons (.lit 7) .nil)) (.bi .row (.bi .cons (.lit 5) (.bi .cons (.lit 0) .nil)) (.bi .row (.bi .cons (.lit 9) (.bi .cons (.lit 0) .nil)) (.bi .row (.bi .cons (.lit 7) (.bi .cons (.lit 13) .nil)) .nil)))))]⟩, 0, []⟩,
  ⟨⟨⟨10, tl 216 [], [.at [1, 1]], [], none⟩, [], []⟩, 0, []⟩,
  ⟨⟨⟨10, tl 216 [(15, (.ptr 0 (.lit 0) (.lit 0))), (16, (.ptr 2 (.lit 0) (.lit 0))), (163, (.slice 4 3 (.lit 0) (.lit 4) (some (.lit 4)))), (164, (.int .i64 (.lit 4))), (165, (.int .i64 (.var 0)))], [.at [0, 0, 1, 0, 1, 1, 1, 1, 1, 1, 1, 1, 1, 1, 1, 1], .lp [0, 1, 0, 1, 1, 1, 1, 1, 1, 1, 1, 1, 1, 1, 1], .blk 2, .at [1, 1, 1, 1, 1, 1, 1, 1, 1, 1, 1, 1, 1]], [], none⟩, [], [(.cells false [(.int .i64 (.fn2 5 (.lit 4) (.lit 1))), (.int .i64 (.fn2 6 (.lit 4) (.lit 1))), (.int .i64 (.fn2 7 (.lit 4) (.lit 1))), (.int .i64 (.fn2 8 (.lit 4) (.lit 1))), (.int .i64 (.fn2 9 (.lit 4) (.lit 1))), (.slice 1 5 (.lit 0) (.un .len (.fn2 3 (.lit 4) (.lit 1))) none)]), (.rows false [(.int .i64), (.int .i64), (.int .i64), (.int .i64), (.int .i64)] (.fn2 3 (.lit 4) (.lit 1))), (.cells false [(.int .i64 (.fn2 5 (.lit 2) (.lit 3))), (.int .i64 (.fn2 6 (.lit 2) (.lit 3))), (.int .i64 (.fn2 7 (.lit 2) (.lit 3))), (.int .i64 (.fn2 8 (.lit 2) (.lit 3))), (.int .i64 (.fn2 9 (.lit 2) (.lit 3))), (.slice 3 5 (.lit 0) (.un .len (.fn2 3 (.lit 2) (.lit 3))) none)]), (.rows false [(.int .i64), (.int .i64), (.int .i64), (.int .i64), (.int .i64)] (.fn2 3 (.lit 2) (.lit 3))), (.cells false [(.int .i64 (.lit 8)), (.int .i64 (.lit 1)), (.int .i64 (.lit 0)), (.int .i64 (.lit 2)), (.int .i64 (.lit 4)), (.int .i64 (.lit 4)), (.int .i64 (.lit 3)), (.int .i64 (.lit 7)), (.int .i64 (.lit 1)), (.int .i64 (.lit 5)), (.int .i64 (.lit 6)), (.int .i64 (.lit 2))])]⟩, 1, [(.bi .le (.lit 0) (.var 0)), (.bi .le (.var 0) (.lit 4)), (.bi .le (.var 0) (.un .len (.fn2 3 (.lit 4) (.lit 1))))]⟩,
  ⟨⟨⟨10, tl 216 [(16, (.ptr 0 (.lit 0) (.lit 0))), (191, (.slice 2 2 (.lit 0) (.lit 6) (some (.lit 6)))), (192, (.int .i64 (.lit 6))), (193, (.int .i64 (.var 0)))], [.at [0, 0, 1, 0, 1, 1, 1, 1, 1, 1, 1, 1, 1, 1, 1, 1, 1], .lp [0, 1, 0, 1, 1, 1, 1, 1, 1, 1, 1, 1, 1, 1, 1, 1], .blk 4, .at [1, 1, 1, 1, 1, 1, 1, 1, 1, 1, 1, 1, 1, 1]], [], none⟩, [], [(.cells false [(.int .i64 (.fn2 5 (.lit 2) (.lit 3))), (.int .i64 (.fn2 6 (.lit 2) (.lit 3))), (.int .i64 (.fn2 7 (.lit 2) (.lit 3))), (.int .i64 (.fn2 8 (.lit 2) (.lit 3))), (.int .i64 (.fn2 9 (.lit 2) (.lit 3))), (.slice 1 5 (.lit 0) (.un .len (.fn2 3 (.lit 2) (.lit 3))) none)]), (.rows false [(.int .i64), (.int .i64), (.int .i64), (.int .i64), (.int .i64)] (.fn2 3 (.lit 2) (.lit 3))), (.cells false [(.int .i64 (.lit 4)), (.int .i64 (.lit 1)), (.int .i64 (.lit 2)), (.int .i64 (.lit 3)), (.int .i64 (.lit 4)), (.int .i64 (.lit 2)), (.int .i64 (.lit 3)), (.int .i64 (.lit 1)), (.int .i64 (.lit 4)), (.int .i64 (.lit 3)), (.int .i64 (.lit 1)), (.int .i64 (.lit 2))])]⟩, 1, [(.bi .le (.lit 0) (.var 0)), (.bi .le (.var 0) (.lit 6)), (.bi .le (.var 0) (.un .len (.fn2 3 (.lit 2) (.lit 3))))]⟩]
def ssKAw : List ST := [(.goto 1 []),
  (.alt (.br (.un .not (.bi .eq (.fn1 1 (.lit 4)) (.lit 7)))
    (.ret [(.bl false)])
    (.br (.un .not (.fn1 2 (.lit 4)))
     (.ret [(.bl false)])
     (.goto 2 [])))
   (.alt (.br (.un .not (.bi .eq (.fn1 1 (.lit 5)) (.lit 0)))
     (.ret [(.bl false)])
     (.br (.un .not (.un .not (.fn1 2 (.lit 5))))
      (.ret [(.bl false)])
      (.goto 3 [])))
    (.alt (.br (.un .not (.bi .eq (.fn1 1 (.lit 9)) (.lit 0)))
      (.ret [(.bl false)])
      (.br (.un .not (.un .not (.fn1 2 (.lit 9))))
       (.ret [(.bl false)])
       (.goto 4 [])))
     (.br (.un .not (.bi .eq (.fn1 1 (.lit 7)) (.lit 13)))
      (.ret [(.bl false)])
      (.br (.un .not (.fn1 2 (.lit 7)))
       (.ret [(.bl false)])
       (.goto 5 [])))))),
  (.alt (.br (.un .not (.bi .eq (.fn1 1 (.lit 5)) (.lit 0)))
    (.ret [(.bl false)])
    (.br (.un .not (.un .not (.fn1 2 (.lit 5))))
     (.ret [(.bl false)])
     (.goto 6 [])))
   (.alt (.br (.un .not (.bi .eq (.fn1 1 (.lit 9)) (.lit 0)))
     (.ret [(.bl false)])
     (.br (.un .not (.un .not (.fn1 2 (.lit 9))))
      (.ret [(.bl false)])
      (.goto 7 [])))
    (.br (.un .not (.bi .eq (.fn1 1 (.lit 7)) (.lit 13)))
     (.ret [(.bl false)])
     (.br (.un .not (.fn1 2 (.lit 7)))
      (.ret [(.bl false)])
      (.goto 8 []))))),
  (.alt (.br (.un .not (.bi .eq (.fn1 1 (.lit 4)) (.lit 7)))
    (.ret [(.bl false)])
    (.br (.un .not (.fn1 2 (.lit 4)))
     (.ret [(.bl false)])
     (.goto 9 [])))
   (.alt (.br (.un .not (.bi .eq (.fn1 1 (.lit 9)) (.lit 0)))
     (.ret [(.bl false)])
     (.br (.un .not (.un .not (.fn1 2 (.lit 9))))
      (.ret [(.bl false)])
      (.goto 10 [])))
    (.br (.un .not (.bi .eq (.fn1 1 (.lit 7)) (.lit 13)))
     (.ret [(.bl false)])
     (.br (.un .not (.fn1 2 (.lit 7)))
      (.ret [(.bl false)])
      (.goto 11 []))))),
  (.alt (.br (.un .not (.bi .eq (.fn1 1 (.lit 4)) (.lit 7)))
    (.ret [(.bl false)])
    (.br (.un .not (.fn1 2 (.lit 4)))
     (.ret [(.bl false)])
     (.goto 12 [])))
   (.alt (.br (.un .not (.bi .eq (.fn1 1 (.lit 5)) (.lit 0)))
     (.ret [(.bl false)])
     (.br (.un .not (.un .not (.fn1 2 (.lit 5))))
      (.ret [(.bl false)])
      (.goto 13 [])))
    (.br (.un .not (.bi .eq (.fn1 1 (.lit 7)) (.lit 13)))
     (.ret [(.bl false)])
     (.br (.un .not (.fn1 2 (.lit 7)))
      (.ret [(.bl false)])
      (.goto 14 []))))),
  (.alt (.br (.un .not (.bi .eq (.fn1 1 (.lit 4)) (.lit 7)))
    (.ret [(.bl false)])
    (.br (.un .not (.fn1 2 (.lit 4)))
     (.ret [(.bl false)])
     (.goto 15 [])))
   (.alt (.br (.un .not (.bi .eq (.fn1 1 (.lit 5)) (.lit 0)))
     (.ret [(.bl false)])
     (.br (.un .not (.un .not (.fn1 2 (.lit 5))))
      (.ret [(.bl false)])
      (.goto 16 [])))
    (.br (.un .not (.bi .eq (.fn1 1 (.lit 9)) (.lit 0)))
     (.ret [(.bl false)])
     (.br (.un .not (.un .not (.fn1 2 (.lit 9))))
      (.ret [(.bl false)])
      (.goto 17 []))))),
  (.alt (.br (.un .not (.bi .eq (.fn1 1 (.lit 9)) (.lit 0)))
    (.ret [(.bl false)])
    (.br (.un .not (.un .not (.fn1 2 (.lit 9))))
     (.ret [(.bl false)])
     (.goto 18 [])))
   (.br (.un .not (.bi .eq (.fn1 1 (.lit 7)) (.lit 13)))
    (.ret [(.bl false)])
    (.br (.un .not (.fn1 2 (.lit 7)))
     (.ret [(.bl false)])
     (.goto 19 [])))),
  (.alt (.br (.un .not (.bi .eq (.fn1 1 (.lit 5)) (.lit 0)))
    (.ret [(.bl false)])
    (.br (.un .not (.un .not (.fn1 2 (.lit 5))))
     (.ret [(.bl false)])
     (.goto 20 [])))
   (.br (.un .not (.bi .eq (.fn1 1 (.lit 7)) (.lit 13)))
    (.ret [(.bl false)])
    (.br (.un .not (.fn1 2 (.lit 7)))
     (.ret [(.bl false)])
     (.goto 21 [])))),
  (.alt (.br (.un .not (.bi .eq (.fn1 1 (.lit 5)) (.lit 0)))
    (.ret [(.bl false)])
    (.br (.un .not (.un .not (.fn1 2 (.lit 5))))
     (.ret [(.bl false)])
     (.goto 22 [])))
   (.br (.un .not (.bi .eq (.fn1 1 (.lit 9)) (.lit 0)))
    (.ret [(.bl false)])
    (.br (.un .not (.un .not (.fn1 2 (.lit 9))))
     (.ret [(.bl false)])
     (.goto 23 [])))),
  (.alt (.br (.un .not (.bi .eq (.fn1 1 (.lit 9)) (.lit 0)))
    (.ret [(.bl false)])
    (.br (.un .not (.un .not (.fn1 2 (.lit 9))))
     (.ret [(.bl false)])
     (.goto 24 [])))
   (.br (.un .not (.bi .eq (.fn1 1 (.lit 7)) (.lit 13)))
    (.ret [(.bl false)])
    (.br (.un .not (.fn1 2 (.lit 7)))
     (.ret [(.bl false)])
     (.goto 25 [])))),
  (.alt (.br (.un .not (.bi .eq (.fn1 1 (.lit 4)) (.lit 7)))
    (.ret [(.bl false)])
    (.br (.un .not (.fn1 2 (.lit 4)))
     (.ret [(.bl false)])
     (.goto 26 [])))
   (.br (.un .not (.bi .eq (.fn1 1 (.lit 7)) (.lit 13)))
    (.ret [(.bl false)])
    (.br (.un .not (.fn1 2 (.lit 7)))
     (.ret [(.bl false)])
     (.goto 27 [])))),
  (.alt (.br (.un .not (.bi .eq (.fn1 1 (.lit 4)) (.lit 7)))
    (.ret [(.bl false)])
    (.br (.un .not (.fn1 2 (.lit 4)))
     (.ret [(.bl false)])
     (.goto 28 [])))
   (.br (.un .not (.bi .eq (.fn1 1 (.lit 9)) (.lit 0)))
    (.ret [(.bl false)])
    (.br (.un .not (.un .not (.fn1 2 (.lit 9))))
     (.ret [(.bl false)])
     (.goto 29 [])))),
  (.alt (.br (.un .not (.bi .eq (.fn1 1 (.lit 5)) (.lit 0)))
    (.ret [(.bl false)])
    (.br (.un .not (.un .not (.fn1 2 (.lit 5))))
     (.ret [(.bl false)])
     (.goto 30 [])))
   (.br (.un .not (.bi .eq (.fn1 1 (.lit 7)) (.lit 13)))
    (.ret [(.bl false)])
    (.br (.un .not (.fn1 2 (.lit 7)))
     (.ret [(.bl false)])
     (.goto 31 [])))),
  (.alt (.br (.un .not (.bi .eq (.fn1 1 (.lit 4)) (.lit 7)))
    (.ret [(.bl false)])
    (.br (.un .not (.fn1 2 (.lit 4)))
     (.ret [(.bl false)])
     (.goto 32 [])))
   (.br (.un .not (.bi .eq (.fn1 1 (.lit 7)) (.lit 13)))
    (.ret [(.bl false)])
    (.br (.un .not (.fn1 2 (.lit 7)))
     (.ret [(.bl false)])
     (.goto 33 [])))),
  (.alt (.br (.un .not (.bi .eq (.fn1 1 (.lit 4)) (.lit 7)))
    (.ret [(.bl false)])
    (.br (.un .not (.fn1 2 (.lit 4)))
     (.ret [(.bl false)])
     (.goto 34 [])))
   (.br (.un .not (.bi .eq (.fn1 1 (.lit 5)) (.lit 0)))
    (.ret [(.bl false)])
    (.br (.un .not (.un .not (.fn1 2 (.lit 5))))
     (.ret [(.bl false)])
     (.goto 35 [])))),
  (.alt (.br (.un .not (.bi .eq (.fn1 1 (.lit 5)) (.lit 0)))
    (.ret [(.bl false)])
    (.br (.un .not (.un .not (.fn1 2 (.lit 5))))
     (.ret [(.bl false)])
     (.goto 36 [])))
   (.br (.un .not (.bi .eq (.fn1 1 (.lit 9)) (.lit 0)))
    (.ret [(.bl false)])
    (.br (.un .not (.un .not (.fn1 2 (.lit 9))))
     (.ret [(.bl false)])
     (.goto 37 [])))),
  (.alt (.br (.un .not (.bi .eq (.fn1 1 (.lit 4)) (.lit 7)))
    (.ret [(.bl false)])
    (.br (.un .not (.fn1 2 (.lit 4)))
     (.ret [(.bl false)])
     (.goto 38 [])))
   (.br (.un .not (.bi .eq (.fn1 1 (.lit 9)) (.lit 0)))
    (.ret [(.bl false)])
    (.br (.un .not (.un .not (.fn1 2 (.lit 9))))
     (.ret [(.bl false)])
     (.goto 39 [])))),
  (.alt (.br (.un .not (.bi .eq (.fn1 1 (.lit 4)) (.lit 7)))
    (.ret [(.bl false)])
    (.br (.un .not (.fn1 2 (.lit 4)))
     (.ret [(.bl false)])
     (.goto 40 [])))
   (.br (.un .not (.bi .eq (.fn1 1 (.lit 5)) (.lit 0)))
    (.ret [(.bl false)])
    (.br (.un .not (.un .not (.fn1 2 (.lit 5))))
     (.ret [(.bl false)])
     (.goto 41 [])))),
  (.br (.un .not (.bi .eq (.fn1 1 (.lit 7)) (.lit 13)))
   (.ret [(.bl false)])
   (.br (.un .not (.fn1 2 (.lit 7)))
    (.ret [(.bl false)])
    (.goto 42 []))),
  (.br (.un .not (.bi .eq (.fn1 1 (.lit 9)) (.lit 0)))
   (.ret [(.bl false)])
   (.br (.un .not (.un .not (.fn1 2 (.lit 9))))
    (.ret [(.bl false)])
    (.goto 43 []))),
  (.br (.un .not (.bi .eq (.fn1 1 (.lit 7)) (.lit 13)))
   (.ret [(.bl false)])
   (.br (.un .not (.fn1 2 (.lit 7)))
    (.ret [(.bl false)])
    (.goto 44 []))),
  (.br (.un .not (.bi .eq (.fn1 1 (.lit 5)) (.lit 0)))
   (.ret [(.bl false)])
   (.br (.un .not (.un .not (.fn1 2 (.lit 5))))
    (.ret [(.bl false)])
    (.goto 45 []))),
  (.br (.un .not (.bi .eq (.fn1 1 (.lit 9)) (.lit 0)))
   (.ret [(.bl false)])
   (.br (.un .not (.un .not (.fn1 2 (.lit 9))))
    (.ret [(.bl false)])
    (.goto 46 []))),
  (.br (.un .not (.bi .eq (.fn1 1 (.lit 5)) (.lit 0)))
   (.ret [(.bl false)])
   (.br (.un .not (.un .not (.fn1 2 (.lit 5))))
    (.ret [(.bl false)])
    (.goto 47 []))),
  (.br (.un .not (.bi .eq (.fn1 1 (.lit 7)) (.lit 13)))
   (.ret [(.bl false)])
   (.br (.un .not (.fn1 2 (.lit 7)))
    (.ret [(.bl false)])
    (.goto 48 []))),
  (.br (.un .not (.bi .eq (.fn1 1 (.lit 9)) (.lit 0)))
   (.ret [(.bl false)])
   (.br (.un .not (.un .not (.fn1 2 (.lit 9))))
    (.ret [(.bl false)])
    (.goto 49 []))),
  (.br (.un .not (.bi .eq (.fn1 1 (.lit 7)) (.lit 13)))
   (.ret [(.bl false)])
   (.br (.un .not (.fn1 2 (.lit 7)))
    (.ret [(.bl false)])
    (.goto 50 []))),
  (.br (.un .not (.bi .eq (.fn1 1 (.lit 4)) (.lit 7)))
   (.ret [(.bl false)])
   (.br (.un .not (.fn1 2 (.lit 4)))
    (.ret [(.bl false)])
    (.goto 51 []))),
  (.br (.un .not (.bi .eq (.fn1 1 (.lit 9)) (.lit 0)))
   (.ret [(.bl false)])
   (.br (.un .not (.un .not (.fn1 2 (.lit 9))))
    (.ret [(.bl false)])
    (.goto 52 []))),
  (.br (.un .not (.bi .eq (.fn1 1 (.lit 4)) (.lit 7)))
   (.ret [(.bl false)])
   (.br (.un .not (.fn1 2 (.lit 4)))
    (.ret [(.bl false)])
    (.goto 53 []))),
  (.br (.un .not (.bi .eq (.fn1 1 (.lit 7)) (.lit 13)))
   (.ret [(.bl false)])
   (.br (.un .not (.fn1 2 (.lit 7)))
    (.ret [(.bl false)])
    (.goto 54 []))),
  (.br (.un .not (.bi .eq (.fn1 1 (.lit 5)) (.lit 0)))
   (.ret [(.bl false)])
   (.br (.un .not (.un .not (.fn1 2 (.lit 5))))
    (.ret [(.bl false)])
    (.goto 55 []))),
  (.br (.un .not (.bi .eq (.fn1 1 (.lit 7)) (.lit 13)))
   (.ret [(.bl false)])
   (.br (.un .not (.fn1 2 (.lit 7)))
    (.ret [(.bl false)])
    (.goto 56 []))),
  (.br (.un .not (.bi .eq (.fn1 1 (.lit 4)) (.lit 7)))
   (.ret [(.bl false)])
   (.br (.un .not (.fn1 2 (.lit 4)))
    (.ret [(.bl false)])
    (.goto 57 []))),
  (.br (.un .not (.bi .eq (.fn1 1 (.lit 5)) (.lit 0)))
   (.ret [(.bl false)])
   (.br (.un .not (.un .not (.fn1 2 (.lit 5))))
    (.ret [(.bl false)])
    (.goto 58 []))),
  (.br (.un .not (.bi .eq (.fn1 1 (.lit 4)) (.lit 7)))
   (.ret [(.bl false)])
   (.br (.un .not (.fn1 2 (.lit 4)))
    (.ret [(.bl false)])
    (.goto 59 []))),
  (.br (.un .not (.bi .eq (.fn1 1 (.lit 9)) (.lit 0)))
   (.ret [(.bl false)])
   (.br (.un .not (.un .not (.fn1 2 (.lit 9))))
    (.ret [(.bl false)])
    (.goto 60 []))),
  (.br (.un .not (.bi .eq (.fn1 1 (.lit 5)) (.lit 0)))
   (.ret [(.bl false)])
   (.br (.un .not (.un .not (.fn1 2 (.lit 5))))
    (.ret [(.bl false)])
    (.goto 61 []))),
  (.br (.un .not (.bi .eq (.fn1 1 (.lit 9)) (.lit 0)))
   (.ret [(.bl false)])
   (.br (.un .not (.un .not (.fn1 2 (.lit 9))))
    (.ret [(.bl false)])
    (.goto 62 []))),
  (.br (.un .not (.bi .eq (.fn1 1 (.lit 4)) (.lit 7)))
   (.ret [(.bl false)])
   (.br (.un .not (.fn1 2 (.lit 4)))
    (.ret [(.bl false)])
    (.goto 63 []))),
  (.br (.un .not (.bi .eq (.fn1 1 (.lit 5)) (.lit 0)))
   (.ret [(.bl false)])
   (.br (.un .not (.un .not (.fn1 2 (.lit 5))))
    (.ret [(.bl false)])
    (.goto 64 []))),
  (.br (.un .not (.bi .eq (.fn1 1 (.lit 4)) (.lit 7)))
   (.ret [(.bl false)])
   (.br (.un .not (.fn1 2 (.lit 4)))
    (.ret [(.bl false)])
    (.goto 65 []))),
  (.goto 66 []),
  (.goto 66 []),
  (.goto 66 []),
  (.goto 66 []),
  (.goto 66 []),
  (.goto 66 []),
  (.goto 66 []),
  (.goto 66 []),
  (.goto 66 []),
  (.goto 66 []),
  (.goto 66 []),
  (.goto 66 []),
  (.goto 66 []),
  (.goto 66 []),
  (.goto 66 []),
  (.goto 66 []),
  (.goto 66 []),
  (.goto 66 []),
  (.goto 66 []),
  (.goto 66 []),
  (.goto 66 []),
  (.goto 66 []),
  (.goto 66 []),
  (.goto 66 []),
  (.need [(.bi .le (.un .len (.fn1 5 (.lit 3))) (.lit 100))] (.br (.un .not (.bi .eq (.fn1 3 (.lit 7)) (.lit 3)))
   (.ret [(.bl false)])
   (.br (.un .not (.bi .eq (.fn1 3 (.lit 13)) (.lit 2)))
    (.ret [(.bl false)])
    (.need [(.bi .le (.un .len (.fn1 5 (.lit 4))) (.lit 100)), (.fn2 4 (.fn1 5 (.lit 4)) (.bi .row (.bi .cons (.lit 1) (.bi .cons (.lit 3) .nil)) (.bi .row (.bi .cons (.lit 2) (.bi .cons (.lit 6) .nil)) (.bi .row (.bi .cons (.lit 4) (.bi .cons (.lit 5) .nil)) .nil))))] (.need [(.fn2 4 (.fn1 5 (.lit 3)) (.bi .row (.bi .cons (.lit 1) (.bi .cons (.lit 4) .nil)) (.bi .row (.bi .cons (.lit 2) (.bi .cons (.lit 3) .nil)) .nil)))] (.br (.fn2 0 (.lit 5) (.fn1 5 (.lit 3)))
     (.ret [(.bl false)])
     (.br (.un .not (.bi .eq (.un (.wrap .i64) (.bi .add (.un (.wrap .i64) (.bi .add (.un (.wrap .i64) (.bi .add (.un (.wrap .i64) (.bi .add (.fn1 4 (.lit 7)) (.fn1 4 (.lit 13)))) (.fn1 6 (.lit 4)))) (.fn1 6 (.lit 3)))) (.fn2 1 (.lit 5) (.fn1 5 (.lit 3))))) (.lit 0)))
      (.ret [(.bl false)])
      (.br (.un .not (.bi .eq (.un (.wrap .i64) (.bi .add (.fn2 2 (.lit 4) (.lit 1)) (.fn2 2 (.lit 2) (.lit 3)))) (.lit 0)))
       (.ret [(.bl false)])
       (.br (.un .not (.bi .eq (.fn2 2 (.lit 4) (.lit 8)) (.lit 5)))
        (.ret [(.bl false)])
        (.br (.un .not (.bi .eq (.un .len (.fn2 3 (.lit 4) (.lit 1))) (.lit 4)))
         (.ret [(.bl false)])
         (.br (.un .not (.bi .eq (.un .len (.fn2 3 (.lit 2) (.lit 3))) (.lit 6)))
          (.ret [(.bl false)])
          (.br (.un .not (.bi .eq (.fn2 8 (.lit 4) (.lit 1)) (.lit 1)))
           (.ret [(.bl false)])
           (.br (.un .not (.bi .eq (.fn2 8 (.lit 2) (.lit 3)) (.lit 2)))
            (.ret [(.bl false)])
            (.br (.un .not (.bi .eq (.fn2 9 (.lit 4) (.lit 1)) (.lit 1)))
             (.ret [(.bl false)])
             (.br (.un .not (.bi .eq (.fn2 7 (.lit 4) (.lit 1)) (.lit 7)))
              (.ret [(.bl false)])
              (.br (.un .not (.bi .eq (.fn2 6 (.lit 2) (.lit 3)) (.lit 3)))
               (.ret [(.bl false)])
               (.goto 67 [(.lit 0)]))))))))))))))))),
  (.br (.bi .lt (.var 0) (.lit 4))
   (.br (.bi .eq (.bi .mul (.var 0) (.lit 3)) (.lit 0))
    (.need [(.bi .lt (.var 0) (.un .len (.fn2 3 (.lit 4) (.lit 1)))), (.bi .lt (.var 0) (.un .len (.fn2 3 (.lit 4) (.lit 1))))] (.br (.un .not (.bi .and (.bi .eq (.te .get (.fn2 3 (.lit 4) (.lit 1)) (.var 0) (.lit 0)) (.lit 0)) (.bi .and (.bi .eq (.te .get (.fn2 3 (.lit 4) (.lit 1)) (.var 0) (.lit 1)) (.var 0)) (.bi .and (.bi .eq (.te .get (.fn2 3 (.lit 4) (.lit 1)) (.var 0) (.lit 2)) (.lit 8)) (.bi .and (.bi .eq (.te .get (.fn2 3 (.lit 4) (.lit 1)) (.var 0) (.lit 3)) (.lit 1)) (.bi .eq (.te .get (.fn2 3 (.lit 4) (.lit 1)) (.var 0) (.lit 4)) (.lit 0)))))))
     (.ret [(.bl false)])
     (.goto 67 [(.bi .add (.var 0) (.lit 1))])))
    (.br (.bi .eq (.bi .mul (.var 0) (.lit 3)) (.lit 3))
     (.need [(.bi .lt (.var 0) (.un .len (.fn2 3 (.lit 4) (.lit 1)))), (.bi .lt (.var 0) (.un .len (.fn2 3 (.lit 4) (.lit 1))))] (.br (.un .not (.bi .and (.bi .eq (.te .get (.fn2 3 (.lit 4) (.lit 1)) (.var 0) (.lit 0)) (.lit 0)) (.bi .and (.bi .eq (.te .get (.fn2 3 (.lit 4) (.lit 1)) (.var 0) (.lit 1)) (.var 0)) (.bi .and (.bi .eq (.te .get (.fn2 3 (.lit 4) (.lit 1)) (.var 0) (.lit 2)) (.lit 2)) (.bi .and (.bi .eq (.te .get (.fn2 3 (.lit 4) (.lit 1)) (.var 0) (.lit 3)) (.lit 4)) (.bi .eq (.te .get (.fn2 3 (.lit 4) (.lit 1)) (.var 0) (.lit 4)) (.lit 4)))))))
      (.ret [(.bl false)])
      (.goto 67 [(.bi .add (.var 0) (.lit 1))])))
     (.br (.bi .eq (.bi .mul (.var 0) (.lit 3)) (.lit 6))
      (.need [(.bi .lt (.var 0) (.un .len (.fn2 3 (.lit 4) (.lit 1)))), (.bi .lt (.var 0) (.un .len (.fn2 3 (.lit 4) (.lit 1))))] (.br (.un .not (.bi .and (.bi .eq (.te .get (.fn2 3 (.lit 4) (.lit 1)) (.var 0) (.lit 0)) (.lit 0)) (.bi .and (.bi .eq (.te .get (.fn2 3 (.lit 4) (.lit 1)) (.var 0) (.lit 1)) (.var 0)) (.bi .and (.bi .eq (.te .get (.fn2 3 (.lit 4) (.lit 1)) (.var 0) (.lit 2)) (.lit 3)) (.bi .and (.bi .eq (.te .get (.fn2 3 (.lit 4) (.lit 1)) (.var 0) (.lit 3)) (.lit 7)) (.bi .eq (.te .get (.fn2 3 (.lit 4) (.lit 1)) (.var 0) (.lit 4)) (.lit 1)))))))
       (.ret [(.bl false)])
       (.goto 67 [(.bi .add (.var 0) (.lit 1))])))
      (.br (.bi .eq (.bi .mul (.var 0) (.lit 3)) (.lit 9))
       (.need [(.bi .lt (.var 0) (.un .len (.fn2 3 (.lit 4) (.lit 1)))), (.bi .lt (.var 0) (.un .len (.fn2 3 (.lit 4) (.lit 1))))] (.br (.un .not (.bi .and (.bi .eq (.te .get (.fn2 3 (.lit 4) (.lit 1)) (.var 0) (.lit 0)) (.lit 0)) (.bi .and (.bi .eq (.te .get (.fn2 3 (.lit 4) (.lit 1)) (.var 0) (.lit 1)) (.var 0)) (.bi .and (.bi .eq (.te .get (.fn2 3 (.lit 4) (.lit 1)) (.var 0) (.lit 2)) (.lit 5)) (.bi .and (.bi .eq (.te .get (.fn2 3 (.lit 4) (.lit 1)) (.var 0) (.lit 3)) (.lit 6)) (.bi .eq (.te .get (.fn2 3 (.lit 4) (.lit 1)) (.var 0) (.lit 4)) (.lit 2)))))))
        (.ret [(.bl false)])
        (.goto 67 [(.bi .add (.var 0) (.lit 1))])))
       (.bad 4)))))
   (.goto 68 [(.lit 0)])),
  (.br (.bi .lt (.var 0) (.lit 6))
   (.br (.bi .eq (.bi .mul (.var 0) (.lit 2)) (.lit 0))
    (.need [(.bi .lt (.var 0) (.un .len (.fn2 3 (.lit 2) (.lit 3)))), (.bi .lt (.var 0) (.un .len (.fn2 3 (.lit 2) (.lit 3))))] (.br (.un .not (.bi .and (.bi .eq (.te .get (.fn2 3 (.lit 2) (.lit 3)) (.var 0) (.lit 0)) (.bi .quo (.var 0) (.lit 2))) (.bi .and (.bi .eq (.te .get (.fn2 3 (.lit 2) (.lit 3)) (.var 0) (.lit 1)) (.bi .rem (.var 0) (.lit 2))) (.bi .and (.bi .eq (.te .get (.fn2 3 (.lit 2) (.lit 3)) (.var 0) (.lit 2)) (.lit 4)) (.bi .and (.bi .eq (.te .get (.fn2 3 (.lit 2) (.lit 3)) (.var 0) (.lit 3)) (.lit 1)) (.bi .eq (.te .get (.fn2 3 (.lit 2) (.lit 3)) (.var 0) (.lit 4)) (.bi .quo (.var 0) (.lit 2))))))))
     (.ret [(.bl false)])
     (.goto 68 [(.bi .add (.var 0) (.lit 1))])))
    (.br (.bi .eq (.bi .mul (.var 0) (.lit 2)) (.lit 2))
     (.need [(.bi .lt (.var 0) (.un .len (.fn2 3 (.lit 2) (.lit 3)))), (.bi .lt (.var 0) (.un .len (.fn2 3 (.lit 2) (.lit 3))))] (.br (.un .not (.bi .and (.bi .eq (.te .get (.fn2 3 (.lit 2) (.lit 3)) (.var 0) (.lit 0)) (.bi .quo (.var 0) (.lit 2))) (.bi .and (.bi .eq (.te .get (.fn2 3 (.lit 2) (.lit 3)) (.var 0) (.lit 1)) (.bi .rem (.var 0) (.lit 2))) (.bi .and (.bi .eq (.te .get (.fn2 3 (.lit 2) (.lit 3)) (.var 0) (.lit 2)) (.lit 2)) (.bi .and (.bi .eq (.te .get (.fn2 3 (.lit 2) (.lit 3)) (.var 0) (.lit 3)) (.lit 3)) (.bi .eq (.te .get (.fn2 3 (.lit 2) (.lit 3)) (.var 0) (.lit 4)) (.bi .quo (.var 0) (.lit 2))))))))
      (.ret [(.bl false)])
      (.goto 68 [(.bi .add (.var 0) (.lit 1))])))
     (.br (.bi .eq (.bi .mul (.var 0) (.lit 2)) (.lit 4))
      (.need [(.bi .lt (.var 0) (.un .len (.fn2 3 (.lit 2) (.lit 3)))), (.bi .lt (.var 0) (.un .len (.fn2 3 (.lit 2) (.lit 3))))] (.br (.un .not (.bi .and (.bi .eq (.te .get (.fn2 3 (.lit 2) (.lit 3)) (.var 0) (.lit 0)) (.bi .quo (.var 0) (.lit 2))) (.bi .and (.bi .eq (.te .get (.fn2 3 (.lit 2) (.lit 3)) (.var 0) (.lit 1)) (.bi .rem (.var 0) (.lit 2))) (.bi .and (.bi .eq (.te .get (.fn2 3 (.lit 2) (.lit 3)) (.var 0) (.lit 2)) (.lit 4)) (.bi .and (.bi .eq (.te .get (.fn2 3 (.lit 2) (.lit 3)) (.var 0) (.lit 3)) (.lit 2)) (.bi .eq (.te .get (.fn2 3 (.lit 2) (.lit 3)) (.var 0) (.lit 4)) (.bi .quo (.var 0) (.lit 2))))))))
       (.ret [(.bl false)])
       (.goto 68 [(.bi .add (.var 0) (.lit 1))])))
      (.br (.bi .eq (.bi .mul (.var 0) (.lit 2)) (.lit 6))
       (.need [(.bi .lt (.var 0) (.un .len (.fn2 3 (.lit 2) (.lit 3)))), (.bi .lt (.var 0) (.un .len (.fn2 3 (.lit 2) (.lit 3))))] (.br (.un .not (.bi .and (.bi .eq (.te .get (.fn2 3 (.lit 2) (.lit 3)) (.var 0) (.lit 0)) (.bi .quo (.var 0) (.lit 2))) (.bi .and (.bi .eq (.te .get (.fn2 3 (.lit 2) (.lit 3)) (.var 0) (.lit 1)) (.bi .rem (.var 0) (.lit 2))) (.bi .and (.bi .eq (.te .get (.fn2 3 (.lit 2) (.lit 3)) (.var 0) (.lit 2)) (.lit 3)) (.bi .and (.bi .eq (.te .get (.fn2 3 (.lit 2) (.lit 3)) (.var 0) (.lit 3)) (.lit 1)) (.bi .eq (.te .get (.fn2 3 (.lit 2) (.lit 3)) (.var 0) (.lit 4)) (.bi .quo (.var 0) (.lit 2))))))))
        (.ret [(.bl false)])
        (.goto 68 [(.bi .add (.var 0) (.lit 1))])))
       (.br (.bi .eq (.bi .mul (.var 0) (.lit 2)) (.lit 8))
        (.need [(.bi .lt (.var 0) (.un .len (.fn2 3 (.lit 2) (.lit 3)))), (.bi .lt (.var 0) (.un .len (.fn2 3 (.lit 2) (.lit 3))))] (.br (.un .not (.bi .and (.bi .eq (.te .get (.fn2 3 (.lit 2) (.lit 3)) (.var 0) (.lit 0)) (.bi .quo (.var 0) (.lit 2))) (.bi .and (.bi .eq (.te .get (.fn2 3 (.lit 2) (.lit 3)) (.var 0) (.lit 1)) (.bi .rem (.var 0) (.lit 2))) (.bi .and (.bi .eq (.te .get (.fn2 3 (.lit 2) (.lit 3)) (.var 0) (.lit 2)) (.lit 4)) (.bi .and (.bi .eq (.te .get (.fn2 3 (.lit 2) (.lit 3)) (.var 0) (.lit 3)) (.lit 3)) (.bi .eq (.te .get (.fn2 3 (.lit 2) (.lit 3)) (.var 0) (.lit 4)) (.bi .quo (.var 0) (.lit 2))))))))
         (.ret [(.bl false)])
         (.goto 68 [(.bi .add (.var 0) (.lit 1))])))
        (.br (.bi .eq (.bi .mul (.var 0) (.lit 2)) (.lit 10))
         (.need [(.bi .lt (.var 0) (.un .len (.fn2 3 (.lit 2) (.lit 3)))), (.bi .lt (.var 0) (.un .len (.fn2 3 (.lit 2) (.lit 3))))] (.br (.un .not (.bi .and (.bi .eq (.te .get (.fn2 3 (.lit 2) (.lit 3)) (.var 0) (.lit 0)) (.bi .quo (.var 0) (.lit 2))) (.bi .and (.bi .eq (.te .get (.fn2 3 (.lit 2) (.lit 3)) (.var 0) (.lit 1)) (.bi .rem (.var 0) (.lit 2))) (.bi .and (.bi .eq (.te .get (.fn2 3 (.lit 2) (.lit 3)) (.var 0) (.lit 2)) (.lit 1)) (.bi .and (.bi .eq (.te .get (.fn2 3 (.lit 2) (.lit 3)) (.var 0) (.lit 3)) (.lit 2)) (.bi .eq (.te .get (.fn2 3 (.lit 2) (.lit 3)) (.var 0) (.lit 4)) (.bi .quo (.var 0) (.lit 2))))))))
          (.ret [(.bl false)])
          (.goto 68 [(.bi .add (.var 0) (.lit 1))])))
         (.bad 4)))))))
   (.ret [(.bl true)]))]
noncomputable def cxA (ctrs : List Ctr) (fs : List Nat) : Ctx := { cx ctrs fs with heads := (cx ctrs fs).heads ++ [(10, [9, 1, 1])] }

theorem chunk {α β : Type} {f : α → β} {l : List α} {s : List β} {i : Nat} (a : Nat) (h : ((l.drop i).take a).map f = (s.drop i).take a) (h2 : (l.drop (i + a)).map f = s.drop (i + a)) : (l.drop i).map f = s.drop i := by
  rw [← List.take_append_drop a (l.drop i), List.map_append, h, List.drop_drop, h2, ← List.drop_drop, List.take_append_drop]

set_option maxRecDepth 100000 in
theorem sKAw_0 : ((tmsKAw.drop 0).take 3).map (summaryF (cxA [cPrimeT, cRoot, cStart, cCheck, cKEq2, cMake] [10]) 6000 0 tmsKAw cKAw.rt) = (ssKAw.drop 0).take 3 := by kernel_rfl
set_option maxRecDepth 100000 in
theorem sKAw_3 : ((tmsKAw.drop 3).take 3).map (summaryF (cxA [cPrimeT, cRoot, cStart, cCheck, cKEq2, cMake] [10]) 6000 0 tmsKAw cKAw.rt) = (ssKAw.drop 3).take 3 := by kernel_rfl
set_option maxRecDepth 100000 in
theorem sKAw_6 : ((tmsKAw.drop 6).take 3).map (summaryF (cxA [cPrimeT, cRoot, cStart, cCheck, cKEq2, cMake] [10]) 6000 0 tmsKAw cKAw.rt) = (ssKAw.drop 6).take 3 := by kernel_rfl
set_option maxRecDepth 100000 in
theorem sKAw_9 : ((tmsKAw.drop 9).take 3).map (summaryF (cxA [cPrimeT, cRoot, cStart, cCheck, cKEq2, cMake] [10]) 6000 0 tmsKAw cKAw.rt) = (ssKAw.drop 9).take 3 := by kernel_rfl
set_option maxRecDepth 100000 in
theorem sKAw_12 : ((tmsKAw.drop 12).take 3).map (summaryF (cxA [cPrimeT, cRoot, cStart, cCheck, cKEq2, cMake] [10]) 6000 0 tmsKAw cKAw.rt) = (ssKAw.drop 12).take 3 := by kernel_rfl
set_option maxRecDepth 100000 in
theorem sKAw_15 : ((tmsKAw.drop 15).take 3).map (summaryF (cxA [cPrimeT, cRoot, cStart, cCheck, cKEq2, cMake] [10]) 6000 0 tmsKAw cKAw.rt) = (ssKAw.drop 15).take 3 := by kernel_rfl
set_option maxRecDepth 100000 in
theorem sKAw_18 : ((tmsKAw.drop 18).take 3).map (summaryF (cxA [cPrimeT, cRoot, cStart, cCheck, cKEq2, cMake] [10]) 6000 0 tmsKAw cKAw.rt) = (ssKAw.drop 18).take 3 := by kernel_rfl
set_option maxRecDepth 100000 in
theorem sKAw_21 : ((tmsKAw.drop 21).take 3).map (summaryF (cxA [cPrimeT, cRoot, cStart, cCheck, cKEq2, cMake] [10]) 6000 0 tmsKAw cKAw.rt) = (ssKAw.drop 21).take 3 := by kernel_rfl
set_option maxRecDepth 100000 in
theorem sKAw_24 : ((tmsKAw.drop 24).take 3).map (summaryF (cxA [cPrimeT, cRoot, cStart, cCheck, cKEq2, cMake] [10]) 6000 0 tmsKAw cKAw.rt) = (ssKAw.drop 24).take 3 := by kernel_rfl
set_option maxRecDepth 100000 in
theorem sKAw_27 : ((tmsKAw.drop 27).take 3).map (summaryF (cxA [cPrimeT, cRoot, cStart, cCheck, cKEq2, cMake] [10]) 6000 0 tmsKAw cKAw.rt) = (ssKAw.drop 27).take 3 := by kernel_rfl
set_option maxRecDepth 100000 in
theorem sKAw_30 : ((tmsKAw.drop 30).take 3).map (summaryF (cxA [cPrimeT, cRoot, cStart, cCheck, cKEq2, cMake] [10]) 6000 0 tmsKAw cKAw.rt) = (ssKAw.drop 30).take 3 := by kernel_rfl
set_option maxRecDepth 100000 in
theorem sKAw_33 : ((tmsKAw.drop 33).take 3).map (summaryF (cxA [cPrimeT, cRoot, cStart, cCheck, cKEq2, cMake] [10]) 6000 0 tmsKAw cKAw.rt) = (ssKAw.drop 33).take 3 := by kernel_rfl
set_option maxRecDepth 100000 in
theorem sKAw_36 : ((tmsKAw.drop 36).take 3).map (summaryF (cxA [cPrimeT, cRoot, cStart, cCheck, cKEq2, cMake] [10]) 6000 0 tmsKAw cKAw.rt) = (ssKAw.drop 36).take 3 := by kernel_rfl
set_option maxRecDepth 100000 in
theorem sKAw_39 : ((tmsKAw.drop 39).take 3).map (summaryF (cxA [cPrimeT, cRoot, cStart, cCheck, cKEq2, cMake] [10]) 6000 0 tmsKAw cKAw.rt) = (ssKAw.drop 39).take 3 := by kernel_rfl
set_option maxRecDepth 100000 in
theorem sKAw_42 : ((tmsKAw.drop 42).take 12).map (summaryF (cxA [cPrimeT, cRoot, cStart, cCheck, cKEq2, cMake] [10]) 6000 0 tmsKAw cKAw.rt) = (ssKAw.drop 42).take 12 := by kernel_rfl
set_option maxRecDepth 100000 in
theorem sKAw_54 : ((tmsKAw.drop 54).take 12).map (summaryF (cxA [cPrimeT, cRoot, cStart, cCheck, cKEq2, cMake] [10]) 6000 0 tmsKAw cKAw.rt) = (ssKAw.drop 54).take 12 := by kernel_rfl
set_option maxRecDepth 100000 in
theorem sKAw_66 : ((tmsKAw.drop 66).take 1).map (summaryF (cxA [cPrimeT, cRoot, cStart, cCheck, cKEq2, cMake] [10]) 6000 0 tmsKAw cKAw.rt) = (ssKAw.drop 66).take 1 := by kernel_rfl
set_option maxRecDepth 100000 in
theorem sKAw_67 : ((tmsKAw.drop 67).take 2).map (summaryF (cxA [cPrimeT, cRoot, cStart, cCheck, cKEq2, cMake] [10]) 6000 0 tmsKAw cKAw.rt) = (ssKAw.drop 67).take 2 := by kernel_rfl
theorem sKAw : tmsKAw.map (summaryF (cxA [cPrimeT, cRoot, cStart, cCheck, cKEq2, cMake] [10]) 6000 0 tmsKAw cKAw.rt) = ssKAw :=
  chunk (i := 0) 3 sKAw_0 (chunk (i := 3) 3 sKAw_3 (chunk (i := 6) 3 sKAw_6 (chunk (i := 9) 3 sKAw_9 (chunk (i := 12) 3 sKAw_12 (chunk (i := 15) 3 sKAw_15 (chunk (i := 18) 3 sKAw_18 (chunk (i := 21) 3 sKAw_21 (chunk (i := 24) 3 sKAw_24 (chunk (i := 27) 3 sKAw_27 (chunk (i := 30) 3 sKAw_30 (chunk (i := 33) 3 sKAw_33 (chunk (i := 36) 3 sKAw_36 (chunk (i := 39) 3 sKAw_39 (chunk (i := 42) 12 sKAw_42 (chunk (i := 54) 12 sKAw_54 (chunk (i := 66) 1 sKAw_66 (chunk (i := 67) 2 sKAw_67 (by kernel_rfl))))))))))))))))))

end Go.Proofs.Ytohelfcinfpmaaa
