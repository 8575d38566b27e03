/- Chapter 26: a summary, as the kernel reckons it. -/
import Derived.Test.YtohelfcinfpmaaaC26S
namespace Go.Proofs.Ytohelfcinfpmaaa
open Go Go.Sx Go.Proofs.C26

noncomputable def tmsRoot : List Tm := [entryTm Try.prog cRoot,
  ⟨⟨⟨18, tl 30 [(0, (.int .i64 (.var 0))), (4, (.int .i64 (.lit 2)))], [.at [0, 0, 1, 1, 1], .lp [0, 1, 1, 1], .blk 0], [], none⟩, [], []⟩, 1, [(.fn1 0 (.var 0)), (.bi .le (.var 0) (.lit 1000)), (.bi .le (.lit 3) (.var 0))]⟩,
  ⟨⟨⟨37, tl 20 [(0, (.yld 0)), (1, (.ptr 3 (.lit 0) (.lit 0))), (2, (.ptr 4 (.lit 0) (.lit 0))), (4, (.int .i64 (.var 2))), (5, (.bool (.var 3)))], [.at [0, 0, 1], .lp [0, 1], .blk 0], [], none⟩, [⟨18, tl 30 [(0, (.int .i64 (.var 0))), (4, (.int .i64 (.lit 2))), (5, (.ptr 2 (.lit 0) (.lit 0))), (19, (.int .i64 (.lit 2))), (20, (.int .i64 (.var 0))), (21, (.func 37 [(.ptr 3 (.lit 0) (.lit 0)), (.ptr 4 (.lit 0) (.lit 0))]))], [.rfn 0, .blk 2, .at [1, 1, 0, 0, 0, 0, 1, 1, 1], .blk 1, .at [1, 0, 0, 1, 1, 1], .lp [0, 1, 1, 1], .blk 0], [1], none⟩], [(.loop ⟨18, tl 30 [(0, (.int .i64 (.var 0))), (4, (.int .i64 (.lit 2))), (5, (.ptr 2 (.lit 0) (.lit 0))), (19, (.int .i64 (.lit 2))), (20, (.int .i64 (.var 0))), (21, (.func 37 [(.ptr 3 (.lit 0) (.lit 0)), (.ptr 4 (.lit 0) (.lit 0))]))], [0, 1, 0, 1, 0, 0, 0, 0, 1, 1, 1], .ready, none, 1⟩), .defd, (.cells false [(.int .i64 (.var 1))]), (.cells false [(.int .i64 (.lit 2))]), (.cells false [(.int .i64 (.var 0))])]⟩, 4, [(.fn1 0 (.var 0)), (.bi .le (.var 0) (.lit 1000)), (.bi .le (.lit 3) (.var 0))]⟩,
  ⟨⟨⟨18, tl 30 [(0, (.int .i64 (.var 0))), (4, (.int .i64 (.lit 3)))], [.at [0, 0, 1, 1, 1], .lp [0, 1, 1, 1], .blk 0], [0], none⟩, [], [.defd]⟩, 1, [(.fn1 0 (.var 0)), (.bi .le (.var 0) (.lit 1000)), (.bi .le (.lit 3) (.var 0))]⟩,
  ⟨⟨⟨37, tl 20 [(0, (.yld 0)), (1, (.ptr 3 (.lit 0) (.lit 0))), (2, (.ptr 4 (.lit 0) (.lit 0))), (4, (.int .i64 (.var 2))), (5, (.bool (.var 3)))], [.at [0, 0, 1], .lp [0, 1], .blk 0], [], none⟩, [⟨18, tl 30 [(0, (.int .i64 (.var 0))), (4, (.int .i64 (.lit 3))), (5, (.ptr 2 (.lit 0) (.lit 0))), (19, (.int .i64 (.lit 3))), (20, (.int .i64 (.var 0))), (21, (.func 37 [(.ptr 3 (.lit 0) (.lit 0)), (.ptr 4 (.lit 0) (.lit 0))]))], [.rfn 0, .blk 2, .at [1, 1, 0, 0, 0, 0, 1, 1, 1], .blk 1, .at [1, 0, 0, 1, 1, 1], .lp [0, 1, 1, 1], .blk 0], [1, 5], none⟩], [(.loop ⟨18, tl 30 [(0, (.int .i64 (.var 0))), (4, (.int .i64 (.lit 3))), (5, (.ptr 2 (.lit 0) (.lit 0))), (19, (.int .i64 (.lit 3))), (20, (.int .i64 (.var 0))), (21, (.func 37 [(.ptr 3 (.lit 0) (.lit 0)), (.ptr 4 (.lit 0) (.lit 0))]))], [0, 1, 0, 1, 0, 0, 0, 0, 1, 1, 1], .ready, none, 1⟩), .defd, (.cells false [(.int .i64 (.var 1))]), (.cells false [(.int .i64 (.lit 3))]), (.cells false [(.int .i64 (.var 0))]), .defd]⟩, 4, [(.fn1 0 (.var 0)), (.bi .le (.var 0) (.lit 1000)), (.bi .le (.lit 3) (.var 0))]⟩,
  ⟨⟨⟨18, tl 30 [(0, (.int .i64 (.var 0))), (4, (.int .i64 (.lit 4)))], [.at [0, 0, 1, 1, 1], .lp [0, 1, 1, 1], .blk 0], [0, 1], none⟩, [], [.defd, .defd]⟩, 1, [(.fn1 0 (.var 0)), (.bi .le (.var 0) (.lit 1000)), (.bi .le (.lit 3) (.var 0))]⟩,
  ⟨⟨⟨37, tl 20 [(0, (.yld 0)), (1, (.ptr 3 (.lit 0) (.lit 0))), (2, (.ptr 4 (.lit 0) (.lit 0))), (4, (.int .i64 (.var 2))), (5, (.bool (.var 3)))], [.at [0, 0, 1], .lp [0, 1], .blk 0], [], none⟩, [⟨18, tl 30 [(0, (.int .i64 (.var 0))), (4, (.int .i64 (.lit 4))), (5, (.ptr 2 (.lit 0) (.lit 0))), (19, (.int .i64 (.lit 4))), (20, (.int .i64 (.var 0))), (21, (.func 37 [(.ptr 3 (.lit 0) (.lit 0)), (.ptr 4 (.lit 0) (.lit 0))]))], [.rfn 0, .blk 2, .at [1, 1, 0, 0, 0, 0, 1, 1, 1], .blk 1, .at [1, 0, 0, 1, 1, 1], .lp [0, 1, 1, 1], .blk 0], [1, 5, 6], none⟩], [(.loop ⟨18, tl 30 [(0, (.int .i64 (.var 0))), (4, (.int .i64 (.lit 4))), (5, (.ptr 2 (.lit 0) (.lit 0))), (19, (.int .i64 (.lit 4))), (20, (.int .i64 (.var 0))), (21, (.func 37 [(.ptr 3 (.lit 0) (.lit 0)), (.ptr 4 (.lit 0) (.lit 0))]))], [0, 1, 0, 1, 0, 0, 0, 0, 1, 1, 1], .ready, none, 1⟩), .defd, (.cells false [(.int .i64 (.var 1))]), (.cells false [(.int .i64 (.lit 4))]), (.cells false [(.int .i64 (.var 0))]), .defd, .defd]⟩, 4, [(.fn1 0 (.var 0)), (.bi .le (.var 0) (.lit 1000)), (.bi .le (.lit 3) (.var 0))]⟩,
  ⟨⟨⟨18, tl 30 [(0, (.int .i64 (.var 0))), (4, (.int .i64 (.lit 5)))], [.at [0, 0, 1, 1, 1], .lp [0, 1, 1, 1], .blk 0], [0, 1, 2], none⟩, [], [.defd, .defd, .defd]⟩, 1, [(.fn1 0 (.var 0)), (.bi .le (.var 0) (.lit 1000)), (.bi .le (.lit 3) (.var 0))]⟩,
  ⟨⟨⟨37, tl 20 [(0, (.yld 0)), (1, (.ptr 3 (.lit 0) (.lit 0))), (2, (.ptr 4 (.lit 0) (.lit 0))), (4, (.int .i64 (.var 2))), (5, (.bool (.var 3)))], [.at [0, 0, 1], .lp [0, 1], .blk 0], [], none⟩, [⟨18, tl 30 [(0, (.int .i64 (.var 0))), (4, (.int .i64 (.lit 5))), (5, (.ptr 2 (.lit 0) (.lit 0))), (19, (.int .i64 (.lit 5))), (20, (.int .i64 (.var 0))), (21, (.func 37 [(.ptr 3 (.lit 0) (.lit 0)), (.ptr 4 (.lit 0) (.lit 0))]))], [.rfn 0, .blk 2, .at [1, 1, 0, 0, 0, 0, 1, 1, 1], .blk 1, .at [1, 0, 0, 1, 1, 1], .lp [0, 1, 1, 1], .blk 0], [1, 5, 6, 7], none⟩], [(.loop ⟨18, tl 30 [(0, (.int .i64 (.var 0))), (4, (.int .i64 (.lit 5))), (5, (.ptr 2 (.lit 0) (.lit 0))), (19, (.int .i64 (.lit 5))), (20, (.int .i64 (.var 0))), (21, (.func 37 [(.ptr 3 (.lit 0) (.lit 0)), (.ptr 4 (.lit 0) (.lit 0))]))], [0, 1, 0, 1, 0, 0, 0, 0, 1, 1, 1], .ready, none, 1⟩), .defd, (.cells false [(.int .i64 (.var 1))]), (.cells false [(.int .i64 (.lit 5))]), (.cells false [(.int .i64 (.var 0))]), .defd, .defd, .defd]⟩, 4, [(.fn1 0 (.var 0)), (.bi .le (.var 0) (.lit 1000)), (.bi .le (.lit 3) (.var 0))]⟩,
  ⟨⟨⟨18, tl 30 [(0, (.int .i64 (.var 0))), (4, (.int .i64 (.lit 6)))], [.at [0, 0, 1, 1, 1], .lp [0, 1, 1, 1], .blk 0], [0, 1, 2, 3], none⟩, [], [.defd, .defd, .defd, .defd]⟩, 1, [(.fn1 0 (.var 0)), (.bi .le (.var 0) (.lit 1000)), (.bi .le (.lit 3) (.var 0))]⟩,
  ⟨⟨⟨37, tl 20 [(0, (.yld 0)), (1, (.ptr 3 (.lit 0) (.lit 0))), (2, (.ptr 4 (.lit 0) (.lit 0))), (4, (.int .i64 (.var 2))), (5, (.bool (.var 3)))], [.at [0, 0, 1], .lp [0, 1], .blk 0], [], none⟩, [⟨18, tl 30 [(0, (.int .i64 (.var 0))), (4, (.int .i64 (.lit 6))), (5, (.ptr 2 (.lit 0) (.lit 0))), (19, (.int .i64 (.lit 6))), (20, (.int .i64 (.var 0))), (21, (.func 37 [(.ptr 3 (.lit 0) (.lit 0)), (.ptr 4 (.lit 0) (.lit 0))]))], [.rfn 0, .blk 2, .at [1, 1, 0, 0, 0, 0, 1, 1, 1], .blk 1, .at [1, 0, 0, 1, 1, 1], .lp [0, 1, 1, 1], .blk 0], [1, 5, 6, 7, 8], none⟩], [(.loop ⟨18, tl 30 [(0, (.int .i64 (.var 0))), (4, (.int .i64 (.lit 6))), (5, (.ptr 2 (.lit 0) (.lit 0))), (19, (.int .i64 (.lit 6))), (20, (.int .i64 (.var 0))), (21, (.func 37 [(.ptr 3 (.lit 0) (.lit 0)), (.ptr 4 (.lit 0) (.lit 0))]))], [0, 1, 0, 1, 0, 0, 0, 0, 1, 1, 1], .ready, none, 1⟩), .defd, (.cells false [(.int .i64 (.var 1))]), (.cells false [(.int .i64 (.lit 6))]), (.cells false [(.int .i64 (.var 0))]), .defd, .defd, .defd, .defd]⟩, 4, [(.fn1 0 (.var 0)), (.bi .le (.var 0) (.lit 1000)), (.bi .le (.lit 3) (.var 0))]⟩,
  ⟨⟨⟨18, tl 30 [(0, (.int .i64 (.var 0))), (4, (.int .i64 (.lit 7)))], [.at [0, 0, 1, 1, 1], .lp [0, 1, 1, 1], .blk 0], [0, 1, 2, 3, 4], none⟩, [], [.defd, .defd, .defd, .defd, .defd]⟩, 1, [(.fn1 0 (.var 0)), (.bi .le (.var 0) (.lit 1000)), (.bi .le (.lit 3) (.var 0))]⟩,
  ⟨⟨⟨37, tl 20 [(0, (.yld 0)), (1, (.ptr 3 (.lit 0) (.lit 0))), (2, (.ptr 4 (.lit 0) (.lit 0))), (4, (.int .i64 (.var 2))), (5, (.bool (.var 3)))], [.at [0, 0, 1], .lp [0, 1], .blk 0], [], none⟩, [⟨18, tl 30 [(0, (.int .i64 (.var 0))), (4, (.int .i64 (.lit 7))), (5, (.ptr 2 (.lit 0) (.lit 0))), (19, (.int .i64 (.lit 7))), (20, (.int .i64 (.var 0))), (21, (.func 37 [(.ptr 3 (.lit 0) (.lit 0)), (.ptr 4 (.lit 0) (.lit 0))]))], [.rfn 0, .blk 2, .at [1, 1, 0, 0, 0, 0, 1, 1, 1], .blk 1, .at [1, 0, 0, 1, 1, 1], .lp [0, 1, 1, 1], .blk 0], [1, 5, 6, 7, 8, 9], none⟩], [(.loop ⟨18, tl 30 [(0, (.int .i64 (.var 0))), (4, (.int .i64 (.lit 7))), (5, (.ptr 2 (.lit 0) (.lit 0))), (19, (.int .i64 (.lit 7))), (20, (.int .i64 (.var 0))), (21, (.func 37 [(.ptr 3 (.lit 0) (.lit 0)), (.ptr 4 (.lit 0) (.lit 0))]))], [0, 1, 0, 1, 0, 0, 0, 0, 1, 1, 1], .ready, none, 1⟩), .defd, (.cells false [(.int .i64 (.var 1))]), (.cells false [(.int .i64 (.lit 7))]), (.cells false [(.int .i64 (.var 0))]), .defd, .defd, .defd, .defd, .defd]⟩, 4, [(.fn1 0 (.var 0)), (.bi .le (.var 0) (.lit 1000)), (.bi .le (.lit 3) (.var 0))]⟩,
  ⟨⟨⟨18, tl 30 [(0, (.int .i64 (.var 0))), (4, (.int .i64 (.lit 8)))], [.at [0, 0, 1, 1, 1], .lp [0, 1, 1, 1], .blk 0], [0, 1, 2, 3, 4, 5], none⟩, [], [.defd, .defd, .defd, .defd, .defd, .defd]⟩, 1, [(.fn1 0 (.var 0)), (.bi .le (.var 0) (.lit 1000)), (.bi .le (.lit 3) (.var 0))]⟩,
  ⟨⟨⟨37, tl 20 [(0, (.yld 0)), (1, (.ptr 3 (.lit 0) (.lit 0))), (2, (.ptr 4 (.lit 0) (.lit 0))), (4, (.int .i64 (.var 2))), (5, (.bool (.var 3)))], [.at [0, 0, 1], .lp [0, 1], .blk 0], [], none⟩, [⟨18, tl 30 [(0, (.int .i64 (.var 0))), (4, (.int .i64 (.lit 8))), (5, (.ptr 2 (.lit 0) (.lit 0))), (19, (.int .i64 (.lit 8))), (20, (.int .i64 (.var 0))), (21, (.func 37 [(.ptr 3 (.lit 0) (.lit 0)), (.ptr 4 (.lit 0) (.lit 0))]))], [.rfn 0, .blk 2, .at [1, 1, 0, 0, 0, 0, 1, 1, 1], .blk 1, .at [1, 0, 0, 1, 1, 1], .lp [0, 1, 1, 1], .blk 0], [1, 5, 6, 7, 8, 9, 10], none⟩], [(.loop ⟨18, tl 30 [(0, (.int .i64 (.var 0))), (4, (.int .i64 (.lit 8))), (5, (.ptr 2 (.lit 0) (.lit 0))), (19, (.int .i64 (.lit 8))), (20, (.int .i64 (.var 0))), (21, (.func 37 [(.ptr 3 (.lit 0) (.lit 0)), (.ptr 4 (.lit 0) (.lit 0))]))], [0, 1, 0, 1, 0, 0, 0, 0, 1, 1, 1], .ready, none, 1⟩), .defd, (.cells false [(.int .i64 (.var 1))]), (.cells false [(.int .i64 (.lit 8))]), (.cells false [(.int .i64 (.var 0))]), .defd, .defd, .defd, .defd, .defd, .defd]⟩, 4, [(.fn1 0 (.var 0)), (.bi .le (.var 0) (.lit 1000)), (.bi .le (.lit 3) (.var 0))]⟩,
  ⟨⟨⟨18, tl 30 [(0, (.int .i64 (.var 0))), (4, (.int .i64 (.lit 9)))], [.at [0, 0, 1, 1, 1], .lp [0, 1, 1, 1], .blk 0], [0, 1, 2, 3, 4, 5, 6], none⟩, [], [.defd, .defd, .defd, .defd, .defd, .defd, .defd]⟩, 1, [(.fn1 0 (.var 0)), (.bi .le (.var 0) (.lit 1000)), (.bi .le (.lit 3) (.var 0))]⟩,
  ⟨⟨⟨37, tl 20 [(0, (.yld 0)), (1, (.ptr 3 (.lit 0) (.lit 0))), (2, (.ptr 4 (.lit 0) (.lit 0))), (4, (.int .i64 (.var 2))), (5, (.bool (.var 3)))], [.at [0, 0, 1], .lp [0, 1], .blk 0], [], none⟩, [⟨18, tl 30 [(0, (.int .i64 (.var 0))), (4, (.int .i64 (.lit 9))), (5, (.ptr 2 (.lit 0) (.lit 0))), (19, (.int .i64 (.lit 9))), (20, (.int .i64 (.var 0))), (21, (.func 37 [(.ptr 3 (.lit 0) (.lit 0)), (.ptr 4 (.lit 0) (.lit 0))]))], [.rfn 0, .blk 2, .at [1, 1, 0, 0, 0, 0, 1, 1, 1], .blk 1, .at [1, 0, 0, 1, 1, 1], .lp [0, 1, 1, 1], .blk 0], [1, 5, 6, 7, 8, 9, 10, 11], none⟩], [(.loop ⟨18, tl 30 [(0, (.int .i64 (.var 0))), (4, (.int .i64 (.lit 9))), (5, (.ptr 2 (.lit 0) (.lit 0))), (19, (.int .i64 (.lit 9))), (20, (.int .i64 (.var 0))), (21, (.func 37 [(.ptr 3 (.lit 0) (.lit 0)), (.ptr 4 (.lit 0) (.lit 0))]))], [0, 1, 0, 1, 0, 0, 0, 0, 1, 1, 1], .ready, none, 1⟩), .defd, (.cells false [(.int .i64 (.var 1))]), (.cells false [(.int .i64 (.lit 9))]), (.cells false [(.int .i64 (.var 0))]), .defd, .defd, .defd, .defd, .defd, .defd, .defd]⟩, 4, [(.fn1 0 (.var 0)), (.bi .le (.var 0) (.lit 1000)), (.bi .le (.lit 3) (.var 0))]⟩,
  ⟨⟨⟨18, tl 30 [(0, (.int .i64 (.var 0))), (4, (.int .i64 (.lit 10)))], [.at [0, 0, 1, 1, 1], .lp [0, 1, 1, 1], .blk 0], [0, 1, 2, 3, 4, 5, 6, 7], none⟩, [], [.defd, .defd, .defd, .defd, .defd, .defd, .defd, .defd]⟩, 1, [(.fn1 0 (.var 0)), (.bi .le (.var 0) (.lit 1000)), (.bi .le (.lit 3) (.var 0))]⟩,
  ⟨⟨⟨37, tl 20 [(0, (.yld 0)), (1, (.ptr 3 (.lit 0) (.lit 0))), (2, (.ptr 4 (.lit 0) (.lit 0))), (4, (.int .i64 (.var 2))), (5, (.bool (.var 3)))], [.at [0, 0, 1], .lp [0, 1], .blk 0], [], none⟩, [⟨18, tl 30 [(0, (.int .i64 (.var 0))), (4, (.int .i64 (.lit 10))), (5, (.ptr 2 (.lit 0) (.lit 0))), (19, (.int .i64 (.lit 10))), (20, (.int .i64 (.var 0))), (21, (.func 37 [(.ptr 3 (.lit 0) (.lit 0)), (.ptr 4 (.lit 0) (.lit 0))]))], [.rfn 0, .blk 2, .at [1, 1, 0, 0, 0, 0, 1, 1, 1], .blk 1, .at [1, 0, 0, 1, 1, 1], .lp [0, 1, 1, 1], .blk 0], [1, 5, 6, 7, 8, 9, 10, 11, 12], none⟩], [(.loop ⟨18, tl 30 [(0, (.int .i64 (.var 0))), (4, (.int .i64 (.lit 10))), (5, (.ptr 2 (.lit 0) (.lit 0))), (19, (.int .i64 (.lit 10))), (20, (.int .i64 (.var 0))), (21, (.func 37 [(.ptr 3 (.lit 0) (.lit 0)), (.ptr 4 (.lit 0) (.lit 0))]))], [0, 1, 0, 1, 0, 0, 0, 0, 1, 1, 1], .ready, none, 1⟩), .defd, (.cells false [(.int .i64 (.var 1))]), (.cells false [(.int .i64 (.lit 10))]), (.cells false [(.int .i64 (.var 0))]), .defd, .defd, .defd, .defd, .defd, .defd, .defd, .defd]⟩, 4, [(.fn1 0 (.var 0)), (.bi .le (.var 0) (.lit 1000)), (.bi .le (.lit 3) (.var 0))]⟩,
  ⟨⟨⟨18, tl 30 [(0, (.int .i64 (.var 0))), (4, (.int .i64 (.lit 11)))], [.at [0, 0, 1, 1, 1], .lp [0, 1, 1, 1], .blk 0], [0, 1, 2, 3, 4, 5, 6, 7, 8], none⟩, [], [.defd, .defd, .defd, .defd, .defd, .defd, .defd, .defd, .defd]⟩, 1, [(.fn1 0 (.var 0)), (.bi .le (.var 0) (.lit 1000)), (.bi .le (.lit 3) (.var 0))]⟩,
  ⟨⟨⟨37, tl 20 [(0, (.yld 0)), (1, (.ptr 3 (.lit 0) (.lit 0))), (2, (.ptr 4 (.lit 0) (.lit 0))), (4, (.int .i64 (.var 2))), (5, (.bool (.var 3)))], [.at [0, 0, 1], .lp [0, 1], .blk 0], [], none⟩, [⟨18, tl 30 [(0, (.int .i64 (.var 0))), (4, (.int .i64 (.lit 11))), (5, (.ptr 2 (.lit 0) (.lit 0))), (19, (.int .i64 (.lit 11))), (20, (.int .i64 (.var 0))), (21, (.func 37 [(.ptr 3 (.lit 0) (.lit 0)), (.ptr 4 (.lit 0) (.lit 0))]))], [.rfn 0, .blk 2, .at [1, 1, 0, 0, 0, 0, 1, 1, 1], .blk 1, .at [1, 0, 0, 1, 1, 1], .lp [0, 1, 1, 1], .blk 0], [1, 5, 6, 7, 8, 9, 10, 11, 12, 13], none⟩], [(.loop ⟨18, tl 30 [(0, (.int .i64 (.var 0))), (4, (.int .i64 (.lit 11))), (5, (.ptr 2 (.lit 0) (.lit 0))), (19, (.int .i64 (.lit 11))), (20, (.int .i64 (.var 0))), (21, (.func 37 [(.ptr 3 (.lit 0) (.lit 0)), (.ptr 4 (.lit 0) (.lit 0))]))], [0, 1, 0, 1, 0, 0, 0, 0, 1, 1, 1], .ready, none, 1⟩), .defd, (.cells false [(.int .i64 (.var 1))]), (.cells false [(.int .i64 (.lit 11))]), (.cells false [(.int .i64 (.var 0))]), .defd, .defd, .defd, .defd, .defd, .defd, .defd, .defd, .defd]⟩, 4, [(.fn1 0 (.var 0)), (.bi .le (.var 0) (.lit 1000)), (.bi .le (.lit 3) (.var 0))]⟩,
  ⟨⟨⟨18, tl 30 [(0, (.int .i64 (.var 0))), (4, (.int .i64 (.lit 12)))], [.at [0, 0, 1, 1, 1], .lp [0, 1, 1, 1], .blk 0], [0, 1, 2, 3, 4, 5, 6, 7, 8, 9], none⟩, [], [.defd, .defd, .defd, .defd, .defd, .defd, .defd, .defd, .defd, .defd]⟩, 1, [(.fn1 0 (.var 0)), (.bi .le (.var 0) (.lit 1000)), (.bi .le (.lit 3) (.var 0))]⟩,
  ⟨⟨⟨37, tl 20 [(0, (.yld 0)), (1, (.ptr 3 (.lit 0) (.lit 0))), (2, (.ptr 4 (.lit 0) (.lit 0))), (4, (.int .i64 (.var 2))), (5, (.bool (.var 3)))], [.at [0, 0, 1], .lp [0, 1], .blk 0], [], none⟩, [⟨18, tl 30 [(0, (.int .i64 (.var 0))), (4, (.int .i64 (.lit 12))), (5, (.ptr 2 (.lit 0) (.lit 0))), (19, (.int .i64 (.lit 12))), (20, (.int .i64 (.var 0))), (21, (.func 37 [(.ptr 3 (.lit 0) (.lit 0)), (.ptr 4 (.lit 0) (.lit 0))]))], [.rfn 0, .blk 2, .at [1, 1, 0, 0, 0, 0, 1, 1, 1], .blk 1, .at [1, 0, 0, 1, 1, 1], .lp [0, 1, 1, 1], .blk 0], [1, 5, 6, 7, 8, 9, 10, 11, 12, 13, 14], none⟩], [(.loop ⟨18, tl 30 [(0, (.int .i64 (.var 0))), (4, (.int .i64 (.lit 12))), (5, (.ptr 2 (.lit 0) (.lit 0))), (19, (.int .i64 (.lit 12))), (20, (.int .i64 (.var 0))), (21, (.func 37 [(.ptr 3 (.lit 0) (.lit 0)), (.ptr 4 (.lit 0) (.lit 0))]))], [0, 1, 0, 1, 0, 0, 0, 0, 1, 1, 1], .ready, none, 1⟩), .defd, (.cells false [(.int .i64 (.var 1))]), (.cells false [(.int .i64 (.lit 12))]), (.cells false [(.int .i64 (.var 0))]), .defd, .defd, .defd, .defd, .defd, .defd, .defd, .defd, .defd, .defd]⟩, 4, [(.fn1 0 (.var 0)), (.bi .le (.var 0) (.lit 1000)), (.bi .le (.lit 3) (.var 0))]⟩,
  ⟨⟨⟨18, tl 30 [(0, (.int .i64 (.var 0))), (4, (.int .i64 (.lit 13)))], [.at [0, 0, 1, 1, 1], .lp [0, 1, 1, 1], .blk 0], [0, 1, 2, 3, 4, 5, 6, 7, 8, 9, 10], none⟩, [], [.defd, .defd, .defd, .defd, .defd, .defd, .defd, .defd, .defd, .defd, .defd]⟩, 1, [(.fn1 0 (.var 0)), (.bi .le (.var 0) (.lit 1000)), (.bi .le (.lit 3) (.var 0))]⟩,
  ⟨⟨⟨37, tl 20 [(0, (.yld 0)), (1, (.ptr 3 (.lit 0) (.lit 0))), (2, (.ptr 4 (.lit 0) (.lit 0))), (4, (.int .i64 (.var 2))), (5, (.bool (.var 3)))], [.at [0, 0, 1], .lp [0, 1], .blk 0], [], none⟩, [⟨18, tl 30 [(0, (.int .i64 (.var 0))), (4, (.int .i64 (.lit 13))), (5, (.ptr 2 (.lit 0) (.lit 0))), (19, (.int .i64 (.lit 13))), (20, (.int .i64 (.var 0))), (21, (.func 37 [(.ptr 3 (.lit 0) (.lit 0)), (.ptr 4 (.lit 0) (.lit 0))]))], [.rfn 0, .blk 2, .at [1, 1, 0, 0, 0, 0, 1, 1, 1], .blk 1, .at [1, 0, 0, 1, 1, 1], .lp [0, 1, 1, 1], .blk 0], [1, 5, 6, 7, 8, 9, 10, 11, 12, 13, 14, 15], none⟩], [(.loop ⟨18, tl 30 [(0, (.int .i64 (.var 0))), (4, (.int .i64 (.lit 13))), (5, (.ptr 2 (.lit 0) (.lit 0))), (19, (.int .i64 (.lit 13))), (20, (.int .i64 (.var 0))), (21, (.func 37 [(.ptr 3 (.lit 0) (.lit 0)), (.ptr 4 (.lit 0) (.lit 0))]))], [0, 1, 0, 1, 0, 0, 0, 0, 1, 1, 1], .ready, none, 1⟩), .defd, (.cells false [(.int .i64 (.var 1))]), (.cells false [(.int .i64 (.lit 13))]), (.cells false [(.int .i64 (.var 0))]), .defd, .defd, .defd, .defd, .defd, .defd, .defd, .defd, .defd, .defd, .defd]⟩, 4, [(.fn1 0 (.var 0)), (.bi .le (.var 0) (.lit 1000)), (.bi .le (.lit 3) (.var 0))]⟩,
  ⟨⟨⟨18, tl 30 [(0, (.int .i64 (.var 0))), (4, (.int .i64 (.lit 14)))], [.at [0, 0, 1, 1, 1], .lp [0, 1, 1, 1], .blk 0], [0, 1, 2, 3, 4, 5, 6, 7, 8, 9, 10, 11], none⟩, [], [.defd, .defd, .defd, .defd, .defd, .defd, .defd, .defd, .defd, .defd, .defd, .defd]⟩, 1, [(.fn1 0 (.var 0)), (.bi .le (.var 0) (.lit 1000)), (.bi .le (.lit 3) (.var 0))]⟩,
  ⟨⟨⟨37, tl 20 [(0, (.yld 0)), (1, (.ptr 3 (.lit 0) (.lit 0))), (2, (.ptr 4 (.lit 0) (.lit 0))), (4, (.int .i64 (.var 2))), (5, (.bool (.var 3)))], [.at [0, 0, 1], .lp [0, 1], .blk 0], [], none⟩, [⟨18, tl 30 [(0, (.int .i64 (.var 0))), (4, (.int .i64 (.lit 14))), (5, (.ptr 2 (.lit 0) (.lit 0))), (19, (.int .i64 (.lit 14))), (20, (.int .i64 (.var 0))), (21, (.func 37 [(.ptr 3 (.lit 0) (.lit 0)), (.ptr 4 (.lit 0) (.lit 0))]))], [.rfn 0, .blk 2, .at [1, 1, 0, 0, 0, 0, 1, 1, 1], .blk 1, .at [1, 0, 0, 1, 1, 1], .lp [0, 1, 1, 1], .blk 0], [1, 5, 6, 7, 8, 9, 10, 11, 12, 13, 14, 15, 16], none⟩], [(.loop ⟨18, tl 30 [(0, (.int .i64 (.var 0))), (4, (.int .i64 (.lit 14))), (5, (.ptr 2 (.lit 0) (.lit 0))), (19, (.int .i64 (.lit 14))), (20, (.int .i64 (.var 0))), (21, (.func 37 [(.ptr 3 (.lit 0) (.lit 0)), (.ptr 4 (.lit 0) (.lit 0))]))], [0, 1, 0, 1, 0, 0, 0, 0, 1, 1, 1], .ready, none, 1⟩), .defd, (.cells false [(.int .i64 (.var 1))]), (.cells false [(.int .i64 (.lit 14))]), (.cells false [(.int .i64 (.var 0))]), .defd, .defd, .defd, .defd, .defd, .defd, .defd, .defd, .defd, .defd, .defd, .defd]⟩, 4, [(.fn1 0 (.var 0)), (.bi .le (.var 0) (.lit 1000)), (.bi .le (.lit 3) (.var 0))]⟩,
  ⟨⟨⟨18, tl 30 [(0, (.int .i64 (.var 0))), (4, (.int .i64 (.lit 15)))], [.at [0, 0, 1, 1, 1], .lp [0, 1, 1, 1], .blk 0], [0, 1, 2, 3, 4, 5, 6, 7, 8, 9, 10, 11, 12], none⟩, [], [.defd, .defd, .defd, .defd, .defd, .defd, .defd, .defd, .defd, .defd, .defd, .defd, .defd]⟩, 1, [(.fn1 0 (.var 0)), (.bi .le (.var 0) (.lit 1000)), (.bi .le (.lit 3) (.var 0))]⟩,
  ⟨⟨⟨37, tl 20 [(0, (.yld 0)), (1, (.ptr 3 (.lit 0) (.lit 0))), (2, (.ptr 4 (.lit 0) (.lit 0))), (4, (.int .i64 (.var 2))), (5, (.bool (.var 3)))], [.at [0, 0, 1], .lp [0, 1], .blk 0], [], none⟩, [⟨18, tl 30 [(0, (.int .i64 (.var 0))), (4, (.int .i64 (.lit 15))), (5, (.ptr 2 (.lit 0) (.lit 0))), (19, (.int .i64 (.lit 15))), (20, (.int .i64 (.var 0))), (21, (.func 37 [(.ptr 3 (.lit 0) (.lit 0)), (.ptr 4 (.lit 0) (.lit 0))]))], [.rfn 0, .blk 2, .at [1, 1, 0, 0, 0, 0, 1, 1, 1], .blk 1, .at [1, 0, 0, 1, 1, 1], .lp [0, 1, 1, 1], .blk 0], [1, 5, 6, 7, 8, 9, 10, 11, 12, 13, 14, 15, 16, 17], none⟩], [(.loop ⟨18, tl 30 [(0, (.int .i64 (.var 0))), (4, (.int .i64 (.lit 15))), (5, (.ptr 2 (.lit 0) (.lit 0))), (19, (.int .i64 (.lit 15))), (20, (.int .i64 (.var 0))), (21, (.func 37 [(.ptr 3 (.lit 0) (.lit 0)), (.ptr 4 (.lit 0) (.lit 0))]))], [0, 1, 0, 1, 0, 0, 0, 0, 1, 1, 1], .ready, none, 1⟩), .defd, (.cells false [(.int .i64 (.var 1))]), (.cells false [(.int .i64 (.lit 15))]), (.cells false [(.int .i64 (.var 0))]), .defd, .defd, .defd, .defd, .defd, .defd, .defd, .defd, .defd, .defd, .defd, .defd, .defd]⟩, 4, [(.fn1 0 (.var 0)), (.bi .le (.var 0) (.lit 1000)), (.bi .le (.lit 3) (.var 0))]⟩,
  ⟨⟨⟨18, tl 30 [(0, (.int .i64 (.var 0))), (4, (.int .i64 (.lit 16)))], [.at [0, 0, 1, 1, 1], .lp [0, 1, 1, 1], .blk 0], [0, 1, 2, 3, 4, 5, 6, 7, 8, 9, 10, 11, 12, 13], none⟩, [], [.defd, .defd, .defd, .defd, .defd, .defd, .defd, .defd, .defd, .defd, .defd, .defd, .defd, .defd]⟩, 1, [(.fn1 0 (.var 0)), (.bi .le (.var 0) (.lit 1000)), (.bi .le (.lit 3) (.var 0))]⟩,
  ⟨⟨⟨37, tl 20 [(0, (.yld 0)), (1, (.ptr 3 (.lit 0) (.lit 0))), (2, (.ptr 4 (.lit 0) (.lit 0))), (4, (.int .i64 (.var 2))), (5, (.bool (.var 3)))], [.at [0, 0, 1], .lp [0, 1], .blk 0], [], none⟩, [⟨18, tl 30 [(0, (.int .i64 (.var 0))), (4, (.int .i64 (.lit 16))), (5, (.ptr 2 (.lit 0) (.lit 0))), (19, (.int .i64 (.lit 16))), (20, (.int .i64 (.var 0))), (21, (.func 37 [(.ptr 3 (.lit 0) (.lit 0)), (.ptr 4 (.lit 0) (.lit 0))]))], [.rfn 0, .blk 2, .at [1, 1, 0, 0, 0, 0, 1, 1, 1], .blk 1, .at [1, 0, 0, 1, 1, 1], .lp [0, 1, 1, 1], .blk 0], [1, 5, 6, 7, 8, 9, 10, 11, 12, 13, 14, 15, 16, 17, 18], none⟩], [(.loop ⟨18, tl 30 [(0, (.int .i64 (.var 0))), (4, (.int .i64 (.lit 16))), (5, (.ptr 2 (.lit 0) (.lit 0))), (19, (.int .i64 (.lit 16))), (20, (.int .i64 (.var 0))), (21, (.func 37 [(.ptr 3 (.lit 0) (.lit 0)), (.ptr 4 (.lit 0) (.lit 0))]))], [0, 1, 0, 1, 0, 0, 0, 0, 1, 1, 1], .ready, none, 1⟩), .defd, (.cells false [(.int .i64 (.var 1))]), (.cells false [(.int .i64 (.lit 16))]), (.cells false [(.int .i64 (.var 0))]), .defd, .defd, .defd, .defd, .defd, .defd, .defd, .defd, .defd, .defd, .defd, .defd, .defd, .defd]⟩, 4, [(.fn1 0 (.var 0)), (.bi .le (.var 0) (.lit 1000)), (.bi .le (.lit 3) (.var 0))]⟩,
  ⟨⟨⟨18, tl 30 [(0, (.int .i64 (.var 0))), (4, (.int .i64 (.lit 17)))], [.at [0, 0, 1, 1, 1], .lp [0, 1, 1, 1], .blk 0], [0, 1, 2, 3, 4, 5, 6, 7, 8, 9, 10, 11, 12, 13, 14], none⟩, [], [.defd, .defd, .defd, .defd, .defd, .defd, .defd, .defd, .defd, .defd, .defd, .defd, .defd, .defd, .defd]⟩, 1, [(.fn1 0 (.var 0)), (.bi .le (.var 0) (.lit 1000)), (.bi .le (.lit 3) (.var 0))]⟩,
  ⟨⟨⟨37, tl 20 [(0, (.yld 0)), (1, (.ptr 3 (.lit 0) (.lit 0))), (2, (.ptr 4 (.lit 0) (.lit 0))), (4, (.int .i64 (.var 2))), (5, (.bool (.var 3)))], [.at [0, 0, 1], .lp [0, 1], .blk 0], [], none⟩, [⟨18, tl 30 [(0, (.int .i64 (.var 0))), (4, (.int .i64 (.lit 17))), (5, (.ptr 2 (.lit 0) (.lit 0))), (19, (.int .i64 (.lit 17))), (20, (.int .i64 (.var 0))), (21, (.func 37 [(.ptr 3 (.lit 0) (.lit 0)), (.ptr 4 (.lit 0) (.lit 0))]))], [.rfn 0, .blk 2, .at [1, 1, 0, 0, 0, 0, 1, 1, 1], .blk 1, .at [1, 0, 0, 1, 1, 1], .lp [0, 1, 1, 1], .blk 0], [1, 5, 6, 7, 8, 9, 10, 11, 12, 13, 14, 15, 16, 17, 18, 19], none⟩], [(.loop ⟨18, tl 30 [(0, (.int .i64 (.var 0))), (4, (.int .i64 (.lit 17))), (5, (.ptr 2 (.lit 0) (.lit 0))), (19, (.int .i64 (.lit 17))), (20, (.int .i64 (.var 0))), (21, (.func 37 [(.ptr 3 (.lit 0) (.lit 0)), (.ptr 4 (.lit 0) (.lit 0))]))], [0, 1, 0, 1, 0, 0, 0, 0, 1, 1, 1], .ready, none, 1⟩), .defd, (.cells false [(.int .i64 (.var 1))]), (.cells false [(.int .i64 (.lit 17))]), (.cells false [(.int .i64 (.var 0))]), .defd, .defd, .defd, .defd, .defd, .defd, .defd, .defd, .defd, .defd, .defd, .defd, .defd, .defd, .defd]⟩, 4, [(.fn1 0 (.var 0)), (.bi .le (.var 0) (.lit 1000)), (.bi .le (.lit 3) (.var 0))]⟩,
  ⟨⟨⟨18, tl 30 [(0, (.int .i64 (.var 0))), (4, (.int .i64 (.lit 18)))], [.at [0, 0, 1, 1, 1], .lp [0, 1, 1, 1], .blk 0], [0, 1, 2, 3, 4, 5, 6, 7, 8, 9, 10, 11, 12, 13, 14, 15], none⟩, [], [.defd, .defd, .defd, .defd, .defd, .defd, .defd, .defd, .defd, .defd, .defd, .defd, .defd, .defd, .defd, .defd]⟩, 1, [(.fn1 0 (.var 0)), (.bi .le (.var 0) (.lit 1000)), (.bi .le (.lit 3) (.var 0))]⟩,
  ⟨⟨⟨37, tl 20 [(0, (.yld 0)), (1, (.ptr 3 (.lit 0) (.lit 0))), (2, (.ptr 4 (.lit 0) (.lit 0))), (4, (.int .i64 (.var 2))), (5, (.bool (.var 3)))], [.at [0, 0, 1], .lp [0, 1], .blk 0], [], none⟩, [⟨18, tl 30 [(0, (.int .i64 (.var 0))), (4, (.int .i64 (.lit 18))), (5, (.ptr 2 (.lit 0) (.lit 0))), (19, (.int .i64 (.lit 18))), (20, (.int .i64 (.var 0))), (21, (.func 37 [(.ptr 3 (.lit 0) (.lit 0)), (.ptr 4 (.lit 0) (.lit 0))]))], [.rfn 0, .blk 2, .at [1, 1, 0, 0, 0, 0, 1, 1, 1], .blk 1, .at [1, 0, 0, 1, 1, 1], .lp [0, 1, 1, 1], .blk 0], [1, 5, 6, 7, 8, 9, 10, 11, 12, 13, 14, 15, 16, 17, 18, 19, 20], none⟩], [(.loop ⟨18, tl 30 [(0, (.int .i64 (.var 0))), (4, (.int .i64 (.lit 18))), (5, (.ptr 2 (.lit 0) (.lit 0))), (19, (.int .i64 (.lit 18))), (20, (.int .i64 (.var 0))), (21, (.func 37 [(.ptr 3 (.lit 0) (.lit 0)), (.ptr 4 (.lit 0) (.lit 0))]))], [0, 1, 0, 1, 0, 0, 0, 0, 1, 1, 1], .ready, none, 1⟩), .defd, (.cells false [(.int .i64 (.var 1))]), (.cells false [(.int .i64 (.lit 18))]), (.cells false [(.int .i64 (.var 0))]), .defd, .defd, .defd, .defd, .defd, .defd, .defd, .defd, .defd, .defd, .defd, .defd, .defd, .defd, .defd, .defd]⟩, 4, [(.fn1 0 (.var 0)), (.bi .le (.var 0) (.lit 1000)), (.bi .le (.lit 3) (.var 0))]⟩,
  ⟨⟨⟨18, tl 30 [(0, (.int .i64 (.var 0))), (4, (.int .i64 (.lit 19)))], [.at [0, 0, 1, 1, 1], .lp [0, 1, 1, 1], .blk 0], [0, 1, 2, 3, 4, 5, 6, 7, 8, 9, 10, 11, 12, 13, 14, 15, 16], none⟩, [], [.defd, .defd, .defd, .defd, .defd, .defd, .defd, .defd, .defd, .defd, .defd, .defd, .defd, .defd, .defd, .defd, .defd]⟩, 1, [(.fn1 0 (.var 0)), (.bi .le (.var 0) (.lit 1000)), (.bi .le (.lit 3) (.var 0))]⟩,
  ⟨⟨⟨37, tl 20 [(0, (.yld 0)), (1, (.ptr 3 (.lit 0) (.lit 0))), (2, (.ptr 4 (.lit 0) (.lit 0))), (4, (.int .i64 (.var 2))), (5, (.bool (.var 3)))], [.at [0, 0, 1], .lp [0, 1], .blk 0], [], none⟩, [⟨18, tl 30 [(0, (.int .i64 (.var 0))), (4, (.int .i64 (.lit 19))), (5, (.ptr 2 (.lit 0) (.lit 0))), (19, (.int .i64 (.lit 19))), (20, (.int .i64 (.var 0))), (21, (.func 37 [(.ptr 3 (.lit 0) (.lit 0)), (.ptr 4 (.lit 0) (.lit 0))]))], [.rfn 0, .blk 2, .at [1, 1, 0, 0, 0, 0, 1, 1, 1], .blk 1, .at [1, 0, 0, 1, 1, 1], .lp [0, 1, 1, 1], .blk 0], [1, 5, 6, 7, 8, 9, 10, 11, 12, 13, 14, 15, 16, 17, 18, 19, 20, 21], none⟩], [(.loop ⟨18, tl 30 [(0, (.int .i64 (.var 0))), (4, (.int .i64 (.lit 19))), (5, (.ptr 2 (.lit 0) (.lit 0))), (19, (.int .i64 (.lit 19))), (20, (.int .i64 (.var 0))), (21, (.func 37 [(.ptr 3 (.lit 0) (.lit 0)), (.ptr 4 (.lit 0) (.lit 0))]))], [0, 1, 0, 1, 0, 0, 0, 0, 1, 1, 1], .ready, none, 1⟩), .defd, (.cells false [(.int .i64 (.var 1))]), (.cells false [(.int .i64 (.lit 19))]), (.cells false [(.int .i64 (.var 0))]), .defd, .defd, .defd, .defd, .defd, .defd, .defd, .defd, .defd, .defd, .defd, .defd, .defd, .defd, .defd, .defd, .defd]⟩, 4, [(.fn1 0 (.var 0)), (.bi .le (.var 0) (.lit 1000)), (.bi .le (.lit 3) (.var 0))]⟩,
  ⟨⟨⟨18, tl 30 [(0, (.int .i64 (.var 0))), (4, (.int .i64 (.lit 20)))], [.at [0, 0, 1, 1, 1], .lp [0, 1, 1, 1], .blk 0], [0, 1, 2, 3, 4, 5, 6, 7, 8, 9, 10, 11, 12, 13, 14, 15, 16, 17], none⟩, [], [.defd, .defd, .defd, .defd, .defd, .defd, .defd, .defd, .defd, .defd, .defd, .defd, .defd, .defd, .defd, .defd, .defd, .defd]⟩, 1, [(.fn1 0 (.var 0)), (.bi .le (.var 0) (.lit 1000)), (.bi .le (.lit 3) (.var 0))]⟩,
  ⟨⟨⟨37, tl 20 [(0, (.yld 0)), (1, (.ptr 3 (.lit 0) (.lit 0))), (2, (.ptr 4 (.lit 0) (.lit 0))), (4, (.int .i64 (.var 2))), (5, (.bool (.var 3)))], [.at [0, 0, 1], .lp [0, 1], .blk 0], [], none⟩, [⟨18, tl 30 [(0, (.int .i64 (.var 0))), (4, (.int .i64 (.lit 20))), (5, (.ptr 2 (.lit 0) (.lit 0))), (19, (.int .i64 (.lit 20))), (20, (.int .i64 (.var 0))), (21, (.func 37 [(.ptr 3 (.lit 0) (.lit 0)), (.ptr 4 (.lit 0) (.lit 0))]))], [.rfn 0, .blk 2, .at [1, 1, 0, 0, 0, 0, 1, 1, 1], .blk 1, .at [1, 0, 0, 1, 1, 1], .lp [0, 1, 1, 1], .blk 0], [1, 5, 6, 7, 8, 9, 10, 11, 12, 13, 14, 15, 16, 17, 18, 19, 20, 21, 22], none⟩], [(.loop ⟨18, tl 30 [(0, (.int .i64 (.var 0))), (4, (.int .i64 (.lit 20))), (5, (.ptr 2 (.lit 0) (.lit 0))), (19, (.int .i64 (.lit 20))), (20, (.int .i64 (.var 0))), (21, (.func 37 [(.ptr 3 (.lit 0) (.lit 0)), (.ptr 4 (.lit 0) (.lit 0))]))], [0, 1, 0, 1, 0, 0, 0, 0, 1, 1, 1], .ready, none, 1⟩), .defd, (.cells false [(.int .i64 (.var 1))]), (.cells false [(.int .i64 (.lit 20))]), (.cells false [(.int .i64 (.var 0))]), .defd, .defd, .defd, .defd, .defd, .defd, .defd, .defd, .defd, .defd, .defd, .defd, .defd, .defd, .defd, .defd, .defd, .defd]⟩, 4, [(.fn1 0 (.var 0)), (.bi .le (.var 0) (.lit 1000)), (.bi .le (.lit 3) (.var 0))]⟩,
  ⟨⟨⟨18, tl 30 [(0, (.int .i64 (.var 0))), (4, (.int .i64 (.lit 21)))], [.at [0, 0, 1, 1, 1], .lp [0, 1, 1, 1], .blk 0], [0, 1, 2, 3, 4, 5, 6, 7, 8, 9, 10, 11, 12, 13, 14, 15, 16, 17, 18], none⟩, [], [.defd, .defd, .defd, .defd, .defd, .defd, .defd, .defd, .defd, .defd, .defd, .defd, .defd, .defd, .defd, .defd, .defd, .defd, .defd]⟩, 1, [(.fn1 0 (.var 0)), (.bi .le (.var 0) (.lit 1000)), (.bi .le (.lit 3) (.var 0))]⟩,
  ⟨⟨⟨37, tl 20 [(0, (.yld 0)), (1, (.ptr 3 (.lit 0) (.lit 0))), (2, (.ptr 4 (.lit 0) (.lit 0))), (4, (.int .i64 (.var 2))), (5, (.bool (.var 3)))], [.at [0, 0, 1], .lp [0, 1], .blk 0], [], none⟩, [⟨18, tl 30 [(0, (.int .i64 (.var 0))), (4, (.int .i64 (.lit 21))), (5, (.ptr 2 (.lit 0) (.lit 0))), (19, (.int .i64 (.lit 21))), (20, (.int .i64 (.var 0))), (21, (.func 37 [(.ptr 3 (.lit 0) (.lit 0)), (.ptr 4 (.lit 0) (.lit 0))]))], [.rfn 0, .blk 2, .at [1, 1, 0, 0, 0, 0, 1, 1, 1], .blk 1, .at [1, 0, 0, 1, 1, 1], .lp [0, 1, 1, 1], .blk 0], [1, 5, 6, 7, 8, 9, 10, 11, 12, 13, 14, 15, 16, 17, 18, 19, 20, 21, 22, 23], none⟩], [(.loop ⟨18, tl 30 [(0, (.int .i64 (.var 0))), (4, (.int .i64 (.lit 21))), (5, (.ptr 2 (.lit 0) (.lit 0))), (19, (.int .i64 (.lit 21))), (20, (.int .i64 (.var 0))), (21, (.func 37 [(.ptr 3 (.lit 0) (.lit 0)), (.ptr 4 (.lit 0) (.lit 0))]))], [0, 1, 0, 1, 0, 0, 0, 0, 1, 1, 1], .ready, none, 1⟩), .defd, (.cells false [(.int .i64 (.var 1))]), (.cells false [(.int .i64 (.lit 21))]), (.cells false [(.int .i64 (.var 0))]), .defd, .defd, .defd, .defd, .defd, .defd, .defd, .defd, .defd, .defd, .defd, .defd, .defd, .defd, .defd, .defd, .defd, .defd, .defd]⟩, 4, [(.fn1 0 (.var 0)), (.bi .le (.var 0) (.lit 1000)), (.bi .le (.lit 3) (.var 0))]⟩]
def ssRoot : List ST := [(.br (.bi .lt (.var 0) (.lit 3))
   (.ret [(.lit 0), (.lit 2)])
   (.br (.bi .lt (.lit 1000) (.var 0))
    (.ret [(.lit 0), (.lit 2)])
    (.br (.un .not (.fn1 0 (.var 0)))
     (.ret [(.lit 0), (.lit 2)])
     (.goto 1 [(.var 0)])))),
  (.goto 2 [(.var 0), (.lit 0), (.lit 1), (.bl true)]),
  (.br (.var 3)
   (.goto 2 [(.var 0), (.un (.wrap .i64) (.bi .add (.var 1) (.lit 1))), (.bi .rem (.un (.wrap .i64) (.bi .mul (.var 2) (.lit 2))) (.var 0)), (.bl false)])
   (.br (.un .not (.bi .eq (.var 2) (.lit 1)))
    (.goto 2 [(.var 0), (.un (.wrap .i64) (.bi .add (.var 1) (.lit 1))), (.bi .rem (.un (.wrap .i64) (.bi .mul (.var 2) (.lit 2))) (.var 0)), (.bl false)])
    (.br (.bi .eq (.var 1) (.bi .add (.var 0) (.lit (-1))))
     (.ret [(.lit 2), (.lit 0)])
     (.goto 3 [(.var 0)])))),
  (.goto 4 [(.var 0), (.lit 0), (.lit 1), (.bl true)]),
  (.br (.var 3)
   (.goto 4 [(.var 0), (.un (.wrap .i64) (.bi .add (.var 1) (.lit 1))), (.bi .rem (.un (.wrap .i64) (.bi .mul (.var 2) (.lit 3))) (.var 0)), (.bl false)])
   (.br (.un .not (.bi .eq (.var 2) (.lit 1)))
    (.goto 4 [(.var 0), (.un (.wrap .i64) (.bi .add (.var 1) (.lit 1))), (.bi .rem (.un (.wrap .i64) (.bi .mul (.var 2) (.lit 3))) (.var 0)), (.bl false)])
    (.br (.bi .eq (.var 1) (.bi .add (.var 0) (.lit (-1))))
     (.ret [(.lit 3), (.lit 0)])
     (.goto 5 [(.var 0)])))),
  (.goto 6 [(.var 0), (.lit 0), (.lit 1), (.bl true)]),
  (.br (.var 3)
   (.goto 6 [(.var 0), (.un (.wrap .i64) (.bi .add (.var 1) (.lit 1))), (.bi .rem (.un (.wrap .i64) (.bi .mul (.var 2) (.lit 4))) (.var 0)), (.bl false)])
   (.br (.un .not (.bi .eq (.var 2) (.lit 1)))
    (.goto 6 [(.var 0), (.un (.wrap .i64) (.bi .add (.var 1) (.lit 1))), (.bi .rem (.un (.wrap .i64) (.bi .mul (.var 2) (.lit 4))) (.var 0)), (.bl false)])
    (.br (.bi .eq (.var 1) (.bi .add (.var 0) (.lit (-1))))
     (.ret [(.lit 4), (.lit 0)])
     (.goto 7 [(.var 0)])))),
  (.goto 8 [(.var 0), (.lit 0), (.lit 1), (.bl true)]),
  (.br (.var 3)
   (.goto 8 [(.var 0), (.un (.wrap .i64) (.bi .add (.var 1) (.lit 1))), (.bi .rem (.un (.wrap .i64) (.bi .mul (.var 2) (.lit 5))) (.var 0)), (.bl false)])
   (.br (.un .not (.bi .eq (.var 2) (.lit 1)))
    (.goto 8 [(.var 0), (.un (.wrap .i64) (.bi .add (.var 1) (.lit 1))), (.bi .rem (.un (.wrap .i64) (.bi .mul (.var 2) (.lit 5))) (.var 0)), (.bl false)])
    (.br (.bi .eq (.var 1) (.bi .add (.var 0) (.lit (-1))))
     (.ret [(.lit 5), (.lit 0)])
     (.goto 9 [(.var 0)])))),
  (.goto 10 [(.var 0), (.lit 0), (.lit 1), (.bl true)]),
  (.br (.var 3)
   (.goto 10 [(.var 0), (.un (.wrap .i64) (.bi .add (.var 1) (.lit 1))), (.bi .rem (.un (.wrap .i64) (.bi .mul (.var 2) (.lit 6))) (.var 0)), (.bl false)])
   (.br (.un .not (.bi .eq (.var 2) (.lit 1)))
    (.goto 10 [(.var 0), (.un (.wrap .i64) (.bi .add (.var 1) (.lit 1))), (.bi .rem (.un (.wrap .i64) (.bi .mul (.var 2) (.lit 6))) (.var 0)), (.bl false)])
    (.br (.bi .eq (.var 1) (.bi .add (.var 0) (.lit (-1))))
     (.ret [(.lit 6), (.lit 0)])
     (.goto 11 [(.var 0)])))),
  (.goto 12 [(.var 0), (.lit 0), (.lit 1), (.bl true)]),
  (.br (.var 3)
   (.goto 12 [(.var 0), (.un (.wrap .i64) (.bi .add (.var 1) (.lit 1))), (.bi .rem (.un (.wrap .i64) (.bi .mul (.var 2) (.lit 7))) (.var 0)), (.bl false)])
   (.br (.un .not (.bi .eq (.var 2) (.lit 1)))
    (.goto 12 [(.var 0), (.un (.wrap .i64) (.bi .add (.var 1) (.lit 1))), (.bi .rem (.un (.wrap .i64) (.bi .mul (.var 2) (.lit 7))) (.var 0)), (.bl false)])
    (.br (.bi .eq (.var 1) (.bi .add (.var 0) (.lit (-1))))
     (.ret [(.lit 7), (.lit 0)])
     (.goto 13 [(.var 0)])))),
  (.goto 14 [(.var 0), (.lit 0), (.lit 1), (.bl true)]),
  (.br (.var 3)
   (.goto 14 [(.var 0), (.un (.wrap .i64) (.bi .add (.var 1) (.lit 1))), (.bi .rem (.un (.wrap .i64) (.bi .mul (.var 2) (.lit 8))) (.var 0)), (.bl false)])
   (.br (.un .not (.bi .eq (.var 2) (.lit 1)))
    (.goto 14 [(.var 0), (.un (.wrap .i64) (.bi .add (.var 1) (.lit 1))), (.bi .rem (.un (.wrap .i64) (.bi .mul (.var 2) (.lit 8))) (.var 0)), (.bl false)])
    (.br (.bi .eq (.var 1) (.bi .add (.var 0) (.lit (-1))))
     (.ret [(.lit 8), (.lit 0)])
     (.goto 15 [(.var 0)])))),
  (.goto 16 [(.var 0), (.lit 0), (.lit 1), (.bl true)]),
  (.br (.var 3)
   (.goto 16 [(.var 0), (.un (.wrap .i64) (.bi .add (.var 1) (.lit 1))), (.bi .rem (.un (.wrap .i64) (.bi .mul (.var 2) (.lit 9))) (.var 0)), (.bl false)])
   (.br (.un .not (.bi .eq (.var 2) (.lit 1)))
    (.goto 16 [(.var 0), (.un (.wrap .i64) (.bi .add (.var 1) (.lit 1))), (.bi .rem (.un (.wrap .i64) (.bi .mul (.var 2) (.lit 9))) (.var 0)), (.bl false)])
    (.br (.bi .eq (.var 1) (.bi .add (.var 0) (.lit (-1))))
     (.ret [(.lit 9), (.lit 0)])
     (.goto 17 [(.var 0)])))),
  (.goto 18 [(.var 0), (.lit 0), (.lit 1), (.bl true)]),
  (.br (.var 3)
   (.goto 18 [(.var 0), (.un (.wrap .i64) (.bi .add (.var 1) (.lit 1))), (.bi .rem (.un (.wrap .i64) (.bi .mul (.var 2) (.lit 10))) (.var 0)), (.bl false)])
   (.br (.un .not (.bi .eq (.var 2) (.lit 1)))
    (.goto 18 [(.var 0), (.un (.wrap .i64) (.bi .add (.var 1) (.lit 1))), (.bi .rem (.un (.wrap .i64) (.bi .mul (.var 2) (.lit 10))) (.var 0)), (.bl false)])
    (.br (.bi .eq (.var 1) (.bi .add (.var 0) (.lit (-1))))
     (.ret [(.lit 10), (.lit 0)])
     (.goto 19 [(.var 0)])))),
  (.goto 20 [(.var 0), (.lit 0), (.lit 1), (.bl true)]),
  (.br (.var 3)
   (.goto 20 [(.var 0), (.un (.wrap .i64) (.bi .add (.var 1) (.lit 1))), (.bi .rem (.un (.wrap .i64) (.bi .mul (.var 2) (.lit 11))) (.var 0)), (.bl false)])
   (.br (.un .not (.bi .eq (.var 2) (.lit 1)))
    (.goto 20 [(.var 0), (.un (.wrap .i64) (.bi .add (.var 1) (.lit 1))), (.bi .rem (.un (.wrap .i64) (.bi .mul (.var 2) (.lit 11))) (.var 0)), (.bl false)])
    (.br (.bi .eq (.var 1) (.bi .add (.var 0) (.lit (-1))))
     (.ret [(.lit 11), (.lit 0)])
     (.goto 21 [(.var 0)])))),
  (.goto 22 [(.var 0), (.lit 0), (.lit 1), (.bl true)]),
  (.br (.var 3)
   (.goto 22 [(.var 0), (.un (.wrap .i64) (.bi .add (.var 1) (.lit 1))), (.bi .rem (.un (.wrap .i64) (.bi .mul (.var 2) (.lit 12))) (.var 0)), (.bl false)])
   (.br (.un .not (.bi .eq (.var 2) (.lit 1)))
    (.goto 22 [(.var 0), (.un (.wrap .i64) (.bi .add (.var 1) (.lit 1))), (.bi .rem (.un (.wrap .i64) (.bi .mul (.var 2) (.lit 12))) (.var 0)), (.bl false)])
    (.br (.bi .eq (.var 1) (.bi .add (.var 0) (.lit (-1))))
     (.ret [(.lit 12), (.lit 0)])
     (.goto 23 [(.var 0)])))),
  (.goto 24 [(.var 0), (.lit 0), (.lit 1), (.bl true)]),
  (.br (.var 3)
   (.goto 24 [(.var 0), (.un (.wrap .i64) (.bi .add (.var 1) (.lit 1))), (.bi .rem (.un (.wrap .i64) (.bi .mul (.var 2) (.lit 13))) (.var 0)), (.bl false)])
   (.br (.un .not (.bi .eq (.var 2) (.lit 1)))
    (.goto 24 [(.var 0), (.un (.wrap .i64) (.bi .add (.var 1) (.lit 1))), (.bi .rem (.un (.wrap .i64) (.bi .mul (.var 2) (.lit 13))) (.var 0)), (.bl false)])
    (.br (.bi .eq (.var 1) (.bi .add (.var 0) (.lit (-1))))
     (.ret [(.lit 13), (.lit 0)])
     (.goto 25 [(.var 0)])))),
  (.goto 26 [(.var 0), (.lit 0), (.lit 1), (.bl true)]),
  (.br (.var 3)
   (.goto 26 [(.var 0), (.un (.wrap .i64) (.bi .add (.var 1) (.lit 1))), (.bi .rem (.un (.wrap .i64) (.bi .mul (.var 2) (.lit 14))) (.var 0)), (.bl false)])
   (.br (.un .not (.bi .eq (.var 2) (.lit 1)))
    (.goto 26 [(.var 0), (.un (.wrap .i64) (.bi .add (.var 1) (.lit 1))), (.bi .rem (.un (.wrap .i64) (.bi .mul (.var 2) (.lit 14))) (.var 0)), (.bl false)])
    (.br (.bi .eq (.var 1) (.bi .add (.var 0) (.lit (-1))))
     (.ret [(.lit 14), (.lit 0)])
     (.goto 27 [(.var 0)])))),
  (.goto 28 [(.var 0), (.lit 0), (.lit 1), (.bl true)]),
  (.br (.var 3)
   (.goto 28 [(.var 0), (.un (.wrap .i64) (.bi .add (.var 1) (.lit 1))), (.bi .rem (.un (.wrap .i64) (.bi .mul (.var 2) (.lit 15))) (.var 0)), (.bl false)])
   (.br (.un .not (.bi .eq (.var 2) (.lit 1)))
    (.goto 28 [(.var 0), (.un (.wrap .i64) (.bi .add (.var 1) (.lit 1))), (.bi .rem (.un (.wrap .i64) (.bi .mul (.var 2) (.lit 15))) (.var 0)), (.bl false)])
    (.br (.bi .eq (.var 1) (.bi .add (.var 0) (.lit (-1))))
     (.ret [(.lit 15), (.lit 0)])
     (.goto 29 [(.var 0)])))),
  (.goto 30 [(.var 0), (.lit 0), (.lit 1), (.bl true)]),
  (.br (.var 3)
   (.goto 30 [(.var 0), (.un (.wrap .i64) (.bi .add (.var 1) (.lit 1))), (.bi .rem (.un (.wrap .i64) (.bi .mul (.var 2) (.lit 16))) (.var 0)), (.bl false)])
   (.br (.un .not (.bi .eq (.var 2) (.lit 1)))
    (.goto 30 [(.var 0), (.un (.wrap .i64) (.bi .add (.var 1) (.lit 1))), (.bi .rem (.un (.wrap .i64) (.bi .mul (.var 2) (.lit 16))) (.var 0)), (.bl false)])
    (.br (.bi .eq (.var 1) (.bi .add (.var 0) (.lit (-1))))
     (.ret [(.lit 16), (.lit 0)])
     (.goto 31 [(.var 0)])))),
  (.goto 32 [(.var 0), (.lit 0), (.lit 1), (.bl true)]),
  (.br (.var 3)
   (.goto 32 [(.var 0), (.un (.wrap .i64) (.bi .add (.var 1) (.lit 1))), (.bi .rem (.un (.wrap .i64) (.bi .mul (.var 2) (.lit 17))) (.var 0)), (.bl false)])
   (.br (.un .not (.bi .eq (.var 2) (.lit 1)))
    (.goto 32 [(.var 0), (.un (.wrap .i64) (.bi .add (.var 1) (.lit 1))), (.bi .rem (.un (.wrap .i64) (.bi .mul (.var 2) (.lit 17))) (.var 0)), (.bl false)])
    (.br (.bi .eq (.var 1) (.bi .add (.var 0) (.lit (-1))))
     (.ret [(.lit 17), (.lit 0)])
     (.goto 33 [(.var 0)])))),
  (.goto 34 [(.var 0), (.lit 0), (.lit 1), (.bl true)]),
  (.br (.var 3)
   (.goto 34 [(.var 0), (.un (.wrap .i64) (.bi .add (.var 1) (.lit 1))), (.bi .rem (.un (.wrap .i64) (.bi .mul (.var 2) (.lit 18))) (.var 0)), (.bl false)])
   (.br (.un .not (.bi .eq (.var 2) (.lit 1)))
    (.goto 34 [(.var 0), (.un (.wrap .i64) (.bi .add (.var 1) (.lit 1))), (.bi .rem (.un (.wrap .i64) (.bi .mul (.var 2) (.lit 18))) (.var 0)), (.bl false)])
    (.br (.bi .eq (.var 1) (.bi .add (.var 0) (.lit (-1))))
     (.ret [(.lit 18), (.lit 0)])
     (.goto 35 [(.var 0)])))),
  (.goto 36 [(.var 0), (.lit 0), (.lit 1), (.bl true)]),
  (.br (.var 3)
   (.goto 36 [(.var 0), (.un (.wrap .i64) (.bi .add (.var 1) (.lit 1))), (.bi .rem (.un (.wrap .i64) (.bi .mul (.var 2) (.lit 19))) (.var 0)), (.bl false)])
   (.br (.un .not (.bi .eq (.var 2) (.lit 1)))
    (.goto 36 [(.var 0), (.un (.wrap .i64) (.bi .add (.var 1) (.lit 1))), (.bi .rem (.un (.wrap .i64) (.bi .mul (.var 2) (.lit 19))) (.var 0)), (.bl false)])
    (.br (.bi .eq (.var 1) (.bi .add (.var 0) (.lit (-1))))
     (.ret [(.lit 19), (.lit 0)])
     (.goto 37 [(.var 0)])))),
  (.goto 38 [(.var 0), (.lit 0), (.lit 1), (.bl true)]),
  (.br (.var 3)
   (.goto 38 [(.var 0), (.un (.wrap .i64) (.bi .add (.var 1) (.lit 1))), (.bi .rem (.un (.wrap .i64) (.bi .mul (.var 2) (.lit 20))) (.var 0)), (.bl false)])
   (.br (.un .not (.bi .eq (.var 2) (.lit 1)))
    (.goto 38 [(.var 0), (.un (.wrap .i64) (.bi .add (.var 1) (.lit 1))), (.bi .rem (.un (.wrap .i64) (.bi .mul (.var 2) (.lit 20))) (.var 0)), (.bl false)])
    (.br (.bi .eq (.var 1) (.bi .add (.var 0) (.lit (-1))))
     (.ret [(.lit 20), (.lit 0)])
     (.goto 39 [(.var 0)])))),
  (.goto 40 [(.var 0), (.lit 0), (.lit 1), (.bl true)]),
  (.br (.var 3)
   (.goto 40 [(.var 0), (.un (.wrap .i64) (.bi .add (.var 1) (.lit 1))), (.bi .rem (.un (.wrap .i64) (.bi .mul (.var 2) (.lit 21))) (.var 0)), (.bl false)])
   (.br (.un .not (.bi .eq (.var 2) (.lit 1)))
    (.goto 40 [(.var 0), (.un (.wrap .i64) (.bi .add (.var 1) (.lit 1))), (.bi .rem (.un (.wrap .i64) (.bi .mul (.var 2) (.lit 21))) (.var 0)), (.bl false)])
    (.br (.bi .eq (.var 1) (.bi .add (.var 0) (.lit (-1))))
     (.ret [(.lit 21), (.lit 0)])
     (.bad 400))))]
set_option maxRecDepth 100000 in
theorem sRoot : tmsRoot.map (summaryF (cx [cPrime] [18, 37]) 6000 0 tmsRoot cRoot.rt) = ssRoot := by kernel_rfl

end Go.Proofs.Ytohelfcinfpmaaa
