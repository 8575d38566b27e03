/- Chapter 27: what is said of the movements that are made. -/
import Derived.Test.YtiohgpifeamkhaaC27V
import Derived.Test.YtiohgpifeamkhaaC27F
namespace Go.Proofs.Ytiohgpifeamkhaa
open Go Go.Sx Go.Proofs.C27

structure KindOk (T K : Nat) : Prop where
  t2 : 2 ≤ T
  t24 : T ≤ 24
  k1 : 1 ≤ K
  k3 : K ≤ 3
  even : K ≠ 3 → T % 2 = 0
  four : K = 2 → 4 ≤ T
def mostN (T K : Nat) : Nat := if K = 3 then T else T / 2
def setsN (T K : Nat) : Nat := if K = 3 then T else if K = 2 then T - 1 else if T / 2 % 2 = 1 then T / 2 else T / 2 + 1
def copiesN (T K : Nat) : Nat := if K = 3 then T else 2
def allRows (T K N : Nat) : List (List Int) := rowsW T K (setsN T K) N

/-! ### the kernel looks at all of them -/
def roundKeys (T K r : Nat) : List (List Int) := (List.range T).map fun j => standKey (C27.rowW T K (setsN T K) r j)
def fairAll (T K : Nat) : Bool :=
  fairRows T (setsN T K) (copiesN T K) (allRows T K (mostN T K)) 0 0 ⟨0, 0, 0, List.replicate (setsN T K) [0]⟩ &&
  (allRows T K (mostN T K)).all (fun r => r.all fun x => decide ((0 : Int) ≤ x) && decide (x ≤ 100)) &&
  ((List.range (mostN T K)).all fun r => (roundKeys T K r).all fun k => decide ((roundKeys T K r).count k ≤ copiesN T K)) &&
  decide ((roundKeys T K 0).count [0, 0] = copiesN T K) && decide (K = 3 ∨ setsN T K % 2 = 1)
set_option maxRecDepth 100000 in
theorem all_1 : ((List.range 12).all fun m => fairAll (2 * m + 2) 1) = true := by kernel_rfl
set_option maxRecDepth 100000 in
theorem all_2 : ((List.range 11).all fun m => fairAll (2 * m + 4) 2) = true := by kernel_rfl
set_option maxRecDepth 100000 in
theorem all_3 : ((List.range 23).all fun m => fairAll (m + 2) 3) = true := by kernel_rfl
theorem KindOk.all {T K : Nat} (h : KindOk T K) : fairAll T K = true := by
  obtain ⟨t2, t24, k1, k3, ev, fo⟩ := h
  match K, k1, k3 with
  | 1, _, _ =>
    have := List.all_eq_true.1 all_1 ((T - 2) / 2) (List.mem_range.2 (by omega))
    have ot := ev (by omega)
    rwa [show 2 * ((T - 2) / 2) + 2 = T from by omega] at this
  | 2, _, _ =>
    have := List.all_eq_true.1 all_2 ((T - 4) / 2) (List.mem_range.2 (by omega))
    have ot := ev (by omega)
    have o4 := fo rfl
    rwa [show 2 * ((T - 4) / 2) + 4 = T from by omega] at this
  | 3, _, _ =>
    have := List.all_eq_true.1 all_3 (T - 2) (List.mem_range.2 (by omega))
    rwa [show T - 2 + 2 = T from by omega] at this
end Go.Proofs.Ytiohgpifeamkhaa
