/- Chapter 25: MitchellFull. -/
import Derived.Test.YtbknfmmoniammaaC25Zb
namespace Go.Proofs.Ytbknfmmoniammaa
open Go Go.Sx Go.Proofs.C25

/-! ### how often each pair plays -/
def bumpN (c : List Nat) (r : List Int) : List Nat := (c.modify (r.getD 2 0).toNat (· + 1)).modify (r.getD 3 0).toNat (· + 1)
def fullChk (T K : Nat) : Bool := (fullR T K (mostN T K)).foldl bumpN (List.replicate (2 * T + 1) 0) == 0 :: List.replicate (2 * T) (mostN T K)
set_option maxRecDepth 100000 in
theorem full_2 : ((List.range 12).all fun m => fullChk (2 * m + 2) 2) = true := by kernel_rfl
set_option maxRecDepth 100000 in
theorem full_3 : ((List.range 12).all fun m => fullChk (2 * m + 2) 3) = true := by kernel_rfl
set_option maxRecDepth 100000 in
theorem full_1 : ((List.range 11).all fun m => fullChk (2 * m + 3) 1) = true := by kernel_rfl
theorem KindOk.full {T K : Nat} (h : KindOk T K) (h0 : K ≠ 0) : fullChk T K = true := by
  obtain ⟨t2, t24, k3, od, ev, rv⟩ := h
  match K, k3 with
  | 0, _ => exact (h0 rfl).elim
  | 1, _ =>
    have := List.all_eq_true.1 full_1 ((T - 3) / 2) (List.mem_range.2 (by omega))
    have ot := od (by omega)
    rwa [show 2 * ((T - 3) / 2) + 3 = T from by omega] at this
  | 2, _ =>
    have := List.all_eq_true.1 full_2 ((T - 2) / 2) (List.mem_range.2 (by omega))
    have ot := ev (by omega)
    rwa [show 2 * ((T - 2) / 2) + 2 = T from by omega] at this
  | 3, _ =>
    have := List.all_eq_true.1 full_3 ((T - 2) / 2) (List.mem_range.2 (by omega))
    have ot := ev (by omega)
    rwa [show 2 * ((T - 2) / 2) + 2 = T from by omega] at this
end Go.Proofs.Ytbknfmmoniammaa
