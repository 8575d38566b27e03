/- Chapter 25: what is said of all movements that are made. -/
import Derived.Test.YtbknfmmoniammaaC25V
namespace Go.Proofs.Ytbknfmmoniammaa
open Go Go.Sx Go.Proofs.C25

/-! ### no key twice, reckoned with bits -/
def nodupB : List Nat → Nat → Bool
  | [], _ => true
  | x :: l, m => !m.testBit x && nodupB l (m ||| 1 <<< x)
theorem nodupB_ok : ∀ (l : List Nat) (m : Nat), nodupB l m = true → l.Nodup ∧ ∀ x ∈ l, m.testBit x = false
  | [], _, _ => ⟨List.nodup_nil, fun _ h => by cases h⟩
  | x :: l, m, h => by
    unfold nodupB at h
    rw [Bool.and_eq_true, Bool.not_eq_true'] at h
    obtain ⟨h1, h2⟩ := nodupB_ok l _ h.2
    have hb : ∀ y ∈ l, y ≠ x ∧ m.testBit y = false := by
      intro y hy
      have := h2 y hy
      rw [Nat.testBit_or, Bool.or_eq_false_iff, Nat.testBit_shiftLeft] at this
      refine ⟨fun e => ?_, this.1⟩
      subst e
      simp at this
    refine ⟨List.nodup_cons.2 ⟨fun hx => (hb x hx).1 rfl, h1⟩, fun y hy => ?_⟩
    rcases List.mem_cons.1 hy with rfl | hy
    · exact h.1
    · exact (hb y hy).2
theorem nodup_of {α : Type} (f : α → Nat) (l : List α) (h : nodupB (l.map f) 0 = true) : l.Nodup := by
  have := (nodupB_ok _ _ h).1
  rw [List.Nodup, List.pairwise_map] at this
  exact this.imp fun h e => h (by rw [e])

def key2 (k : List Int) : Nat := (k.getD 0 0).toNat * 64 + (k.getD 1 0).toNat
def rowIn (T R S : Int) (r : List Int) : Bool := decide (0 ≤ r.getD 0 0) && decide (r.getD 0 0 < R) && decide (0 ≤ r.getD 1 0) && decide (r.getD 1 0 < T) && decide (0 ≤ r.getD 2 0) && decide (r.getD 2 0 ≤ 1000) && decide (0 ≤ r.getD 3 0) && decide (r.getD 3 0 ≤ 1000) && decide (0 ≤ r.getD 4 0) && decide (r.getD 4 0 < S)
/-- all rows of a kind: kind 0 is with a rover -/
def mostN (T K : Nat) : Nat := if K = 2 then T - 1 else T
def fullR (T K N : Nat) : List (List Int) := if K = 0 then (rowsM T 1 N).map (roverRow T) else rowsM T K N
def fairChk (T K : Nat) : Bool :=
  let l := fullR T K (mostN T K)
  l.all (rowIn T (mostN T K) T) && nodupB ((l.flatMap sitKeys).map key2) 0 && nodupB ((l.flatMap playKeys).map key2) 0 && nodupB ((l.flatMap meetKeys).map key2) 0 &&
    (if K = 3 then nodupB (((l.filter fun r => decide (r.getD 1 0 < ((T / 2 : Nat) : Int))).map standKey).map key2) 0 && nodupB (((l.filter fun r => !decide (r.getD 1 0 < ((T / 2 : Nat) : Int))).map standKey).map key2) 0 else nodupB ((l.map standKey).map key2) 0)

set_option maxRecDepth 100000 in
theorem fair_2 : ((List.range 12).all fun m => fairChk (2 * m + 2) 2) = true := by kernel_rfl
set_option maxRecDepth 100000 in
theorem fair_3 : ((List.range 12).all fun m => fairChk (2 * m + 2) 3) = true := by kernel_rfl
set_option maxRecDepth 100000 in
theorem fair_1 : ((List.range 11).all fun m => fairChk (2 * m + 3) 1) = true := by kernel_rfl
set_option maxRecDepth 100000 in
theorem fair_0 : ((List.range 11).all fun m => (2 * m + 3) % 3 == 0 || fairChk (2 * m + 3) 0) = true := by kernel_rfl

theorem rowIn_ok {T R S : Int} {r : List Int} (h : rowIn T R S r = true) : FairRow T R S r := by
  unfold rowIn at h
  simp only [Bool.and_eq_true, decide_eq_true_eq] at h
  obtain ⟨⟨⟨⟨⟨⟨⟨⟨⟨h1, h2⟩, h3⟩, h4⟩, h5⟩, h6⟩, h7⟩, h8⟩, h9⟩, h10⟩ := h
  exact ⟨⟨h1, h2⟩, ⟨h3, h4⟩, ⟨h5, h6⟩, ⟨h7, h8⟩, ⟨h9, h10⟩⟩
theorem count_filter2 {α β : Type} [BEq β] [LawfulBEq β] (f : α → β) (p : α → Bool) (k : β) : ∀ l : List α, (l.map f).count k = ((l.filter p).map f).count k + ((l.filter fun x => !p x).map f).count k
  | [] => rfl
  | x :: l => by
    have ih := count_filter2 f p k l
    rw [List.map_cons, List.count_cons, ih]
    cases hp : p x <;> simp [hp, List.count_cons] <;> omega
theorem count_le_one {β : Type} [BEq β] [LawfulBEq β] {l : List β} (h : l.Nodup) (k : β) : l.count k ≤ 1 := List.nodup_iff_count.1 h k

theorem fairChk_ok {T K : Nat} (h : fairChk T K = true) : FairM T (mostN T K) T (if K = 3 then 2 else 1) (fullR T K (mostN T K)) := by
  unfold fairChk at h
  simp only [Bool.and_eq_true] at h
  obtain ⟨⟨⟨⟨h1, h2⟩, h3⟩, h4⟩, h5⟩ := h
  refine ⟨fun r hr => rowIn_ok (List.all_eq_true.1 h1 r hr), nodup_of _ _ h2, nodup_of _ _ h3, nodup_of _ _ h4, fun k => ?_⟩
  by_cases hK : K = 3
  · rw [if_pos hK, Bool.and_eq_true] at h5
    rw [if_pos hK, count_filter2 standKey (fun r => decide (r.getD 1 0 < ((T / 2 : Nat) : Int))) k]
    have a := count_le_one (nodup_of _ _ h5.1) k
    have b := count_le_one (nodup_of _ _ h5.2) k
    omega
  · rw [if_neg hK] at h5 ⊢
    have := count_le_one (nodup_of _ _ h5) k
    omega

end Go.Proofs.Ytbknfmmoniammaa
