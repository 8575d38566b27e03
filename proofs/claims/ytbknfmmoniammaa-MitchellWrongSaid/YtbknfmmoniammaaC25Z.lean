/- Chapter 25: the movements that the laws make of numbers. -/
import Derived.Test.YtbknfmmoniammaaC25Yb
import Derived.Test.YtbknfmmoniammaaC25La
import Derived.Test.YtbknfmmoniammaaC25X
namespace Go.Proofs.Ytbknfmmoniammaa
open Go Go.Sx Go.Proofs.C25

theorem tmod_small {a m : Int} (h : 0 ≤ a) (hm : 0 < m) : 0 ≤ a.tmod m ∧ a.tmod m < m := by
  rw [Int.tmod_eq_emod_of_nonneg h]
  exact ⟨Int.emod_nonneg _ (by omega), Int.emod_lt_of_pos _ hm⟩
theorem or_all : ((List.range 25).all fun x => bitsOp .or .i64 (x : Int) 1 == if (x : Int).tmod 2 = 1 then (x : Int) else (x : Int) + 1) = true := by kernel_rfl
theorem an_all : ((List.range 25).all fun x => bitsOp .andNot .i64 (x : Int) 1 == (x : Int) - (x : Int).tmod 2) = true := by kernel_rfl
theorem or1 {x : Int} (h0 : 0 ≤ x) (h : x ≤ 24) : bitsOp .or .i64 x 1 = if x.tmod 2 = 1 then x else x + 1 := by
  obtain ⟨n, rfl⟩ := int_nat h0
  exact beq_iff_eq.1 (List.all_eq_true.1 or_all n (List.mem_range.2 (by omega)))
theorem an1 {x : Int} (h0 : 0 ≤ x) (h : x ≤ 24) : bitsOp .andNot .i64 x 1 = x - x.tmod 2 := by
  obtain ⟨n, rfl⟩ := int_nat h0
  exact beq_iff_eq.1 (List.all_eq_true.1 an_all n (List.mem_range.2 (by omega)))

def madeOut (a b c : Int) : List U := [{ i := madeF 0 a b c }, { i := madeF 1 a b c }, { i := madeF 2 a b c }, { i := madeF 3 a b c }, { i := madeF 4 a b c }, { l := madeR a b c }]
theorem made_n {a b c T k' n : Int} (hb : 0 ≤ b) (hT : madeT a c = T) (hk' : (if madeK a c < 1 then 1 else madeK a c) = k') (hn : n = IntKind.wrap .i64 (b.tmod (if 1 > mostV T k' then 1 else mostV T k') + 1)) (hb2 : b ≤ 255) : madeN a b c = n := by
  unfold madeN madeM
  rw [hT, hk', hn]
  have e : (if 1 > mostV T k' then (1 : Int) else mostV T k') = (if mostV T k' < 1 then 1 else mostV T k') := rfl
  rw [e]
  generalize hm : (if mostV T k' < 1 then (1 : Int) else mostV T k') = m
  have hm1 : 0 < m := by rw [← hm]; split <;> omega
  have := tmod_small hb hm1
  have h3 : b.tmod m ≤ b := by
    rw [Int.tmod_eq_emod_of_nonneg hb]
    clear hn hT hk' hm e
    obtain ⟨n, rfl⟩ := int_nat hb
    obtain ⟨q, rfl⟩ := int_nat (x := m) (by omega)
    have := Nat.mod_le n q
    omega
  rw [w64 (by omega) (by omega), Int.add_comm]
theorem made_0 {a b c T n : Int} (hK : madeK a c = 0) (hT : madeT a c = T) (hn : madeN a b c = n) : [({ i := roverF 0 T n } : U), { i := roverF 1 T n }, { i := roverF 2 T n }, { i := roverF 3 T n }, { i := roverF 4 T n }, { l := roverR T n }] = madeOut a b c := by
  unfold madeOut madeF madeR
  simp only [hK, hT, hn, if_true]
theorem made_k {a b c T n K : Int} (hK : madeK a c = K) (h0 : K ≠ 0) (hT : madeT a c = T) (hn : madeN a b c = n) : [({ i := makeF 0 T n K } : U), { i := makeF 1 T n K }, { i := makeF 2 T n K }, { i := makeF 3 T n K }, { i := makeF 4 T n K }, { l := makeR T n K }] = madeOut a b c := by
  unfold madeOut madeF madeR
  simp only [hK, hT, hn, h0, if_false]

theorem vMade : cMade.Valid (cx [] []) I25 := by
  refine re (Ctr.valid_run resp25 (glIn _ _) (allOf (.cons vMost (.cons vMake (.cons vRover .nil)))) (by decide) (by decide) (by kernel_rfl) rfl sMade [.i, .i, .i] [.i, .i, .i, .i, .i, .l] (by decide) ?_)
  intro ρ0 hρ hpre _
  obtain ⟨a, b, c, rfl⟩ := three_iii hρ
  have hp := hpre
  simp only [cMade, u8s, le', List.cons_append, List.nil_append, holds_cons_iff, E.den, BiO.den, List.getD_cons_zero, List.getD_cons_succ, decide_eq_true_eq] at hp
  obtain ⟨a0, a1, b0, b1, c0, c1, _⟩ := hp
  refine ⟨madeOut a b c, Runs.step rfl hpre ?_, rfl⟩
  have hT0 := tmod_small a0 (show (0 : Int) < 23 by omega)
  have hc4 := tmod_small c0 (show (0 : Int) < 4 by omega)
  have eT0 : a.tmod 23 + 2 = madeT0 a := by unfold madeT0; omega
  have t2 : 2 ≤ madeT0 a ∧ madeT0 a ≤ 24 := by unfold madeT0; omega
  simp only [StOk, E.den, BiO.den, UnO.den, List.map_cons, List.map_nil, List.getD_cons_zero, List.getD_cons_succ, decide_eq_true_eq, decide_eq_false_iff_not, beq_iff_eq, beq_eq_false_iff_ne, Bool.not_eq_true', Bool.not_eq_false', eT0, or1 (x := madeT0 a) (by omega) t2.2, an1 (x := madeT0 a) (by omega) t2.2]
  have hT1 (hK : madeK a c = 1) (h : 24 < if (madeT0 a).tmod 2 = 1 then madeT0 a else madeT0 a + 1) : madeT a c = (if (madeT0 a).tmod 2 = 1 then madeT0 a else madeT0 a + 1) + -2 := by
    unfold madeT; rw [if_neg (by omega), if_pos hK]; split at h <;> omega
  have hT1' (hK : madeK a c = 1) (h : ¬ 24 < if (madeT0 a).tmod 2 = 1 then madeT0 a else madeT0 a + 1) : madeT a c = (if (madeT0 a).tmod 2 = 1 then madeT0 a else madeT0 a + 1) := by
    unfold madeT; rw [if_neg (by omega), if_pos hK]; split at h <;> omega
  have hT2 (hK : 1 < madeK a c) : madeT a c = madeT0 a - (madeT0 a).tmod 2 := by
    unfold madeT; rw [if_neg (by omega), if_neg (by omega)]
  have hT00 (hK : madeK a c = 0) : madeT a c = madeT0 a := by unfold madeT; rw [if_pos hK]
  refine ⟨fun k0 => ⟨fun m1 => ⟨fun m5 => ?_, fun m5 => ?_⟩, fun m1 => ?_⟩, fun k0 => ⟨fun k1 => ?_, fun k1 => ⟨fun k2 => ?_, fun k2 => by omega⟩⟩⟩
  · have hK : madeK a c = 1 := by unfold madeK; rw [if_pos ⟨k0, m1, m5⟩]
    refine ⟨fun q => ?_, fun q => ?_⟩
    · exact made_k hK (by decide) (hT1 hK q) (made_n b0 (hT1 hK q) (by rw [hK]; rfl) rfl b1)
    · exact made_k hK (by decide) (hT1' hK q) (made_n b0 (hT1' hK q) (by rw [hK]; rfl) rfl b1)
  · have hK : madeK a c = 0 := by unfold madeK; rw [if_neg (fun q => q.2.2 m5)]; exact k0
    exact made_0 hK (hT00 hK) (made_n b0 (hT00 hK) (by rw [hK]; rfl) rfl b1)
  · have hK : madeK a c = 0 := by unfold madeK; rw [if_neg (fun q => q.2.1 m1)]; exact k0
    exact made_0 hK (hT00 hK) (made_n b0 (hT00 hK) (by rw [hK]; rfl) rfl b1)
  · have hK : madeK a c = 1 := by unfold madeK; rw [if_neg (fun q => k0 q.1)]; exact k1
    have hk : (if madeK a c < 1 then 1 else madeK a c) = c.tmod 4 := by rw [hK, k1]; rfl
    refine ⟨fun q => ?_, fun q => ?_⟩
    · exact made_k (hK.trans k1.symm) k0 (hT1 hK q) (made_n b0 (hT1 hK q) hk rfl b1)
    · exact made_k (hK.trans k1.symm) k0 (hT1' hK q) (made_n b0 (hT1' hK q) hk rfl b1)
  · have hK : madeK a c = c.tmod 4 := by unfold madeK; rw [if_neg (fun q => k0 q.1)]
    have hk : (if madeK a c < 1 then 1 else madeK a c) = c.tmod 4 := by rw [hK, if_neg (by omega)]
    exact made_k hK k0 (hT2 (by rw [hK]; exact k2)) (made_n b0 (hT2 (by rw [hK]; exact k2)) hk rfl b1)
end Go.Proofs.Ytbknfmmoniammaa
