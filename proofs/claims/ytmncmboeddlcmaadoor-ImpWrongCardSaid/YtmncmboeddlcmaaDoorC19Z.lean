/- Chapter 19: scores that nobody can have, too many boards, and numbers that there are not, are rejected. -/
import Derived.Test.YtmncmboeddlcmaaDoorC19X
namespace Go.Proofs.YtmncmboeddlcmaaDoor
open Go Go.Sx Go.Proofs.C19

def wP : E := (.fn1 5 (.bi .take (.var 0) (.bi .min (.un .len (.var 0)) (.lit 127))))
def wN : E := (.bi .add (.un .len wP) (.lit 1))
def wI : E := (.bi .rem (.var 1) wN)
def wB : E := (.bi .snoc wP (.bi .cons (.lit 0) (.bi .cons (.lit 0) .nil)))
def wLo : E := (.bi .min (.var 2) (.lit (-7601)))
def wHi : E := (.bi .max (.var 2) (.lit 7601))
def w2wLo : E := (.se wB wI (.lit 1) wLo)
def w1wLo : E := (.se (.se w2wLo wI (.lit 0) wLo) wI (.lit 1) (.lit 0))
def w2wHi : E := (.se wB wI (.lit 1) wHi)
def w1wHi : E := (.se (.se w2wHi wI (.lit 0) wHi) wI (.lit 1) (.lit 0))
def wT (L : E) : ST := (.need [(.bi .le wN (.un .len L))] (.br (.un .not (.bi .eq (.fn1 2 (.bi .take L wN)) (.lit 0))) (.bad 402) (.br (.un .not (.bi .eq (.fn1 3 (.bi .take L wN)) (.lit 0))) (.bad 402) (.br (.un .not (.bi .eq (.un .len (.fn1 4 (.bi .take L wN))) (.lit 0))) (.bad 402) (.br (.un .not (.bi .eq (.fn2 1 (.te .get L wI (.lit 0)) (.te .get L wI (.lit 1))) (.lit 0))) (.bad 402) (.br (.un .not (.bi .eq (.fn1 1 (.bi .take L wN)) (.lit 190))) (.bad 402) (.br (.un .not (.bi .eq (.fn2 2 (.te .get L wI (.lit 0)) (.te .get L wI (.lit 1))) (.lit 190))) (.bad 402) (.need [(.bi .le (.bi .add (.un .len wP) (.lit 129)) (.lit 8278675785607))] (.need [(.bi .le (.bi .add (.un .len wP) (.lit 129)) (.un .len (reps 128 (.bi .cons (.lit 0) (.bi .cons (.lit 0) .nil)) L)))] (.br (.bi .eq (.fn1 2 (.bi .take (reps 128 (.bi .cons (.lit 0) (.bi .cons (.lit 0) .nil)) L) (.bi .add (.un .len wP) (.lit 129)))) (.lit 0)) (.br (.bi .eq (.fn1 3 (.bi .take (reps 128 (.bi .cons (.lit 0) (.bi .cons (.lit 0) .nil)) L) (.bi .add (.un .len wP) (.lit 129)))) (.lit 0)) (.br (.bi .eq (.un .len (.fn1 4 (.bi .take (reps 128 (.bi .cons (.lit 0) (.bi .cons (.lit 0) .nil)) L) (.bi .add (.un .len wP) (.lit 129))))) (.lit 0)) (.br (.bi .eq (.fn1 1 (.bi .take (reps 128 (.bi .cons (.lit 0) (.bi .cons (.lit 0) .nil)) L) (.bi .add (.un .len wP) (.lit 129)))) (.lit 5)) (.ret []) (.bad 402)) (.bad 402)) (.bad 402)) (.bad 402)))))))))))
noncomputable def tmsWrong : List Tm := [entryTm Tryd.prog cWrong]
def ssWrong : List ST := [(.need [(.bi .le (.bi .min (.un .len (.var 0)) (.lit 127)) (.un .len (.var 0)))] (.need [(.bi .le wN (.lit 8278675785607))] (.br (.var 3) (.need [(.bi .lt wI wN)] (.br (.bi .eq (.bi .rem (.var 1) (.lit 2)) (.lit 0)) (wT w1wLo) (wT w2wLo))) (.need [(.bi .lt wI wN)] (.br (.bi .eq (.bi .rem (.var 1) (.lit 2)) (.lit 0)) (wT w1wHi) (wT w2wHi))))))] 
set_option maxRecDepth 100000 in
theorem sWrong : tmsWrong.map (summaryF (cx [cImp, cScale, cRef, cSw, cRSw, cAw, cMatch, cRun, cRMatch, cRRun, cMt, cMd] [10]) 6000 2 tmsWrong cWrong.rt) = ssWrong := by kernel_rfl


theorem swV_bad {r : List Int} (h : ok1 r = false) : swV (r.getD 0 0) (r.getD 1 0) = 0 := by
  have h' := of_decide_eq_false h
  unfold swV
  rw [if_neg (by omega)]

/-- what follows, whatever the boards are made of -/
theorem tail_ok {ρ : List U} {G : Nat → List U → Prop} {n k : Nat} (hP : ((wP.den I19 ρ).l).length = n) (hn : n ≤ 127) (hk : (wI.den I19 ρ).i = (k : Int)) (hkn : k ≤ n) {L : E} {l : List (List Int)} (hL : (L.den I19 ρ).l = l) (hl : l.length = n + 1)
    (hbad : ok1 (l.getD k []) = false) : StOk I19 ρ G (fun ρ' => ρ' = []) (wT L) := by
  have hN : (wN.den I19 ρ).i = (n : Int) + 1 := by show (((wP.den I19 ρ).l.length : Nat) : Int) + 1 = _; rw [hP]
  have e1 : errB l = 190 := errB_bad (k := k) (by omega) hbad (by omega)
  have e2 : l.take ((n : Int) + 1).toNat = l := List.take_of_length_le (by omega)
  have e3 := swE_bad hbad
  have e4 := swV_bad hbad
  have e5 : ((List.replicate 128 [(0 : Int), 0] ++ l).take ((n : Int) + 129).toNat) = List.replicate 128 [(0 : Int), 0] ++ l := List.take_of_length_le (by rw [List.length_append, List.length_replicate]; omega)
  have e6 : errB (List.replicate 128 [(0 : Int), 0] ++ l) = 5 := errB_many (by rw [List.length_append, List.length_replicate]; omega)
  have e7 : (List.replicate 128 [(0 : Int), 0] ++ l).length = n + 129 := by rw [List.length_append, List.length_replicate]; omega
  have a1 : winA l = 0 := winA_bad (by rw [e1]; decide)
  have a2 : winB l = 0 := winB_bad (by rw [e1]; decide)
  have a3 : runB l = [] := runB_bad (by rw [e1]; decide)
  have b1 : winA (List.replicate 128 [(0 : Int), 0] ++ l) = 0 := winA_bad (by rw [e6]; decide)
  have b2 : winB (List.replicate 128 [(0 : Int), 0] ++ l) = 0 := winB_bad (by rw [e6]; decide)
  have b3 : runB (List.replicate 128 [(0 : Int), 0] ++ l) = [] := runB_bad (by rw [e6]; decide)
  generalize hR : List.replicate 128 [(0 : Int), 0] ++ l = R at *
  have hRd : ((reps 128 (.bi .cons (.lit 0) (.bi .cons (.lit 0) .nil)) L).den I19 ρ).l = R := by rw [reps_l, hL]; exact hR
  have r1 : (l.getD (k : Int).toNat []).getD (0 : Int).toNat 0 = (l.getD k []).getD 0 0 := rfl
  have r2 : (l.getD (k : Int).toNat []).getD (1 : Int).toNat 0 = (l.getD k []).getD 1 0 := rfl
  unfold wT
  generalize hRE : reps 128 (.bi .cons (.lit 0) (.bi .cons (.lit 0) .nil)) L = RE at *
  refine ⟨Holds.and (mk_le ?_) Holds.nil, fun _ => ⟨fun h => ?_, fun _ => ⟨fun h => ?_, fun _ => ⟨fun h => ?_, fun _ => ⟨fun h => ?_, fun _ => ⟨fun h => ?_, fun _ => ⟨fun h => ?_, fun _ => ⟨Holds.and (mk_le ?_) Holds.nil, fun _ => ⟨Holds.and (mk_le ?_) Holds.nil, fun _ => ⟨fun _ => ⟨fun _ => ⟨fun _ => ⟨fun _ => rfl, fun h => ?_⟩, fun h => ?_⟩, fun h => ?_⟩, fun h => ?_⟩⟩⟩⟩⟩⟩⟩⟩⟩⟩
  · show (wN.den I19 ρ).i ≤ (((L.den I19 ρ).l.length : Nat) : Int)
    rw [hN, hL, hl]; omega
  · refine is_ne h ?_
    show winA ((L.den I19 ρ).l.take (wN.den I19 ρ).i.toNat) = 0
    rw [hL, hN, e2]; exact a1
  · refine is_ne h ?_
    show winB ((L.den I19 ρ).l.take (wN.den I19 ρ).i.toNat) = 0
    rw [hL, hN, e2]; exact a2
  · refine is_ne h ?_
    show (((runB ((L.den I19 ρ).l.take (wN.den I19 ρ).i.toNat)).length : Nat) : Int) = 0
    rw [hL, hN, e2, a3]; rfl
  · refine is_ne h ?_
    show swV (((L.den I19 ρ).l.getD (wI.den I19 ρ).i.toNat []).getD (0 : Int).toNat 0) (((L.den I19 ρ).l.getD (wI.den I19 ρ).i.toNat []).getD (1 : Int).toNat 0) = 0
    rw [hL, hk]; exact e4
  · refine is_ne h ?_
    show errB ((L.den I19 ρ).l.take (wN.den I19 ρ).i.toNat) = 190
    rw [hL, hN, e2]; exact e1
  · refine is_ne h ?_
    show swE (((L.den I19 ρ).l.getD (wI.den I19 ρ).i.toNat []).getD (0 : Int).toNat 0) (((L.den I19 ρ).l.getD (wI.den I19 ρ).i.toNat []).getD (1 : Int).toNat 0) = 190
    rw [hL, hk]; exact e3
  · show (((wP.den I19 ρ).l.length : Nat) : Int) + 129 ≤ 8278675785607
    rw [hP]; omega
  · show (((wP.den I19 ρ).l.length : Nat) : Int) + 129 ≤ (((RE.den I19 ρ).l.length : Nat) : Int)
    rw [hP, hRd, e7]; omega
  · refine no_eq h ?_
    show errB ((RE.den I19 ρ).l.take ((((wP.den I19 ρ).l.length : Nat) : Int) + 129).toNat) = 5
    rw [hP, hRd, e5]; exact e6
  · refine no_eq h ?_
    show (((runB ((RE.den I19 ρ).l.take ((((wP.den I19 ρ).l.length : Nat) : Int) + 129).toNat)).length : Nat) : Int) = 0
    rw [hP, hRd, e5, b3]; rfl
  · refine no_eq h ?_
    show winB ((RE.den I19 ρ).l.take ((((wP.den I19 ρ).l.length : Nat) : Int) + 129).toNat) = 0
    rw [hP, hRd, e5]; exact b2
  · refine no_eq h ?_
    show winA ((RE.den I19 ρ).l.take ((((wP.den I19 ρ).l.length : Nat) : Int) + 129).toNat) = 0
    rw [hP, hRd, e5]; exact b1

theorem setAt_at {A : List (List Int)} {i j : Nat} {x : Int} (hi : i < A.length) : (setAt A i j x).getD i [] = (A.getD i []).set j x := by
  simp [setAt, List.getD_eq_getElem?_getD, List.getElem?_set, hi]

theorem ok1_far {r : List Int} {x : Int} (hx : x < -7600 ∨ 7600 < x) (h : r.getD 0 0 = x ∨ r.getD 1 0 = x) : ok1 r = false := by
  refine decide_eq_false ?_
  rcases h with h | h <;> omega

/-- a score that nobody can have, at one of two places -/
theorem bad2 {P : List (List Int)} {k : Nat} (hk : k ≤ P.length) {x : Int} (hx : x < -7600 ∨ 7600 < x) (hP : ∀ r ∈ P, r.length = 2) :
    (setAt (P ++ [[0, 0]]) k 1 x).length = P.length + 1 ∧ ok1 ((setAt (P ++ [[0, 0]]) k 1 x).getD k []) = false ∧
    (setAt (setAt (setAt (P ++ [[0, 0]]) k 1 x) k 0 x) k 1 0).length = P.length + 1 ∧ ok1 ((setAt (setAt (setAt (P ++ [[0, 0]]) k 1 x) k 0 x) k 1 0).getD k []) = false := by
  have hl : (P ++ [[(0 : Int), 0]]).length = P.length + 1 := by simp
  have hr : ∃ a b, (P ++ [[(0 : Int), 0]]).getD k [] = [a, b] := by
    have hlt : k < (P ++ [[(0 : Int), 0]]).length := by omega
    have hm : (P ++ [[(0 : Int), 0]])[k] ∈ P ++ [[(0 : Int), 0]] := List.getElem_mem hlt
    have h2 : ((P ++ [[(0 : Int), 0]])[k]).length = 2 := by
      rcases List.mem_append.1 hm with h | h
      · exact hP _ h
      · rw [List.mem_singleton.1 h]; rfl
    rw [getD_lt hlt]
    generalize (P ++ [[(0 : Int), 0]])[k] = r at h2
    rcases r with _ | ⟨a, _ | ⟨b, _ | ⟨c, r⟩⟩⟩ <;> simp at h2
    exact ⟨a, b, rfl⟩
  obtain ⟨a, b, hr⟩ := hr
  have l1 : (setAt (P ++ [[0, 0]]) k 1 x).length = P.length + 1 := by rw [setAt_len, hl]
  have g1 : (setAt (P ++ [[0, 0]]) k 1 x).getD k [] = [a, x] := by rw [setAt_at (by omega), hr]; rfl
  have l2 : (setAt (setAt (P ++ [[0, 0]]) k 1 x) k 0 x).length = P.length + 1 := by rw [setAt_len, l1]
  have g2 : (setAt (setAt (P ++ [[0, 0]]) k 1 x) k 0 x).getD k [] = [x, x] := by rw [setAt_at (by omega), g1]; rfl
  have g3 : (setAt (setAt (setAt (P ++ [[0, 0]]) k 1 x) k 0 x) k 1 0).getD k [] = [x, 0] := by rw [setAt_at (by omega), g2]; rfl
  exact ⟨l1, by rw [g1]; exact ok1_far hx (.inr rfl), by rw [setAt_len, l2], by rw [g3]; exact ok1_far hx (.inl rfl)⟩

theorem vWrong : cWrong.Valid (cx lawCs [10]) I19 := by
  refine Ctr.valid_goes (glIn _ _) lawAll (by decide) (by decide) (by kernel_rfl) rfl sWrong ?_
  intro ρ0 hpre
  have a0 : 0 ≤ (ρ0.getD 1 {}).i := holds_le (a := .lit 0) (b := .var 1) (hpre _ (by simp [cWrong, u8]))
  have hlenP : (wP.den I19 ρ0).l.length ≤ 127 := by
    have e : (wP.den I19 ρ0).l = madeB ((ρ0.getD 0 {}).l.take (if (127 : Int) < ((ρ0.getD 0 {}).l.length : Int) then (127 : Int) else ((ρ0.getD 0 {}).l.length : Int)).toNat) := rfl
    rw [e, madeB_length, List.length_take]
    split <;> omega
  have hrow : ∀ r ∈ (wP.den I19 ρ0).l, r.length = 2 := by
    intro r hr
    have hr' : r ∈ madeB ((ρ0.getD 0 {}).l.take (if (127 : Int) < ((ρ0.getD 0 {}).l.length : Int) then (127 : Int) else ((ρ0.getD 0 {}).l.length : Int)).toNat) := hr
    unfold madeB at hr'
    obtain ⟨q, _, rfl⟩ := List.mem_map.1 hr'
    rfl
  have hI : (wI.den I19 ρ0).i = (ρ0.getD 1 {}).i.tmod (((wP.den I19 ρ0).l.length : Int) + 1) := rfl
  have hin := rem_in a0 (show (0 : Int) < ((wP.den I19 ρ0).l.length : Int) + 1 by omega)
  rw [← hI] at hin
  obtain ⟨k, hk⟩ : ∃ k : Nat, (wI.den I19 ρ0).i = (k : Int) := ⟨(wI.den I19 ρ0).i.toNat, by omega⟩
  rw [hk] at hin
  have lo : (if (-7601 : Int) < (ρ0.getD 2 {}).i then (-7601 : Int) else (ρ0.getD 2 {}).i) < -7600 ∨ 7600 < (if (-7601 : Int) < (ρ0.getD 2 {}).i then (-7601 : Int) else (ρ0.getD 2 {}).i) := by left; split <;> omega
  have hi : (if (7601 : Int) > (ρ0.getD 2 {}).i then (7601 : Int) else (ρ0.getD 2 {}).i) < -7600 ∨ 7600 < (if (7601 : Int) > (ρ0.getD 2 {}).i then (7601 : Int) else (ρ0.getD 2 {}).i) := by right; split <;> omega
  obtain ⟨l1, l2, l3, l4⟩ := bad2 (P := (wP.den I19 ρ0).l) (k := k) (by omega) lo hrow
  obtain ⟨m1, m2, m3, m4⟩ := bad2 (P := (wP.den I19 ρ0).l) (k := k) (by omega) hi hrow
  have seD : ∀ (A i j x : E), ((E.se A i j x).den I19 ρ0).l = setAt (A.den I19 ρ0).l (i.den I19 ρ0).i.toNat (j.den I19 ρ0).i.toNat (x.den I19 ρ0).i := fun _ _ _ _ => rfl
  have hB : (wB.den I19 ρ0).l = (wP.den I19 ρ0).l ++ [[0, 0]] := rfl
  have hLo : (wLo.den I19 ρ0).i = if (-7601 : Int) < (ρ0.getD 2 {}).i then (-7601 : Int) else (ρ0.getD 2 {}).i := rfl
  have hHi : (wHi.den I19 ρ0).i = if (7601 : Int) > (ρ0.getD 2 {}).i then (7601 : Int) else (ρ0.getD 2 {}).i := rfl
  have z0 : ((E.lit 0).den I19 ρ0).i = 0 := rfl
  have z1 : ((E.lit 1).den I19 ρ0).i = 1 := rfl
  have t0 : (0 : Int).toNat = 0 := rfl
  have t1 : (1 : Int).toNat = 1 := rfl
  have tl : ∀ (L : E) (l : List (List Int)), (L.den I19 ρ0).l = l → l.length = (wP.den I19 ρ0).l.length + 1 → ok1 (l.getD k []) = false → StOk I19 ρ0 (fun k ρ' => Runs I19 (tmsWrong.map Tm.pre) ssWrong k ρ' []) (fun ρ' => ρ' = []) (wT L) :=
    fun L l h1 h2 h3 => tail_ok rfl hlenP hk (by omega) h1 h2 h3
  refine Runs.step rfl hpre ⟨Holds.and (mk_le ?_) Holds.nil, fun _ => ⟨Holds.and (mk_le ?_) Holds.nil, fun _ => ⟨fun _ => ⟨Holds.and (mk_lt ?_) Holds.nil, fun _ => ⟨fun _ => tl w1wLo _ ?_ l3 l4, fun _ => tl w2wLo _ ?_ l1 l2⟩⟩, fun _ => ⟨Holds.and (mk_lt ?_) Holds.nil, fun _ => ⟨fun _ => tl w1wHi _ ?_ m3 m4, fun _ => tl w2wHi _ ?_ m1 m2⟩⟩⟩⟩⟩
  · show (if (127 : Int) < ((ρ0.getD 0 {}).l.length : Int) then (127 : Int) else ((ρ0.getD 0 {}).l.length : Int)) ≤ ((ρ0.getD 0 {}).l.length : Int)
    split <;> omega
  · show ((wP.den I19 ρ0).l.length : Int) + 1 ≤ 8278675785607
    omega
  · rw [hk]
    show (k : Int) < ((wP.den I19 ρ0).l.length : Int) + 1
    omega
  · unfold w1wLo w2wLo
    rw [seD, seD, seD, hB, hk, z0, z1, hLo, t0, t1, Int.toNat_natCast]
  · unfold w2wLo
    rw [seD, hB, hk, z1, hLo, t1, Int.toNat_natCast]
  · rw [hk]
    show (k : Int) < ((wP.den I19 ρ0).l.length : Int) + 1
    omega
  · unfold w1wHi w2wHi
    rw [seD, seD, seD, hB, hk, z0, z1, hHi, t0, t1, Int.toNat_natCast]
  · unfold w2wHi
    rw [seD, hB, hk, z1, hHi, t1, Int.toNat_natCast]

end Go.Proofs.YtmncmboeddlcmaaDoor
