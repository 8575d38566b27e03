/- Chapter 19: matches and made. -/
import Derived.Test.YtmncmboeddlcmaaDoorC19Q
namespace Go.Proofs.YtmncmboeddlcmaaDoor
open Go Go.Sx Go.Proofs.C19

def opens (l : List (List Int)) (k : Nat) : List (List Int) := (l.take k).map fun r => [r.getD 0 0]
def closes (l : List (List Int)) (k : Nat) : List (List Int) := (l.take k).map fun r => [r.getD 1 0]
def normB (l : List (List Int)) : List (List Int) := l.map fun r => [r.getD 0 0, r.getD 1 0]

theorem getD_lt {l : List (List Int)} {k : Nat} (h : k < l.length) : l.getD k [] = l[k] := by rw [List.getD_eq_getElem?_getD, List.getElem?_eq_getElem h]; rfl
theorem opens_succ {l : List (List Int)} {k : Nat} (h : k < l.length) : opens l (k + 1) = opens l k ++ [[(l.getD k []).getD 0 0]] := by
  unfold opens
  rw [List.take_succ_eq_append_getElem h, List.map_append, getD_lt h]
  rfl
theorem closes_succ {l : List (List Int)} {k : Nat} (h : k < l.length) : closes l (k + 1) = closes l k ++ [[(l.getD k []).getD 1 0]] := by
  unfold closes
  rw [List.take_succ_eq_append_getElem h, List.map_append, getD_lt h]
  rfl
theorem opens_length {l : List (List Int)} {k : Nat} (h : k ≤ l.length) : (opens l k).length = k := by simp [opens]; omega
theorem closes_length {l : List (List Int)} {k : Nat} (h : k ≤ l.length) : (closes l k).length = k := by simp [closes]; omega
theorem zip_norm (l : List (List Int)) : zipB (opens l l.length) (closes l l.length) = normB l := by
  unfold zipB opens closes normB
  rw [List.take_length, List.zipWith_map, List.zipWith_self]
  rfl
theorem normB_length (l : List (List Int)) : (normB l).length = l.length := by simp [normB]
theorem normB_getD (l : List (List Int)) (k : Nat) (h : k < l.length) : (normB l).getD k [] = [(l.getD k []).getD 0 0, (l.getD k []).getD 1 0] := by
  simp [normB, List.getD_eq_getElem?_getD, List.getElem?_eq_getElem h]
theorem ok1_norm (r : List Int) : ok1 [r.getD 0 0, r.getD 1 0] = ok1 r := rfl
theorem swB_norm (r : List Int) : swB [r.getD 0 0, r.getD 1 0] = swB r := rfl
theorem errB_norm (l : List (List Int)) : errB (normB l) = errB l := by
  unfold errB
  rw [normB_length]
  congr 2
  unfold normB
  rw [List.all_map]
  rfl
theorem sumF_norm {f : List Int → Int} (hf : ∀ r, f [r.getD 0 0, r.getD 1 0] = f r) (l : List (List Int)) (k : Nat) : sumF f (normB l) k = sumF f l k := by
  unfold sumF normB
  rw [← List.map_take, List.map_map]
  congr 2
  funext r
  exact hf r
theorem winA_norm (l : List (List Int)) : winA (normB l) = winA l := by
  by_cases h : errB l = 0
  · rw [winA_ok h, winA_ok (by rw [errB_norm]; exact h), normB_length, sumF_norm fun r => rfl]
  · rw [winA_bad h, winA_bad (by rw [errB_norm]; exact h)]
theorem winB_norm (l : List (List Int)) : winB (normB l) = winB l := by
  by_cases h : errB l = 0
  · rw [winB_ok h, winB_ok (by rw [errB_norm]; exact h), normB_length, sumF_norm fun r => rfl]
  · rw [winB_bad h, winB_bad (by rw [errB_norm]; exact h)]
theorem runB_norm (l : List (List Int)) : runB (normB l) = runB l := by
  by_cases h : errB l = 0
  · rw [runB_ok h, runB_ok (by rw [errB_norm]; exact h), normB_length]
    unfold runP
    congr 1
    funext j
    rw [sumF_norm fun r => rfl]
  · rw [runB_bad h, runB_bad (by rw [errB_norm]; exact h)]
theorem runB_length_le (l : List (List Int)) : (runB l).length ≤ 128 := by
  by_cases h : errB l = 0
  · rw [runB_ok h, runP_length]; exact (errB_zero h).1
  · rw [runB_bad h]; simp

def seven : List Int := [7, 0]
theorem take7 (l : List (List Int)) : (l ++ [seven]).take l.length = l := by simp

theorem rMt3 (u : U) (h200 : u.l.length ≤ 200) : ∀ m k : Nat, k + m = u.l.length → Runs I19 (tmsMt.map Tm.pre) ssMt 3 [u, { i := k }] [{ b := true }]
  | m, k, h => by
    refine Runs.step rfl ?_ ?_
    · simp only [tmsMt, List.map_cons, List.getD_cons_zero, List.getD_cons_succ, holds_cons_iff, E.den, BiO.den, UnO.den, decide_eq_true_eq, List.length_append, List.length_singleton]
      refine ⟨?_, ?_, ?_, ?_, Holds.nil⟩ <;> omega
    · simp only [StOk, E.den, BiO.den, UnO.den, List.map_cons, List.map_nil, List.getD_cons_zero, List.getD_cons_succ, decide_eq_true_eq, decide_eq_false_iff_not]
      refine ⟨fun h1 => ?_, fun _ => trivial⟩
      cases m with
      | zero => omega
      | succ m => exact rMt3 u h200 m (k + 1) (by omega)

theorem rMt2 (u : U) (h200 : u.l.length ≤ 200) : ∀ m k : Nat, k + m = (runB u.l).length → Runs I19 (tmsMt.map Tm.pre) ssMt 2 [u, { l := runB u.l }, { i := k }] [{ b := true }]
  | m, k, h => by
    have e7 : (u.l ++ [[7, 0]]).take u.l.length = u.l := take7 u.l
    have hl := runB_length_le u.l
    refine Runs.step rfl ?_ ?_
    · simp only [tmsMt, List.map_cons, List.getD_cons_zero, List.getD_cons_succ, holds_cons_iff, E.den, BiO.den, UnO.den, decide_eq_true_eq, List.length_append, List.length_singleton]
      refine ⟨?_, ?_, Holds.nil⟩ <;> omega
    · simp only [StOk, E.den, BiO.den, UnO.den, TeO.den, I19, List.map_cons, List.map_nil, List.getD_cons_zero, List.getD_cons_succ, decide_eq_true_eq, decide_eq_false_iff_not, Int.toNat_natCast, e7, holds_cons_iff, holds_nil_iff, Bool.not_eq_true', beq_eq_false_iff_ne, ne_eq, beq_iff_eq, Bool.not_eq_false', and_true]
      refine ⟨fun h1 => ⟨by omega, fun _ => ⟨fun h2 => absurd trivial h2, fun _ => ?_⟩⟩, fun _ => rMt3 u h200 u.l.length 0 (by omega)⟩
      cases m with
      | zero => omega
      | succ m =>
        rw [w64 (by omega) (by omega)]
        exact rMt2 u h200 m (k + 1) (by omega)

theorem rMt1 (u : U) (h200 : u.l.length ≤ 200) : ∀ m k : Nat, k + m = u.l.length → Runs I19 (tmsMt.map Tm.pre) ssMt 1 [u, { l := opens u.l k }, { l := closes u.l k }, { i := k }] [{ b := true }]
  | m, k, h => by
    have e7 : (u.l ++ [[7, 0]]).take u.l.length = u.l := take7 u.l
    have ho := opens_length (l := u.l) (k := k) (by omega)
    have hc := closes_length (l := u.l) (k := k) (by omega)
    refine Runs.step rfl ?_ ?_
    · simp only [tmsMt, List.map_cons, List.getD_cons_zero, List.getD_cons_succ, holds_cons_iff, E.den, BiO.den, UnO.den, decide_eq_true_eq, beq_iff_eq]
      refine ⟨?_, ?_, ?_, ?_, Holds.nil⟩ <;> omega
    · simp only [StOk, E.den, BiO.den, UnO.den, TeO.den, I19, List.map_cons, List.map_nil, List.getD_cons_zero, List.getD_cons_succ, decide_eq_true_eq, decide_eq_false_iff_not, Int.toNat_natCast, e7, holds_cons_iff, holds_nil_iff, Bool.not_eq_true', beq_eq_false_iff_ne, ne_eq, beq_iff_eq, Bool.not_eq_false', and_true, List.length_append, List.length_singleton, Int.toNat_zero, show (1 : Int).toNat = 1 from rfl]
      refine ⟨fun h1 => ?_, fun h1 => ⟨by omega, fun _ => ?_⟩⟩
      · cases m with
        | zero => omega
        | succ m =>
          have ih := rMt1 u h200 m (k + 1) (by omega)
          rw [opens_succ (by omega), closes_succ (by omega)] at ih
          exact ih
      · obtain rfl : k = u.l.length := by omega
        rw [zip_norm, winA_norm, winB_norm, errB_norm, runB_norm]
        exact ⟨fun h => absurd rfl h, fun _ => ⟨fun h => absurd rfl h, fun _ => ⟨fun h => absurd rfl h, fun _ => ⟨fun h => absurd rfl h, fun _ => rMt2 u h200 (runB u.l).length 0 (by omega)⟩⟩⟩⟩

theorem vMt : cMt.Valid (cx [cMatch, cRun, cRMatch, cRRun] [18]) I19 := by
  refine Ctr.valid_goes (glIn _ _) (fun c hc => ?_) (by decide) (by decide) (by kernel_rfl) rfl sMt ?_
  · have : c = cMatch ∨ c = cRun ∨ c = cRMatch ∨ c = cRRun := by simpa [cx] using hc
    rcases this with rfl | rfl | rfl | rfl
    · exact re vMatch
    · exact re vRun
    · exact re vRMatch
    · exact re vRRun
  intro ρ0 hpre
  have h := holds_le (a := .un .len (.var 0)) (b := .lit 200) (hpre _ (List.mem_singleton.2 rfl))
  refine Runs.step rfl hpre ?_
  exact rMt1 (ρ0.getD 0 {}) (by simp only [E.den, UnO.den] at h; omega) (ρ0.getD 0 {}).l.length 0 (by omega)

/-! ### made -/
theorem elem_in {l : List (List Int)} (h : (l.all fun r => r.all fun x => decide ((0 : Int) ≤ x) && decide (x ≤ 4294967295)) = true) (k : Nat) : 0 ≤ (l.getD k []).getD 0 0 ∧ (l.getD k []).getD 0 0 ≤ 4294967295 := by
  simp only [List.getD_eq_getElem?_getD]
  cases h1 : l[k]? with
  | none => simp
  | some r =>
    cases h2 : r[0]? with
    | none => simp [h2]
    | some x =>
      have := List.all_eq_true.1 (List.all_eq_true.1 h r (List.mem_of_getElem? h1)) x (List.mem_of_getElem? h2)
      simp [h2] at this ⊢
      exact this

theorem rMd (u : U) (n : Nat) (hn : n ≤ u.l.length) (hel : (u.l.all fun r => r.all fun x => decide ((0 : Int) ≤ x) && decide (x ≤ 4294967295)) = true) (h128 : n ≤ 128) : ∀ m k : Nat, k + m = n →
    Runs I19 (tmsMd.map Tm.pre) ssMd 1 [u, { l := (u.l.take k).map madeR }, { i := n }, { i := k }] [{ l := (u.l.take n).map madeR }]
  | m, k, h => by
    refine Runs.step rfl ?_ ?_
    · simp only [tmsMd, List.map_cons, List.getD_cons_zero, List.getD_cons_succ, holds_cons_iff, E.den, BiO.den, UnO.den, TeO.den, decide_eq_true_eq]
      exact ⟨by omega, by omega, hel, Holds.nil⟩
    · simp only [StOk, E.den, BiO.den, UnO.den, TeO.den, List.map_cons, List.map_nil, List.getD_cons_zero, List.getD_cons_succ, decide_eq_true_eq, decide_eq_false_iff_not, Int.toNat_natCast, holds_cons_iff, holds_nil_iff, and_true, Int.toNat_zero, List.length_map, List.length_take]
      refine ⟨fun h1 => ⟨by omega, fun _ => ⟨by omega, fun _ => ?_⟩⟩, fun h1 => ?_⟩
      · cases m with
        | zero => omega
        | succ m =>
          have ih := rMd u n hn hel h128 m (k + 1) (by omega)
          rw [List.take_succ_eq_append_getElem (by omega), List.map_append] at ih
          rw [w64 (by omega) (by omega)]
          have e : u.l.getD k [] = u.l[k] := by rw [List.getD_eq_getElem?_getD, List.getElem?_eq_getElem (by omega)]; rfl
          rw [e]
          exact ih
      · obtain rfl : k = n := by omega
        rfl

theorem vMd : cMd.Valid (cx [] [19]) I19 := by
  refine Ctr.valid_goes (glIn _ _) (fun c hc => by cases hc) (by decide) (by decide) (by kernel_rfl) rfl sMd ?_
  intro ρ0 hpre
  generalize hu : ρ0.getD 0 {} = u
  generalize hv : ρ0.getD 1 {} = v
  have key : cMd.outs.map (E.den I19 ρ0) = [{ l := madeB (u.l.take v.i.toNat) }] := by
    subst hu hv; rfl
  rw [key]
  have p0 : (u.l.all fun r => r.all fun x => decide ((0 : Int) ≤ x) && decide (x ≤ 4294967295)) = true := by rw [← hu]; exact hpre (.te .elems (.var 0) (.lit 0) (.lit 4294967295)) (by simp [cMd])
  have p1 : 0 ≤ v.i := by rw [← hv]; exact holds_le (a := .lit 0) (b := .var 1) (hpre _ (by simp [cMd]))
  have p2 : v.i ≤ (u.l.length : Int) := by rw [← hv, ← hu]; exact holds_le (a := .var 1) (b := .un .len (.var 0)) (hpre _ (by simp [cMd]))
  refine Runs.step rfl hpre ?_
  simp only [StOk, E.den, BiO.den, UnO.den, List.map_cons, List.map_nil, hu, hv, decide_eq_true_eq, holds_cons_iff, holds_nil_iff, and_true]
  refine ⟨by split <;> omega, fun _ => ?_⟩
  have e : (if (128 : Int) < v.i then (128 : Int) else v.i) = ((min v.i.toNat 128 : Nat) : Int) := by split <;> omega
  rw [e]
  have e2 : madeB (u.l.take v.i.toNat) = (u.l.take (min v.i.toNat 128)).map madeR := by
    unfold madeB
    rw [List.take_take, Nat.min_comm]
  rw [e2]
  exact rMd u (min v.i.toNat 128) (by omega) p0 (by omega) (min v.i.toNat 128) 0 (by omega)

end Go.Proofs.YtmncmboeddlcmaaDoor
