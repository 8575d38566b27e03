/- Chapter 19: lists of boards. -/
import Derived.Test.YtmncmboeddlcmaaDoorC19P
namespace Go.Proofs.YtmncmboeddlcmaaDoor
open Go Go.Sx Go.Proofs.C19

theorem is_eq {I : Itp} {ρ : List U} {a b : E} (h : ((E.bi .eq a b).den I ρ).b = true) : (a.den I ρ).i = (b.den I ρ).i := eq_of_beq h
theorem sumF_zero (f : List Int → Int) (B : List (List Int)) : sumF f B 0 = 0 := rfl
theorem sumF_succ (f : List Int → Int) (B : List (List Int)) (k : Nat) (hk : k < B.length) : sumF f B (k + 1) = sumF f B k + f (B.getD k []) := by
  unfold sumF
  rw [List.take_succ_eq_append_getElem hk, List.map_append, List.sum_append]
  simp [List.getD_eq_getElem?_getD, List.getElem?_eq_getElem hk]
theorem sumF_all (f : List Int → Int) (B : List (List Int)) : (B.map f).sum = sumF f B B.length := by unfold sumF; rw [List.take_length]
theorem sumF_bound (f : List Int → Int) (B : List (List Int)) (hf : ∀ r, -24 ≤ f r ∧ f r ≤ 24) : ∀ k, k ≤ B.length → -(24 * (k : Int)) ≤ sumF f B k ∧ sumF f B k ≤ 24 * k
  | 0, _ => by simp [sumF]
  | k + 1, h => by
    have ih := sumF_bound f B hf k (by omega)
    have := hf (B.getD k [])
    rw [sumF_succ f B k (by omega)]
    omega

def okTo (B : List (List Int)) (k : Nat) : Prop := ∀ j, j < k → ok1 (B.getD j []) = true
theorem okTo_zero (B : List (List Int)) : okTo B 0 := fun j hj => by omega
theorem okTo_succ {B : List (List Int)} {k : Nat} (h : okTo B k) (hk : ok1 (B.getD k []) = true) : okTo B (k + 1) := fun j hj => by
  by_cases e : j = k
  · rw [e]; exact hk
  · exact h j (by omega)
theorem okTo_all {B : List (List Int)} (h : okTo B B.length) : B.all ok1 = true := by
  rw [List.all_eq_true]
  intro r hr
  obtain ⟨i, hi, rfl⟩ := List.mem_iff_getElem.1 hr
  have := h i hi
  rwa [List.getD_eq_getElem?_getD, List.getElem?_eq_getElem hi] at this
theorem all_okTo {B : List (List Int)} (h : B.all ok1 = true) : okTo B B.length := fun j hj => by
  rw [List.getD_eq_getElem?_getD, List.getElem?_eq_getElem hj]
  exact List.all_eq_true.1 h _ (List.getElem_mem hj)
theorem errB_ok {B : List (List Int)} (h : okTo B B.length) (hl : B.length ≤ 128) : errB B = 0 := by
  unfold errB
  rw [if_neg (by omega), if_pos (okTo_all h)]
theorem errB_many {B : List (List Int)} (hl : 128 < B.length) : errB B = 5 := by
  unfold errB
  rw [if_pos hl]
theorem errB_bad {B : List (List Int)} {k : Nat} (hk : k < B.length) (h : ok1 (B.getD k []) = false) (hl : B.length ≤ 128) : errB B = 190 := by
  unfold errB
  have : ¬ B.all ok1 = true := fun e => by rw [all_okTo e k hk] at h; simp at h
  rw [if_neg (by omega), if_neg this]
theorem errB_zero {B : List (List Int)} (h : errB B = 0) : B.length ≤ 128 ∧ okTo B B.length := by
  unfold errB at h
  split at h
  · omega
  · split at h
    · rename_i h1 h2; exact ⟨by omega, all_okTo h2⟩
    · omega

theorem swE_ok {r : List Int} (h : ok1 r = true) : swE (r.getD 0 0) (r.getD 1 0) = 0 ∧ swV (r.getD 0 0) (r.getD 1 0) = swB r := by
  have h' := of_decide_eq_true h
  unfold swE swV swB
  rw [if_pos (by omega), if_pos (by omega)]
  exact ⟨rfl, rfl⟩
theorem swE_bad {r : List Int} (h : ok1 r = false) : swE (r.getD 0 0) (r.getD 1 0) = 190 := by
  have h' := of_decide_eq_false h
  unfold swE
  rw [if_neg (by omega)]
theorem ok1_cases (r : List Int) : ok1 r = true ∨ ok1 r = false := by cases ok1 r <;> simp

theorem swB_bound (r : List Int) : -24 ≤ swB r ∧ swB r ≤ 24 := impN_bound _
def gain (r : List Int) : Int := if swB r > 0 then swB r else 0
def loss (r : List Int) : Int := if swB r > 0 then 0 else -swB r
theorem gain_bound (r : List Int) : -24 ≤ gain r ∧ gain r ≤ 24 := by have := swB_bound r; unfold gain; split <;> omega
theorem loss_bound (r : List Int) : -24 ≤ loss r ∧ loss r ≤ 24 := by have := swB_bound r; unfold loss; split <;> omega
theorem winA_ok {B : List (List Int)} (h : errB B = 0) : winA B = sumF gain B B.length := by rw [← sumF_all]; unfold winA; rw [if_pos h]; rfl
theorem winB_ok {B : List (List Int)} (h : errB B = 0) : winB B = sumF loss B B.length := by rw [← sumF_all]; unfold winB; rw [if_pos h]; rfl
theorem winA_bad {B : List (List Int)} (h : errB B ≠ 0) : winA B = 0 := by unfold winA; rw [if_neg h]
theorem winB_bad {B : List (List Int)} (h : errB B ≠ 0) : winB B = 0 := by unfold winB; rw [if_neg h]
theorem runB_ok {B : List (List Int)} (h : errB B = 0) : runB B = runP B B.length := by unfold runB; rw [if_pos h]
theorem runB_bad {B : List (List Int)} (h : errB B ≠ 0) : runB B = [] := by unfold runB; rw [if_neg h]
theorem runP_succ (B : List (List Int)) (k : Nat) : runP B (k + 1) = runP B k ++ [[sumF swB B (k + 1)]] := by
  unfold runP
  rw [List.range_succ, List.map_append]
  rfl
theorem runP_length (B : List (List Int)) (k : Nat) : (runP B k).length = k := by simp [runP]

theorem getD_take (B : List (List Int)) (n k : Nat) (h : k < n) : (B.take n).getD k [] = B.getD k [] := by
  simp [List.getD_eq_getElem?_getD, List.getElem?_take, h]

section
variable {u0 u1 : U} {n : Nat}

theorem rMatch (hn : u1.i = n) (hl : n ≤ u0.l.length) (h128 : n ≤ 128) {B : List (List Int)} (hB : B = u0.l.take n) : ∀ m k : Nat, k + m = n → okTo B k →
    Runs I19 (tmsMatch.map Tm.pre) ssMatch 1 [u0, u1, { i := sumF gain B k }, { i := sumF loss B k }, { i := k }] [{ i := winA B }, { i := winB B }, { i := errB B }]
  | m, k, h, hok => by
    have hBl : B.length = n := by rw [hB, List.length_take]; omega
    have b1 := sumF_bound gain B gain_bound k (by omega)
    have b2 := sumF_bound loss B loss_bound k (by omega)
    refine Runs.step rfl ?_ ?_
    · simp only [tmsMatch, List.map_cons, List.getD_cons_zero, List.getD_cons_succ, holds_cons_iff, E.den, BiO.den, UnO.den, decide_eq_true_eq]
      refine ⟨?_, ?_, ?_, ?_, Holds.nil⟩ <;> omega
    · simp only [StOk, E.den, BiO.den, UnO.den, TeO.den, List.map_cons, List.map_nil, List.getD_cons_zero, List.getD_cons_succ, decide_eq_true_eq, decide_eq_false_iff_not, Int.toNat_natCast, I19, Int.toNat_zero, show (1 : Int).toNat = 1 from rfl, Bool.not_eq_true', beq_eq_false_iff_ne, ne_eq, beq_iff_eq, Bool.not_eq_false']
      refine ⟨fun h1 => ?_, fun h1 => ?_⟩
      · have hr : u0.l.getD k [] = B.getD k [] := by rw [hB, getD_take _ _ _ (by omega)]
        rw [hr]
        generalize hrr : B.getD k [] = r
        rcases ok1_cases r with hk | hk
        · obtain ⟨e1, e2⟩ := swE_ok hk
          rw [e1, e2]
          refine ⟨fun h2 => absurd rfl h2, fun _ => ?_⟩
          cases m with
          | zero => omega
          | succ m =>
            have ih := rMatch hn hl h128 hB m (k + 1) (by omega) (okTo_succ hok (by rw [hrr]; exact hk))
            rw [sumF_succ gain B k (by omega), sumF_succ loss B k (by omega), hrr] at ih
            have sb := swB_bound r
            have g1 : (if swB r < 0 then 0 else swB r) = gain r := by unfold gain; split <;> split <;> omega
            have g2 : (if IntKind.i64.wrap (0 - swB r) < 0 then 0 else IntKind.i64.wrap (0 - swB r)) = loss r := by
              rw [w64 (by omega) (by omega)]; unfold loss; split <;> split <;> omega
            have gb := gain_bound r
            have lb := loss_bound r
            have g1' : (if 0 > swB r then (0 : Int) else swB r) = gain r := g1
            have g2' : (if 0 > IntKind.i64.wrap (0 - swB r) then (0 : Int) else IntKind.i64.wrap (0 - swB r)) = loss r := g2
            rw [g1', g2', w64 (by omega) (by omega), w64 (by omega) (by omega)]
            exact ih
        · have e1 := swE_bad hk
          rw [e1]
          refine ⟨fun _ => ?_, fun h2 => absurd h2 (by omega)⟩
          have he : errB B = 190 := errB_bad (k := k) (by omega) (by rw [hrr]; exact hk) (by omega)
          rw [he, winA_bad (by omega), winB_bad (by omega)]
      · obtain rfl : k = n := by omega
        have he : errB B = 0 := errB_ok (by rw [hBl]; exact hok) (by omega)
        rw [winA_ok he, winB_ok he, he, hBl]

end
theorem vMatch : cMatch.Valid (cx [cSw] [26]) I19 := by
  refine Ctr.valid_goes (glIn _ _) (fun c hc => ?_) (by decide) (by decide) (by kernel_rfl) rfl sMatch ?_
  · obtain rfl : c = cSw := by simpa [cx] using hc
    exact re vSw
  intro ρ0 hpre
  generalize hu : ρ0.getD 0 {} = u0
  generalize hv : ρ0.getD 1 {} = u1
  have key : cMatch.outs.map (E.den I19 ρ0) = [{ i := winA (u0.l.take u1.i.toNat) }, { i := winB (u0.l.take u1.i.toNat) }, { i := errB (u0.l.take u1.i.toNat) }] := by
    subst hu hv; rfl
  rw [key]
  have p1 : 0 ≤ u1.i := by rw [← hv]; exact holds_le (a := .lit 0) (b := .var 1) (hpre _ (by simp [cMatch, bpre]))
  have p2 : u1.i ≤ (u0.l.length : Int) := by rw [← hv, ← hu]; exact holds_le (a := .var 1) (b := .un .len (.var 0)) (hpre _ (by simp [cMatch, bpre]))
  refine Runs.step rfl hpre ?_
  simp only [StOk, E.den, BiO.den, UnO.den, List.map_cons, List.map_nil, hu, hv, decide_eq_true_eq, decide_eq_false_iff_not]
  have hBl : (u0.l.take u1.i.toNat).length = u1.i.toNat := by rw [List.length_take]; omega
  refine ⟨fun h1 => ?_, fun h1 => rMatch (n := u1.i.toNat) (by omega) (by omega) (by omega) rfl u1.i.toNat 0 (by omega) (okTo_zero _)⟩
  have he : errB (u0.l.take u1.i.toNat) = 5 := errB_many (by omega)
  rw [he, winA_bad (by omega), winB_bad (by omega)]

theorem rRun {u0 u1 : U} {n : Nat} (hn : u1.i = n) (hl : n ≤ u0.l.length) (h128 : n ≤ 128) {B : List (List Int)} (hB : B = u0.l.take n) : ∀ m k : Nat, k + m = n → okTo B k →
    Runs I19 (tmsRun.map Tm.pre) ssRun 1 [u0, u1, { l := runP B k }, { i := sumF swB B k }, { i := k }] [{ l := runB B }, { i := errB B }]
  | m, k, h, hok => by
    have hBl : B.length = n := by rw [hB, List.length_take]; omega
    have b1 := sumF_bound swB B swB_bound k (by omega)
    have hrl := runP_length B k
    refine Runs.step rfl ?_ ?_
    · simp only [tmsRun, List.map_cons, List.getD_cons_zero, List.getD_cons_succ, holds_cons_iff, E.den, BiO.den, UnO.den, decide_eq_true_eq, beq_iff_eq]
      refine ⟨?_, ?_, ?_, ?_, Holds.nil⟩ <;> omega
    · simp only [StOk, E.den, BiO.den, UnO.den, TeO.den, List.map_cons, List.map_nil, List.getD_cons_zero, List.getD_cons_succ, decide_eq_true_eq, decide_eq_false_iff_not, Int.toNat_natCast, I19, Int.toNat_zero, show (1 : Int).toNat = 1 from rfl, Bool.not_eq_true', beq_eq_false_iff_ne, ne_eq, beq_iff_eq, Bool.not_eq_false']
      refine ⟨fun h1 => ?_, fun h1 => ?_⟩
      · have hr : u0.l.getD k [] = B.getD k [] := by rw [hB, getD_take _ _ _ (by omega)]
        rw [hr]
        generalize hrr : B.getD k [] = r
        rcases ok1_cases r with hk | hk
        · obtain ⟨e1, e2⟩ := swE_ok hk
          rw [e1, e2]
          refine ⟨fun h2 => absurd rfl h2, fun _ => ?_⟩
          cases m with
          | zero => omega
          | succ m =>
            have ih := rRun hn hl h128 hB m (k + 1) (by omega) (okTo_succ hok (by rw [hrr]; exact hk))
            rw [runP_succ, sumF_succ swB B k (by omega), hrr] at ih
            have sb := swB_bound r
            rw [w64 (by omega) (by omega)]
            exact ih
        · have e1 := swE_bad hk
          rw [e1]
          refine ⟨fun _ => ?_, fun h2 => absurd h2 (by omega)⟩
          have he : errB B = 190 := errB_bad (k := k) (by omega) (by rw [hrr]; exact hk) (by omega)
          rw [he, runB_bad (by omega)]
      · obtain rfl : k = n := by omega
        have he : errB B = 0 := errB_ok (by rw [hBl]; exact hok) (by omega)
        rw [runB_ok he, he, hBl]

theorem vRun : cRun.Valid (cx [cSw] [28]) I19 := by
  refine Ctr.valid_goes (glIn _ _) (fun c hc => ?_) (by decide) (by decide) (by kernel_rfl) rfl sRun ?_
  · obtain rfl : c = cSw := by simpa [cx] using hc
    exact re vSw
  intro ρ0 hpre
  generalize hu : ρ0.getD 0 {} = u0
  generalize hv : ρ0.getD 1 {} = u1
  have key : cRun.outs.map (E.den I19 ρ0) = [{ l := runB (u0.l.take u1.i.toNat) }, { i := errB (u0.l.take u1.i.toNat) }] := by
    subst hu hv; rfl
  rw [key]
  have p1 : 0 ≤ u1.i := by rw [← hv]; exact holds_le (a := .lit 0) (b := .var 1) (hpre _ (by simp [cRun, bpre]))
  have p2 : u1.i ≤ (u0.l.length : Int) := by rw [← hv, ← hu]; exact holds_le (a := .var 1) (b := .un .len (.var 0)) (hpre _ (by simp [cRun, bpre]))
  refine Runs.step rfl hpre ?_
  simp only [StOk, E.den, BiO.den, UnO.den, List.map_cons, List.map_nil, hu, hv, decide_eq_true_eq, decide_eq_false_iff_not]
  have hBl : (u0.l.take u1.i.toNat).length = u1.i.toNat := by rw [List.length_take]; omega
  refine ⟨fun h1 => ?_, fun h1 => rRun (n := u1.i.toNat) (by omega) (by omega) (by omega) rfl u1.i.toNat 0 (by omega) (okTo_zero _)⟩
  have he : errB (u0.l.take u1.i.toNat) = 5 := errB_many (by omega)
  rw [he, runB_bad (by omega)]

/-! ### the reference's lists -/
theorem zipB_length {o c : List (List Int)} (h : o.length = c.length) : (zipB o c).length = o.length := by simp [zipB, h]
theorem zipB_getD {o c : List (List Int)} (h : o.length = c.length) {k : Nat} (hk : k < o.length) : (zipB o c).getD k [] = [(o.getD k []).getD 0 0, (c.getD k []).getD 0 0] := by
  simp only [zipB, List.getD_eq_getElem?_getD, List.getElem?_zipWith, List.getElem?_eq_getElem hk, List.getElem?_eq_getElem (h ▸ hk)]
  rfl

theorem rRRun {u0 u1 : U} (hl : u0.l.length = u1.l.length) (h128 : u0.l.length ≤ 128) {B : List (List Int)} (hB : B = zipB u0.l u1.l) : ∀ m k : Nat, k + m = u0.l.length → okTo B k →
    Runs I19 (tmsRRun.map Tm.pre) ssRRun 1 [u0, u1, { l := runP B k }, { i := sumF swB B k }, { i := k }] [{ l := runB B }, { i := errB B }]
  | m, k, h, hok => by
    have hBl : B.length = u0.l.length := by rw [hB, zipB_length hl]
    have b1 := sumF_bound swB B swB_bound k (by omega)
    have hrl := runP_length B k
    refine Runs.step rfl ?_ ?_
    · simp only [tmsRRun, List.map_cons, List.getD_cons_zero, List.getD_cons_succ, holds_cons_iff, E.den, BiO.den, UnO.den, decide_eq_true_eq, beq_iff_eq]
      refine ⟨?_, ?_, ?_, ?_, Holds.nil⟩ <;> omega
    · simp only [StOk, E.den, BiO.den, UnO.den, TeO.den, List.map_cons, List.map_nil, List.getD_cons_zero, List.getD_cons_succ, decide_eq_true_eq, decide_eq_false_iff_not, Int.toNat_natCast, I19, Int.toNat_zero, show (1 : Int).toNat = 1 from rfl, Bool.not_eq_true', beq_eq_false_iff_ne, ne_eq, beq_iff_eq, Bool.not_eq_false']
      refine ⟨fun h1 => ?_, fun h1 => ?_⟩
      · have hr := zipB_getD hl (k := k) (by omega)
        rw [← hB] at hr
        generalize hrr : B.getD k [] = r at hr
        rw [show (u0.l.getD k []).getD 0 0 = r.getD 0 0 from by rw [hr]; rfl, show (u1.l.getD k []).getD 0 0 = r.getD 1 0 from by rw [hr]; rfl]
        rcases ok1_cases r with hk | hk
        · obtain ⟨e1, e2⟩ := swE_ok hk
          rw [e1, e2]
          refine ⟨fun h2 => absurd rfl h2, fun _ => ?_⟩
          cases m with
          | zero => omega
          | succ m =>
            have ih := rRRun hl h128 hB m (k + 1) (by omega) (okTo_succ hok (by rw [hrr]; exact hk))
            rw [runP_succ, sumF_succ swB B k (by omega), hrr] at ih
            have sb := swB_bound r
            rw [w64 (by omega) (by omega)]
            exact ih
        · have e1 := swE_bad hk
          rw [e1]
          refine ⟨fun _ => ?_, fun h2 => absurd h2 (by omega)⟩
          have he : errB B = 190 := errB_bad (k := k) (by omega) (by rw [hrr]; exact hk) (by omega)
          rw [he, runB_bad (by omega)]
      · obtain rfl : k = u0.l.length := by omega
        have he : errB B = 0 := errB_ok (by rw [hBl]; exact hok) (by omega)
        rw [runB_ok he, he, hBl]

theorem vRRun : cRRun.Valid (cx [cRSw] [25]) I19 := by
  refine Ctr.valid_goes (glIn _ _) (fun c hc => ?_) (by decide) (by decide) (by kernel_rfl) rfl sRRun ?_
  · obtain rfl : c = cRSw := by simpa [cx] using hc
    exact re vRSw
  intro ρ0 hpre
  generalize hu : ρ0.getD 0 {} = u0
  generalize hv : ρ0.getD 1 {} = u1
  have key : cRRun.outs.map (E.den I19 ρ0) = [{ l := runB (zipB u0.l u1.l) }, { i := errB (zipB u0.l u1.l) }] := by
    subst hu hv; rfl
  rw [key]
  have p1 : (u0.l.length : Int) = u1.l.length := by rw [← hu, ← hv]; exact is_eq (a := .un .len (.var 0)) (b := .un .len (.var 1)) (hpre _ (by simp [cRRun]))
  refine Runs.step rfl hpre ?_
  simp only [StOk, E.den, BiO.den, UnO.den, List.map_cons, List.map_nil, hu, hv, decide_eq_true_eq, decide_eq_false_iff_not]
  have hBl : (zipB u0.l u1.l).length = u0.l.length := zipB_length (by omega)
  refine ⟨fun h1 => ?_, fun h1 => rRRun (by omega) (by omega) rfl u0.l.length 0 (by omega) (okTo_zero _)⟩
  have he : errB (zipB u0.l u1.l) = 5 := errB_many (by omega)
  rw [he, runB_bad (by omega)]

theorem rRMatch {u0 u1 : U} (hl : u0.l.length = u1.l.length) {B : List (List Int)} (hB : B = zipB u0.l u1.l) (he : errB B = 0) : ∀ m k : Nat, k + m = u0.l.length →
    Runs I19 (tmsRMatch.map Tm.pre) ssRMatch 1 [u0, u1, { i := sumF gain B k }, { i := k }, { i := sumF loss B k }] [{ i := winA B }, { i := winB B }, { i := errB B }]
  | m, k, h => by
    have hBl : B.length = u0.l.length := by rw [hB, zipB_length hl]
    obtain ⟨h128, hok⟩ := errB_zero he
    have b1 := sumF_bound gain B gain_bound k (by omega)
    have b2 := sumF_bound loss B loss_bound k (by omega)
    refine Runs.step rfl ?_ ?_
    · simp only [tmsRMatch, List.map_cons, List.getD_cons_zero, List.getD_cons_succ, holds_cons_iff, E.den, BiO.den, UnO.den, decide_eq_true_eq, beq_iff_eq, zz, I19]
      refine ⟨by omega, by rw [← hB]; exact he, Holds.nil⟩
    · simp only [StOk, E.den, BiO.den, UnO.den, TeO.den, List.map_cons, List.map_nil, List.getD_cons_zero, List.getD_cons_succ, decide_eq_true_eq, decide_eq_false_iff_not, Int.toNat_natCast, I19, Int.toNat_zero, show (1 : Int).toNat = 1 from rfl, Bool.not_eq_true', beq_eq_false_iff_ne, ne_eq, beq_iff_eq, Bool.not_eq_false', holds_cons_iff, holds_nil_iff, and_true]
      refine ⟨fun h1 => ⟨by omega, fun _ => ?_⟩, fun h1 => ?_⟩
      · have hr := zipB_getD hl (k := k) (by omega)
        rw [← hB] at hr
        have hk := hok k (by omega)
        generalize hrr : B.getD k [] = r at hr hk
        rw [show (u0.l.getD k []).getD 0 0 = r.getD 0 0 from by rw [hr]; rfl, show (u1.l.getD k []).getD 0 0 = r.getD 1 0 from by rw [hr]; rfl]
        obtain ⟨e1, e2⟩ := swE_ok hk
        rw [e2]
        cases m with
        | zero => omega
        | succ m =>
          have ih := rRMatch hl hB he m (k + 1) (by omega)
          rw [sumF_succ gain B k (by omega), sumF_succ loss B k (by omega), hrr] at ih
          have sb := swB_bound r
          refine ⟨fun h2 => ?_, fun h2 => ?_⟩
          · rw [w64 (by omega) (by omega), w64 (by omega) (by omega)]
            rw [show gain r = swB r from if_pos h2, show loss r = 0 from if_pos h2, Int.add_zero] at ih
            exact ih
          · rw [w64 (by omega) (by omega), w64 (by omega) (by omega)]
            rw [show gain r = 0 from if_neg h2, show loss r = -swB r from if_neg h2, Int.add_zero] at ih
            exact ih
      · obtain rfl : k = u0.l.length := by omega
        rw [winA_ok he, winB_ok he, he, hBl]

theorem vRMatch : cRMatch.Valid (cx [cRSw, cRRun] [24]) I19 := by
  refine Ctr.valid_goes (glIn _ _) (fun c hc => ?_) (by decide) (by decide) (by kernel_rfl) rfl sRMatch ?_
  · have : c = cRSw ∨ c = cRRun := by simpa [cx] using hc
    rcases this with rfl | rfl
    · exact re vRSw
    · exact re vRRun
  intro ρ0 hpre
  generalize hu : ρ0.getD 0 {} = u0
  generalize hv : ρ0.getD 1 {} = u1
  have key : cRMatch.outs.map (E.den I19 ρ0) = [{ i := winA (zipB u0.l u1.l) }, { i := winB (zipB u0.l u1.l) }, { i := errB (zipB u0.l u1.l) }] := by
    subst hu hv; rfl
  rw [key]
  have p1 : (u0.l.length : Int) = u1.l.length := by rw [← hu, ← hv]; exact is_eq (a := .un .len (.var 0)) (b := .un .len (.var 1)) (hpre _ (by simp [cRMatch]))
  refine Runs.step rfl hpre ?_
  simp only [StOk, E.den, BiO.den, UnO.den, List.map_cons, List.map_nil, hu, hv, I19, Bool.not_eq_true', beq_eq_false_iff_ne, ne_eq, beq_iff_eq, Bool.not_eq_false']
  refine ⟨fun h1 => ?_, fun h1 => rRMatch (by omega) rfl h1 u0.l.length 0 (by omega)⟩
  rw [winA_bad h1, winB_bad h1]

theorem vAw : cAw.Valid (cx [cImp, cMatch, cRun] []) I19 := by
  refine Ctr.valid_goes (glIn _ _) (fun c hc => ?_) (by decide) (by decide) (by kernel_rfl) rfl sAw ?_
  · have : c = cImp ∨ c = cMatch ∨ c = cRun := by simpa [cx] using hc
    rcases this with rfl | rfl | rfl
    · exact re vImp
    · exact re vMatch
    · exact re vRun
  intro ρ0 hpre
  exact ⟨1, by kernel_rfl⟩

end Go.Proofs.YtmncmboeddlcmaaDoor
