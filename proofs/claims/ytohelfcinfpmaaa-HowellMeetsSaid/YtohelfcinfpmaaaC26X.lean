/- Chapter 26: movements made of a starter. -/
import Derived.Test.YtohelfcinfpmaaaC26W
namespace Go.Proofs.Ytohelfcinfpmaaa
open Go Go.Sx Go.Proofs.C26

theorem three_iil {ρ0 : List U} (h : ρ0 = normU [.i, .i, .l] ρ0) : ∃ (n k : Int) (l : List (List Int)), ρ0 = [{ i := n }, { i := k }, { l := l }] := ⟨_, _, _, h⟩

theorem checkE_0 {n : Int} {l : List (List Int)} (h : checkE n l = 0) : n.tmod 2 ≠ 0 ∧ 3 ≤ n ∧ n ≤ 47 ∧ ∀ r ∈ l, inside n r = true := by
  unfold checkE at h
  split at h
  · cases h
  · split at h
    · rename_i h1 h2
      refine ⟨fun e => h1 (.inl e), by omega, by omega, (starts_iff.1 h2).1⟩
    · cases h
theorem checkE_len {n : Int} {l : List (List Int)} (h : checkE n l = 0) : 2 * (l.length : Int) = n - 1 := by
  have := checkE_0 h
  unfold checkE at h
  split at h
  · cases h
  · split at h
    · rename_i h1 h2
      exact starts_len this.2.1 h2
    · cases h

/-- a round, as far as its first rows -/
def roundP (n : Int) (l : List (List Int)) (r : Int) (i : Nat) : List (List Int) := [r, 0, n + 1, r + 1, r] :: (l.take i).mapIdx (rowR n r)
theorem roundP_zero (n : Int) (l : List (List Int)) (r : Int) : roundP n l r 0 = [[r, 0, n + 1, r + 1, r]] := rfl
theorem roundP_succ {n : Int} {l : List (List Int)} {r : Int} {i : Nat} (h : i < l.length) : roundP n l r (i + 1) = roundP n l r i ++ [rowR n r i (l.getD i [])] := by
  unfold roundP
  rw [List.take_succ_eq_append_getElem h, List.mapIdx_append]
  simp [List.getD_eq_getElem?_getD, List.getElem?_eq_getElem h, List.length_take, Nat.min_eq_left (Nat.le_of_lt h)]
theorem roundP_all (n : Int) (l : List (List Int)) (r : Int) : roundP n l r l.length = roundR n l r := by unfold roundP roundR; rw [List.take_length]
theorem roundP_len (n : Int) (l : List (List Int)) (r : Int) (i : Nat) (h : i ≤ l.length) : (roundP n l r i).length = i + 1 := by
  unfold roundP
  rw [List.length_cons, List.length_mapIdx, List.length_take]
  omega
theorem roundR_len (n : Int) (l : List (List Int)) (r : Int) : (roundR n l r).length = l.length + 1 := by unfold roundR; rw [List.length_cons, List.length_mapIdx]
theorem rowsR_succ (n : Int) (l : List (List Int)) (k : Nat) : rowsR n l (k + 1) = rowsR n l k ++ roundR n l k := by
  unfold rowsR
  rw [List.range_succ, List.flatMap_append]
  simp
theorem rowsR_len (n : Int) (l : List (List Int)) : ∀ k, (rowsR n l k).length = k * (l.length + 1)
  | 0 => by simp [rowsR]
  | k + 1 => by rw [rowsR_succ, List.length_append, rowsR_len n l k, roundR_len, Nat.succ_mul]

def fromOut (n k : Int) (l : List (List Int)) : List U := [{ i := fromF 0 n k l }, { i := fromF 1 n k l }, { i := fromF 2 n k l }, { i := fromF 3 n k l }, { i := fromF 4 n k l }, { l := fromR n k l }, { i := fromE n k l }]
theorem from_not {n k : Int} {l : List (List Int)} {e : Int} (h : fromE n k l = e) (he : e ≠ 0) : [({ i := 0 } : U), { i := 0 }, { i := 0 }, { i := 0 }, { i := 0 }, { l := [] }, { i := e }] = fromOut n k l := by
  subst h
  unfold fromOut fromF fromR
  simp only [if_pos he]
theorem from_ok {n k : Int} {l : List (List Int)} (h : checkE n l = 0) (h1 : 1 ≤ k) (h2 : k ≤ n) {c : Int} (hc : c = if checkS n l then 1 else (n + 1).tdiv 2) :
    [({ i := (n + 1).tdiv 2 } : U), { i := k }, { i := n }, { i := c }, { i := 1 }, { l := rowsR n l k.toNat }, { i := 0 }] = fromOut n k l := by
  have he : fromE n k l = 0 := by unfold fromE; rw [if_neg (fun e => e h), if_neg (by omega), if_neg (by omega)]
  unfold fromOut fromF fromR
  simp only [he, hc, ne_eq, not_true_eq_false, if_false]

theorem get_inside {n : Int} {l : List (List Int)} (h : ∀ r ∈ l, inside n r = true) {i : Nat} (hi : i < l.length) : 1 ≤ (l.getD i []).getD 0 0 ∧ (l.getD i []).getD 0 0 < n ∧ 1 ≤ (l.getD i []).getD 1 0 ∧ (l.getD i []).getD 1 0 < n := by
  have hr := h (l.getD i []) (by rw [List.getD_eq_getElem?_getD, List.getElem?_eq_getElem hi]; exact List.getElem_mem hi)
  exact inside_iff.1 hr

theorem tmod_small {a n : Int} (h : 0 ≤ a) (hn : 0 < n) : 0 ≤ a.tmod n ∧ a.tmod n < n := by
  rw [Int.tmod_eq_emod_of_nonneg h]
  exact ⟨Int.emod_nonneg _ (by omega), Int.emod_lt_of_pos _ hn⟩

theorem two_half {n : Int} (ho : n.tmod 2 ≠ 0) (h3 : 3 ≤ n) (h47 : n ≤ 47) : IntKind.wrap .i64 (2 * (n + 1).tdiv 2) = n + 1 := by
  rw [Int.tmod_eq_emod_of_nonneg (by omega)] at ho
  rw [Int.tdiv_eq_ediv_of_nonneg (by omega), w64 (by omega) (by omega)]
  omega

theorem rFrom {n k : Int} {l : List (List Int)} (h : checkE n l = 0) (h1 : 1 ≤ k) (h2 : k ≤ n) {c : Int} (hc : c = if checkS n l then 1 else (n + 1).tdiv 2) :
    ∀ f r : Nat, r + f = k.toNat → Runs I26 (tmsFrom.map Tm.pre) ssFrom 1 [{ i := n }, { i := k }, { l := l }, { i := c }, { l := rowsR n l r }, { i := (r : Int) }] (fromOut n k l)
  | f, r, hf => by
    obtain ⟨ho, h3, h47, hins⟩ := checkE_0 h
    have hlen := checkE_len h
    have hrl := rowsR_len n l r
    have hb : r * (l.length + 1) ≤ 47 * 24 := Nat.mul_le_mul (by omega) (by omega)
    refine Runs.step rfl ?_ ?_
    · simp only [tmsFrom, List.map_cons, List.getD_cons_zero, List.getD_cons_succ, holds_cons_iff, E.den, BiO.den, UnO.den, I26, decide_eq_true_eq, beq_iff_eq]
      refine ⟨?_, ?_, h, ?_, Holds.nil⟩ <;> omega
    · simp only [StOk, E.den, BiO.den, UnO.den, List.map_cons, List.map_nil, List.getD_cons_zero, List.getD_cons_succ, decide_eq_true_eq, decide_eq_false_iff_not, holds_cons_iff, holds_nil_iff]
      refine ⟨fun hlt => ⟨⟨by omega, trivial⟩, fun _ => ?_⟩, fun hge => ?_⟩
      · cases f with
        | zero => omega
        | succ f =>
          have hrow : ∀ g i : Nat, i + g = l.length → Runs I26 (tmsFrom.map Tm.pre) ssFrom 2 [{ i := n }, { i := k }, { l := l }, { i := c }, { l := rowsR n l r ++ roundP n l r i }, { i := (i : Int) }, { i := (r : Int) }] (fromOut n k l) := by
            intro g
            induction g with
            | zero =>
              intro i hi
              have hpl := roundP_len n l r i (by omega)
              refine Runs.step rfl ?_ ?_
              · simp only [tmsFrom, List.map_cons, List.getD_cons_zero, List.getD_cons_succ, holds_cons_iff, E.den, BiO.den, UnO.den, I26, decide_eq_true_eq, beq_iff_eq, List.length_append]
                refine ⟨?_, ?_, ?_, ?_, ?_, ?_, h, ?_, Holds.nil⟩ <;> omega
              · simp only [StOk, E.den, BiO.den, UnO.den, TeO.den, List.map_cons, List.map_nil, List.getD_cons_zero, List.getD_cons_succ, decide_eq_true_eq, decide_eq_false_iff_not, holds_cons_iff, holds_nil_iff]
                refine ⟨fun hlt => by omega, fun _ => ?_⟩
                rw [w64 (by omega) (by omega), show i = l.length from by omega, roundP_all, ← rowsR_succ]
                exact rFrom h h1 h2 hc f (r + 1) (by omega)
            | succ g ih =>
              intro i hi
              have hpl := roundP_len n l r i (by omega)
              refine Runs.step rfl ?_ ?_
              · simp only [tmsFrom, List.map_cons, List.getD_cons_zero, List.getD_cons_succ, holds_cons_iff, E.den, BiO.den, UnO.den, I26, decide_eq_true_eq, beq_iff_eq, List.length_append]
                refine ⟨?_, ?_, ?_, ?_, ?_, ?_, h, ?_, Holds.nil⟩ <;> omega
              · have hg := get_inside hins (show i < l.length by omega)
                have ih' := ih (i + 1) (by omega)
                rw [roundP_succ (by omega)] at ih'
                simp only [StOk, E.den, BiO.den, UnO.den, TeO.den, List.map_cons, List.map_nil, List.getD_cons_zero, List.getD_cons_succ, decide_eq_true_eq, decide_eq_false_iff_not, holds_cons_iff, holds_nil_iff, List.length_append, Int.toNat_natCast, Int.toNat_zero, show Int.toNat 1 = 1 from rfl]
                unfold rowR at ih'
                generalize (l.getD i []).getD 0 0 = x at hg ih' ⊢
                generalize (l.getD i []).getD 1 0 = y at hg ih' ⊢
                refine ⟨fun _ => ⟨⟨by omega, trivial⟩, fun _ => ?_⟩, fun hge => by omega⟩
                have m1 := tmod_small (show 0 ≤ x + r by omega) (show 0 < n by omega)
                have m2 := tmod_small (show 0 ≤ y + r by omega) (show 0 < n by omega)
                rw [w64 (show _ ≤ x + r by omega) (by omega), w64 (show _ ≤ y + r by omega) (by omega), w64 (show _ ≤ x + y by omega) (by omega), w64 (show _ ≤ x + y + r by omega) (by omega), w64 (show _ ≤ (x + r).tmod n + 1 by omega) (by omega), w64 (show _ ≤ (y + r).tmod n + 1 by omega) (by omega), List.append_assoc]
                exact ih'
          rw [w64 (show _ ≤ n + 1 by omega) (by omega), w64 (show _ ≤ (r : Int) + 1 by omega) (by omega)]
          exact hrow l.length 0 (by omega)
      · rw [w64 (show _ ≤ n + 1 by omega) (by omega), show r = k.toNat from by omega]
        exact from_ok h h1 h2 hc
theorem rRFrom {n k : Int} {l : List (List Int)} (h : checkE n l = 0) (h1 : 1 ≤ k) (h2 : k ≤ n) {c : Int} (hc : c = if checkS n l then 1 else (n + 1).tdiv 2) :
    ∀ f r : Nat, r + f = k.toNat → Runs I26 (tmsRFrom.map Tm.pre) ssRFrom 1 [{ i := n }, { i := k }, { l := l }, { i := c }, { l := rowsR n l r }, { i := (r : Int) }] (fromOut n k l)
  | f, r, hf => by
    obtain ⟨ho, h3, h47, hins⟩ := checkE_0 h
    have hlen := checkE_len h
    have hrl := rowsR_len n l r
    have hb : r * (l.length + 1) ≤ 47 * 24 := Nat.mul_le_mul (by omega) (by omega)
    refine Runs.step rfl ?_ ?_
    · simp only [tmsRFrom, List.map_cons, List.getD_cons_zero, List.getD_cons_succ, holds_cons_iff, E.den, BiO.den, UnO.den, I26, decide_eq_true_eq, beq_iff_eq]
      refine ⟨?_, ?_, h, ?_, Holds.nil⟩ <;> omega
    · simp only [StOk, E.den, BiO.den, UnO.den, List.map_cons, List.map_nil, List.getD_cons_zero, List.getD_cons_succ, decide_eq_true_eq, decide_eq_false_iff_not, holds_cons_iff, holds_nil_iff]
      refine ⟨fun hlt => ⟨⟨by omega, trivial⟩, fun _ => ?_⟩, fun hge => ?_⟩
      · cases f with
        | zero => omega
        | succ f =>
          have hrow : ∀ g i : Nat, i + g = l.length → Runs I26 (tmsRFrom.map Tm.pre) ssRFrom 2 [{ i := n }, { i := k }, { l := l }, { i := c }, { l := rowsR n l r ++ roundP n l r i }, { i := (i : Int) }, { i := (r : Int) }] (fromOut n k l) := by
            intro g
            induction g with
            | zero =>
              intro i hi
              have hpl := roundP_len n l r i (by omega)
              refine Runs.step rfl ?_ ?_
              · simp only [tmsRFrom, List.map_cons, List.getD_cons_zero, List.getD_cons_succ, holds_cons_iff, E.den, BiO.den, UnO.den, I26, decide_eq_true_eq, beq_iff_eq, List.length_append]
                refine ⟨?_, ?_, ?_, ?_, ?_, ?_, h, ?_, Holds.nil⟩ <;> omega
              · simp only [StOk, E.den, BiO.den, UnO.den, TeO.den, List.map_cons, List.map_nil, List.getD_cons_zero, List.getD_cons_succ, decide_eq_true_eq, decide_eq_false_iff_not, holds_cons_iff, holds_nil_iff]
                refine ⟨fun hlt => by omega, fun _ => ?_⟩
                rw [w64 (by omega) (by omega), show i = l.length from by omega, roundP_all, ← rowsR_succ]
                exact rRFrom h h1 h2 hc f (r + 1) (by omega)
            | succ g ih =>
              intro i hi
              have hpl := roundP_len n l r i (by omega)
              refine Runs.step rfl ?_ ?_
              · simp only [tmsRFrom, List.map_cons, List.getD_cons_zero, List.getD_cons_succ, holds_cons_iff, E.den, BiO.den, UnO.den, I26, decide_eq_true_eq, beq_iff_eq, List.length_append]
                refine ⟨?_, ?_, ?_, ?_, ?_, ?_, h, ?_, Holds.nil⟩ <;> omega
              · have hg := get_inside hins (show i < l.length by omega)
                have ih' := ih (i + 1) (by omega)
                rw [roundP_succ (by omega)] at ih'
                simp only [StOk, E.den, BiO.den, UnO.den, TeO.den, List.map_cons, List.map_nil, List.getD_cons_zero, List.getD_cons_succ, decide_eq_true_eq, decide_eq_false_iff_not, holds_cons_iff, holds_nil_iff, List.length_append, Int.toNat_natCast, Int.toNat_zero, show Int.toNat 1 = 1 from rfl]
                unfold rowR at ih'
                generalize (l.getD i []).getD 0 0 = x at hg ih' ⊢
                generalize (l.getD i []).getD 1 0 = y at hg ih' ⊢
                refine ⟨fun _ => ⟨⟨by omega, trivial⟩, fun _ => ?_⟩, fun hge => by omega⟩
                have m1 := tmod_small (show 0 ≤ x + r by omega) (show 0 < n by omega)
                have m2 := tmod_small (show 0 ≤ y + r by omega) (show 0 < n by omega)
                rw [w64 (show _ ≤ x + r by omega) (by omega), w64 (show _ ≤ y + r by omega) (by omega), w64 (show _ ≤ x + y by omega) (by omega), w64 (show _ ≤ x + y + r by omega) (by omega), w64 (show _ ≤ (x + r).tmod n + 1 by omega) (by omega), w64 (show _ ≤ (y + r).tmod n + 1 by omega) (by omega), List.append_assoc]
                exact ih'
          rw [w64 (show _ ≤ n + 1 by omega) (by omega), two_half ho h3 h47, w64 (show _ ≤ (r : Int) + 1 by omega) (by omega)]
          exact hrow l.length 0 (by omega)
      · rw [w64 (show _ ≤ n + 1 by omega) (by omega), show r = k.toNat from by omega]
        exact from_ok h h1 h2 hc

theorem vFrom : cFrom.Valid (cx [cCheck] [17]) I26 := by
  refine Ctr.valid_run resp26 (glIn _ _) (allOf (.cons (re vCheck) .nil)) (by decide) (by decide) (by kernel_rfl) rfl sFrom [.i, .i, .l] [.i, .i, .i, .i, .i, .l, .i] (by decide) ?_
  intro ρ0 hρ hpre _
  obtain ⟨n, k, l, rfl⟩ := three_iil hρ
  refine ⟨fromOut n k l, Runs.step rfl hpre ?_, rfl⟩
  simp only [StOk, E.den, BiO.den, UnO.den, I26, List.map_cons, List.map_nil, List.getD_cons_zero, List.getD_cons_succ, decide_eq_true_eq, decide_eq_false_iff_not, beq_iff_eq, beq_eq_false_iff_ne, Bool.not_eq_true', Bool.not_eq_false']
  refine ⟨fun a => ?_, fun a => ⟨fun b => ?_, fun b => ⟨fun c => ?_, fun c => ?_⟩⟩⟩
  · exact from_not (by unfold fromE; rw [if_pos a]) a
  · exact from_not (by unfold fromE; rw [if_neg (fun e => e a), if_pos b]) (by omega)
  · exact from_not (by unfold fromE; rw [if_neg (fun e => e a), if_neg b, if_pos c]) (by omega)
  · obtain ⟨ho, h3, h47, hins⟩ := checkE_0 a
    rw [w64 (show _ ≤ n + 1 by omega) (by omega)]
    refine ⟨fun d => ?_, fun d => ?_⟩
    · exact rFrom a (by omega) (by omega) (by rw [d]; rfl) k.toNat 0 (by omega)
    · exact rFrom a (by omega) (by omega) (by rw [d]; rfl) k.toNat 0 (by omega)

theorem vRFrom : cRFrom.Valid (cx [cRCheck] [33]) I26 := by
  refine Ctr.valid_run resp26 (glIn _ _) (allOf (.cons (re vRCheck) .nil)) (by decide) (by decide) (by kernel_rfl) rfl sRFrom [.i, .i, .l] [.i, .i, .i, .i, .i, .l, .i] (by decide) ?_
  intro ρ0 hρ hpre _
  obtain ⟨n, k, l, rfl⟩ := three_iil hρ
  refine ⟨fromOut n k l, Runs.step rfl hpre ?_, rfl⟩
  simp only [StOk, E.den, BiO.den, UnO.den, I26, List.map_cons, List.map_nil, List.getD_cons_zero, List.getD_cons_succ, decide_eq_true_eq, decide_eq_false_iff_not, beq_iff_eq, beq_eq_false_iff_ne, Bool.not_eq_true', Bool.not_eq_false']
  refine ⟨fun a => ?_, fun a => ⟨fun b => ?_, fun b => ⟨fun c => ?_, fun c => ?_⟩⟩⟩
  · exact from_not (by unfold fromE; rw [if_pos a]) a
  · exact from_not (by unfold fromE; rw [if_neg (fun e => e a), if_pos b]) (by omega)
  · exact from_not (by unfold fromE; rw [if_neg (fun e => e a), if_neg b, if_pos c]) (by omega)
  · obtain ⟨ho, h3, h47, hins⟩ := checkE_0 a
    rw [w64 (show _ ≤ n + 1 by omega) (by omega)]
    refine ⟨fun d => ?_, fun d => ?_⟩
    · exact rRFrom a (by omega) (by omega) (by rw [d]; rfl) k.toNat 0 (by omega)
    · exact rRFrom a (by omega) (by omega) (by rw [d]; rfl) k.toNat 0 (by omega)
end Go.Proofs.Ytohelfcinfpmaaa
