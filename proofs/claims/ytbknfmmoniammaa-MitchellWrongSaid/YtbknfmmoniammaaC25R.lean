/- Chapter 25: movements with a rover; movements compared. -/
import Derived.Test.YtbknfmmoniammaaC25Q
namespace Go.Proofs.Ytbknfmmoniammaa
open Go Go.Sx Go.Proofs.C25

/-! ### rows -/
theorem mem_rowsM {t k R : Nat} {x : List Int} (h : x ∈ rowsM t k R) : ∃ r j : Nat, r < R ∧ j < t ∧ x = rowM t k r j := by
  unfold rowsM at h
  simp only [List.mem_flatMap, List.mem_map, List.mem_range] at h
  obtain ⟨r, hr, j, hj, rfl⟩ := h
  exact ⟨r, j, hr, hj, rfl⟩
theorem rowM_0 (t k r j : Nat) : (rowM t k r j).getD 0 0 = r := rfl
theorem rowM_1 (t k r j : Nat) : (rowM t k r j).getD 1 0 = j := rfl
theorem makeR_ok {t r k : Int} (h : makeE t r k = 0) : makeR t r k = rowsM t.toNat k.toNat r.toNat := by unfold makeR; rw [if_neg (fun q => q h)]
theorem makeR_no {t r k : Int} (h : makeE t r k ≠ 0) : makeR t r k = [] := by unfold makeR; rw [if_pos h]
theorem makeE_0 {t r k : Int} (h : makeE t r k = 0) : wayE t k = 0 ∧ 1 ≤ r ∧ r ≤ mostV t k := by
  unfold makeE at h
  split at h
  · rename_i q; exact (q h).elim
  · rename_i q
    split at h
    · cases h
    · split at h
      · cases h
      · exact ⟨Classical.not_not.1 q, by omega, by omega⟩
theorem most_le {t k : Int} (h : 2 ≤ t) : mostV t k ≤ t := by
  unfold mostV
  split
  · omega
  · split <;> omega
theorem makeR_len (t r k : Int) : (makeR t r k).length ≤ 576 := by
  by_cases h : makeE t r k = 0
  · obtain ⟨w, h1, h2⟩ := makeE_0 h
    obtain ⟨a, b, _⟩ := way_0 w
    have := most_le (k := k) a
    rw [makeR_ok h, rowsM_len]
    exact Nat.mul_le_mul (show r.toNat ≤ 24 by omega) (show t.toNat ≤ 24 by omega)
  · rw [makeR_no h]; exact Nat.zero_le _
theorem makeR_row {t r k : Int} {x : List Int} (h : x ∈ makeR t r k) : 0 ≤ x.getD 0 0 ∧ x.getD 0 0 ≤ 24 := by
  by_cases hE : makeE t r k = 0
  · obtain ⟨w, h1, h2⟩ := makeE_0 hE
    obtain ⟨a, b, _⟩ := way_0 w
    have := most_le (k := k) a
    rw [makeR_ok hE] at h
    obtain ⟨r', j, hr, _, rfl⟩ := mem_rowsM h
    rw [rowM_0]; omega
  · rw [makeR_no hE] at h; cases h

def roverOut (t r : Int) : List U := [{ i := roverF 0 t r }, { i := roverF 1 t r }, { i := roverF 2 t r }, { i := roverF 3 t r }, { i := roverF 4 t r }, { l := roverR t r }, { i := roverE t r }]
theorem rover_no {t r : Int} (h : wayE t 1 = 0) (h3 : t.tmod 3 = 0) : [({ i := 0 } : U), { i := 0 }, { i := 0 }, { i := 0 }, { i := 0 }, { l := [] }, { i := 6 }] = roverOut t r := by
  have : roverE t r = 6 := by unfold roverE; rw [if_pos ⟨h, h3⟩]
  unfold roverOut roverF roverR
  simp only [this, show (6 : Int) ≠ 0 from by decide, ne_eq, not_false_eq_true, if_true]
theorem rover_as {t r : Int} (h : ¬ (wayE t 1 = 0 ∧ t.tmod 3 = 0)) : roverOut t r = [{ i := makeF 0 t r 1 }, { i := makeF 1 t r 1 }, { i := makeF 2 t r 1 }, { i := makeF 3 t r 1 }, { i := makeF 4 t r 1 }, { l := (makeR t r 1).map (roverRow t.toNat) }, { i := makeE t r 1 }] := by
  have e : roverE t r = makeE t r 1 := by unfold roverE; rw [if_neg h]
  by_cases hE : makeE t r 1 = 0
  · unfold roverOut roverF roverR
    simp only [e, hE, ne_eq, not_true_eq_false, if_false]
  · unfold roverOut roverF roverR
    simp only [e, makeR_no hE, ne_eq, hE, not_false_eq_true, if_true, List.map_nil, makeF]

theorem getD_at {A B : List (List Int)} {x : List Int} : (A ++ x :: B).getD A.length [] = x := by
  rw [List.getD_eq_getElem?_getD, List.getElem?_append_right (Nat.le_refl _), Nat.sub_self]; rfl
theorem set_at {A B : List (List Int)} {x y : List Int} : (A ++ x :: B).set A.length y = A ++ y :: B := by
  rw [List.set_append_right _ _ (Nat.le_refl _), Nat.sub_self]; rfl

theorem rRover {t a b c d g e : Int} : ∀ B A : List (List Int), (∀ x ∈ B, 0 ≤ x.getD 0 0 ∧ x.getD 0 0 ≤ 24) → (B ≠ [] → 2 ≤ t ∧ t ≤ 24) → A.length + B.length ≤ 1000 →
    Runs I25 (tmsRover.map Tm.pre) ssRover 1 [{ i := t }, { i := a }, { i := b }, { i := c }, { i := d }, { i := g }, { l := A ++ B }, { i := e }, { i := ((A.length + B.length : Nat) : Int) }, { i := (A.length : Int) }] [{ i := a }, { i := b }, { i := c }, { i := d }, { i := g }, { l := A ++ B.map (roverRow t.toNat) }, { i := e }]
  | B, A, hB, ht, hl => by
    refine Runs.step rfl ?_ ?_
    · simp only [tmsRover, List.map_cons, List.getD_cons_zero, List.getD_cons_succ, holds_cons_iff, E.den, BiO.den, UnO.den, beq_iff_eq, List.length_append]
      exact ⟨trivial, Holds.nil⟩
    · simp only [StOk, E.den, BiO.den, UnO.den, TeO.den, List.map_cons, List.map_nil, List.getD_cons_zero, List.getD_cons_succ, decide_eq_true_eq, decide_eq_false_iff_not, holds_cons_iff, holds_nil_iff, Bool.not_eq_true', Int.toNat_natCast, beq_iff_eq, beq_eq_false_iff_ne]
      refine ⟨fun hlt => ?_, fun hge => ?_⟩
      · cases B with
        | nil => simp at hlt
        | cons x B =>
          obtain ⟨h2, h24⟩ := ht (by simp)
          obtain ⟨x0, x1⟩ := hB x (by simp)
          refine ⟨⟨by omega, trivial⟩, fun _ => ⟨⟨by omega, trivial⟩, fun _ => ?_⟩⟩
          simp only [getD_at, setAt, set_at, show Int.toNat 1 = 1 from rfl, show Int.toNat 0 = 0 from rfl, show Int.toNat 2 = 2 from rfl]
          rw [w64 (x := 2 * x.getD 0 0) (by omega) (by omega), w64 (x := (A.length : Int) + 1) (by omega) (by omega), w64 (x := 2 * t) (by omega) (by omega), w64 (x := 2 * t + 1) (by omega) (by omega)]
          have ih := rRover (t := t) (a := a) (b := b) (c := c) (d := d) (g := g) (e := e) B (A ++ [roverRow t.toNat x]) (fun y hy => hB y (by simp [hy])) (fun _ => ⟨h2, h24⟩) (by simp at hl ⊢; omega)
          rw [List.append_assoc, List.append_assoc, List.length_append, show A.length + [roverRow t.toNat x].length + B.length = A.length + (x :: B).length from by simp; omega, show ((A.length + [roverRow t.toNat x].length : Nat) : Int) = (A.length : Int) + 1 from by simp] at ih
          have hr : roverRow t.toNat x = if x.getD 1 0 = (2 * x.getD 0 0).tmod t then x.set 2 (2 * t + 1) else x := by unfold roverRow; rw [show ((t.toNat : Nat) : Int) = t from by omega]
          refine ⟨fun q => ?_, fun q => ?_⟩
          · rw [hr, if_pos q] at ih
            rw [List.map_cons, hr, if_pos q]
            exact ih
          · rw [hr, if_neg q] at ih
            rw [List.map_cons, hr, if_neg q]
            exact ih
      · cases B with
        | nil => rw [List.map_nil]
        | cons x B => exfalso; apply hge; simp; omega

theorem vRover : cRover.Valid (cx [] []) I25 := by
  refine re (Ctr.valid_run resp25 (glIn _ _) (allOf (.cons vMake .nil)) (by decide) (by decide) (by kernel_rfl) rfl sRover [.i, .i] [.i, .i, .i, .i, .i, .l, .i] (by decide) ?_)
  intro ρ0 hρ hpre _
  obtain ⟨t, r, rfl⟩ := two_ii hρ
  refine ⟨roverOut t r, Runs.step rfl hpre ?_, rfl⟩
  have go (h : ¬ (wayE t 1 = 0 ∧ t.tmod 3 = 0)) : Runs I25 (tmsRover.map Tm.pre) ssRover 1 [{ i := t }, { i := makeF 0 t r 1 }, { i := makeF 1 t r 1 }, { i := makeF 2 t r 1 }, { i := makeF 3 t r 1 }, { i := makeF 4 t r 1 }, { l := makeR t r 1 }, { i := makeE t r 1 }, { i := ((makeR t r 1).length : Int) }, { i := 0 }] (roverOut t r) := by
    rw [rover_as h]
    have hl := makeR_len t r 1
    have := rRover (t := t) (a := makeF 0 t r 1) (b := makeF 1 t r 1) (c := makeF 2 t r 1) (d := makeF 3 t r 1) (g := makeF 4 t r 1) (e := makeE t r 1) (makeR t r 1) [] (fun x hx => makeR_row hx) (fun hne => by
      by_cases hE : makeE t r 1 = 0
      · exact ⟨(way_0 (makeE_0 hE).1).1, (way_0 (makeE_0 hE).1).2.1⟩
      · exact (hne (makeR_no hE)).elim) (by simp; omega)
    rw [List.nil_append, List.nil_append, List.length_nil, Nat.zero_add] at this
    exact this
  simp only [StOk, E.den, BiO.den, UnO.den, List.map_cons, List.map_nil, List.getD_cons_zero, List.getD_cons_succ, decide_eq_true_eq, decide_eq_false_iff_not, beq_iff_eq, beq_eq_false_iff_ne, Bool.not_eq_true', Bool.not_eq_false']
  have far (h : t < 2 ∨ 24 < t) : ¬ (wayE t 1 = 0 ∧ t.tmod 3 = 0) := fun ⟨q, _⟩ => by have := way_0 q; omega
  refine ⟨fun h => go (far (by omega)), fun h => ⟨fun h' => go (far (by omega)), fun h' => ⟨fun o => go (fun ⟨q, _⟩ => o ((way_0 q).2.2.2.2.1 rfl)), fun o => ⟨fun h3 => ?_, fun h3 => go (fun ⟨_, q⟩ => h3 q)⟩⟩⟩⟩
  exact rover_no (way_yes (by omega) (by omega) (by omega) (by omega) ⟨fun _ => o, fun _ => rfl⟩).1 h3

/-! ### the reference's rover -/
def blockM (t r : Nat) : List (List Int) := (List.range t).map (rowM t 1 r)
def restM (t r f : Nat) : List (List Int) := (List.range f).flatMap fun i => blockM t (r + i)
theorem restM_succ (t r f : Nat) : restM t r (f + 1) = blockM t r ++ restM t (r + 1) f := by
  unfold restM
  rw [List.range_succ_eq_map, List.flatMap_cons, List.flatMap_map, Nat.add_zero]
  congr 1
  congr 1
  funext i
  rw [show r + Nat.succ i = r + 1 + i from by omega]
theorem rowsM_rest (t f : Nat) : rowsM t 1 f = restM t 0 f := by
  unfold restM rowsM blockM
  simp only [Nat.zero_add]
theorem restM_len (t : Nat) : ∀ f r, (restM t r f).length = f * t
  | 0, r => by simp [restM]
  | f + 1, r => by rw [restM_succ, List.length_append, restM_len t f, blockM, List.length_map, List.length_range, Nat.succ_mul, Nat.add_comm]
theorem block_set {t r c : Nat} (hc : c < t) (h : (c : Int) = (2 * (r : Int)).tmod t) : (blockM t r).set c (((blockM t r).getD c []).set 2 (2 * (t : Int) + 1)) = (blockM t r).map (roverRow t) := by
  have hl : (blockM t r).length = t := by simp [blockM]
  apply List.ext_getElem
  · simp
  · intro i h1 h2
    have hi : i < t := by simpa [blockM] using h1
    rw [List.getElem_set, List.getElem_map]
    have ei : (blockM t r)[i]'(by omega) = rowM t 1 r i := by simp [blockM]
    rw [ei]
    unfold roverRow
    rw [rowM_0, rowM_1]
    by_cases hci : c = i
    · subst hci
      rw [if_pos rfl, if_pos h, List.getD_eq_getElem?_getD, List.getElem?_eq_getElem (by omega), ei]; rfl
    · rw [if_neg hci, if_neg (by omega)]

theorem rRRover {t R : Nat} (h2 : 2 ≤ t) (h24 : t ≤ 24) (hR : R ≤ t) (hw : wayE t 1 = 0) (hE : makeE t R 1 = 0) (h3 : ¬ (t : Int).tmod 3 = 0) {o : List U}
    (ho : o = [{ i := makeF 0 t R 1 }, { i := makeF 1 t R 1 }, { i := makeF 2 t R 1 }, { i := makeF 3 t R 1 }, { i := makeF 4 t R 1 }, { l := (rowsM t 1 R).map (roverRow t) }, { i := 0 }]) : ∀ f r : Nat, r + f = R →
    Runs I25 (tmsRRover.map Tm.pre) ssRRover 1 [{ i := (t : Int) }, { i := (R : Int) }, { l := (rowsM t 1 r).map (roverRow t) ++ restM t r f }, { i := (r : Int) }] o
  | f, r, hf => by
    have hl := rowsM_len t 1 r
    have hl2 := restM_len t f r
    have hb : r * t ≤ 24 * 24 := Nat.mul_le_mul (by omega) (by omega)
    have e0 : (I25.f3 0 { i := (t : Int) } { i := (R : Int) } { i := 1 }).i = makeE t R 1 := rfl
    have e1 : (I25.f2 1 { i := (t : Int) } { i := 1 }).i = wayE t 1 := rfl
    have e2 (x : Int) : I25.f2 11 { i := x } { i := (t : Int) } = { i := x % (t : Int) } := rfl
    refine Runs.step rfl ?_ ?_
    · simp only [tmsRRover, List.map_cons, List.getD_cons_zero, List.getD_cons_succ, holds_cons_iff, E.den, BiO.den, UnO.den, Bool.not_eq_true', beq_eq_false_iff_ne, beq_iff_eq, e0, e1]
      exact ⟨hE, h3, hw, Holds.nil⟩
    · simp only [StOk, E.den, BiO.den, UnO.den, List.map_cons, List.map_nil, List.getD_cons_zero, List.getD_cons_succ, decide_eq_true_eq, decide_eq_false_iff_not, holds_cons_iff, holds_nil_iff, e2]
      refine ⟨fun hlt => ?_, fun hge => ?_⟩
      · cases f with
        | zero => omega
        | succ f =>
          have m1 : (2 * r) % t < t := Nat.mod_lt _ (by omega)
          have q1 : ((r : Int) * (t : Int)) = ((r * t : Nat) : Int) := by rw [Int.natCast_mul]
          have q2 : (2 * (r : Int)) % (t : Int) = (((2 * r) % t : Nat) : Int) := by rw [Int.natCast_emod]; rfl
          have q3 : (f + 1) * t = f * t + t := Nat.succ_mul f t
          rw [w64 (x := 2 * (r : Int)) (by omega) (by omega), w64 (x := (r : Int) * (t : Int)) (by omega) (by omega), w64 (x := (r : Int) * (t : Int) + 2 * (r : Int) % (t : Int)) (by omega) (by omega), w64 (x := 2 * (t : Int)) (by omega) (by omega), w64 (x := 2 * (t : Int) + 1) (by omega) (by omega), w64 (x := (r : Int) + 1) (by omega) (by omega)]
          simp only [List.length_append, List.length_map]
          refine ⟨⟨by omega, by omega, by omega, by omega, by omega, by omega, by omega, by omega, trivial⟩, fun _ => ?_⟩
          have ih := rRRover h2 h24 hR hw hE h3 ho f (r + 1) (by omega)
          have es : setAt ((rowsM t 1 r).map (roverRow t) ++ restM t r (f + 1)) ((r : Int) * (t : Int) + 2 * (r : Int) % (t : Int)).toNat 2 (2 * (t : Int) + 1) = (rowsM t 1 (r + 1)).map (roverRow t) ++ restM t (r + 1) f := by
            have hc := block_set (t := t) (r := r) m1 (by rw [Int.tmod_eq_emod_of_nonneg (by omega)]; exact q2.symm)
            have hbl : (blockM t r).length = t := by simp [blockM]
            rw [q1, q2, show (((r * t : Nat) : Int) + (((2 * r) % t : Nat) : Int)).toNat = ((rowsM t 1 r).map (roverRow t)).length + (2 * r) % t from by rw [List.length_map]; omega, rowsM_succ, List.map_append]
            show _ = (rowsM t 1 r).map (roverRow t) ++ (blockM t r).map (roverRow t) ++ _
            rw [← hc, restM_succ, List.append_assoc, setAt, List.set_append_right _ _ (Nat.le_add_right _ _), Nat.add_sub_cancel_left, List.set_append_left _ _ (by omega)]
            congr 4
            rw [List.getD_eq_getElem?_getD, List.getElem?_append_right (Nat.le_add_right _ _), Nat.add_sub_cancel_left, List.getElem?_append_left (by omega), ← List.getD_eq_getElem?_getD]
          rw [← es] at ih
          exact ih
      · have : f = 0 := by omega
        subst this
        rw [show r = R from by omega, ho]
        rw [show restM t R 0 = [] from rfl, List.append_nil]
        rfl

theorem vRRover : cRRover.Valid (cx [] []) I25 := by
  refine re (Ctr.valid_run resp25 (glIn _ _) (allOf (.cons vRMost (.cons vRMake (.cons vMod .nil)))) (by decide) (by decide) (by kernel_rfl) rfl sRRover [.i, .i] [.i, .i, .i, .i, .i, .l, .i] (by decide) ?_)
  intro ρ0 hρ hpre _
  obtain ⟨t, r, rfl⟩ := two_ii hρ
  refine ⟨roverOut t r, Runs.step rfl hpre ?_, rfl⟩
  have e0 : I25.f3 0 { i := t } { i := r } { i := 1 } = { i := makeE t r 1 } := rfl
  have e1 : I25.f2 1 { i := t } { i := 1 } = { i := wayE t 1 } := rfl
  have e2 : I25.f3 1 { i := t } { i := r } { i := 1 } = { l := makeR t r 1 } := rfl
  simp only [StOk, E.den, BiO.den, UnO.den, List.map_cons, List.map_nil, List.getD_cons_zero, List.getD_cons_succ, beq_iff_eq, beq_eq_false_iff_ne, Bool.not_eq_true', Bool.not_eq_false', e0, e1, e2]
  have bad (h : ¬ (wayE t 1 = 0 ∧ t.tmod 3 = 0)) (hE : makeE t r 1 ≠ 0) : [({ i := 0 } : U), { i := 0 }, { i := 0 }, { i := 0 }, { i := 0 }, { l := [] }, { i := makeE t r 1 }] = roverOut t r := by
    rw [rover_as h, makeR_no hE, List.map_nil, make_not rfl hE, makeOut, makeR_no hE]
  refine ⟨fun a => ?_, fun a => ⟨fun b => rover_no a b, fun b => ⟨fun c => bad (fun q => b q.2) c, fun c => ?_⟩⟩⟩
  · rw [← makeE_way (r := r) a]
    exact bad (fun q => a q.1) (by rw [makeE_way a]; exact a)
  · obtain ⟨w1, w2, _⟩ := way_0 a
    obtain ⟨_, g1, g2⟩ := makeE_0 c
    have g3 := most_le (k := 1) w1
    obtain ⟨t, rfl⟩ := int_nat (x := t) (by omega)
    obtain ⟨r, rfl⟩ := int_nat (x := r) (by omega)
    have := rRRover (t := t) (R := r) (by omega) (by omega) (by omega) a c b (o := roverOut t r) (by rw [rover_as (fun q => b q.2), makeR_ok c, c]; rfl) r 0 (by omega)
    rw [← rowsM_rest] at this
    rw [makeR_ok c]
    exact this

/-! ### movements compared -/
theorem eqR_iff {w : Nat} {a b : List (List Int)} : eqR w a b = true ↔ a.length = b.length ∧ ∀ i, i < a.length → ∀ c, c < w → (a.getD i []).getD c 0 = (b.getD i []).getD c 0 := by
  unfold eqR
  simp only [Bool.and_eq_true, List.all_eq_true, List.mem_range, beq_iff_eq]
theorem eqR_refl (w : Nat) (a : List (List Int)) : eqR w a a = true := eqR_iff.2 ⟨rfl, fun _ _ _ _ => rfl⟩
theorem two_ll {ρ0 : List U} (h : ρ0 = normU [.l, .l] ρ0) : ∃ a b : List (List Int), ρ0 = [{ l := a }, { l := b }] := ⟨_, _, h⟩
theorem rRows {a b : List (List Int)} (hl : a.length ≤ 5000) (hlen : a.length = b.length) : ∀ f i : Nat, i + f = a.length → (∀ j, j < i → ∀ c, c < 5 → (a.getD j []).getD c 0 = (b.getD j []).getD c 0) →
    Runs I25 (tmsRows.map Tm.pre) ssRows 1 [{ l := a }, { l := b }, { i := (i : Int) }] [{ b := eqR 5 a b }]
  | f, i, hi, hj => by
    refine Runs.step rfl ?_ ?_
    · simp only [tmsRows, List.map_cons, List.getD_cons_zero, List.getD_cons_succ, holds_cons_iff, E.den, BiO.den, UnO.den, decide_eq_true_eq, beq_iff_eq]
      (repeat' refine And.intro ?_ ?_) <;> first | exact Holds.nil | omega
    · simp only [StOk, E.den, BiO.den, UnO.den, TeO.den, List.map_cons, List.map_nil, List.getD_cons_zero, List.getD_cons_succ, decide_eq_true_eq, decide_eq_false_iff_not, Int.toNat_natCast, Int.toNat_zero, show Int.toNat 1 = 1 from rfl, show Int.toNat 2 = 2 from rfl, show Int.toNat 3 = 3 from rfl, show Int.toNat 4 = 4 from rfl, Bool.not_eq_true', Bool.not_eq_false', Bool.and_eq_true, Bool.and_eq_false_iff, beq_iff_eq, beq_eq_false_iff_ne]
      refine ⟨fun hlt => ⟨fun q => ?_, fun q => ?_⟩, fun hge => ?_⟩
      · have : eqR 5 a b ≠ true := by
          intro h
          have h2 := (eqR_iff.1 h).2 i (by omega)
          have e0 := h2 0 (by omega)
          have e1 := h2 1 (by omega)
          have e2 := h2 2 (by omega)
          have e3 := h2 3 (by omega)
          have e4 := h2 4 (by omega)
          omega
        rw [Bool.eq_false_iff.2 this]
      · cases f with
        | zero => omega
        | succ f =>
          refine rRows hl hlen f (i + 1) (by omega) fun j hj' c hc => ?_
          rcases Nat.lt_or_eq_of_le (Nat.le_of_lt_succ hj') with h | rfl
          · exact hj j h c hc
          · obtain ⟨q0, q1, q2, q3, q4⟩ := q
            match c, hc with
            | 0, _ => exact q0
            | 1, _ => exact q1
            | 2, _ => exact q2
            | 3, _ => exact q3
            | 4, _ => exact q4
      · have : eqR 5 a b = true := eqR_iff.2 ⟨hlen, fun j hj' c hc => hj j (by omega) c hc⟩
        rw [this]

theorem vRows : cRows.Valid (cx [] []) I25 := by
  refine re (Ctr.valid_run resp25 (glIn _ _) (fun c hc => by cases hc) (by decide) (by decide) (by kernel_rfl) rfl sRows [.l, .l] [.b] (by decide) ?_)
  intro ρ0 hρ hpre _
  obtain ⟨a, b, rfl⟩ := two_ll hρ
  have hp := hpre
  simp only [cRows, most, holds_cons_iff, E.den, BiO.den, UnO.den, List.getD_cons_zero, decide_eq_true_eq] at hp
  obtain ⟨h1, _⟩ := hp
  refine ⟨[{ b := eqR 5 a b }], Runs.step rfl hpre ?_, rfl⟩
  simp only [StOk, E.den, BiO.den, UnO.den, List.map_cons, List.map_nil, List.getD_cons_zero, List.getD_cons_succ, Bool.not_eq_true', Bool.not_eq_false', beq_iff_eq, beq_eq_false_iff_ne]
  refine ⟨fun q => ?_, fun q => ?_⟩
  · have : eqR 5 a b ≠ true := fun h => by have := (eqR_iff.1 h).1; omega
    rw [Bool.eq_false_iff.2 this]
  · exact rRows (by omega) (by omega) a.length 0 (by omega) (fun j h => by omega)

theorem vSame : cSame.Valid (cx [] []) I25 := by
  refine re (Ctr.valid_run resp25 (glIn _ _) (allOf (.cons vRows .nil)) (by decide) (by decide) (by kernel_rfl) rfl sSame [.i, .i, .i, .i, .i, .l, .i, .i, .i, .i, .i, .l] [.b] (by decide) ?_)
  intro ρ0 hρ hpre _
  have hp := hpre
  simp only [cSame, most, holds_cons_iff] at hp
  obtain ⟨_, _, _, _, _, _, h2, _⟩ := hp
  refine ⟨[{ b := true }], Runs.step rfl hpre ?_, rfl⟩
  have h3 : eqR 5 (ρ0.getD 5 {}).l (ρ0.getD 11 {}).l = true := h2
  show [({ b := eqR 5 (ρ0.getD 5 {}).l (ρ0.getD 11 {}).l } : U)] = [{ b := true }]
  rw [h3]


theorem vMakes : cMakes.Valid (cx [] []) I25 := by
  refine re (Ctr.valid_run resp25 (glIn _ _) (allOf (.cons vMost (.cons vRMost (.cons vMake (.cons vRMake (.cons vRover (.cons vRRover (.cons vSame .nil)))))))) (by decide) (by decide) (by kernel_rfl) rfl sMakes [.i, .i, .i] [.b] (by decide) ?_)
  intro ρ0 hρ hpre _
  obtain ⟨t, r, k, rfl⟩ := three_iii hρ
  refine ⟨[{ b := true }], Runs.step rfl hpre ?_, rfl⟩
  have e2 : I25.f3 1 { i := t } { i := r } { i := k } = { l := makeR t r k } := rfl
  have e3 : I25.f2 3 { i := t } { i := r } = { l := roverR t r } := rfl
  have e4 (a b : List (List Int)) : I25.f2 10 { l := a } { l := b } = { b := eqR 5 a b } := rfl
  have l1 := makeR_len t r k
  have l2 : (roverR t r).length ≤ 576 := by
    unfold roverR
    split
    · exact Nat.zero_le _
    · rw [List.length_map]; exact makeR_len t r 1
  simp only [StOk, E.den, BiO.den, UnO.den, List.map_cons, List.map_nil, List.getD_cons_zero, List.getD_cons_succ, decide_eq_true_eq, holds_cons_iff, holds_nil_iff, e2, e3, e4, eqR_refl]
  exact ⟨⟨by omega, trivial, trivial⟩, fun _ => ⟨⟨by omega, trivial, trivial⟩, fun _ => trivial⟩⟩
end Go.Proofs.Ytbknfmmoniammaa
