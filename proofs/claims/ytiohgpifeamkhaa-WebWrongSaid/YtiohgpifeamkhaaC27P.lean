/- Chapter 27: the movements of all kinds. -/
import Derived.Test.YtiohgpifeamkhaaC27S
namespace Go.Proofs.Ytiohgpifeamkhaa
open Go Go.Sx Go.Proofs.C27

theorem two_ii {ρ0 : List U} (h : ρ0 = normU [.i, .i] ρ0) : ∃ a b : Int, ρ0 = [{ i := a }, { i := b }] := ⟨_, _, h⟩
theorem three_iii {ρ0 : List U} (h : ρ0 = normU [.i, .i, .i] ρ0) : ∃ a b c : Int, ρ0 = [{ i := a }, { i := b }, { i := c }] := ⟨_, _, _, h⟩
theorem four_iiii {ρ0 : List U} (h : ρ0 = normU [.i, .i, .i, .i] ρ0) : ∃ a b c d : Int, ρ0 = [{ i := a }, { i := b }, { i := c }, { i := d }] := ⟨_, _, _, _, h⟩
theorem two_ll {ρ0 : List U} (h : ρ0 = normU [.l, .l] ρ0) : ∃ a b : List (List Int), ρ0 = [{ l := a }, { l := b }] := ⟨_, _, h⟩
theorem one_l {ρ0 : List U} (h : ρ0 = normU [.l] ρ0) : ∃ a : List (List Int), ρ0 = [{ l := a }] := ⟨_, h⟩
theorem six_m {ρ0 : List U} (h : ρ0 = normU [.i, .i, .i, .i, .i, .l] ρ0) : ∃ (a b c d e : Int) (m : List (List Int)), ρ0 = [{ i := a }, { i := b }, { i := c }, { i := d }, { i := e }, { l := m }] := ⟨_, _, _, _, _, _, h⟩
theorem seven_m {ρ0 : List U} (h : ρ0 = normU [.i, .i, .i, .i, .i, .l, .i] ρ0) : ∃ (a b c d e : Int) (m : List (List Int)) (x : Int), ρ0 = [{ i := a }, { i := b }, { i := c }, { i := d }, { i := e }, { l := m }, { i := x }] := ⟨_, _, _, _, _, _, _, h⟩
theorem eight_m {ρ0 : List U} (h : ρ0 = normU [.i, .i, .i, .i, .i, .l, .i, .i] ρ0) : ∃ (a b c d e : Int) (m : List (List Int)) (x y : Int), ρ0 = [{ i := a }, { i := b }, { i := c }, { i := d }, { i := e }, { l := m }, { i := x }, { i := y }] := ⟨_, _, _, _, _, _, _, _, h⟩
theorem int_nat {x : Int} (h : 0 ≤ x) : ∃ n : Nat, x = n := ⟨x.toNat, by omega⟩
theorem tmod_small {a m : Int} (h : 0 ≤ a) (hm : 0 < m) : 0 ≤ a.tmod m ∧ a.tmod m < m := by
  rw [Int.tmod_eq_emod_of_nonneg h]
  exact ⟨Int.emod_nonneg _ (by omega), Int.emod_lt_of_pos _ hm⟩
theorem or_all : ((List.range 25).all fun x => bitsOp .or .i64 (x : Int) 1 == if (x : Int).tmod 2 = 1 then (x : Int) else (x : Int) + 1) = true := by kernel_rfl
theorem an_all : ((List.range 25).all fun x => bitsOp .andNot .i64 (x : Int) 1 == (x : Int) - (x : Int).tmod 2) = true := by kernel_rfl
theorem or1 {x : Int} (h0 : 0 ≤ x) (h : x ≤ 24) : bitsOp .or .i64 x 1 = if x.tmod 2 = 1 then x else x + 1 := by
  obtain ⟨n, rfl⟩ := int_nat h0
  exact beq_iff_eq.1 (List.all_eq_true.1 or_all n (List.mem_range.2 (by omega)))
theorem an1 {x : Int} (h0 : 0 ≤ x) (h : x ≤ 24) : bitsOp .andNot .i64 x 1 = x - x.tmod 2 := by
  obtain ⟨n, rfl⟩ := int_nat h0
  exact beq_iff_eq.1 (List.all_eq_true.1 an_all n (List.mem_range.2 (by omega)))

/-! ### which kinds there are -/
theorem most_bad {t k e : Int} (h : wayE t k = e) (he : e ≠ 0) : mostV t k = 0 := by unfold mostV; rw [if_pos (by rw [h]; exact he)]
theorem most_good {t k : Int} (h : wayE t k = 0) : mostV t k = if k = 3 then t else t.tdiv 2 := by unfold mostV; rw [if_neg (fun q => q h)]
def mostOut (t k : Int) : List U := [{ i := mostV t k }, { i := wayE t k }]
theorem out_bad {t k e : Int} (h : wayE t k = e) (he : e ≠ 0) : [({ i := 0 } : U), { i := e }] = mostOut t k := by rw [mostOut, most_bad h he, h]
theorem out_good {t k x : Int} (h : wayE t k = 0) (hx : x = if k = 3 then t else t.tdiv 2) : [({ i := x } : U), { i := 0 }] = mostOut t k := by rw [mostOut, most_good h, h, hx]
theorem way_0 {t k : Int} (h : wayE t k = 0) : 2 ≤ t ∧ t ≤ 24 ∧ 1 ≤ k ∧ k ≤ 3 ∧ (k ≠ 3 → t.tmod 2 ≠ 1) ∧ (k = 2 → t ≠ 2) := by
  unfold wayE at h
  split at h
  · cases h
  · split at h
    · split at h
      · cases h
      · omega
    · split at h
      · split at h
        · cases h
        · omega
      · split at h
        · omega
        · cases h

theorem vMost : cMost.Valid (cx [] []) I27 := by
  refine Ctr.valid_run resp27 (glIn _ _) (fun c hc => by cases hc) (by decide) (by decide) (by kernel_rfl) rfl sMost [.i, .i] [.i, .i] (by decide) ?_
  intro ρ0 hρ hpre _
  obtain ⟨t, k, rfl⟩ := two_ii hρ
  refine ⟨mostOut t k, Runs.step rfl hpre ?_, rfl⟩
  simp only [StOk, E.den, BiO.den, List.map_cons, List.map_nil, List.getD_cons_zero, List.getD_cons_succ, decide_eq_true_eq, decide_eq_false_iff_not, beq_iff_eq, beq_eq_false_iff_ne]
  refine ⟨fun a => out_bad ?_ (by decide), fun a => ⟨fun b => out_bad ?_ (by decide), fun b => ⟨fun c => ⟨fun d => out_bad ?_ (by decide), fun d => ⟨fun e => out_bad ?_ (by decide), fun e => out_good ?_ ?_⟩⟩, fun c => ⟨fun d => ⟨fun e => out_bad ?_ (by decide), fun e => out_good ?_ ?_⟩, fun d => ⟨fun e => out_good ?_ ?_, fun e => out_bad ?_ (by decide)⟩⟩⟩⟩⟩
  all_goals first | (unfold wayE; (repeat' split) <;> omega) | (split <;> omega)
theorem vRMost : cRMost.Valid (cx [] []) I27 := by
  refine Ctr.valid_run resp27 (glIn _ _) (fun c hc => by cases hc) (by decide) (by decide) (by kernel_rfl) rfl sRMost [.i, .i] [.i, .i] (by decide) ?_
  intro ρ0 hρ hpre _
  obtain ⟨t, k, rfl⟩ := two_ii hρ
  refine ⟨mostOut t k, Runs.step rfl hpre ?_, rfl⟩
  simp only [StOk, E.den, BiO.den, List.map_cons, List.map_nil, List.getD_cons_zero, List.getD_cons_succ, decide_eq_true_eq, decide_eq_false_iff_not, beq_iff_eq, beq_eq_false_iff_ne]
  have hm : 0 ≤ t → t.tmod 2 = t % 2 := fun h => Int.tmod_eq_emod_of_nonneg h
  refine ⟨fun a => out_bad ?_ (by decide), fun a => ⟨fun b => out_bad ?_ (by decide), fun b => ⟨fun c => out_bad ?_ (by decide), fun c => ⟨fun d => out_bad ?_ (by decide), fun d => ⟨fun e => out_good ?_ ?_, fun e => ⟨fun f => out_bad ?_ (by decide), fun f => ⟨fun g => ⟨fun h => out_bad ?_ (by decide), fun h => out_good ?_ ?_⟩, fun g => out_good ?_ ?_⟩⟩⟩⟩⟩⟩⟩
  all_goals first | (unfold wayE; (repeat' split) <;> omega) | (have := hm (by omega); unfold wayE; (repeat' split) <;> omega) | (split <;> omega)
theorem vRSets : cRSets.Valid (cx [] []) I27 := by
  refine Ctr.valid_run resp27 (glIn _ _) (fun c hc => by cases hc) (by decide) (by decide) (by kernel_rfl) rfl sRSets [.i, .i] [.i] (by decide) ?_
  intro ρ0 hρ hpre _
  obtain ⟨t, k, rfl⟩ := two_ii hρ
  refine ⟨[{ i := setsV t k }], Runs.step rfl hpre ?_, rfl⟩
  simp only [StOk, E.den, BiO.den, List.map_cons, List.map_nil, List.getD_cons_zero, List.getD_cons_succ, beq_iff_eq, beq_eq_false_iff_ne]
  unfold setsV
  refine ⟨fun a => by rw [if_pos a], fun a => ⟨fun b => by rw [if_neg a, if_pos b, Int.sub_eq_add_neg], fun b => ⟨fun c => by rw [if_neg a, if_neg b, if_pos c], fun c => by rw [if_neg a, if_neg b, if_neg c]⟩⟩⟩

/-! ### Make -/
theorem rowsW_succ (t k S r : Nat) : rowsW t k S (r + 1) = rowsW t k S r ++ (List.range t).map (rowW t k S r) := by
  unfold rowsW; rw [List.range_succ, List.flatMap_append]; simp
theorem rowsW_len (t k S : Nat) : ∀ r, (rowsW t k S r).length = r * t
  | 0 => by simp [rowsW]
  | r + 1 => by rw [rowsW_succ, List.length_append, rowsW_len t k S r, List.length_map, List.length_range, Nat.succ_mul]
theorem range_map_succ {α : Type} (f : Nat → α) (j : Nat) : (List.range (j + 1)).map f = (List.range j).map f ++ [f j] := by rw [List.range_succ, List.map_append]; rfl

def makeOut (t r k : Int) : List U := [{ i := makeF 0 t r k }, { i := makeF 1 t r k }, { i := makeF 2 t r k }, { i := makeF 3 t r k }, { i := makeF 4 t r k }, { l := makeR t r k }, { i := makeE t r k }]
theorem make_not {t r k e : Int} (h : makeE t r k = e) (he : e ≠ 0) : [({ i := 0 } : U), { i := 0 }, { i := 0 }, { i := 0 }, { i := 0 }, { l := [] }, { i := e }] = makeOut t r k := by
  subst h
  unfold makeOut makeF makeR
  simp only [ne_eq, he, not_false_eq_true, if_true]
theorem makeE_way {t r k : Int} (h : wayE t k ≠ 0) : makeE t r k = wayE t k := by unfold makeE; rw [if_pos h]
theorem makeE_less {t r k : Int} (h : wayE t k = 0) (hr : r < 1) : makeE t r k = 2 := by unfold makeE; rw [if_neg (fun e => e h), if_pos hr]
theorem makeE_more {t r k : Int} (h : wayE t k = 0) (h1 : 1 ≤ r) (hr : mostV t k < r) : makeE t r k = 5 := by unfold makeE; rw [if_neg (fun e => e h), if_neg (by omega), if_pos hr]
theorem makeE_ok {t r k : Int} (h : wayE t k = 0) (h1 : 1 ≤ r) (hr : r ≤ mostV t k) : makeE t r k = 0 := by unfold makeE; rw [if_neg (fun e => e h), if_neg (by omega), if_neg (by omega)]
theorem makeE_0 {t r k : Int} (h : makeE t r k = 0) : wayE t k = 0 ∧ 1 ≤ r ∧ r ≤ mostV t k := by
  unfold makeE at h
  split at h
  · rename_i q; exact (q h).elim
  · rename_i q
    split at h
    · cases h
    · split at h
      · cases h
      · exact ⟨Classical.not_not.1 q, by omega, by omega⟩
theorem make_yes {t r k : Int} (h : makeE t r k = 0) {s c : Int} (hs : s = setsV t k) (hc : c = copiesK t k) : [({ i := t } : U), { i := r }, { i := s }, { i := c }, { i := 2 }, { l := rowsW t.toNat k.toNat s.toNat r.toNat }, { i := 0 }] = makeOut t r k := by
  subst hs hc
  unfold makeOut makeF makeR
  simp only [h, ne_eq, not_true_eq_false, if_false]
theorem mostV_le {t k : Int} (h : 2 ≤ t) : mostV t k ≤ t := by
  unfold mostV
  split
  · omega
  · split
    · omega
    · rw [Int.tdiv_eq_ediv_of_nonneg (by omega)]; omega
theorem sets_in {t k : Int} (h2 : 2 ≤ t) (h24 : t ≤ 24) : 1 ≤ setsV t k ∧ setsV t k ≤ 24 := by
  unfold setsV
  rw [Int.tdiv_eq_ediv_of_nonneg (by omega)]
  (repeat' split) <;> omega

theorem ew_eq {t r j : Nat} (hr : r < t) (hj : j < t) (ht : t ≤ 24) : (t : Int) + (IntKind.wrap .i64 (IntKind.wrap .i64 ((j : Int) - (r : Int)) + (t : Int))).tmod (t : Int) + 1 = (t : Int) + 1 + ((if r ≤ j then j - r else j + t - r : Nat) : Int) := by
  rw [w64 (x := (j : Int) - r) (by omega) (by omega), w64 (x := (j : Int) - r + t) (by omega) (by omega), Int.tmod_eq_emod_of_nonneg (by omega)]
  split
  · rw [Int.add_emod_right, Int.emod_eq_of_lt (by omega) (by omega)]; omega
  · rw [Int.emod_eq_of_lt (by omega) (by omega)]; omega
theorem row_3 {t S r j : Nat} (hr : r < t) (hj : j < t) (ht : t ≤ 24) : [(r : Int), (j : Int), (j : Int) + 1, (t : Int) + (IntKind.wrap .i64 (IntKind.wrap .i64 ((j : Int) - (r : Int)) + (t : Int))).tmod (t : Int) + 1, (r : Int)] = rowW t 3 S r j := by
  rw [ew_eq hr hj ht]; rfl
theorem row_k {t k S r j : Nat} (hk : k ≠ 3) (hr : r < t) (hj : j < t) (ht : t ≤ 24) : [(r : Int), (j : Int), (j : Int) + 1, (t : Int) + (IntKind.wrap .i64 (IntKind.wrap .i64 ((j : Int) - (r : Int)) + (t : Int))).tmod (t : Int) + 1, (IntKind.wrap .i64 ((j : Int) + (r : Int))).tmod (S : Int)] = rowW t k S r j := by
  rw [ew_eq hr hj ht, w64 (x := (j : Int) + r) (by omega) (by omega), Int.tmod_eq_emod_of_nonneg (by omega)]
  unfold C27.rowW
  rw [if_neg hk]
  rfl

theorem rMake {t k S R : Nat} {mst C : Int} (h2 : 2 ≤ t) (h24 : t ≤ 24) (hk : k ≤ 3) (hS : 1 ≤ S) (hR : R ≤ t) (h1 : 1 ≤ R) (hC : 2 ≤ C) {out : List U} (ho : [({ i := (t : Int) } : U), { i := (R : Int) }, { i := (S : Int) }, { i := C }, { i := 2 }, { l := rowsW t k S R }, { i := 0 }] = out) (hm : 0 ≤ mst) : ∀ f r : Nat, r + f = R →
    Runs I27 (tmsMake.map Tm.pre) ssMake 1 [{ i := (t : Int) }, { i := (R : Int) }, { i := (k : Int) }, { i := (S : Int) }, { i := mst }, { i := C }, { i := (r : Int) }, { l := rowsW t k S r }] out
  | f, r, hf => by
    have hl := rowsW_len t k S r
    have hb : r * t ≤ 24 * 24 := Nat.mul_le_mul (by omega) (by omega)
    refine Runs.step rfl ?_ ?_
    · simp only [tmsMake, List.map_cons, List.getD_cons_zero, List.getD_cons_succ, holds_cons_iff, E.den, BiO.den, decide_eq_true_eq]
      (repeat' refine And.intro ?_ ?_) <;> first | exact Holds.nil | omega | trivial
    · simp only [StOk, E.den, BiO.den, List.map_cons, List.map_nil, List.getD_cons_zero, List.getD_cons_succ, decide_eq_true_eq, decide_eq_false_iff_not]
      refine ⟨fun hlt => ?_, fun hge => ?_⟩
      · cases f with
        | zero => omega
        | succ f =>
          have hrow : ∀ g j : Nat, j + g = t → Runs I27 (tmsMake.map Tm.pre) ssMake 2 [{ i := (t : Int) }, { i := (R : Int) }, { i := (k : Int) }, { i := (S : Int) }, { i := mst }, { i := C }, { l := rowsW t k S r ++ (List.range j).map (rowW t k S r) }, { i := (j : Int) }, { i := (r : Int) }] out := by
            intro g
            induction g with
            | zero =>
              intro j hj
              refine Runs.step rfl ?_ ?_
              · simp only [tmsMake, List.map_cons, List.getD_cons_zero, List.getD_cons_succ, holds_cons_iff, E.den, BiO.den, UnO.den, decide_eq_true_eq, List.length_append, List.length_map, List.length_range]
                (repeat' refine And.intro ?_ ?_) <;> first | exact Holds.nil | omega | trivial
              · simp only [StOk, E.den, BiO.den, UnO.den, List.map_cons, List.map_nil, List.getD_cons_zero, List.getD_cons_succ, decide_eq_true_eq, decide_eq_false_iff_not, holds_cons_iff, holds_nil_iff]
                refine ⟨fun hlt => by omega, fun _ => ?_⟩
                rw [show j = t from by omega, ← rowsW_succ, w64 (x := (r : Int) + 1) (by omega) (by omega)]
                exact rMake h2 h24 hk hS hR h1 hC ho hm f (r + 1) (by omega)
            | succ g ih =>
              intro j hj
              refine Runs.step rfl ?_ ?_
              · simp only [tmsMake, List.map_cons, List.getD_cons_zero, List.getD_cons_succ, holds_cons_iff, E.den, BiO.den, UnO.den, decide_eq_true_eq, List.length_append, List.length_map, List.length_range]
                (repeat' refine And.intro ?_ ?_) <;> first | exact Holds.nil | omega | trivial
              · have ih' := ih (j + 1) (by omega)
                rw [range_map_succ, ← List.append_assoc] at ih'
                simp only [StOk, E.den, BiO.den, UnO.den, List.map_cons, List.map_nil, List.getD_cons_zero, List.getD_cons_succ, decide_eq_true_eq, decide_eq_false_iff_not, holds_cons_iff, holds_nil_iff, List.length_append, List.length_map, List.length_range, Bool.not_eq_true', beq_eq_false_iff_ne, beq_iff_eq]
                refine ⟨fun _ => ⟨⟨by omega, trivial⟩, fun _ => ⟨fun k3 => ⟨⟨by omega, trivial⟩, fun _ => ?_⟩, fun k3 => ⟨⟨by omega, trivial⟩, fun _ => ?_⟩⟩⟩, fun hge => by omega⟩
                · rw [show k = 3 from by omega] at ih' ⊢
                  rw [← row_3 (by omega) (by omega) h24] at ih'
                  exact ih'
                · rw [← row_k (by omega) (by omega) (by omega) h24] at ih'
                  exact ih'
          have := hrow t 0 (by omega)
          rw [List.range_zero, List.map_nil, List.append_nil] at this
          exact this
      · rw [show r = R from by omega]
        exact ho

theorem vMake : cMake.Valid (cx [] []) I27 := by
  refine re (Ctr.valid_run resp27 (glIn _ _) (fun c hc => by cases hc) (by decide) (by decide) (by kernel_rfl) rfl sMake [.i, .i, .i] [.i, .i, .i, .i, .i, .l, .i] (by decide) ?_)
  intro ρ0 hρ hpre _
  obtain ⟨t, r, k, rfl⟩ := three_iii hρ
  refine ⟨makeOut t r k, Runs.step rfl hpre ?_, rfl⟩
  simp only [StOk, E.den, BiO.den, List.map_cons, List.map_nil, List.getD_cons_zero, List.getD_cons_succ, decide_eq_true_eq, decide_eq_false_iff_not, beq_iff_eq, beq_eq_false_iff_ne]
  have bad {e : Int} (h : wayE t k = e) (he : e ≠ 0) := make_not (t := t) (r := r) (k := k) (by rw [makeE_way (by rw [h]; exact he), h]) he
  have less (h : wayE t k = 0) (hr : r < 1) := make_not (t := t) (r := r) (k := k) (makeE_less h hr) (by decide)
  have more (h : wayE t k = 0) (hr : 1 ≤ r) (hm : (if k = 3 then t else t.tdiv 2) < r) := make_not (t := t) (r := r) (k := k) (makeE_more h hr (by rw [most_good h]; exact hm)) (by decide)
  have go (h : wayE t k = 0) (hr : 1 ≤ r) (hm : r ≤ (if k = 3 then t else t.tdiv 2)) {s c m : Int} (hs : s = setsV t k) (hc : c = copiesK t k) (hc2 : 2 ≤ c) (m0 : 0 ≤ m) :
      Runs I27 (tmsMake.map Tm.pre) ssMake 1 [{ i := t }, { i := r }, { i := k }, { i := s }, { i := m }, { i := c }, { i := 0 }, { l := [] }] (makeOut t r k) := by
    obtain ⟨g1, g2, g3, g4, _⟩ := way_0 h
    have hE : makeE t r k = 0 := makeE_ok h hr (by rw [most_good h]; exact hm)
    have hmt := mostV_le (t := t) (k := k) g1
    rw [most_good h] at hmt
    have hset := sets_in (k := k) g1 g2
    have hy := make_yes hE hs hc
    obtain ⟨T, rfl⟩ := int_nat (x := t) (by omega)
    obtain ⟨R, rfl⟩ := int_nat (x := r) (by omega)
    obtain ⟨K, rfl⟩ := int_nat (x := k) (by omega)
    obtain ⟨S, rfl⟩ := int_nat (x := s) (by omega)
    exact rMake (by omega) (by omega) (by omega) (by omega) (by omega) (by omega) hc2 hy m0 R 0 (by omega)
  refine ⟨fun a => bad (e := 2) ?_ (by decide), fun a => ⟨fun b => bad (e := 2) ?_ (by decide), fun b => ⟨fun c => ⟨fun d => bad (e := 6) ?_ (by decide), fun d => ⟨fun e => bad (e := 6) ?_ (by decide), fun e => ?_⟩⟩, fun c => ⟨fun d => ⟨fun e => bad (e := 6) ?_ (by decide), fun e => ?_⟩, fun d => ⟨fun e => ?_, fun e => bad (e := 2) ?_ (by decide)⟩⟩⟩⟩⟩
  · unfold wayE; (repeat' split) <;> omega
  · unfold wayE; (repeat' split) <;> omega
  · unfold wayE; (repeat' split) <;> omega
  · unfold wayE; (repeat' split) <;> omega
  · have hw : wayE t k = 0 := by unfold wayE; (repeat' split) <;> omega
    have hd : t.tdiv 2 = t / 2 := Int.tdiv_eq_ediv_of_nonneg (by omega)
    refine ⟨fun x => less hw x, fun x => ⟨fun y => more hw (by omega) (by rw [if_neg (by omega)]; exact y), fun y => ?_⟩⟩
    exact go hw (by omega) (by rw [if_neg (by omega)]; omega) (by unfold setsV; rw [if_neg (show ¬ k = 3 by omega), if_pos c]; omega) (by unfold copiesK; rw [if_neg (by omega)]) (by decide) (by omega)
  · unfold wayE; (repeat' split) <;> omega
  · have hw : wayE t k = 0 := by unfold wayE; (repeat' split) <;> omega
    have hd : t.tdiv 2 = t / 2 := Int.tdiv_eq_ediv_of_nonneg (by omega)
    refine ⟨fun x => less hw x, fun x => ⟨fun y => more hw (by omega) (by rw [if_neg (by omega)]; exact y), fun y => ?_⟩⟩
    rw [or1 (x := t.tdiv 2) (by omega) (by omega)]
    exact go hw (by omega) (by rw [if_neg (by omega)]; omega) (by unfold setsV; rw [if_neg (show ¬ k = 3 by omega), if_neg (show ¬ k = 2 by omega)]) (by unfold copiesK; rw [if_neg (by omega)]) (by decide) (by omega)
  · have hw : wayE t k = 0 := by unfold wayE; (repeat' split) <;> omega
    refine ⟨fun x => less hw x, fun x => ⟨fun y => more hw (by omega) (by rw [if_pos e]; exact y), fun y => ?_⟩⟩
    exact go hw (by omega) (by rw [if_pos e]; omega) (by unfold setsV; rw [if_pos e]) (by unfold copiesK; rw [if_pos e]) (by omega) (by omega)
  · unfold wayE; (repeat' split) <;> omega
end Go.Proofs.Ytiohgpifeamkhaa
