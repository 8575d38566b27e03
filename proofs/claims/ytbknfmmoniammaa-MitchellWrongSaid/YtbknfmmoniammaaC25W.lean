/- Chapter 25: a movement without a pair; who sits out. -/
import Derived.Test.YtbknfmmoniammaaC25V
namespace Go.Proofs.Ytbknfmmoniammaa
open Go Go.Sx Go.Proofs.C25

theorem srtAll_len (A : List (List Int)) : (srtAll A).length = A.length := by
  have := sortU_len (nums A)
  rw [nums_len] at this
  unfold srtAll
  rw [List.length_append, ones_len, List.length_replicate]
  omega
theorem srtLen_le (A : List (List Int)) : srtLen A ≤ A.length := by
  have := sortU_len (nums A)
  rw [nums_len] at this
  unfold srtLen
  omega
theorem has_srt (A : List (List Int)) (x : Int) : hasN (srtAll A) (srtLen A).toNat x = (sortU (nums A)).contains x := by
  unfold hasN srtAll srtLen
  rw [Int.toNat_natCast, List.take_append_of_le_length (by rw [ones_len]; exact Nat.le_refl _), List.take_of_length_le (by rw [ones_len]; exact Nat.le_refl _), nums_ones]
theorem hasP_eq (m : List (List Int)) (p : Int) : hasP m p = (sortU (nums (seats m))).contains p := by
  unfold hasP
  rw [Bool.eq_iff_iff, Bool.and_eq_true, decide_eq_true_eq, List.contains_iff_mem, List.contains_iff_mem, sortU_mem]

def withOut (a b c d e : Int) (m : List (List Int)) (p : Int) : List U := [{ i := if hasP m p then a else 0 }, { i := if hasP m p then b else 0 }, { i := if hasP m p then c else 0 }, { i := if hasP m p then d else 0 }, { i := if hasP m p then e else 0 }, { l := lessR m p }, { i := lessE m p }]
theorem withOut_no {a b c d e : Int} {m : List (List Int)} {p : Int} (h : hasP m p = false) : [({ i := 0 } : U), { i := 0 }, { i := 0 }, { i := 0 }, { i := 0 }, { l := [] }, { i := 6 }] = withOut a b c d e m p := by
  unfold withOut lessR lessE
  simp only [h, Bool.false_eq_true, if_false]
theorem withOut_yes {a b c d e : Int} {m : List (List Int)} {p : Int} (h : hasP m p = true) : [({ i := a } : U), { i := b }, { i := c }, { i := d }, { i := e }, { l := m.map (lessRow p) }, { i := 0 }] = withOut a b c d e m p := by
  unfold withOut lessR lessE
  simp only [h, if_true]
def less1 (p : Int) (x : List Int) : List Int := if x.getD 2 0 = p then x.set 2 0 else x
theorem less1_3 (p : Int) (x : List Int) : (less1 p x).getD 3 0 = x.getD 3 0 := by
  unfold less1
  split
  · match x with
    | [] | [_] | [_, _] | [_, _, _] | _ :: _ :: _ :: _ :: _ => rfl
  · rfl
theorem less2 {p : Int} {x : List Int} (h : x.length = 5) : (if x.getD 3 0 = p then (less1 p x).set 3 0 else less1 p x) = lessRow p x := by
  match x, h with
  | [a, b, c, d, e], _ =>
    unfold less1 lessRow
    simp only [List.getD_cons_zero, List.getD_cons_succ]
    by_cases h1 : c = p <;> by_cases h2 : d = p <;> simp [h1, h2]

theorem rWithout {a b c d e p : Int} {m : List (List Int)} (hm : m.length ≤ 5000) (hw : ∀ r ∈ m, r.length = 5) (hp : hasP m p = true) : ∀ B A : List (List Int), A ++ B = m →
    Runs I25 (tmsWithout.map Tm.pre) ssWithout 1 [{ i := a }, { i := b }, { i := c }, { i := d }, { i := e }, { l := m }, { i := p }, { l := A.map (lessRow p) ++ B }, { i := (A.length : Int) }] (withOut a b c d e m p)
  | B, A, hAB => by
    have hl : A.length + B.length = m.length := by rw [← hAB, List.length_append]
    have hp1 : 1 ≤ p := by unfold hasP at hp; simp only [Bool.and_eq_true, decide_eq_true_eq] at hp; exact hp.1
    have hne : m.length ≠ 0 := by
      intro h0
      rw [List.length_eq_zero_iff] at h0
      subst h0
      unfold hasP at hp
      simp [seats, nums] at hp
    have s0 := srtAll_len (seats m)
    have s1 := srtLen_le (seats m)
    have s2 : 0 ≤ srtLen (seats m) := by unfold srtLen; omega
    have s3 := seats_len m
    have f0 : (I25.f3 10 (I25.f1 2 { l := m }) (I25.f1 3 { l := m }) { i := p }).b = true := by
      show hasN (srtAll (seats m)) (srtLen (seats m)).toNat p = true
      rw [has_srt, ← hasP_eq, hp]
    have f1 : (I25.f1 3 { l := m }).i = srtLen (seats m) := rfl
    have f2 : (I25.f1 2 { l := m }).l = srtAll (seats m) := rfl
    refine Runs.step rfl ?_ ?_
    · simp only [tmsWithout, List.map_cons, List.getD_cons_zero, List.getD_cons_succ, holds_cons_iff, E.den, BiO.den, UnO.den, decide_eq_true_eq, beq_iff_eq, beq_eq_false_iff_ne, Bool.not_eq_true', List.length_append, List.length_map, f0, f1, f2, s0]
      (repeat' refine And.intro ?_ ?_) <;> first | exact Holds.nil | trivial | omega
    · simp only [StOk, E.den, BiO.den, UnO.den, List.map_cons, List.map_nil, List.getD_cons_zero, List.getD_cons_succ, decide_eq_true_eq, decide_eq_false_iff_not]
      refine ⟨fun hlt => ?_, fun hge => ?_⟩
      · cases B with
        | nil => rw [List.length_nil] at hl; omega
        | cons x B =>
          have hx5 : x.length = 5 := hw x (by rw [← hAB]; simp)
          have hAm : (A.map (lessRow p)).length = A.length := List.length_map _
          -- the three states of a row
          have pre (y : List Int) (j : Int) (h0 : 0 ≤ j) (h2 : j ≤ 2) : Holds I25 [{ i := a }, { i := b }, { i := c }, { i := d }, { i := e }, { l := m }, { i := p }, { l := A.map (lessRow p) ++ y :: B }, { i := j }, { i := (A.length : Int) }] ((tmsWithout.map Tm.pre).getD 2 []) := by
            rw [List.length_cons] at hl
            simp only [tmsWithout, List.map_cons, List.getD_cons_zero, List.getD_cons_succ, holds_cons_iff, E.den, BiO.den, UnO.den, decide_eq_true_eq, beq_iff_eq, List.length_append, List.length_map, List.length_cons, f0, f1, f2, s0]
            (repeat' refine And.intro ?_ ?_) <;> first | exact Holds.nil | trivial | omega
          have at2 : Runs I25 (tmsWithout.map Tm.pre) ssWithout 2 [{ i := a }, { i := b }, { i := c }, { i := d }, { i := e }, { l := m }, { i := p }, { l := A.map (lessRow p) ++ lessRow p x :: B }, { i := 2 }, { i := (A.length : Int) }] (withOut a b c d e m p) := by
            refine Runs.step rfl (pre _ _ (by decide) (by decide)) ?_
            simp only [StOk, E.den, BiO.den, List.map_cons, List.map_nil, List.getD_cons_zero, List.getD_cons_succ, decide_eq_true_eq]
            refine ⟨fun h => by omega, fun _ => ?_⟩
            have ih := rWithout hm hw hp (a := a) (b := b) (c := c) (d := d) (e := e) B (A ++ [x]) (by rw [← hAB]; simp)
            rw [List.map_append, List.map_cons, List.map_nil, List.append_assoc, List.singleton_append, show (((A ++ [x]).length : Nat) : Int) = (A.length : Int) + 1 from by simp] at ih
            exact ih
          have at1 : Runs I25 (tmsWithout.map Tm.pre) ssWithout 2 [{ i := a }, { i := b }, { i := c }, { i := d }, { i := e }, { l := m }, { i := p }, { l := A.map (lessRow p) ++ less1 p x :: B }, { i := 1 }, { i := (A.length : Int) }] (withOut a b c d e m p) := by
            refine Runs.step rfl (pre _ _ (by decide) (by decide)) ?_
            have g1 : (A.map (lessRow p) ++ less1 p x :: B).getD A.length [] = less1 p x := by have := getD_at (A := A.map (lessRow p)) (B := B) (x := less1 p x); rwa [hAm] at this
            have g2 (y : List Int) : (A.map (lessRow p) ++ less1 p x :: B).set A.length y = A.map (lessRow p) ++ y :: B := by have := set_at (A := A.map (lessRow p)) (B := B) (x := less1 p x) (y := y); rwa [hAm] at this
            simp only [StOk, E.den, BiO.den, TeO.den, List.map_cons, List.map_nil, List.getD_cons_zero, List.getD_cons_succ, decide_eq_true_eq, decide_eq_false_iff_not, beq_iff_eq, beq_eq_false_iff_ne, setAt, g1, g2, Int.toNat_natCast, show Int.toNat 3 = 3 from rfl, less1_3]
            have e3 := less2 (p := p) hx5
            refine ⟨fun _ => ⟨fun h => by omega, fun _ => ⟨fun _ => ⟨fun h => ?_, fun h => ?_⟩, fun h => (h rfl).elim⟩⟩, fun h => by omega⟩
            · rw [if_pos h] at e3
              rw [e3]
              exact at2
            · rw [if_neg h] at e3
              rw [e3]
              exact at2
          refine Runs.step rfl (pre _ _ (by decide) (by decide)) ?_
          have g1 : (A.map (lessRow p) ++ x :: B).getD A.length [] = x := by have := getD_at (A := A.map (lessRow p)) (B := B) (x := x); rwa [hAm] at this
          have g2 (y : List Int) : (A.map (lessRow p) ++ x :: B).set A.length y = A.map (lessRow p) ++ y :: B := by have := set_at (A := A.map (lessRow p)) (B := B) (x := x) (y := y); rwa [hAm] at this
          simp only [StOk, E.den, BiO.den, TeO.den, List.map_cons, List.map_nil, List.getD_cons_zero, List.getD_cons_succ, decide_eq_true_eq, decide_eq_false_iff_not, beq_iff_eq, beq_eq_false_iff_ne, setAt, g1, g2, Int.toNat_natCast, show Int.toNat 2 = 2 from rfl]
          unfold less1 at at1
          refine ⟨fun _ => ⟨fun _ => ⟨fun h => ?_, fun h => ?_⟩, fun h => (h rfl).elim⟩, fun h => by omega⟩
          · rw [if_pos h] at at1
            exact at1
          · rw [if_neg h] at at1
            exact at1
      · cases B with
        | cons x B => rw [List.length_cons] at hl; omega
        | nil =>
          rw [List.append_nil] at hAB ⊢
          rw [hAB]
          exact withOut_yes hp

theorem seven_m {ρ0 : List U} (h : ρ0 = normU [.i, .i, .i, .i, .i, .l, .i] ρ0) : ∃ (a b c d e : Int) (m : List (List Int)) (x : Int), ρ0 = [{ i := a }, { i := b }, { i := c }, { i := d }, { i := e }, { l := m }, { i := x }] := ⟨_, _, _, _, _, _, _, h⟩
theorem vWithout : cWithout.Valid (cx [] []) I25 := by
  refine re (Ctr.valid_run resp25 (glIn _ _) (allOf (.cons vPairs (.cons vHas .nil))) (by decide) (by decide) (by kernel_rfl) rfl sWithout [.i, .i, .i, .i, .i, .l, .i] [.i, .i, .i, .i, .i, .l, .i] (by decide) ?_)
  intro ρ0 hρ hpre hwd
  obtain ⟨a, b, c, d, e, m, p, rfl⟩ := seven_m hρ
  have hp := hpre
  simp only [cWithout, most, holds_cons_iff, E.den, BiO.den, UnO.den, List.getD_cons_zero, List.getD_cons_succ, decide_eq_true_eq] at hp
  have hw : ∀ r ∈ m, r.length = 5 := fun r hr => hwd _ (List.mem_singleton.2 rfl) r hr
  refine ⟨withOut a b c d e m p, Runs.step rfl hpre ?_, ?_⟩
  · have f0 : I25.f3 10 (I25.f1 2 { l := m }) (I25.f1 3 { l := m }) { i := p } = { b := (sortU (nums (seats m))).contains p } := by
      show ({ b := hasN (srtAll (seats m)) (srtLen (seats m)).toNat p } : U) = _
      rw [has_srt]
    have f1 : (I25.f1 3 { l := m }).i = srtLen (seats m) := rfl
    have f2 : (I25.f1 2 { l := m }).l = srtAll (seats m) := rfl
    have s0 := srtAll_len (seats m)
    have s1 := srtLen_le (seats m)
    have s2 : 0 ≤ srtLen (seats m) := by unfold srtLen; omega
    have s3 := seats_len m
    simp only [StOk, E.den, BiO.den, UnO.den, List.map_cons, List.map_nil, List.getD_cons_zero, List.getD_cons_succ, decide_eq_true_eq, decide_eq_false_iff_not, holds_cons_iff, holds_nil_iff, beq_eq_false_iff_ne, Bool.not_eq_true', Bool.not_eq_false', f0, f1, f2, s0, ← hasP_eq]
    refine ⟨fun h => ?_, fun h => ⟨⟨s2, by omega, by omega, trivial⟩, fun _ => ⟨fun h => withOut_no h, fun h => ?_⟩⟩⟩
    · exact withOut_no (by unfold hasP; rw [decide_eq_false (by omega)]; rfl)
    · have hne : m.length ≠ 0 := by
        intro h0
        rw [List.length_eq_zero_iff] at h0
        subst h0
        unfold hasP at h
        simp [seats, nums] at h
      refine ⟨⟨by omega, trivial⟩, fun _ => ?_⟩
      exact rWithout (by omega) hw h m [] rfl
  · have e0 (x : Int) : (isOk (.fn2 14 (.var 5) (.var 6)) (.lit x)).den I25 [{ i := a }, { i := b }, { i := c }, { i := d }, { i := e }, { l := m }, { i := p }] = { i := if hasP m p then x else 0 } := by
      have : (I25.f2 14 { l := m } { i := p }) = { i := lessE m p } := rfl
      simp only [isOk, E.den, BiO.den, TeO.den, List.getD_cons_zero, List.getD_cons_succ, this, lessE]
      by_cases h : hasP m p = true
      · simp [h]
      · simp [h]
    unfold withOut
    rw [← e0 a, ← e0 b, ← e0 c, ← e0 d, ← e0 e]
    rfl

/-! ### Out -/
def keepI (H : List (List Int)) (x : Int) : Bool := !(nums H).contains x
theorem hasN_all (H : List (List Int)) (x : Int) : hasN H ((H.length : Int)).toNat x = !(keepI H x) := by
  unfold hasN keepI
  rw [Int.toNat_natCast, List.take_length, Bool.not_not]
def outEnd (A : List (List Int)) (L : List Int) : List U := [{ l := srtAll (A ++ ones L) }, { i := srtLen (A ++ ones L) }]

theorem rOut3 {m A H : List (List Int)} {round : Int} {L : List Int} {e : Bool} (hL : L.length ≤ 10000) (hA : A.length ≤ 10000) (hH : H.length ≤ 10000) : ∀ (R K G : List Int), G ≠ [] → K.length + G.length + R.length = L.length → K ++ (R.filter (keepI H)) = (L.filter (keepI H)) →
    Runs I25 (tmsOut.map Tm.pre) ssOut 3 [{ l := m }, { i := round }, { l := ones (K ++ G ++ R) }, { l := H }, { l := A }, { i := (m.length : Int) }, { b := e }, { i := (K.length : Int) }, { i := ((K.length + G.length : Nat) : Int) }] (outEnd A (L.filter (keepI H)))
  | R, K, G, hG, hl, hK => by
    have hlen : (ones (K ++ G ++ R)).length = L.length := by rw [ones_len, List.length_append, List.length_append]; omega
    have hG1 : 1 ≤ G.length := by
      cases G with
      | nil => exact (hG rfl).elim
      | cons _ _ => rw [List.length_cons]; omega
    refine Runs.step rfl ?_ ?_
    · simp only [tmsOut, List.map_cons, List.getD_cons_zero, List.getD_cons_succ, holds_cons_iff, E.den, BiO.den, UnO.den, beq_iff_eq]
      exact ⟨trivial, Holds.nil⟩
    · have e1 : ((L.length : Int) - (K.length : Int)).toNat = L.length - K.length := by omega
      have e2 : ((K.length : Int) + ((L.length : Int) - (K.length : Int))).toNat = L.length := by omega
      have e5 (x : Int) : I25.f3 10 { l := H } { i := (H.length : Int) } { i := x } = { b := !(keepI H x) } := by
        show ({ b := hasN H (H.length : Int).toNat x } : U) = _
        rw [hasN_all]
      have w1 : IntKind.wrap .i64 ((K.length : Int) + 1) = (K.length : Int) + 1 := w64 (by omega) (by omega)
      have w2 : IntKind.wrap .i64 (((K.length + G.length : Nat) : Int) + 1) = ((K.length + G.length : Nat) : Int) + 1 := w64 (by omega) (by omega)
      simp only [StOk, E.den, BiO.den, UnO.den, TeO.den, List.map_cons, List.map_nil, List.getD_cons_zero, List.getD_cons_succ, decide_eq_true_eq, decide_eq_false_iff_not, holds_cons_iff, holds_nil_iff, hlen, Int.toNat_zero, get_ones, Int.toNat_natCast, e1, e2, e5, w1, w2, Bool.not_not]
      refine ⟨fun hlt => ⟨⟨by omega, trivial⟩, fun _ => ⟨⟨by omega, trivial⟩, fun _ => ?_⟩⟩, fun hge => ?_⟩
      · cases R with
        | nil => rw [List.length_nil] at hl; omega
        | cons x R =>
          have hx : (K ++ G ++ x :: R).getD (K.length + G.length) 0 = x := by rw [← List.length_append]; exact getD_mid
          rw [hx]
          refine ⟨fun h1 => ⟨⟨by omega, by omega, trivial⟩, fun _ => ?_⟩, fun h1 => ?_⟩
          · cases G with
            | nil => exact (hG rfl).elim
            | cons g G =>
              rw [List.filter_cons_of_pos h1] at hK
              have ih := rOut3 (m := m) (round := round) (e := e) hL hA hH R (K ++ [x]) (G ++ [x]) (by simp) (by simp at hl ⊢; omega) (by rw [List.append_assoc]; exact hK)
              rw [set_ones (by simp)]
              have : (K ++ g :: G ++ x :: R).set K.length x = K ++ [x] ++ (G ++ [x]) ++ R := by
                rw [List.append_assoc, List.set_append_right _ _ (Nat.le_refl _), Nat.sub_self, List.cons_append, List.set_cons_zero]
                simp
              rw [this]
              rw [show (((K ++ [x]).length : Nat) : Int) = (K.length : Int) + 1 from by simp, show (((K ++ [x]).length + (G ++ [x]).length : Nat) : Int) = ((K.length + (g :: G).length : Nat) : Int) + 1 from by simp; omega] at ih
              exact ih
          · rw [List.filter_cons_of_neg (by rw [h1]; decide)] at hK
            have ih := rOut3 (m := m) (round := round) (e := e) hL hA hH R K (G ++ [x]) (by simp) (by simp at hl ⊢; omega) hK
            rw [show K ++ (G ++ [x]) ++ R = K ++ G ++ x :: R from by simp, show ((K.length + (G ++ [x]).length : Nat) : Int) = ((K.length + G.length : Nat) : Int) + 1 from by simp; omega] at ih
            exact ih
      · cases R with
        | cons x R => rw [List.length_cons] at hl; omega
        | nil =>
          rw [List.filter_nil, List.append_nil] at hK
          rw [List.length_nil, Nat.add_zero] at hl
          have e3 : (ones (K ++ G ++ [])).take K.length ++ List.replicate (L.length - K.length) [0] ++ (ones (K ++ G ++ [])).drop L.length = ones (K ++ List.replicate G.length 0) := by
            rw [ones_take, ones_drop, ones_rep, ← ones_app, ← ones_app, List.append_nil, List.take_left, List.drop_of_length_le (by rw [List.length_append]; omega), List.append_nil, show L.length - K.length = G.length from by omega]
          have e4 : (ones (K ++ List.replicate G.length 0)).take K.length = ones K := by rw [ones_take, List.take_left]
          have hKl := congrArg List.length hK
          rw [e3, e4, List.length_replicate, List.length_drop, hlen, List.length_append, ones_len, hK]
          refine ⟨⟨by omega, by omega, trivial⟩, fun _ => ⟨⟨by omega, trivial⟩, fun _ => ⟨⟨by omega, by omega, trivial⟩, fun _ => ⟨⟨?_, trivial⟩, fun _ => rfl⟩⟩⟩⟩
          have : (L.filter (keepI H)).length ≤ L.length := List.length_filter_le _ _
          omega

theorem rOut2 {m A H : List (List Int)} {round : Int} {L : List Int} {e : Bool} (hm : m.length ≤ 5000) (hL : L.length ≤ 10000) (hA : A.length ≤ 10000) (hH : H.length ≤ 10000) : ∀ (R K : List Int), K ++ R = L → (K.filter (keepI H)) = K →
    Runs I25 (tmsOut.map Tm.pre) ssOut 2 [{ l := m }, { i := round }, { l := ones L }, { l := H }, { i := (L.length : Int) }, { l := A }, { i := (m.length : Int) }, { b := e }, { i := (K.length : Int) }] (outEnd A (L.filter (keepI H)))
  | R, K, hl, hK => by
    have hlen : (ones L).length = L.length := ones_len L
    have hl2 : K.length + R.length = L.length := by rw [← hl, List.length_append]
    refine Runs.step rfl ?_ ?_
    · simp only [tmsOut, List.map_cons, List.getD_cons_zero, List.getD_cons_succ, holds_cons_iff, E.den, BiO.den, UnO.den, beq_iff_eq, decide_eq_true_eq, hlen]
      exact ⟨trivial, trivial, by omega, Holds.nil⟩
    · have e5 (x : Int) : I25.f3 10 { l := H } { i := (H.length : Int) } { i := x } = { b := !(keepI H x) } := by
        show ({ b := hasN H (H.length : Int).toNat x } : U) = _
        rw [hasN_all]
      have w1 : IntKind.wrap .i64 ((K.length : Int) + 1) = (K.length : Int) + 1 := w64 (by omega) (by omega)
      simp only [StOk, E.den, BiO.den, UnO.den, TeO.den, List.map_cons, List.map_nil, List.getD_cons_zero, List.getD_cons_succ, decide_eq_true_eq, decide_eq_false_iff_not, holds_cons_iff, holds_nil_iff, hlen, Int.toNat_zero, get_ones, Int.toNat_natCast, e5, w1, Bool.not_eq_true', Bool.not_eq_false']
      refine ⟨fun hlt => ⟨⟨by omega, trivial⟩, fun _ => ⟨⟨by omega, trivial⟩, fun _ => ?_⟩⟩, fun hge => ?_⟩
      · cases R with
        | nil => rw [List.length_nil] at hl2; omega
        | cons x R =>
          have hx : L.getD K.length 0 = x := by rw [← hl]; exact getD_mid
          rw [hx]
          refine ⟨fun h1 => ?_, fun h1 => ?_⟩
          · have := rOut3 (m := m) (A := A) (H := H) (round := round) (e := e) hL hA hH R K [x] (by simp) (by simp at hl2 ⊢; omega) (by
              rw [← hl, List.filter_append, hK, List.filter_cons_of_neg (by rw [h1]; decide)])
            rw [show K ++ [x] ++ R = L from by rw [← hl]; simp] at this
            exact this
          · have := rOut2 (m := m) (A := A) (H := H) (round := round) (e := e) hm hL hA hH R (K ++ [x]) (by rw [← hl]; simp) (by rw [List.filter_append, hK, List.filter_cons_of_pos h1]; rfl)
            rw [show (((K ++ [x]).length : Nat) : Int) = (K.length : Int) + 1 from by simp] at this
            exact this
      · cases R with
        | cons x R => rw [List.length_cons] at hl2; omega
        | nil =>
          rw [List.append_nil] at hl
          subst hl
          rw [List.length_append, ones_len]
          refine ⟨⟨by omega, trivial⟩, fun _ => ⟨⟨by omega, trivial⟩, fun _ => ?_⟩⟩
          rw [hK]
          rfl

theorem ones_seats (m : List (List Int)) : ones (nums (seats m)) = seats m := ones_nums (by
  intro r hr
  unfold seats at hr
  simp only [List.mem_flatMap, List.mem_cons, List.not_mem_nil, or_false] at hr
  obtain ⟨x, _, rfl | rfl⟩ := hr <;> rfl)
def isHere (round : Int) (r : List Int) : Bool := r.getD 0 0 == round
def isAlone (round : Int) (r : List Int) : Bool := r.getD 0 0 == round && (r.getD 2 0 == 0 || r.getD 3 0 == 0)
def isOther (round : Int) (r : List Int) : Bool := r.getD 0 0 != round
theorem outOf_eq (m : List (List Int)) (round : Int) : outOf m round = seats (m.filter (isAlone round)) ++ ones ((nums (seats (m.filter (isOther round)))).filter (keepI (seats (m.filter (isHere round))))) := by
  unfold outOf
  show ones (nums (seats (m.filter (isAlone round))) ++ _) = _
  rw [ones_app, ones_seats]
  rfl
theorem filt_len (p : List Int → Bool) (m : List (List Int)) : (seats (m.filter p)).length ≤ 2 * m.length := by
  rw [seats_len]
  have := List.length_filter_le p m
  omega
theorem seats_snoc (a : List (List Int)) (x : List Int) : seats (a ++ [x]) = seats a ++ [[x.getD 2 0]] ++ [[x.getD 3 0]] := by
  rw [seats_app, List.append_assoc]; rfl

theorem rOut1 {m : List (List Int)} {round : Int} (hm : m.length ≤ 5000) : ∀ f i : Nat, i + f = m.length →
    Runs I25 (tmsOut.map Tm.pre) ssOut 1 [{ l := m }, { i := round }, { l := seats ((m.take i).filter (isOther round)) }, { i := (i : Int) }, { l := seats ((m.take i).filter (isAlone round)) }, { l := seats ((m.take i).filter (isHere round)) }] [{ l := srtAll (outOf m round) }, { i := srtLen (outOf m round) }]
  | f, i, hf => by
    have l1 := filt_len (isOther round) (m.take i)
    have l2 := filt_len (isAlone round) (m.take i)
    have l3 := filt_len (isHere round) (m.take i)
    have lt : (m.take i).length = i := by rw [List.length_take]; omega
    refine Runs.step rfl ?_ ?_
    · simp only [tmsOut, List.map_cons, List.getD_cons_zero, List.getD_cons_succ, holds_cons_iff, E.den, BiO.den, UnO.den, decide_eq_true_eq]
      (repeat' refine And.intro ?_ ?_) <;> first | exact Holds.nil | omega
    · simp only [StOk, E.den, BiO.den, UnO.den, TeO.den, List.map_cons, List.map_nil, List.getD_cons_zero, List.getD_cons_succ, decide_eq_true_eq, decide_eq_false_iff_not, holds_cons_iff, holds_nil_iff, Int.toNat_natCast, Int.toNat_zero, show Int.toNat 2 = 2 from rfl, show Int.toNat 3 = 3 from rfl, beq_iff_eq, beq_eq_false_iff_ne, Bool.not_eq_true', Bool.not_eq_false']
      refine ⟨fun hlt => ?_, fun hge => ?_⟩
      · cases f with
        | zero => omega
        | succ f =>
          have ih := rOut1 (round := round) hm f (i + 1) (by omega)
          rw [take_snoc (by omega) [], List.filter_append, List.filter_append, List.filter_append] at ih
          generalize hx : m.getD i [] = x at ih ⊢
          have f1 (p : List Int → Bool) (h : p x = true) : [x].filter p = [x] := List.filter_cons_of_pos h
          have f0 (p : List Int → Bool) (h : p x = false) : [x].filter p = [] := List.filter_cons_of_neg (by rw [h]; decide)
          refine ⟨fun h => ⟨⟨by omega, trivial⟩, fun _ => ?_⟩, fun h => ⟨⟨by omega, trivial⟩, fun _ => ⟨fun h2 => ⟨⟨by omega, trivial⟩, fun _ => ?_⟩, fun h2 => ⟨fun h3 => ⟨⟨by omega, trivial⟩, fun _ => ?_⟩, fun h3 => ?_⟩⟩⟩⟩
          · rw [f1 (isOther round) (bne_iff_ne.2 h), f0 (isAlone round) (by unfold isAlone; rw [beq_false_of_ne h]; rfl), f0 (isHere round) (beq_false_of_ne h), seats_snoc, List.append_nil, List.append_nil] at ih
            exact ih
          · rw [f0 (isOther round) (by unfold isOther; rw [h]; exact bne_self_eq_false round), f1 (isAlone round) (by unfold isAlone; rw [h, h2]; simp only [beq_self_eq_true, Bool.true_and, Bool.true_or]), f1 (isHere round) (beq_iff_eq.2 h), seats_snoc, seats_snoc, List.append_nil] at ih
            exact ih
          · rw [f0 (isOther round) (by unfold isOther; rw [h]; exact bne_self_eq_false round), f1 (isAlone round) (by unfold isAlone; rw [h, h3]; simp only [beq_self_eq_true, Bool.true_and, Bool.or_true]), f1 (isHere round) (beq_iff_eq.2 h), seats_snoc, seats_snoc, List.append_nil] at ih
            exact ih
          · rw [f0 (isOther round) (by unfold isOther; rw [h]; exact bne_self_eq_false round), f0 (isAlone round) (by unfold isAlone; rw [beq_false_of_ne h2, beq_false_of_ne h3]; simp only [Bool.or_false, Bool.and_false]), f1 (isHere round) (beq_iff_eq.2 h), seats_snoc, List.append_nil, List.append_nil] at ih
            exact ih
      · have hi : i = m.length := by omega
        subst hi
        rw [List.take_length] at l1 l2 l3 ⊢
        rw [outOf_eq]
        have := rOut2 (m := m) (A := seats (m.filter (isAlone round))) (H := seats (m.filter (isHere round))) (round := round) (L := nums (seats (m.filter (isOther round)))) (e := decide ((m.length : Int) < (m.length : Int))) hm (by rw [nums_len]; omega) (by omega) (by omega) (nums (seats (m.filter (isOther round)))) [] rfl rfl
        rw [ones_seats, nums_len] at this
        exact this
theorem vOut : cOut.Valid (cx [] []) I25 := by
  refine re (Ctr.valid_run resp25 (glIn _ _) (allOf (.cons vSorted (.cons vHas .nil))) (by decide) (by decide) (by kernel_rfl) rfl sOut [.i, .i, .i, .i, .i, .l, .i] [.l, .i] (by decide) ?_)
  intro ρ0 hρ hpre _
  obtain ⟨a, b, c, d, e, m, x, rfl⟩ := seven_m hρ
  have hp := hpre
  simp only [cOut, most, holds_cons_iff, E.den, BiO.den, UnO.den, List.getD_cons_zero, List.getD_cons_succ, decide_eq_true_eq] at hp
  exact ⟨[{ l := srtAll (outOf m x) }, { i := srtLen (outOf m x) }], Runs.step rfl hpre (rOut1 (by omega) m.length 0 (by omega)), rfl⟩
end Go.Proofs.Ytbknfmmoniammaa
