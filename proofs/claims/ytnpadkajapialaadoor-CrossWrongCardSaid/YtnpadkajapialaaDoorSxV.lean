/- The symbolic executor, proved sound: used by the laws' proofs of this seat. No conditions. -/
import Derived.Test.YtnpadkajapialaaDoorSxIV
import Derived.Below
/- The symbolic executor, part Zd: a contract out of its summaries; a law out of a contract. -/
namespace Go.Sx
open Go

/-- A way through the templates: an invariant for each, a measure that falls. -/
def TSys (I : Itp) (tms : List Tm) (sums : List ST) (ρ0 : List U) (Fin : List U → Prop) : Prop :=
  ∃ (α : Type) (lt : α → α → Prop) (Inv : Nat → List U → Prop) (μ : Nat → List U → α), WellFounded lt ∧ Inv 0 ρ0 ∧
    (∀ j t ρ, tms[j]? = some t → Inv j ρ → Holds I ρ t.pre) ∧
    (∀ j st ρ, sums[j]? = some st → Inv j ρ → StOk I ρ (fun k ρ' => Inv k ρ' ∧ lt (μ k ρ') (μ j ρ)) Fin st)

/-- The template of a function's beginning. -/
def entryTm (P : Program) (c : Ctr) : Tm := ⟨⟨(enterFr P c.fn c.args).getD ⟨0, [], [], [], none⟩, [], c.H⟩, c.nv, c.pre⟩

/-- What is returned. -/
def Ctr.rt (c : Ctr) : Rt := ⟨c.res, c.fin, c.outs.length⟩

section
variable {C : Ctx} {I : Itp}

/-- A CONTRACT OUT OF ITS SUMMARIES. -/
theorem Ctr.valid_of (hin : GlIn C.gl C.ng) (hall : ∀ c ∈ C.ctrs, c.Valid C I) {c : Ctr} (hng : C.ng ≤ c.H.length) (hwf : c.wf = true) (hent : (enterFr C.P c.fn c.args).isSome = true) {tms : List Tm} (ht0 : tms[0]? = some (entryTm C.P c)) {fuel : Nat} {sums : List ST}
    (hsum : tms.map (summary C fuel c.H.length tms c.rt) = sums) (hsys : ∀ ρ0, Holds I ρ0 c.pre → TSys I tms sums ρ0 (fun ρf => ρf = c.outs.map (E.den I ρ0))) : c.Valid C I := by
  have hC := ctrs_ok hin hall
  have hD := draw_ok hC
  obtain ⟨fr, hfr⟩ := Option.isSome_iff_exists.1 hent
  have hin' : GlIn C.gl c.H.length := fun g h hg => Nat.lt_of_lt_of_le (hin g h hg) hng
  have hhas : ∃ g b, C.P.funcs[c.fn]? = some g ∧ g.body = some b ∧ (g.name == "runtime.NumGoroutine") = false := by
    unfold enterFr at hfr
    split at hfr
    · rename_i g hg
      split at hfr
      · rename_i b hb
        split at hfr
        · simp at hfr
        · rename_i hn; exact ⟨g, b, hg, hb, by simpa using hn⟩
      · simp at hfr
    · simp at hfr
  refine ⟨hhas, hwf, ?_⟩
  intro ρ η w vs hpre hg hm ha cs
  obtain ⟨h1, h2, _⟩ := enter_ok hfr ha
  obtain ⟨α, lt, Inv, μ, hwf', hI0, hpre', hstep⟩ := hsys ρ hpre
  have htm : (entryTm C.P c).st = ⟨fr, [], c.H⟩ := by simp [entryTm, hfr]
  have hG : Gx C I ρ c.H.length η (ownS c.H η) w cs c.fn (lone (Frame.enter C.P c.fn vs .normal) cs w) (entryTm C.P c).st := by
    rw [htm]
    exact ⟨η, _, [], w, Same.refl _ _, Steps.refl _ _, ⟨h1, rfl, hm, hg⟩, h2⟩
  obtain ⟨ρf, hfin, η', fr', x, w', hS, hs, hb, hlv, hv, hm'⟩ := run_ok hC hD hin' hsum hwf' Inv μ _ hpre' hstep (μ 0 ρ) 0 _ ρ η _ rfl ht0 hI0 hG
  subst hfin
  exact ⟨x, w', η', ⟨fr', hs, hb, hlv⟩, hS, hv, hm'⟩

/-- What a call comes to, by its contract. -/
theorem Ctr.Valid.calls {c : Ctr} (hv : c.Valid C I) {ρ : List U} {η : Env} {w : World} {vs : Array Value} (hpre : Holds I ρ c.pre) (hg : GlOk C.gl η) (hm : Mem C.P I ρ η c.H (ownS c.H η) w w) (ha : V.denL I ρ η c.args vs.toList) :
    Calls C.P c.fn vs w (fun e w' => ∃ x η', e = .returned x ∧ V.den I (c.outs.map (E.den I ρ)) η' c.res x ∧ Mem C.P I (c.outs.map (E.den I ρ)) η' c.fin (ownS c.H η) w w') := by
  intro cs
  obtain ⟨x, w', η', ⟨fr, hs, hfn, hlv⟩, _, hx, hm'⟩ := hv.run ρ η w vs hpre hg hm ha cs
  exact ⟨.returned x, w', fr, ⟨x, η', rfl, hx, hm'⟩, hs, hfn, hlv⟩

/-- Memory at a call whose arguments may only be read. -/
theorem Mem.begin {P : Program} {ρ : List U} {H : List O} {η : Env} {w : World} (hfree : ∀ h, look H h = none → η h = none) (hobj : ∀ h o, look H h = some o → o.isRo = true ∧ ∃ i, η h = some i ∧ o.den P I ρ η i w.heap[i.blk]?) :
    Mem P I ρ η H (ownS H η) w w := by
  refine ⟨hfree, fun h o hl => (hobj h o hl).2, ?_, ?_, ?_, Keeps.refl _ _⟩
  · intro h o i hl hi hr hb
    obtain ⟨_, j, hj, hd⟩ := hobj h o hl
    rw [hi] at hj; simp only [Option.some.injEq] at hj; subst hj
    refine ⟨O.block_there hd hb, ?_⟩
    rintro ⟨h2, o2, i2, hl2, hi2, hr2, _⟩
    have := (hobj h2 o2 hl2).1
    rw [hr2] at this; simp at this
  · intro h o i hl hi hr hb
    have := (hobj h o hl).1
    rw [hr] at this; simp at this
  · intro h h' o o' i i' _ hl _ _ _ hr
    have := (hobj h o hl).1
    rw [hr] at this; simp at this

/-- A LAW: its contract says true, and it may write nothing that was there. -/
theorem Ctr.Valid.law {c : Ctr} (hv : c.Valid C I) (hres : c.res = .bool (.bl true)) (hro : ∀ h o, look c.H h = some o → o.isRo = true) {ρ : List U} {η : Env} {w : World} {vs : Array Value} (hpre : Holds I ρ c.pre) (hg : GlOk C.gl η)
    (hm : Mem C.P I ρ η c.H (ownS c.H η) w w) (ha : V.denL I ρ η c.args vs.toList) : Calls C.P c.fn vs w (fun e w' => e = .returned (.bool true) ∧ RowKit.Below w.heap.size w w') := by
  refine Calls.mono (hv.calls hpre hg hm ha) ?_
  rintro e w' ⟨x, η', rfl, hx, hm'⟩
  rw [hres] at hx
  have hx' : x = .bool true := hx
  subst hx'
  have k := hm'.keeps
  refine ⟨rfl, k.os, k.tape, k.output, k.size, fun b hb => k.block b hb ?_⟩
  rintro ⟨h, o, i, hl, _, hr, _⟩
  have := hro h o hl
  rw [hr] at this; simp at this

end
end Go.Sx

/- The symbolic executor, part Ze: templates out of the states at which it stops. -/
namespace Go.Sx
open Go

def stopsOf : T → List (List E × St)
  | .stop pc s => [(pc, s)]
  | .br _ a b => stopsOf a ++ stopsOf b
  | .need _ t => stopsOf t
  | .alt a b => stopsOf a ++ stopsOf b
  | _ => []

def setAll {α : Type} (l : List (Nat × α)) (xs : List α) : List α := l.foldl (fun t p => t.set p.1 p.2) xs

/-- the state at the n-th stop: of the top frame's temporaries those of keep, and some put anew; the rest is not looked at -/
def stopAt (t : T) (n : Nat) (keep : List Nat) (tm : List (Nat × V)) (hs : List (Nat × O)) : St :=
  match (stopsOf t)[n]? with
  | some (_, s) => { s with top := { s.top with tmps := setAll tm (maskT keep s.top.tmps 0) }, H := setAll hs s.H }
  | none => ⟨⟨0, [], [], [], none⟩, [], []⟩

section
variable {I : Itp} {ρ : List U} {a b : E}
theorem mk_le (h : (a.den I ρ).i ≤ (b.den I ρ).i) : ((E.bi .le a b).den I ρ).b = true := decide_eq_true h
theorem mk_lt (h : (a.den I ρ).i < (b.den I ρ).i) : ((E.bi .lt a b).den I ρ).b = true := decide_eq_true h
theorem mk_eq (h : (a.den I ρ).i = (b.den I ρ).i) : ((E.bi .eq a b).den I ρ).b = true := by
  show ((a.den I ρ).i == (b.den I ρ).i) = true
  simp [h]
theorem no_le (h : ((E.bi .le a b).den I ρ).b = false) : ¬ (a.den I ρ).i ≤ (b.den I ρ).i := of_decide_eq_false h
theorem no_lt (h : ((E.bi .lt a b).den I ρ).b = false) : ¬ (a.den I ρ).i < (b.den I ρ).i := of_decide_eq_false h
theorem no_eq (h : ((E.bi .eq a b).den I ρ).b = false) : ¬ (a.den I ρ).i = (b.den I ρ).i := by
  intro e
  have : ((a.den I ρ).i == (b.den I ρ).i) = false := h
  simp [e] at this
end

/-- Where a summary leads at closed values. -/
def ST.follow (I : Itp) (ρ : List U) : ST → ST
  | .br c a b => if (c.den I ρ).b then a.follow I ρ else b.follow I ρ
  | .need ns t => if ns.all fun c => (c.den I ρ).b then t.follow I ρ else .bad 0
  | t => t

theorem StOk_follow {I : Itp} {ρ : List U} {G : Nat → List U → Prop} {Fin : List U → Prop} : ∀ st : ST, StOk I ρ G Fin (st.follow I ρ) → StOk I ρ G Fin st
  | .goto _ _, h => h
  | .ret _, h => h
  | .bad _, h => h
  | .alt _ _, h => h
  | .br c a b, h => by
    simp only [ST.follow] at h
    constructor
    · intro hc
      rw [if_pos hc] at h
      exact StOk_follow a h
    · intro hc
      rw [if_neg (by simp [hc])] at h
      exact StOk_follow b h
  | .need ns t, h => by
    simp only [ST.follow] at h
    split at h
    · rename_i hn
      have hN : Holds I ρ ns := fun c hc => List.all_eq_true.1 hn c hc
      exact ⟨hN, fun _ => StOk_follow t h⟩
    · exact h.elim

/-- What a summary hands back at once. -/
def ST.out (I : Itp) (ρ : List U) : ST → List U
  | .ret θ => θ.map (E.den I ρ)
  | _ => []

theorem StOk_out {I : Itp} {ρ : List U} {G : Nat → List U → Prop} {Fin : List U → Prop} {st : ST} {l : List U} (h : ST.out I ρ (st.follow I ρ) = l) (hl : l ≠ []) (hf : Fin l) : StOk I ρ G Fin st := by
  apply StOk_follow
  cases hs : st.follow I ρ with
  | ret θ =>
    rw [hs] at h
    show Fin (θ.map (E.den I ρ))
    have h' : θ.map (E.den I ρ) = l := h
    rw [h']; exact hf
  | _ => rw [hs] at h; exact (hl h.symm).elim

end Go.Sx

/- The symbolic executor, part Zf: the same executor, quicker for the kernel. -/
namespace Go.Sx
open Go

def setOF : List O → Nat → O → List O
  | [], 0, o => [o]
  | [], n + 1, o => .free :: setOF [] n o
  | _ :: H, 0, o => o :: H
  | x :: H, n + 1, o => x :: setOF H n o

theorem setOF_eq : ∀ (H : List O) (h : Nat) (o : O), setOF H h o = setO H h o
  | [], 0, o => by simp [setOF, setO]
  | [], n + 1, o => by
    rw [setOF, setOF_eq [] n o]
    simp [setO, List.replicate_succ]
  | x :: H, 0, o => by simp [setOF, setO]
  | x :: H, n + 1, o => by
    rw [setOF, setOF_eq H n o]
    unfold setO
    by_cases h : n < H.length
    · rw [if_pos h, if_pos (by simpa using h)]; simp
    · rw [if_neg h, if_neg (by simpa using h)]; simp

def applyEffF (H : List O) : List (Nat × O) → List O
  | [] => H
  | (h, o) :: l => applyEffF (setOF H h o) l

theorem applyEffF_eq : ∀ (l : List (Nat × O)) (H : List O), applyEffF H l = applyEff H l
  | [], _ => rfl
  | (h, o) :: l, H => by rw [applyEffF, applyEff, setOF_eq, applyEffF_eq l]

def dropFreeF : List O → List O
  | [] => []
  | .free :: H => match dropFreeF H with
    | [] => []
    | l => .free :: l
  | o :: H => o :: dropFreeF H

def O.isFree : O → Bool
  | .free => true
  | _ => false

theorem dropFree_is (H : List O) : dropFree H = (H.reverse.dropWhile O.isFree).reverse := by
  unfold dropFree
  congr 2
theorem dropFree_nil : dropFree [] = [] := rfl
theorem dropWhile_snoc : ∀ (l : List O) (x : O), (l ++ [x]).dropWhile O.isFree = if (l.dropWhile O.isFree).isEmpty then (if x.isFree then [] else [x]) else l.dropWhile O.isFree ++ [x]
  | [], x => by
    by_cases hx : x.isFree = true
    · simp [hx]
    · simp [hx]
  | y :: l, x => by
    have ih := dropWhile_snoc l x
    by_cases hy : y.isFree = true
    · simp only [List.cons_append, List.dropWhile_cons, hy, if_true, ih]
    · simp [hy]
theorem dropFree_cons (o : O) (H : List O) : dropFree (o :: H) = if o.isFree && (dropFree H).isEmpty then [] else o :: dropFree H := by
  simp only [dropFree_is, List.reverse_cons, dropWhile_snoc]
  by_cases h : (H.reverse.dropWhile O.isFree).isEmpty = true
  · rw [if_pos h]
    have h' := List.isEmpty_iff.1 h
    cases ho : o.isFree <;> simp [h']
  · rw [if_neg h]
    have h' : ((H.reverse.dropWhile O.isFree).reverse).isEmpty = false := by
      simpa using h
    simp [h']

theorem dropFreeF_eq : ∀ H : List O, dropFreeF H = dropFree H
  | [] => rfl
  | o :: H => by
    rw [dropFree_cons, ← dropFreeF_eq H]
    cases o <;> simp [dropFreeF, O.isFree] <;> cases dropFreeF H <;> simp

theorem withinL_all (ok : Nat → Bool) : ∀ vs : List V, V.withinL ok vs = vs.all (V.within ok)
  | [] => rfl
  | v :: vs => by simp [V.withinL, withinL_all ok vs]

def withinT (ok : Nat → Bool) (tmps : List V) (reads : List Nat) : Bool := reads.all fun t => match tmps[t]? with | some v => v.within ok | none => true

theorem within_junk (ok : Nat → Bool) : V.within ok .junk = true := by simp [V.within]

theorem withinT_eq (ok : Nat → Bool) (tmps : List V) (reads : List Nat) : withinT ok tmps reads = V.withinL ok (maskT reads tmps 0) := by
  rw [withinL_all, Bool.eq_iff_iff]
  unfold withinT
  simp only [List.all_eq_true]
  constructor
  · intro h v hv
    obtain ⟨t, ht⟩ := List.getElem?_of_mem hv
    rw [maskT_at] at ht
    rw [Option.map_eq_some_iff] at ht
    obtain ⟨u, hu, rfl⟩ := ht
    split
    · rename_i hc
      have := h t (by simpa using hc)
      rw [hu] at this
      exact this
    · exact within_junk ok
  · intro h t ht
    split
    · rename_i v hv
      refine h v (List.mem_of_getElem? (i := t) ?_)
      rw [maskT_at, hv]
      simp only [Option.map_some, Nat.zero_add]
      rw [if_pos (by simpa using ht)]
    · rfl

def withinH (ok : Nat → Bool) (H : List O) (rd : List Nat) : Bool := rd.all fun h => match H[h]? with | some o => o.within ok || !ok h | none => true

theorem withinH_eq (ok : Nat → Bool) (H : List O) (rd : List Nat) : withinH ok H rd = (maskH ok (fun h => rd.contains h) H 0).all (O.within ok) := by
  have gen : ∀ (H : List O) (n : Nat), (maskH ok (fun h => rd.contains h) H n).all (O.within ok) = true ↔ ∀ h o, H[h]? = some o → ok (n + h) = true → rd.contains (n + h) = true → o.within ok = true := by
    intro H
    induction H with
    | nil => intro n; simp [maskH]
    | cons x H ih =>
      intro n
      simp only [maskH, List.all_cons, Bool.and_eq_true, ih]
      constructor
      · rintro ⟨h1, h2⟩ h o ho hk hr
        cases h with
        | zero =>
          simp only [List.getElem?_cons_zero, Option.some.injEq] at ho
          subst ho
          rw [Nat.add_zero] at hk hr
          rw [if_pos hk, if_pos hr] at h1
          exact h1
        | succ h => exact h2 h o (by simpa using ho) (by rw [show n + 1 + h = n + (h + 1) from by omega]; exact hk) (by rw [show n + 1 + h = n + (h + 1) from by omega]; exact hr)
      · intro hall
        refine ⟨?_, fun h o ho hk hr => hall (h + 1) o (by simpa using ho) (by rw [show n + (h + 1) = n + 1 + h from by omega]; exact hk) (by rw [show n + (h + 1) = n + 1 + h from by omega]; exact hr)⟩
        split
        · rename_i hk
          split
          · rename_i hr
            exact hall 0 x rfl hk hr
          · simp [O.within]
        · simp [O.within]
  rw [Bool.eq_iff_iff, gen]
  unfold withinH
  simp only [List.all_eq_true, Nat.zero_add]
  constructor
  · intro hall h o ho hk hr
    have := hall h (by simpa using hr)
    rw [ho] at this
    simpa [hk] using this
  · intro hall h hr
    split
    · rename_i o ho
      cases hk : ok h with
      | false => simp
      | true => simp [hall h o ho hk (by simpa using hr)]
    · rfl

/-- the handles that the operations before have written -/
def wrOf (bi : List Nat) : List Rec → Nat → List Nat
  | [], _ => []
  | r :: rs, j => match r.eff with
    | [] => wrOf bi rs (j + 1)
    | e => if bi.contains j then e.map Prod.fst ++ wrOf bi rs (j + 1) else wrOf bi rs (j + 1)

def okF (H0 : List O) (ws : List Nat) (h : Nat) : Bool := isLive H0 h || ws.contains h

theorem wrOf_mem (bi : List Nat) (h : Nat) : ∀ (rs : List Rec) (j : Nat), (wrOf bi rs j).contains h = true ↔ ∃ k r, rs[k]? = some r ∧ j + k ∈ bi ∧ r.writes h = true
  | [], j => by simp [wrOf]
  | r :: rs, j => by
    have ih := wrOf_mem bi h rs (j + 1)
    have tail : (∃ k r', rs[k]? = some r' ∧ j + 1 + k ∈ bi ∧ r'.writes h = true) ↔ (∃ k r', (r :: rs)[k + 1]? = some r' ∧ j + (k + 1) ∈ bi ∧ r'.writes h = true) := by
      constructor <;> rintro ⟨k, r', h1, h2, h3⟩ <;> exact ⟨k, r', by simpa using h1, by first | (rw [show j + (k + 1) = j + 1 + k from by omega]; exact h2) | (rw [show j + 1 + k = j + (k + 1) from by omega]; exact h2), h3⟩
    have spl : (∃ k r', (r :: rs)[k]? = some r' ∧ j + k ∈ bi ∧ r'.writes h = true) ↔ ((j ∈ bi ∧ r.writes h = true) ∨ (∃ k r', rs[k]? = some r' ∧ j + 1 + k ∈ bi ∧ r'.writes h = true)) := by
      rw [tail]
      constructor
      · rintro ⟨k, r', h1, h2, h3⟩
        cases k with
        | zero =>
          simp only [List.getElem?_cons_zero, Option.some.injEq] at h1
          subst h1
          exact .inl ⟨by simpa using h2, h3⟩
        | succ k => exact .inr ⟨k, r', h1, h2, h3⟩
      · rintro (⟨h2, h3⟩ | ⟨k, r', h1, h2, h3⟩)
        · exact ⟨0, r, rfl, by simpa using h2, h3⟩
        · exact ⟨k + 1, r', h1, h2, h3⟩
    rw [spl, ← ih]
    have hw : wrOf bi (r :: rs) j = (match r.eff with
      | [] => wrOf bi rs (j + 1)
      | e => if bi.contains j then e.map Prod.fst ++ wrOf bi rs (j + 1) else wrOf bi rs (j + 1)) := rfl
    rw [hw]
    clear hw ih tail spl
    cases he : r.eff with
    | nil => simp [Rec.writes, he]
    | cons e es =>
      simp only
      by_cases hb : bi.contains j = true
      · rw [if_pos hb]
        have hm : j ∈ bi := by simpa using hb
        simp only [List.contains_iff_mem, List.mem_append, hm, true_and, Rec.writes, he, List.any_eq_true, decide_eq_true_eq, List.mem_map]
      · rw [if_neg hb]
        have hm : j ∉ bi := by simpa using hb
        simp [hm]

theorem okF_eq (H0 : List O) (recs : List Rec) (bi : List Nat) : okF H0 (wrOf bi recs 0) = okHs H0 recs bi := by
  funext h
  unfold okF okHs
  congr 1
  rw [Bool.eq_iff_iff, wrOf_mem, List.any_eq_true]
  constructor
  · rintro ⟨k, r, h1, h2, h3⟩
    exact ⟨k, by simpa using h2, by rw [h1]; exact h3⟩
  · rintro ⟨k, h2, h3⟩
    cases hr : recs[k]? with
    | none => rw [hr] at h3; simp at h3
    | some r => rw [hr] at h3; exact ⟨k, r, hr, by simpa using h2, h3⟩

theorem four_eq (H0 : List O) (ws : List Nat) (i : Nat) : (ws.all fun h => !(decide (H0.length + 4 * i ≤ h) && decide (h < H0.length + 4 * i + 4))) = ((List.range 4).all fun k => !okF H0 ws (H0.length + 4 * i + k)) := by
  have hl : ∀ k, isLive H0 (H0.length + 4 * i + k) = false := by
    intro k
    unfold isLive
    rw [look_ge (by omega)]
  rw [Bool.eq_iff_iff]
  simp only [List.all_eq_true, List.mem_range, okF, hl, Bool.false_or, Bool.not_eq_true', Bool.and_eq_false_iff, decide_eq_false_iff_not]
  constructor
  · intro h k hk
    cases hc : ws.contains (H0.length + 4 * i + k) with
    | false => rfl
    | true =>
      have := h _ (by simpa using hc)
      omega
  · intro h x hx
    by_cases h1 : H0.length + 4 * i ≤ x
    · right
      intro h2
      have := h (x - (H0.length + 4 * i)) (by omega)
      rw [show H0.length + 4 * i + (x - (H0.length + 4 * i)) = x from by omega] at this
      simp [hx] at this
    · exact .inl h1

def drawCalmF (C : Ctx) (pc : List E) (fr : Nat) (tmps : List V) (reads : List Nat) (op : Op) : Option AR :=
  if withinT (fun _ => false) tmps reads then
    match opR C.P [] pc [] fr (maskT reads tmps 0) op with
    | .ok r => if r.eff.isEmpty then some r else none
    | _ => none
  else none

def drawOneF (C : Ctx) (pc : List E) (all : List Oper) (bf : List (List Nat)) (H0 : List O) (tmps : List V) (H : List O) (recs : List Rec) (i : Nat) (o : Oper) : DR1 :=
  match (match o.guard with
    | none => (some true, .bl true)
    | some g => wantedT all (maskT (readsOf all o) tmps 0) (some g) pc : Option Bool × E) with
  | (none, .nil) => .no 310
  | (none, c) => .ask c
  | (some false, _) => .ok { dst := o.dst, v := .tup [], eff := [], needs := [], reads := readsOf all o, rd := [] }
  | (some true, _) =>
    match drawCalmF C pc (H0.length + 4 * i) tmps (readsOf all o) o.op with
    | some r => .ok { dst := o.dst, v := r.v, eff := [], needs := r.needs, reads := readsOf all o, rd := [] }
    | none =>
    match runOne C pc H (H0.length + 4 * i) (maskT (readsOf all o) tmps 0) o.op with
    | .ok r0 =>
      match runOne C pc (maskH (okF H0 (wrOf (bf.getD i []) recs 0)) (fun h => r0.rd.contains h) H 0) (H0.length + 4 * i) (maskT (readsOf all o) tmps 0) o.op with
      | .ok r =>
        if withinT (okF H0 (wrOf (bf.getD i []) recs 0)) tmps (readsOf all o) && (C.gl.all fun g => okF H0 (wrOf (bf.getD i []) recs 0) g.2) && withinH (okF H0 (wrOf (bf.getD i []) recs 0)) H r0.rd &&
            ((wrOf (bf.getD i []) recs 0).all fun h => !(decide (H0.length + 4 * i ≤ h) && decide (h < H0.length + 4 * i + 4))) &&
            r.eff.all (effOk H0 (okF H0 (wrOf (bf.getD i []) recs 0)) (fun h => r0.rd.contains h) H0.length i (bf.getD i [])) then
          .ok { dst := o.dst, v := r.v, eff := r.eff, needs := r.needs, reads := readsOf all o, rd := r0.rd }
        else .no 312
      | .ask c => .ask c
      | .no n => .no n
      | .any _ => .no 341
    | .ask c => .ask c
    | .no n => .no n
    | .any _ => .no 341

theorem drawOneF_eq : drawOneF = drawOne := by
  funext C pc all bf H0 tmps H recs i o
  unfold drawOneF drawOne
  have hg : (match o.guard with
    | none => (some true, .bl true)
    | some g => wantedT all (maskT (readsOf all o) tmps 0) (some g) pc : Option Bool × E) = wantedT all (maskT (readsOf all o) tmps 0) o.guard pc := by
    cases o.guard <;> rfl
  have hc : ∀ fr reads op, drawCalmF C pc fr tmps reads op = drawCalm C pc fr (maskT reads tmps 0) op := by
    intro fr reads op
    unfold drawCalmF drawCalm
    rw [withinT_eq]
    rfl
  simp only [hg, hc, withinT_eq, withinH_eq, four_eq, okF_eq]
  rfl

def drawOpsF (C : Ctx) (pc : List E) (all : List Oper) (bf : List (List Nat)) (H0 : List O) : List Oper → Nat → List V → List O → List Rec → DR
  | [], _, tmps, H, recs => .ok tmps H recs
  | o :: os, i, tmps, H, recs =>
    match drawOneF C pc all bf H0 tmps H recs i o with
    | .ok r => drawOpsF C pc all bf H0 os (i + 1) (putT tmps r.dst r.v) (match r.eff with | [] => H | e :: es => applyEffF H (e :: es)) (recs ++ [r])
    | .ask c => .ask c
    | .no n => .no n

theorem drawOpsF_eq (C : Ctx) (pc : List E) (all : List Oper) (bf : List (List Nat)) (H0 : List O) : ∀ (os : List Oper) (i : Nat) (tmps : List V) (H : List O) (recs : List Rec), drawOpsF C pc all bf H0 os i tmps H recs = drawOps C pc all bf H0 os i tmps H recs
  | [], _, _, _, _ => rfl
  | o :: os, i, tmps, H, recs => by
    unfold drawOpsF drawOps
    rw [drawOneF_eq]
    cases drawOne C pc all bf H0 tmps H recs i o with
    | ok r =>
      simp only
      rw [drawOpsF_eq]
      congr 1
      cases r.eff with
      | nil => rfl
      | cons e es => exact applyEffF_eq _ _
    | ask c => rfl
    | no n => rfl

/-- two operations of which neither writes -/
def apartF (a b : Rec) : Bool :=
  (match a.dst with | some d => !b.reads.contains d && (match b.dst with | some d' => !(d == d') | none => true) | none => true) &&
  (match b.dst with | some d => !a.reads.contains d | none => true) &&
  (match a.eff with | [] => true | e => e.all fun e => !b.rd.contains e.1 && !b.writes e.1) && (match b.eff with | [] => true | e => e.all fun e => !a.rd.contains e.1)

theorem apartF_eq (a b : Rec) : apartF a b = apartR a b := by
  unfold apartF apartR
  have h1 : ∀ d : Nat, (match b.dst with | some d' => !(d == d') | none => true) = decide (b.dst ≠ some d) := by
    intro d
    cases b.dst with
    | none => rfl
    | some d' =>
      rw [Bool.eq_iff_iff]
      simp only [Bool.not_eq_true', beq_eq_false_iff_ne, ne_eq, decide_eq_true_eq, Option.some.injEq]
      exact ⟨fun h e => h e.symm, fun h e => h e.symm⟩
  simp only [h1]
  congr 1
  · congr 1
    cases a.eff <;> rfl
  · cases b.eff <;> rfl

def apartAll (bj : List Nat) (b : Rec) : List Rec → Nat → Bool
  | [], _ => true
  | a :: as, i => (bj.contains i || apartF a b) && apartAll bj b as (i + 1)

/-- each against those before it -/
def pairsF (bf : List (List Nat)) : List Rec → List Rec → Nat → Bool
  | _, [], _ => true
  | done, b :: bs, j => apartAll (bf.getD j []) b done 0 && pairsF bf (done ++ [b]) bs (j + 1)

theorem apartAll_eq (bj : List Nat) (b : Rec) : ∀ (as : List Rec) (n : Nat), apartAll bj b as n = true ↔ ∀ i a, as[i]? = some a → (bj.contains (n + i) || apartR a b) = true
  | [], n => by simp [apartAll]
  | a :: as, n => by
    simp only [apartAll, Bool.and_eq_true, apartAll_eq bj b as (n + 1), apartF_eq]
    constructor
    · rintro ⟨h1, h2⟩ i x hx
      cases i with
      | zero => simp only [List.getElem?_cons_zero, Option.some.injEq] at hx; subst hx; exact h1
      | succ i => have := h2 i x (by simpa using hx); rwa [show n + (i + 1) = n + 1 + i from by omega]
    · intro h
      refine ⟨h 0 a rfl, fun i x hx => ?_⟩
      have := h (i + 1) x (by simpa using hx)
      rwa [show n + 1 + i = n + (i + 1) from by omega]

theorem pairsF_eq (bf : List (List Nat)) : ∀ (bs done : List Rec), pairsF bf done bs done.length = true ↔ ∀ j b, bs[j]? = some b → ∀ i a, (done ++ bs)[i]? = some a → i < done.length + j → ((bf.getD (done.length + j) []).contains i || apartR a b) = true
  | [], done => by simp [pairsF]
  | b :: bs, done => by
    have ih := pairsF_eq bf bs (done ++ [b])
    simp only [List.length_append, List.length_singleton] at ih
    simp only [pairsF, Bool.and_eq_true, apartAll_eq, ih]
    have hcat : done ++ [b] ++ bs = done ++ b :: bs := by simp
    rw [hcat]
    constructor
    · rintro ⟨h1, h2⟩ j x hx i a ha hi
      cases j with
      | zero =>
        simp only [List.getElem?_cons_zero, Option.some.injEq] at hx; subst hx
        have := h1 i a (by rwa [List.getElem?_append_left (by omega)] at ha)
        simpa using this
      | succ j =>
        have := h2 j x (by simpa using hx) i a ha (by omega)
        rwa [show done.length + (j + 1) = done.length + 1 + j from by omega]
    · intro h
      refine ⟨fun i a ha => ?_, fun j x hx i a ha hi => ?_⟩
      · have hi : i < done.length := by
          rcases Nat.lt_or_ge i done.length with h | h
          · exact h
          · rw [List.getElem?_eq_none h] at ha; simp at ha
        have := h 0 b rfl i a (by rwa [List.getElem?_append_left hi]) (by omega)
        simpa using this
      · have := h (j + 1) x (by simpa using hx) i a ha (by omega)
        rwa [show done.length + 1 + j = done.length + (j + 1) from by omega]

theorem pairsF_ok (bf : List (List Nat)) (recs : List Rec) : pairsF bf [] recs 0 = pairsOk bf recs := by
  have h := pairsF_eq bf recs []
  simp only [List.length_nil, List.nil_append, Nat.zero_add] at h
  rw [Bool.eq_iff_iff, h]
  unfold pairsOk
  simp only [List.all_eq_true, List.mem_range]
  constructor
  · intro hh j hj i hi
    have e1 : recs[j]? = some recs[j] := List.getElem?_eq_getElem hj
    have hi' : i < recs.length := by omega
    have e2 : recs[i]? = some recs[i] := List.getElem?_eq_getElem hi'
    rw [e1, e2]
    exact hh j _ e1 i _ e2 hi
  · intro hh j b hb i a ha hi
    have hj : j < recs.length := by
      rcases Nat.lt_or_ge j recs.length with h | h
      · exact h
      · rw [List.getElem?_eq_none h] at hb; simp at hb
    have := hh j hj i hi
    rw [hb, ha] at this
    exact this

def drawTF (C : Ctx) (pc : List E) (s : St) (ops : List Oper) (k : List TI) : Out :=
  if !C.P.follows .mixedOrders then .bad 313 else
  if !bfOk ops (beforeL ops []) then .bad 314 else
  match drawOpsF C pc ops (beforeL ops []) s.H ops 0 s.top.tmps (s.H ++ List.replicate (4 * ops.length) .free) [] with
  | .ok tmps H recs =>
    if pairsF (beforeL ops []) [] recs 0 || pairsS C pc ops (beforeL ops []) s.H (s.H ++ List.replicate (4 * ops.length) .free) s.top.tmps recs then
      match recs.flatMap Rec.needs with
      | [] => .next ⟨⟨s.top.fn, tmps, k, s.top.defs, s.top.rnd⟩, s.below, dropFreeF H⟩
      | n :: ns => .need (n :: ns) ⟨⟨s.top.fn, tmps, k, s.top.defs, s.top.rnd⟩, s.below, dropFreeF H⟩
    else .bad 315
  | .ask c => .br c s
  | .no n => .bad n

theorem drawTF_eq (C : Ctx) (pc : List E) (s : St) (ops : List Oper) (k : List TI) : drawTF C pc s ops k = drawT C pc s ops k := by
  unfold drawTF drawT
  simp only [drawOpsF_eq, pairsF_ok, dropFreeF_eq]
  cases C.P.follows .mixedOrders with
  | false => rfl
  | true =>
    cases bfOk ops (beforeL ops []) with
    | false => rfl
    | true =>
      simp only [Bool.not_true, Bool.false_eq_true, if_false]
      cases drawOps C pc ops (beforeL ops []) s.H ops 0 s.top.tmps (s.H ++ List.replicate (4 * ops.length) .free) [] with
      | ask c => rfl
      | no n => rfl
      | ok tmps H recs =>
        simp only
        cases pairsOk (beforeL ops []) recs || pairsS C pc ops (beforeL ops []) s.H (s.H ++ List.replicate (4 * ops.length) .free) s.top.tmps recs with
        | false => rfl
        | true =>
          simp only [if_true]
          cases recs.flatMap Rec.needs <;> rfl

def drawLF (C : Ctx) (pc : List E) (s : St) (ops : List Oper) (p : List Nat) (k : List TI) : Out :=
  match drawTF C pc s ops k with
  | .bad _ => drawP C pc s ops p k
  | r => r
theorem drawLF_eq (C : Ctx) (pc : List E) (s : St) (ops : List Oper) (p : List Nat) (k : List TI) : drawLF C pc s ops p k = drawL C pc s ops p k := by
  unfold drawLF drawL
  rw [drawTF_eq]
  rfl

def resG (fn : Nat) (tmps : List V) (defs : List Nat) (rnd : Option Nat) (below : List Fr) (H : List O) (dst : Option Nat) (todo : List TI) (s : St) : Res → Out
  | .ok r =>
    match r.needs with
    | [] => .next ⟨⟨fn, putT tmps dst r.v, todo, defs, rnd⟩, below, match r.eff with | [] => H | e :: es => applyEffF H (e :: es)⟩
    | n :: ns => .need (n :: ns) ⟨⟨fn, putT tmps dst r.v, todo, defs, rnd⟩, below, match r.eff with | [] => H | e :: es => applyEffF H (e :: es)⟩
  | .ask c => .br c s
  | .no n => .bad n
  | .any _ => .bad 340

theorem effF (H : List O) (l : List (Nat × O)) : (match l with | [] => H | e :: es => applyEffF H (e :: es)) = applyEff H l := by
  cases l with
  | nil => rfl
  | cons e es => exact applyEffF_eq _ _

theorem resG_eq (fn : Nat) (tmps : List V) (t0 : List TI) (defs : List Nat) (rnd : Option Nat) (below : List Fr) (H : List O) (dst : Option Nat) (todo : List TI) (r : Res) :
    resG fn tmps defs rnd below H dst todo ⟨⟨fn, tmps, t0, defs, rnd⟩, below, H⟩ r = outRes ⟨⟨fn, tmps, t0, defs, rnd⟩, below, H⟩ dst todo r := by
  cases r with
  | ok r =>
    unfold resG outRes outAR applyAR
    simp only [effF]
    cases r.needs <;> rfl
  | ask c => rfl
  | no n => rfl
  | any rs => rfl

def callF (C : Ctx) (pc : List E) (fn : Nat) (tmps : List V) (t0 : List TI) (defs : List Nat) (rnd : Option Nat) (below : List Fr) (H : List O) (dst : Option Nat) (todo : List TI) (fv : V) (args : List V) : Out :=
  match fv with
  | .func f caps =>
    match ctrsR C.ng pc H H.length f (args ++ caps) C.ctrs with
    | .ok r => resG fn tmps defs rnd below H dst todo ⟨⟨fn, tmps, t0, defs, rnd⟩, below, H⟩ (.ok r)
    | _ =>
      if C.shut.contains f then .bad (10000 + f) else
      match enterFr C.P f (args ++ caps) with
      | some fr => .next ⟨fr, ⟨fn, tmps, t0, defs, rnd⟩ :: below, H⟩
      | none => .bad (20000 + f)
  | .yld l => match roundFr C.P H l args with
    | some fr => .next ⟨fr, ⟨fn, tmps, t0, defs, rnd⟩ :: below, H⟩
    | none => .bad 300
  | _ => .bad 301

theorem callF_eq (C : Ctx) (pc : List E) (fn : Nat) (tmps : List V) (t0 : List TI) (defs : List Nat) (rnd : Option Nat) (below : List Fr) (H : List O) (dst : Option Nat) (todo : List TI) (fv : V) (args : List V) :
    callF C pc fn tmps t0 defs rnd below H dst todo fv args = callT C pc ⟨⟨fn, tmps, t0, defs, rnd⟩, below, H⟩ dst todo fv args := by
  unfold callF callT
  cases fv <;> first | rfl | skip
  simp only
  cases ctrsR C.ng pc H H.length _ _ C.ctrs <;> simp only [resG_eq] <;> rfl

/-- One step of the machine, its state taken apart once. -/
def stepTF (C : Ctx) (pc : List E) : St → Out
  | ⟨⟨fn, tmps, todo, defs, rnd⟩, below, H⟩ =>
  match todo with
  | .blk _ :: k => .next ⟨⟨fn, tmps, k, defs, rnd⟩, below, H⟩
  | .sc _ :: k => .next ⟨⟨fn, tmps, k, defs, rnd⟩, below, H⟩
  | .lp p :: k => .next ⟨⟨fn, tmps, .at (0 :: p) :: .lp p :: k, defs, rnd⟩, below, H⟩
  | .at p :: k =>
    match codeAt (bodyOf C.P fn) p with
    | .skip => .next ⟨⟨fn, tmps, k, defs, rnd⟩, below, H⟩
    | .label _ => .next ⟨⟨fn, tmps, k, defs, rnd⟩, below, H⟩
    | .seq _ _ => .next ⟨⟨fn, tmps, .at (0 :: p) :: .at (1 :: p) :: k, defs, rnd⟩, below, H⟩
    | .cond c _ _ => match evalO C.gl tmps c with
      | .bool e => match decC pc e with
        | some true => .next ⟨⟨fn, tmps, .at (0 :: p) :: k, defs, rnd⟩, below, H⟩
        | some false => .next ⟨⟨fn, tmps, .at (1 :: p) :: k, defs, rnd⟩, below, H⟩
        | none => .two e ⟨⟨fn, tmps, .at (0 :: p) :: k, defs, rnd⟩, below, H⟩ ⟨⟨fn, tmps, .at (1 :: p) :: k, defs, rnd⟩, below, H⟩
      | _ => .bad 320
    | .block id _ => .next ⟨⟨fn, tmps, .at (0 :: p) :: .blk id :: k, defs, rnd⟩, below, H⟩
    | .loop _ => .next ⟨⟨fn, tmps, .at (0 :: p) :: .lp p :: k, defs, rnd⟩, below, H⟩
    | .scope _ => .next ⟨⟨fn, tmps, .at (0 :: p) :: .sc p :: k, defs, rnd⟩, below, H⟩
    | .exit id => match exitToT id k with
      | some k' => .next ⟨⟨fn, tmps, k', defs, rnd⟩, below, H⟩
      | none => leaveT C pc ⟨⟨fn, tmps, .at p :: k, defs, rnd⟩, below, H⟩ (some (.exit id))
    | .ret => leaveT C pc ⟨⟨fn, tmps, .at p :: k, defs, rnd⟩, below, H⟩ (some .ret)
    | .region _ ops d => if d then drawLF C pc ⟨⟨fn, tmps, .at p :: k, defs, rnd⟩, below, H⟩ ops.toList p k else .next ⟨⟨fn, tmps, .reg p 0 :: k, defs, rnd⟩, below, H⟩
    | _ => stepT C pc ⟨⟨fn, tmps, .at p :: k, defs, rnd⟩, below, H⟩
  | .reg p i :: k =>
    match codeAt (bodyOf C.P fn) p with
    | .region _ ops _ =>
      match ops.toList[i]? with
      | none => .next ⟨⟨fn, tmps, k, defs, rnd⟩, below, H⟩
      | some o =>
        match wantedT ops.toList tmps o.guard pc with
        | (none, .nil) => .bad 326
        | (none, c) => .br c ⟨⟨fn, tmps, .reg p i :: k, defs, rnd⟩, below, H⟩
        | (some false, _) => .next ⟨⟨fn, putT tmps o.dst (.tup []), .reg p (i + 1) :: k, defs, rnd⟩, below, H⟩
        | (some true, _) =>
          match funVal C.gl tmps o.op with
          | some (fv, args) => callF C pc fn tmps (.reg p i :: k) defs rnd below H o.dst (.reg p (i + 1) :: k) fv args
          | none => match anyOf C.gl pc H tmps o.op with
            | some rs => .alts (rs.map (applyAR ⟨⟨fn, tmps, .reg p i :: k, defs, rnd⟩, below, H⟩ o.dst (.reg p (i + 1) :: k)))
            | none => resG fn tmps defs rnd below H o.dst (.reg p (i + 1) :: k) ⟨⟨fn, tmps, .reg p i :: k, defs, rnd⟩, below, H⟩ (opR C.P C.gl pc H H.length tmps o.op)
    | _ => .bad 327
  | todo => stepT C pc ⟨⟨fn, tmps, todo, defs, rnd⟩, below, H⟩

theorem stepTF_eq (C : Ctx) (pc : List E) (s : St) : stepTF C pc s = stepT C pc s := by
  obtain ⟨⟨fn, tmps, todo, defs, rnd⟩, below, H⟩ := s
  unfold stepTF
  simp only [drawLF_eq, callF_eq, resG_eq]
  split
  · rfl
  · rfl
  · rfl
  · rename_i p k
    simp only [stepT]
    cases hc : codeAt (bodyOf C.P fn) p <;> first | rfl | (simp only; rfl) | (rename_i c _ _; simp only; cases evalO C.gl tmps c <;> rfl)
  · rename_i p i k
    simp only [stepT]
    rfl
  · rfl

/-- The tree, quicker. -/
def execF (C : Ctx) : Nat → List E → St → T
  | 0, _, s => .fuel s
  | n + 1, pc, s =>
    match stepTF C pc s with
    | .next s' => if isHead C s' then .stop pc s' else execF C n pc s'
    | .br c s' => .br c (execF C n (assume c ++ pc) s') (execF C n (deny c ++ pc) s')
    | .two c a b => .br c (if isHead C a then .stop (assume c ++ pc) a else execF C n (assume c ++ pc) a) (if isHead C b then .stop (deny c ++ pc) b else execF C n (deny c ++ pc) b)
    | .need cs s' => .need cs (if isHead C s' then .stop (cs ++ pc) s' else execF C n (cs ++ pc) s')
    | .ret v H => .ret pc v H
    | .bad k => .bad k s
    | .alts ss => altT (ss.map fun s' => if isHead C s' then .stop pc s' else execF C n pc s')

theorem execF_eq (C : Ctx) : ∀ (n : Nat) (pc : List E) (s : St), execF C n pc s = exec C n pc s
  | 0, _, _ => rfl
  | n + 1, pc, s => by
    unfold execF exec
    simp only [stepTF_eq, execF_eq C n]
    rfl

def summaryF (C : Ctx) (fuel nr : Nat) (tms : List Tm) (r : Rt) (t : Tm) : ST := summ nr tms r (execF C fuel t.pre t.st)
theorem summaryF_eq : summaryF = summary := by
  funext C fuel nr tms r t
  unfold summaryF summary
  rw [execF_eq]

end Go.Sx

/- The symbolic executor, part Zg: a contract by running its summaries in plain Lean. -/
namespace Go.Sx
open Go

/-- A summary, run at closed values: G says what a template hands back. -/
def ST.run (I : Itp) (ρ : List U) (G : Nat → List U → Option (List U)) : ST → Option (List U)
  | .goto k θ => G k (θ.map (E.den I ρ))
  | .ret θ => some (θ.map (E.den I ρ))
  | .br c a b => if (c.den I ρ).b then a.run I ρ G else b.run I ρ G
  | .need ns t => if ns.all fun c => (c.den I ρ).b then t.run I ρ G else none
  | .bad _ => none
  | .alt a b => match a.run I ρ G, b.run I ρ G with
    | some x, some y => if x = y then some x else none
    | _, _ => none

section
variable (I : Itp) (pres : List (List E)) (sums : List ST)

/-- The summaries, run from template j with at most n goings. -/
def goN : Nat → Nat → List U → Option (List U)
  | 0, _, _ => none
  | n + 1, j, ρ =>
    match sums[j]? with
    | none => none
    | some st => if (pres.getD j []).all fun c => (c.den I ρ).b then st.run I ρ (goN n) else none

/-- From template j, at these values, it ends and hands this back. -/
def Runs (j : Nat) (ρ : List U) (out : List U) : Prop := ∃ n, goN I pres sums n j ρ = some out
end

variable {I : Itp} {pres : List (List E)} {sums : List ST}

theorem run_mono {ρ : List U} {G G' : Nat → List U → Option (List U)} (h : ∀ k ρ' out, G k ρ' = some out → G' k ρ' = some out) : ∀ (st : ST) (out : List U), st.run I ρ G = some out → st.run I ρ G' = some out
  | .goto k θ, out, hr => h _ _ _ hr
  | .ret θ, out, hr => hr
  | .bad _, out, hr => hr
  | .br c a b, out, hr => by
    simp only [ST.run] at hr ⊢
    split at hr
    · rename_i hc; rw [if_pos hc]; exact run_mono h a out hr
    · rename_i hc; rw [if_neg hc]; exact run_mono h b out hr
  | .need ns t, out, hr => by
    simp only [ST.run] at hr ⊢
    split at hr
    · rename_i hc; rw [if_pos hc]; exact run_mono h t out hr
    · cases hr
  | .alt a b, out, hr => by
    simp only [ST.run] at hr ⊢
    split at hr
    · rename_i x y ha hb
      rw [run_mono h a x ha, run_mono h b y hb]
      exact hr
    · cases hr

theorem goN_mono : ∀ (n j : Nat) (ρ out : List U), goN I pres sums n j ρ = some out → goN I pres sums (n + 1) j ρ = some out
  | 0, _, _, _, h => by simp [goN] at h
  | n + 1, j, ρ, out, h => by
    rw [goN] at h
    rw [goN]
    split at h
    · cases h
    · split at h
      · rename_i hp
        rw [if_pos hp]
        exact run_mono (fun k ρ' out' => goN_mono n k ρ' out') _ out h
      · cases h

theorem goN_le {n m j : Nat} {ρ out : List U} (hle : n ≤ m) (h : goN I pres sums n j ρ = some out) : goN I pres sums m j ρ = some out := by
  induction m with
  | zero => obtain rfl : n = 0 := by omega
            exact h
  | succ m ih =>
    rcases Nat.lt_or_ge m n with h1 | h1
    · obtain rfl : n = m + 1 := by omega
      exact h
    · exact goN_mono m j ρ out (ih h1)

theorem run_of_StOk {ρ out : List U} : ∀ st : ST, StOk I ρ (fun k ρ' => Runs I pres sums k ρ' out) (fun ρ' => ρ' = out) st → ∃ n, st.run I ρ (goN I pres sums n) = some out
  | .goto k θ, h => h
  | .ret θ, h => ⟨0, by simp only [ST.run]; rw [show θ.map (E.den I ρ) = out from h]⟩
  | .bad _, h => h.elim
  | .br c a b, h => by
    simp only [ST.run]
    by_cases hc : (c.den I ρ).b = true
    · simp only [if_pos hc]; exact run_of_StOk a (h.1 hc)
    · simp only [if_neg hc]; exact run_of_StOk b (h.2 (by simpa using hc))
  | .need ns t, h => by
    simp only [ST.run]
    simp only [if_pos (List.all_eq_true.2 h.1)]
    exact run_of_StOk t (h.2 h.1)
  | .alt a b, h => by
    obtain ⟨n, hn⟩ := run_of_StOk a h.1
    obtain ⟨m, hm⟩ := run_of_StOk b h.2
    refine ⟨max n m, ?_⟩
    simp only [ST.run]
    rw [run_mono (fun k ρ' out' hk => goN_le (Nat.le_max_left n m) hk) a out hn, run_mono (fun k ρ' out' hk => goN_le (Nat.le_max_right n m) hk) b out hm]
    simp

theorem Runs.step {j : Nat} {ρ out : List U} {st : ST} (hst : sums[j]? = some st) (hpre : Holds I ρ (pres.getD j [])) (h : StOk I ρ (fun k ρ' => Runs I pres sums k ρ' out) (fun ρ' => ρ' = out) st) : Runs I pres sums j ρ out := by
  obtain ⟨n, hn⟩ := run_of_StOk st h
  refine ⟨n + 1, ?_⟩
  rw [goN]
  simp only [hst]
  rw [if_pos (List.all_eq_true.2 hpre)]
  exact hn

theorem least_of {P : Nat → Prop} (h : ∃ n, P n) : ∃ n, P n ∧ ∀ m, P m → n ≤ m := by
  obtain ⟨n, hn⟩ := h
  induction n using Nat.strongRecOn with
  | _ n ih =>
    by_cases hm : ∃ m, m < n ∧ P m
    · obtain ⟨m, hlt, hp⟩ := hm
      exact ih m hlt hp
    · refine ⟨n, hn, fun m hp => ?_⟩
      rcases Nat.lt_or_ge m n with h | h
      · exact (hm ⟨m, h, hp⟩).elim
      · exact h

open Classical in
noncomputable def fuelOf (I : Itp) (pres : List (List E)) (sums : List ST) (out : List U) (j : Nat) (ρ : List U) : Nat :=
  if h : Runs I pres sums j ρ out then Classical.choose (least_of h) else 0

theorem fuelOf_spec {out : List U} {j : Nat} {ρ : List U} (h : Runs I pres sums j ρ out) : goN I pres sums (fuelOf I pres sums out j ρ) j ρ = some out ∧ ∀ m, goN I pres sums m j ρ = some out → fuelOf I pres sums out j ρ ≤ m := by
  unfold fuelOf
  rw [dif_pos h]
  exact Classical.choose_spec (least_of h)

theorem TSys_of_goes {tms : List Tm} {ρ0 out : List U} (h : Runs I (tms.map Tm.pre) sums 0 ρ0 out) : TSys I tms sums ρ0 (fun ρf => ρf = out) := by
  refine ⟨Nat, (· < ·), fun j ρ => Runs I (tms.map Tm.pre) sums j ρ out, fuelOf I (tms.map Tm.pre) sums out, Nat.lt_wfRel.wf, h, ?_, ?_⟩
  · rintro j t ρ ht ⟨n, hn⟩
    cases n with
    | zero => simp [goN] at hn
    | succ n =>
      rw [goN] at hn
      split at hn
      · cases hn
      · split at hn
        · rename_i hp
          rw [List.getD_eq_getElem?_getD, List.getElem?_map, ht] at hp
          exact List.all_eq_true.1 hp
        · cases hn
  · intro j st ρ hst hg
    obtain ⟨h1, h2⟩ := fuelOf_spec hg
    generalize hm : fuelOf I (tms.map Tm.pre) sums out j ρ = m at h1 h2
    cases m with
    | zero => simp [goN] at h1
    | succ n =>
      rw [goN] at h1
      simp only [hst] at h1
      split at h1
      · have key : ∀ st : ST, st.run I ρ (goN I (tms.map Tm.pre) sums n) = some out → StOk I ρ (fun k ρ' => Runs I (tms.map Tm.pre) sums k ρ' out ∧ fuelOf I (tms.map Tm.pre) sums out k ρ' < n + 1) (fun ρf => ρf = out) st := by
          intro st
          induction st with
          | goto k θ =>
            intro h
            have hk : Runs I (tms.map Tm.pre) sums k (θ.map (E.den I ρ)) out := ⟨n, h⟩
            refine ⟨hk, ?_⟩
            have := (fuelOf_spec hk).2 n h
            show fuelOf I (tms.map Tm.pre) sums out k (θ.map (E.den I ρ)) < n + 1
            omega
          | ret θ => intro h; exact Option.some.inj h
          | bad _ => intro h; cases h
          | br c a b iha ihb =>
            intro h
            simp only [ST.run] at h
            constructor
            · intro hc; rw [if_pos hc] at h; exact iha h
            · intro hc; rw [if_neg (by simp [hc])] at h; exact ihb h
          | need ns t ih =>
            intro h
            simp only [ST.run] at h
            split at h
            · rename_i hn
              exact ⟨fun c hc => List.all_eq_true.1 hn c hc, fun _ => ih h⟩
            · cases h
          | alt a b iha ihb =>
            intro h
            simp only [ST.run] at h
            split at h
            · rename_i x y ha hb
              split at h
              · rename_i hxy
                simp only [Option.some.injEq] at h
                subst hxy; subst h
                exact ⟨iha ha, ihb hb⟩
              · cases h
            · cases h
        exact key st h1
      · cases h1

/-- A CONTRACT BY RUNNING ITS SUMMARIES. -/
theorem Ctr.valid_goes {C : Ctx} (hin : GlIn C.gl C.ng) (hall : ∀ c ∈ C.ctrs, c.Valid C I) {c : Ctr} (hng : C.ng ≤ c.H.length) (hwf : c.wf = true) (hent : (enterFr C.P c.fn c.args).isSome = true) {tms : List Tm} (ht0 : tms[0]? = some (entryTm C.P c)) {fuel : Nat} {sums : List ST}
    (hsum : tms.map (summaryF C fuel c.H.length tms c.rt) = sums) (hgo : ∀ ρ0, Holds I ρ0 c.pre → Runs I (tms.map Tm.pre) sums 0 ρ0 (c.outs.map (E.den I ρ0))) : c.Valid C I := by
  rw [summaryF_eq] at hsum
  exact Ctr.valid_of hin hall hng hwf hent ht0 hsum (fun ρ0 hpre => TSys_of_goes (hgo ρ0 hpre))

/-- n rows that are alike, ahead of others -/
def reps : Nat → E → E → E
  | 0, _, b => b
  | n + 1, r, b => .bi .row r (reps n r b)
theorem reps_l (I : Itp) (ρ : List U) (r b : E) : ∀ n : Nat, ((reps n r b).den I ρ).l = List.replicate n (r.den I ρ).r ++ (b.den I ρ).l
  | 0 => rfl
  | n + 1 => by
    show (r.den I ρ).r :: ((reps n r b).den I ρ).l = _
    rw [reps_l I ρ r b n]
    rfl

/-- n temporaries, of which these matter -/
def tl (n : Nat) (l : List (Nat × V)) : List V := setAll l (List.replicate n .junk)

theorem Holds.nil {ρ : List U} : Holds I ρ [] := fun _ h => by cases h
theorem Holds.and {ρ : List U} {c : E} {cs : List E} (h : (c.den I ρ).b = true) (h' : Holds I ρ cs) : Holds I ρ (c :: cs) := Holds.cons h h'
theorem holds_nil_iff {ρ : List U} : Holds I ρ [] ↔ True := ⟨fun _ => trivial, fun _ => Holds.nil⟩
theorem holds_cons_iff {ρ : List U} {c : E} {cs : List E} : Holds I ρ (c :: cs) ↔ (c.den I ρ).b = true ∧ Holds I ρ cs :=
  ⟨fun h => ⟨h c (List.mem_cons_self ..), fun d hd => h d (List.mem_cons_of_mem _ hd)⟩, fun h => Holds.cons h.1 h.2⟩

end Go.Sx
