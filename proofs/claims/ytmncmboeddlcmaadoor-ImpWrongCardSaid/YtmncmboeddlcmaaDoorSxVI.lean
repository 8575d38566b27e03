/- The symbolic executor, proved sound: used by the laws' proofs of this seat. No conditions. -/
import Derived.Test.YtmncmboeddlcmaaDoorSxV
import Derived.Carry
import Derived.ChangeArms
import Derived.ChangeSame
import Derived.ChangeShapes
import Derived.RowKit
import Derived.OpenShut
import Derived.OpenVars
/- The symbolic executor, part Zh: a law's arguments read as numbers, truth values and lists of rows; the law's end. -/
namespace Go.Sx
open Go Go.ChangeShapes Go.WideShapes Go.RowKit

/-! ### types whose cells are numbers and truth values alone -/
def ksFs (P : Program) (g : TypeId → Option (List CK)) : List Field → Nat → Option (List CK)
  | [], _ => some []
  | f :: fs, o =>
    if f.offset = o then
      match g f.type with
      | some ks => if P.cellsOf f.type = ks.length then (ksFs P g fs (o + ks.length)).map (ks ++ ·) else none
      | none => none
    else none

def ksOf (P : Program) : Nat → TypeId → Option (List CK)
  | 0, _ => none
  | d + 1, t =>
    match P.underlying t with
    | some (.int k) => some [.int k]
    | some .bool => some [.bool]
    | some (.struct fs) => match ksFs P (ksOf P d) fs.toList 0 with
      | some ks => if P.cellsOf t = ks.length then some ks else none
      | none => none
    | _ => none

def inK : CK → Int → Prop
  | .int k, n => k.min ≤ n ∧ n ≤ k.max
  | .bool, n => n = 0 ∨ n = 1

/-- a row of these kinds -/
def RowIn (ks : List CK) (r : List Int) : Prop := r.length = ks.length ∧ ∀ i k, ks[i]? = some k → inK k (r.getD i 0)

theorem RowIn.append {ks ks' : List CK} {r r' : List Int} (h : RowIn ks r) (h' : RowIn ks' r') : RowIn (ks ++ ks') (r ++ r') := by
  refine ⟨by simp [h.1, h'.1], fun i k hk => ?_⟩
  rw [List.getElem?_append] at hk
  split at hk
  · rename_i hi
    have := h.2 i k hk
    rwa [List.getD_eq_getElem?_getD, List.getElem?_append_left (by rw [h.1]; exact hi), ← List.getD_eq_getElem?_getD]
  · rename_i hi
    have := h'.2 _ k hk
    rwa [List.getD_eq_getElem?_getD, List.getElem?_append_right (by rw [h.1]; omega), h.1, ← List.getD_eq_getElem?_getD]

theorem rowVals_append {ks ks' : List CK} {r r' : List Int} (h : r.length = ks.length) : rowVals (ks ++ ks') (r ++ r') = rowVals ks r ++ rowVals ks' r' := by
  unfold rowVals
  exact List.zipWith_append h.symm

theorem ksFs_ok {P : Program} {g : TypeId → Option (List CK)} {cs : List Value} : ∀ (fs : List Field) (o : Nat) (ks : List CK), ksFs P g fs o = some ks →
    (∀ f ∈ fs, ∀ ks', g f.type = some ks' → P.cellsOf f.type = ks'.length → ∃ r, RowIn ks' r ∧ (cs.drop f.offset).take (P.cellsOf f.type) = rowVals ks' r) →
    ∃ r, RowIn ks r ∧ (cs.drop o).take ks.length = rowVals ks r
  | [], o, ks, h, _ => by
    simp only [ksFs, Option.some.injEq] at h
    subst h
    exact ⟨[], ⟨rfl, fun i k hk => by simp at hk⟩, by simp [rowVals]⟩
  | f :: fs, o, ks, h, hg => by
    unfold ksFs at h
    split at h
    · rename_i ho
      subst ho
      split at h
      · rename_i k1 hk1
        split at h
        · rename_i hc
          rw [Option.map_eq_some_iff] at h
          obtain ⟨k2, hk2, rfl⟩ := h
          obtain ⟨r1, hr1, e1⟩ := hg f (List.mem_cons_self ..) k1 hk1 hc
          obtain ⟨r2, hr2, e2⟩ := ksFs_ok fs _ k2 hk2 (fun f' hf' => hg f' (List.mem_cons_of_mem _ hf'))
          refine ⟨r1 ++ r2, hr1.append hr2, ?_⟩
          rw [rowVals_append hr1.1, List.length_append, List.take_add, List.drop_drop, ← e1, hc, ← e2]
        · simp at h
      · simp at h
    · simp at h

section
variable {H : Type} {enc : TypeId × Value → H} {P : Program} {w : World} {base : Nat} {spare : Nat → Bool} {held : Bool}

theorem trod_bool' {t : TypeId} {fuel : Nat} {cs : List Value} {x : DataW H × List MemPlace} (ht : P.underlying t = some .bool) (h : DataW.trod enc P w base spare held fuel t cs = some x) : ∃ b, cs = [.bool b] := by
  cases fuel with
  | zero => simp [DataW.trod] at h
  | succ n =>
    unfold DataW.trod at h
    rw [ht] at h
    split at h <;> simp_all

theorem wf_in {k : IntKind} {n : Int} (h : (Lit.int k n).wf = true) : k.min ≤ n ∧ n ≤ k.max := by
  simpa [Lit.wf] using h

theorem trod_flat : ∀ (d : Nat) (t : TypeId) (ks : List CK) (fuel : Nat) (cs : List Value) (x : DataW H × List MemPlace), ksOf P d t = some ks →
    DataW.trod enc P w base spare held fuel t cs = some x → ∃ r, RowIn ks r ∧ cs = rowVals ks r
  | 0, _, _, _, _, _, hk, _ => by simp [ksOf] at hk
  | d + 1, t, ks, fuel, cs, x, hk, h => by
    unfold ksOf at hk
    split at hk
    · rename_i k hu
      simp only [Option.some.injEq] at hk; subst hk
      obtain ⟨n, rfl, _, hw⟩ := DataW.trod_int hu h
      refine ⟨[n], ⟨rfl, fun i k' hk' => ?_⟩, rfl⟩
      cases i with
      | zero => simp only [List.getElem?_cons_zero, Option.some.injEq] at hk'; subst hk'; exact wf_in hw
      | succ i => simp at hk'
    · rename_i hu
      simp only [Option.some.injEq] at hk; subst hk
      obtain ⟨b, rfl⟩ := trod_bool' hu h
      refine ⟨[if b then 1 else 0], ⟨rfl, fun i k' hk' => ?_⟩, by cases b <;> rfl⟩
      cases i with
      | zero =>
        simp only [List.getElem?_cons_zero, Option.some.injEq] at hk'; subst hk'
        cases b
        · exact .inl rfl
        · exact .inr rfl
      | succ i => simp at hk'
    · rename_i fs hu
      split at hk
      · rename_i ks' hks
        split at hk
        · rename_i hc
          simp only [Option.some.injEq] at hk; subst hk
          obtain ⟨xs, n, _, _, hl, hxl, hf⟩ := DataW.trod_struct hu h
          obtain ⟨r, hr, e⟩ := ksFs_ok (cs := cs) fs.toList 0 ks' hks (fun f hfm ks'' hk'' hc'' => by
            obtain ⟨i, hi⟩ := List.getElem?_of_mem hfm
            have h1 := hf i f (by simpa using hi)
            have hlt : i < xs.length := by
              rw [hxl]
              have := (List.getElem?_eq_some_iff.1 hi).1
              simpa using this
            rw [List.getElem?_eq_getElem hlt] at h1
            exact trod_flat d f.type ks'' n _ _ hk'' h1)
          refine ⟨r, hr, ?_⟩
          rw [List.drop_zero, List.take_of_length_le (by omega)] at e
          exact e
        · simp at hk
      · simp at hk
    · simp at hk

theorem mapM_len {α β : Type} {g : α → Option β} : ∀ {l : List α} {r : List β}, l.mapM g = some r → r.length = l.length
  | [], r, h => by simp at h; subst h; rfl
  | x :: l, r, h => by
    simp only [List.mapM_cons, Option.bind_eq_bind, Option.bind_eq_some_iff, Option.pure_def, Option.some.injEq] at h
    obtain ⟨b, hb, r', hr', rfl⟩ := h
    simp [mapM_len hr']

theorem mapM_get {α β : Type} {g : α → Option β} : ∀ {l : List α} {r : List β}, l.mapM g = some r → ∀ (i : Nat) (a : α), l[i]? = some a → g a = r[i]?
  | [], r, h, i, a, ha => by simp at ha
  | x :: l, r, h, i, a, ha => by
    simp only [List.mapM_cons, Option.bind_eq_bind, Option.bind_eq_some_iff, Option.pure_def, Option.some.injEq] at h
    obtain ⟨b, hb, r', hr', rfl⟩ := h
    cases i with
    | zero => simp only [List.getElem?_cons_zero, Option.some.injEq] at ha; subst ha; simpa using hb
    | succ i => simpa using mapM_get hr' i a (by simpa using ha)

theorem cells?_spec {b o n : Nat} {cs : List Value} (h : w.cells? base ⟨b, o, none⟩ n = some cs) : cs.length = n ∧ ∀ i, i < n → w.cell? ⟨b, o + i, none⟩ = cs[i]? := by
  unfold World.cells? at h
  split at h
  · have hl := mapM_len h
    simp at hl
    refine ⟨hl, fun i hi => ?_⟩
    have := mapM_get h i i (by simp [hi])
    rwa [add_at] at this
  · simp at h

theorem cell_block {b o : Nat} {v : Value} (h : w.cell? ⟨b, o, none⟩ = some v) : ∃ c ty fz, w.heap[b]? = some (.cells c ty fz) ∧ c[o]? = some v := by
  unfold World.cell? at h
  split at h
  · rename_i c ty fz hb
    exact ⟨c, ty, fz, hb, by simpa using h⟩
  · simp at h

/-- What a list of rows that a law is handed stands for. -/
structure SlIn (P : Program) (w : World) (ks : List CK) (v : Value) (i : Info) (l : List (List Int)) : Prop where
  rows : ∀ r ∈ l, RowIn ks r
  wd : i.wd = ks.length
  val : (v = .slice none 0 0 ∧ i.sz = 0 ∧ l = []) ∨ ∃ cap, v = .slice (some ⟨i.blk, i.bs, none⟩) l.length cap ∧ l.length ≤ cap ∧ cap * ks.length ≤ i.sz
  obj : (i.sz = 0 ∧ l = []) ∨ (0 < i.sz ∧ ∃ c ty fz, w.heap[i.blk]? = some (.cells c ty fz) ∧ l.length * ks.length ≤ i.sz ∧ i.bs + i.sz ≤ c.size ∧ (c.toList.drop i.bs).take (l.length * ks.length) = l.flatMap (rowVals ks))

theorem open_rows {t e : TypeId} {ks : List CK} {v : Value} {d : DataW H} {p : List MemPlace} (ht : P.underlying t = some (.slice e)) (hk : ksOf P 8 e = some ks) (hpos : 0 < ks.length) (hc : P.cellsOf e = ks.length)
    {r : Reach} {b0 : Nat} (hval : Value.okWide P w r b0 t v) (hd : DataW.Trod enc P w base (fun _ => true) held t v d p) : ∃ i l, SlIn P w ks v i l := by
  obtain ⟨fuel, hf⟩ := hd
  have hsl : v = .slice none 0 0 ∨ ∃ b o len cap, v = .slice (some ⟨b, o, none⟩) len cap := by
    simp only [Value.okWide, ht, Cell.okWide] at hval
    simp only [Cell.ok, ht] at hval
    split at hval
    all_goals first
      | (left; rfl)
      | (right; rename_i a len cap _; obtain ⟨b, o, sp⟩ := a; obtain ⟨_, _, _, hsp, _⟩ := hval; simp only at hsp; subst hsp; exact ⟨b, o, len, cap, rfl⟩)
      | simp_all
  rcases hsl with rfl | ⟨b, o, len, cap, rfl⟩
  · exact ⟨⟨0, 0, ks.length, 0⟩, [], fun r hr => by simp at hr, rfl, .inl ⟨rfl, rfl, rfl⟩, .inl ⟨rfl, rfl⟩⟩
  · rcases DataW.trod_slice ht hf with ⟨h, _⟩ | ⟨a, len', cap', elems, rest, n, _, hcs, _, _, hlc, _, hel, helem, hsp, _⟩
    · simp [Value.cells] at h
    · simp only [Value.cells, List.cons.injEq, Value.slice.injEq, Option.some.injEq, and_true] at hcs
      obtain ⟨rfl, rfl, rfl⟩ := hcs
      obtain ⟨hrl, hrest⟩ := hsp rfl
      have every : ∀ i, i < cap → ∃ cs r, w.cells? base ⟨b, o + i * ks.length, none⟩ ks.length = some cs ∧ RowIn ks r ∧ cs = rowVals ks r := by
        intro i hi
        by_cases hlt : i < len
        · have h1 := helem i hlt
          rw [hc, add_at, List.getElem?_eq_getElem (by omega), Option.bind_eq_some_iff] at h1
          obtain ⟨cs, h2, h3⟩ := h1
          obtain ⟨r, hr, e⟩ := trod_flat 8 e ks n cs _ hk h3
          exact ⟨cs, r, h2, hr, e⟩
        · have h1 := hrest (i - len) (by omega)
          rw [show len + (i - len) = i from by omega, hc, add_at, List.getElem?_eq_getElem (by omega), Option.bind_eq_some_iff] at h1
          obtain ⟨cs, h2, h3⟩ := h1
          obtain ⟨r, hr, e⟩ := trod_flat 8 e ks n cs _ hk h3
          exact ⟨cs, r, h2, hr, e⟩
      by_cases hcap : cap = 0
      · subst hcap
        have hl0 : len = 0 := by omega
        subst hl0
        exact ⟨⟨b, 0, ks.length, o⟩, [], fun r hr => by simp at hr, rfl, .inr ⟨0, rfl, Nat.le_refl _, by simp⟩, .inl ⟨rfl, rfl⟩⟩
      · -- the block
        obtain ⟨cs0, r0, h0, hr0, e0⟩ := every (cap - 1) (by omega)
        obtain ⟨hl0, hc0⟩ := cells?_spec h0
        have hlast := hc0 (ks.length - 1) (by omega)
        rw [List.getElem?_eq_getElem (by omega)] at hlast
        obtain ⟨c, ty, fz, hb, hco⟩ := cell_block hlast
        have hsz : o + cap * ks.length ≤ c.size := by
          have h1 : o + (cap - 1) * ks.length + (ks.length - 1) < c.size := (Array.getElem?_eq_some_iff.1 hco).1
          have h2 : cap * ks.length = (cap - 1) * ks.length + ks.length := by
            conv => lhs; rw [show cap = (cap - 1) + 1 from by omega]
            rw [Nat.succ_mul]
          omega
        have cellAt : ∀ k, w.cell? ⟨b, k, none⟩ = c[k]? := fun k => by simp [World.cell?, hb]
        have build : ∀ m, m ≤ len → ∃ l : List (List Int), l.length = m ∧ (∀ r ∈ l, RowIn ks r) ∧ (c.toList.drop o).take (m * ks.length) = l.flatMap (rowVals ks) := by
          intro m
          induction m with
          | zero => intro _; exact ⟨[], rfl, fun r hr => by simp at hr, by simp⟩
          | succ m ih =>
            intro hm
            obtain ⟨l, hl, hrows, hflat⟩ := ih (by omega)
            obtain ⟨cs, r, h1, hr, e⟩ := every m (by omega)
            obtain ⟨hcl, hcc⟩ := cells?_spec h1
            refine ⟨l ++ [r], by simp [hl], fun q hq => ?_, ?_⟩
            · rcases List.mem_append.1 hq with hq | hq
              · exact hrows q hq
              · rw [List.mem_singleton.1 hq]; exact hr
            · rw [Nat.succ_mul, List.take_add, hflat, List.flatMap_append, List.drop_drop]
              congr 1
              simp only [List.flatMap_cons, List.flatMap_nil, List.append_nil, ← e]
              apply List.ext_getElem?
              intro k
              rw [List.getElem?_take]
              split
              · rename_i hk'
                have := hcc k hk'
                rw [cellAt] at this
                rw [← this, List.getElem?_drop]
                simp
              · rw [List.getElem?_eq_none (by omega)]
        obtain ⟨l, hl, hrows, hflat⟩ := build len (Nat.le_refl _)
        refine ⟨⟨b, cap * ks.length, ks.length, o⟩, l, hrows, rfl, .inr ⟨cap, by rw [hl], by omega, Nat.le_refl _⟩, .inr ⟨Nat.mul_pos (by omega) hpos, c, ty, fz, hb, ?_, hsz, ?_⟩⟩
        · rw [hl]; exact Nat.mul_le_mul_right _ hlc
        · rw [hl]; exact hflat

/-! ### all the arguments of a law -/
inductive PS where
  | int (k : IntKind)
  | bool
  | rows (ks : List CK)
  deriving DecidableEq

def psOf (P : Program) (t : TypeId) : Option PS :=
  match P.underlying t with
  | some (.int k) => some (.int k)
  | some .bool => some .bool
  | some (.slice e) => match ksOf P 8 e with
    | some ks => if 0 < ks.length ∧ P.cellsOf e = ks.length then some (.rows ks) else none
    | none => none
  | _ => none

def psAll (P : Program) : List TypeId → Option (List PS)
  | [] => some []
  | t :: ts => match psOf P t, psAll P ts with
    | some p, some ps => some (p :: ps)
    | _, _ => none

/-- the arguments of the contract: variable j is parameter j; lists of rows behind the handles h, h + 1, .. -/
def psArgs : List PS → Nat → Nat → List V
  | [], _, _ => []
  | .int k :: ps, j, h => .int k (.var j) :: psArgs ps (j + 1) h
  | .bool :: ps, j, h => .bool (.var j) :: psArgs ps (j + 1) h
  | .rows ks :: ps, j, h => .slice h ks.length (.lit 0) (.un .len (.var j)) none :: psArgs ps (j + 1) (h + 1)

def psH : List PS → Nat → List O
  | [], _ => []
  | .rows ks :: ps, j => .rows true ks (.var j) :: psH ps (j + 1)
  | _ :: ps, j => psH ps (j + 1)

/-- what is known of a parameter -/
def PsIn : PS → U → Prop
  | .int k, u => k.min ≤ u.i ∧ u.i ≤ k.max
  | .bool, _ => True
  | .rows ks, u => ∀ r ∈ u.l, RowIn ks r

/-- all of them -/
def PsAll : List PS → List U → Prop
  | [], us => us = []
  | p :: ps, us => ∃ u us', us = u :: us' ∧ PsIn p u ∧ PsAll ps us'

def PsArg (P : Program) (w : World) : PS → Value → U → Info → Prop
  | .int k, v, u, _ => v = .int k u.i
  | .bool, v, u, _ => v = .bool u.b
  | .rows ks, v, u, i => 0 < ks.length ∧ SlIn P w ks v i u.l

def PsOpen (P : Program) (w : World) : List PS → List Value → List U → List Info → Prop
  | [], vs, us, is => vs = [] ∧ us = [] ∧ is = []
  | p :: ps, vs, us, is => ∃ v vs' u us' i is', vs = v :: vs' ∧ us = u :: us' ∧ is = i :: is' ∧ PsIn p u ∧ PsArg P w p v u i ∧ PsOpen P w ps vs' us' is'

theorem ps_open_one {t : TypeId} {p : PS} {v : Value} {d : DataW H} {q : List MemPlace} (hp : psOf P t = some p) {r : Reach} {b0 : Nat} (hval : Value.okWide P w r b0 t v) (hd : DataW.Trod enc P w base (fun _ => true) held t v d q) :
    ∃ u i, PsIn p u ∧ PsArg P w p v u i := by
  unfold psOf at hp
  split at hp
  · rename_i k hu
    simp only [Option.some.injEq] at hp; subst hp
    obtain ⟨n, rfl, _, _, hw⟩ := open_int hu hval hd
    exact ⟨{ i := n }, ⟨0, 0, 0, 0⟩, wf_in hw, rfl⟩
  · rename_i hu
    simp only [Option.some.injEq] at hp; subst hp
    obtain ⟨b, rfl, _⟩ := open_bool hu hval hd
    exact ⟨{ b := b }, ⟨0, 0, 0, 0⟩, trivial, rfl⟩
  · rename_i e hu
    split at hp
    · rename_i ks hk
      split at hp
      · rename_i hcond
        simp only [Option.some.injEq] at hp; subst hp
        obtain ⟨i, l, hs⟩ := open_rows hu hk hcond.1 hcond.2 hval hd
        exact ⟨{ l := l }, i, hs.rows, hcond.1, hs⟩
      · simp at hp
    · simp at hp
  · simp at hp

theorem ps_open : ∀ (ts : List TypeId) (ps : List PS) (vs : List Value) (ds : List (DataW H)) (q : List MemPlace), psAll P ts = some ps →
    (∀ (j : Nat) t v, ts[j]? = some t → vs[j]? = some v → ∃ r b0, Value.okWide P w r b0 t v) → DataW.TrodAll enc P w base (fun _ => true) held ts vs ds q → ∃ us is, PsOpen P w ps vs us is
  | [], ps, vs, ds, q, hp, _, h => by
    simp only [psAll, Option.some.injEq] at hp; subst hp
    obtain ⟨rfl, rfl, rfl⟩ := trodAll_nil h
    exact ⟨[], [], rfl, rfl, rfl⟩
  | t :: ts, ps, vs, ds, q, hp, hv, h => by
    unfold psAll at hp
    split at hp
    · rename_i p ps' h1 h2
      simp only [Option.some.injEq] at hp; subst hp
      obtain ⟨v, vs', d, ds', a, b, rfl, rfl, rfl, hd, hr⟩ := trodAll_cons h
      obtain ⟨r, b0, hval⟩ := hv 0 t v rfl rfl
      obtain ⟨u, i, hu, ha⟩ := ps_open_one h1 hval hd
      obtain ⟨us, is, ho⟩ := ps_open ts ps' vs' ds' b h2 (fun j t' v' e1 e2 => hv (j + 1) t' v' (by simpa using e1) (by simpa using e2)) hr
      exact ⟨u :: us, i :: is, v, vs', u, us, i, is, rfl, rfl, rfl, hu, ha, ho⟩
    · simp at hp

theorem PsOpen.all : ∀ {ps : List PS} {vs : List Value} {us : List U} {is : List Info}, PsOpen P w ps vs us is → PsAll ps us
  | [], vs, us, is, h => h.2.1
  | p :: ps, vs, us, is, h => by
    obtain ⟨v, vs', u, us', i, is', rfl, rfl, rfl, h1, _, h2⟩ := h
    exact ⟨u, us', rfl, h1, h2.all⟩

/-- the blocks of the lists, in their order -/
def rowInfos : List PS → List Info → List Info
  | .rows _ :: ps, i :: is => i :: rowInfos ps is
  | _ :: ps, _ :: is => rowInfos ps is
  | _, _ => []

theorem psH_length : ∀ (ps : List PS) (j : Nat) (is : List Info), is.length = ps.length → (rowInfos ps is).length = (psH ps j).length
  | [], _, is, h => by cases is <;> simp [rowInfos, psH]
  | .int _ :: ps, j, [], h => by simp at h
  | .bool :: ps, j, [], h => by simp at h
  | .rows _ :: ps, j, [], h => by simp at h
  | .int _ :: ps, j, i :: is, h => by simpa [rowInfos, psH] using psH_length ps (j + 1) is (by simpa using h)
  | .bool :: ps, j, i :: is, h => by simpa [rowInfos, psH] using psH_length ps (j + 1) is (by simpa using h)
  | .rows _ :: ps, j, i :: is, h => by simpa [rowInfos, psH] using psH_length ps (j + 1) is (by simpa using h)

theorem PsOpen.len : ∀ {ps : List PS} {vs : List Value} {us : List U} {is : List Info}, PsOpen P w ps vs us is → is.length = ps.length
  | [], vs, us, is, h => by rw [h.2.2]; rfl
  | p :: ps, vs, us, is, h => by
    obtain ⟨v, vs', u, us', i, is', rfl, rfl, rfl, _, _, h2⟩ := h
    simp [h2.len]

theorem sl_den {I : Itp} {ρ : List U} {η : Env} {ks : List CK} {v : Value} {u : U} {i : Info} {h j : Nat} (hs : SlIn P w ks v i u.l) (hη : η h = some i) (hj : ρ.getD j {} = u) :
    V.den I ρ η (.slice h ks.length (.lit 0) (.un .len (.var j)) none) v := by
  simp only [V.den, E.den, UnO.den, hj]
  refine ⟨i, hη, Int.le_refl _, Int.natCast_nonneg _, ?_⟩
  rcases hs.val with ⟨h1, h2, h3⟩ | ⟨cap, h1, h2, h3⟩
  · exact .inl ⟨h1, h2, by first | rfl | trivial, by rw [h3]; rfl, fun e he => by simp at he⟩
  · exact .inr ⟨cap, i.bs, fun _ => by simp, by simpa using h2, by simpa using h3, fun e he => by simp at he, by rw [h1]; simp⟩

theorem sl_obj {I : Itp} {ρ : List U} {η : Env} {ks : List CK} {v : Value} {u : U} {i : Info} {j : Nat} (hp : 0 < ks.length) (hs : SlIn P w ks v i u.l) (hj : ρ.getD j {} = u) :
    (O.rows true ks (.var j)).den P I ρ η i w.heap[i.blk]? := by
  have e : ((E.var j).den I ρ).l = u.l := by rw [← hj]; rfl
  refine ⟨hp, hs.wd, by rw [e]; exact fun r hr => (hs.rows r hr).1, fun h => by simp at h, ?_⟩
  rw [e]
  rcases hs.obj with h1 | ⟨h1, c, ty, fz, h2, h3, h4, h5⟩
  · exact .inl h1
  · exact .inr ⟨h1, c, ty, fz, h2, fun h => by simp at h, h3, h4, fun h => by simp at h, h5⟩

/-- arguments and objects, handle by handle -/
theorem ps_den {I : Itp} {η : Env} {ρ : List U} : ∀ (ps : List PS) (vs : List Value) (us : List U) (is : List Info) (j h : Nat), PsOpen P w ps vs us is →
    (∀ (k : Nat) (u : U), us[k]? = some u → ρ.getD (j + k) {} = u) → (∀ (k : Nat) (i : Info), (rowInfos ps is)[k]? = some i → η (h + k) = some i) →
    V.denL I ρ η (psArgs ps j h) vs ∧ ∀ (k : Nat) (o : O), (psH ps j)[k]? = some o → o.isRo = true ∧ o ≠ .free ∧ ∃ i : Info, (rowInfos ps is)[k]? = some i ∧ o.den P I ρ η i w.heap[i.blk]?
  | [], vs, us, is, j, h, ho, _, _ => by
    obtain ⟨rfl, rfl, rfl⟩ := ho
    exact ⟨by simp [psArgs, V.denL], fun k o hk => by simp [psH] at hk⟩
  | p :: ps, vs, us, is, j, h, ho, hu, hi => by
    obtain ⟨v, vs', u, us', i, is', rfl, rfl, rfl, h1, h2, h3⟩ := ho
    have hu0 := hu 0 u rfl
    rw [Nat.add_zero] at hu0
    have hu' : ∀ k u', us'[k]? = some u' → ρ.getD (j + 1 + k) {} = u' := fun k u' hk => by
      have := hu (k + 1) u' (by simpa using hk)
      rwa [show j + 1 + k = j + (k + 1) from by omega]
    cases p with
    | int k =>
      obtain ⟨g1, g2⟩ := ps_den ps vs' us' is' (j + 1) h h3 hu' (fun k i hk => hi k i (by simpa [rowInfos] using hk))
      simp only [PsArg] at h2
      refine ⟨?_, fun k o hk => by simpa [rowInfos] using g2 k o (by simpa [psH] using hk)⟩
      simp only [psArgs, V.denL, V.den, E.den, hu0]
      exact ⟨_, _, rfl, h2, g1⟩
    | bool =>
      obtain ⟨g1, g2⟩ := ps_den ps vs' us' is' (j + 1) h h3 hu' (fun k i hk => hi k i (by simpa [rowInfos] using hk))
      simp only [PsArg] at h2
      refine ⟨?_, fun k o hk => by simpa [rowInfos] using g2 k o (by simpa [psH] using hk)⟩
      simp only [psArgs, V.denL, V.den, E.den, hu0]
      exact ⟨_, _, rfl, h2, g1⟩
    | rows ks =>
      obtain ⟨g1, g2⟩ := ps_den ps vs' us' is' (j + 1) (h + 1) h3 hu' (fun k i hk => by
        have := hi (k + 1) i (by simpa [rowInfos] using hk)
        rwa [show h + 1 + k = h + (k + 1) from by omega])
      simp only [PsArg] at h2
      have hη := hi 0 i rfl
      rw [Nat.add_zero] at hη
      refine ⟨?_, fun k o hk => ?_⟩
      · simp only [psArgs, V.denL]
        exact ⟨_, _, rfl, sl_den h2.2 hη hu0, g1⟩
      · cases k with
        | zero =>
          simp only [psH, List.getElem?_cons_zero, Option.some.injEq] at hk
          subst hk
          exact ⟨rfl, (by intro e; cases e), i, rfl, sl_obj h2.1 h2.2 hu0⟩
        | succ k => simpa [rowInfos] using g2 k o (by simpa [psH] using hk)

end

/-- A LAW AT ITS ARGUMENTS. HG: the globals' objects; ηG: what they stand for. -/
theorem Ctr.Valid.law_at {C : Ctx} {I : Itp} {c : Ctr} (hv : c.Valid C I) (hres : c.res = .bool (.bl true)) {HG : List O} {ps : List PS} (hH : c.H = HG ++ psH ps 0) (hargs : c.args = psArgs ps 0 HG.length)
    (hpre : ∀ us, PsAll ps us → Holds I us c.pre) {W : World} {ηG : Nat → Option Info} (hGl : ∀ g h, (g, h) ∈ C.gl → h < HG.length ∧ ∃ i, ηG h = some i ∧ i.blk = g ∧ i.bs = 0)
    (hG : ∀ us η h o, (∀ k, k < HG.length → η k = ηG k) → HG[h]? = some o → o ≠ .free ∧ (o.isRo = true ∨ o = .dead) ∧ ∃ i, ηG h = some i ∧ o.den C.P I us η i W.heap[i.blk]?)
    {vs : Array Value} {us : List U} {is : List Info} (ho : PsOpen C.P W ps vs.toList us is) :
    Calls C.P c.fn vs W (fun e w' => e = .returned (.bool true) ∧ RowKit.Below W.heap.size W w') := by
  let η : Env := fun h => if h < HG.length then ηG h else (rowInfos ps is)[h - HG.length]?
  have hηG : ∀ k, k < HG.length → η k = ηG k := fun k hk => if_pos hk
  have hηR : ∀ k, η (HG.length + k) = (rowInfos ps is)[k]? := fun k => by
    show (if HG.length + k < HG.length then _ else _) = _
    rw [if_neg (by omega), Nat.add_sub_cancel_left]
  obtain ⟨g1, g2⟩ := ps_den (I := I) (η := η) (ρ := us) ps vs.toList us is 0 HG.length ho (fun k u hk => by rw [Nat.zero_add, List.getD_eq_getElem?_getD, hk]; rfl) (fun k i hk => by rw [hηR]; exact hk)
  have hobj : ∀ h o, look c.H h = some o → (o.isRo = true ∨ o = .dead) ∧ ∃ i, η h = some i ∧ o.den C.P I us η i W.heap[i.blk]? := by
    intro h o hl
    have hl' := (look_some hl).1
    rw [hH, List.getElem?_append] at hl'
    split at hl'
    · rename_i hlt
      obtain ⟨_, h2, i, h3, h4⟩ := hG us η h o hηG hl'
      exact ⟨h2, i, by rw [hηG h hlt]; exact h3, h4⟩
    · rename_i hge
      obtain ⟨h1, _, i, h3, h4⟩ := g2 _ o hl'
      refine ⟨.inl h1, i, ?_, h4⟩
      have := hηR (h - HG.length)
      rw [show HG.length + (h - HG.length) = h from by omega] at this
      rw [this]; exact h3
  have hfree : ∀ h, look c.H h = none → η h = none := by
    intro h hl
    rcases Nat.lt_or_ge h c.H.length with hlt | hge
    · exfalso
      obtain ⟨o, hs⟩ : ∃ o, c.H[h]? = some o := ⟨_, List.getElem?_eq_getElem hlt⟩
      have hs' := hs
      rw [hH, List.getElem?_append] at hs'
      split at hs'
      · exact absurd (look_of hs (hG us η h _ hηG hs').1) (by rw [hl]; simp)
      · exact absurd (look_of hs (g2 _ _ hs').2.1) (by rw [hl]; simp)
    · rw [hH, List.length_append] at hge
      have := hηR (h - HG.length)
      rw [show HG.length + (h - HG.length) = h from by omega] at this
      rw [this, List.getElem?_eq_none_iff, psH_length ps 0 is ho.len]
      omega
  have hg : GlOk C.gl η := by
    intro g h hm
    obtain ⟨h1, i, h2, h3, h4⟩ := hGl g h hm
    exact ⟨i, by rw [hηG h h1]; exact h2, h3, h4⟩
  have hm : Mem C.P I us η c.H (ownS c.H η) W W := by
    refine ⟨hfree, fun h o hl => (hobj h o hl).2, ?_, ?_, ?_, Keeps.refl _ _⟩
    · intro h o i hl hi hr hb
      obtain ⟨_, j, hj, hd⟩ := hobj h o hl
      rw [hi] at hj; simp only [Option.some.injEq] at hj; subst hj
      refine ⟨O.block_there hd hb, ?_⟩
      rintro ⟨h2, o2, i2, hl2, hi2, hr2, hb2, _⟩
      rcases (hobj h2 o2 hl2).1 with h1 | rfl
      · rw [hr2] at h1; simp at h1
      · exact hb2.elim
    · intro h o i hl hi hr hb
      rcases (hobj h o hl).1 with h1 | rfl
      · rw [hr] at h1; simp at h1
      · exact hb.elim
    · intro h h' o o' i i' _ hl _ _ _ hr _ hb
      rcases (hobj h o hl).1 with h1 | rfl
      · rw [hr] at h1; simp at h1
      · exact fun hb' => hb.elim
  refine Calls.mono (hv.calls (hpre us ho.all) hg hm (by rw [hargs]; exact g1)) ?_
  rintro e w' ⟨x, η', rfl, hx, hm'⟩
  rw [hres] at hx
  have hx' : x = .bool true := hx
  subst hx'
  have k := hm'.keeps
  refine ⟨rfl, k.os, k.tape, k.output, k.size, fun b hb => k.block b hb ?_⟩
  rintro ⟨h, o, i, hl, _, hr, hb2, _⟩
  rcases (hobj h o hl).1 with h1 | rfl
  · rw [hr] at h1; simp at h1
  · exact hb2.elim

/-! ### behind the call -/
/-- One closed fact: each type can be read and is a row of the table. -/
def rowedAll (P : Program) (ts : List TypeId) : Bool := ts.all fun t => P.readableRec t && decide (t < P.types.size)

theorem below_trodAll {H : Type} {enc : TypeId × Value → H} {P : Program} (hl : laidOutB P = true) {W W' : World} (hb : RowKit.Below W.heap.size W W') :
    ∀ {ts : List TypeId} {vs : List Value} {ds : List (DataW H)} {ps : List MemPlace}, rowedAll P ts = true → DataW.TrodAll enc P W 0 (fun _ => true) true ts vs ds ps → (∀ x ∈ ps, x.block < W.heap.size) →
      DataW.TrodAll enc P W' 0 (fun b => decide (b < W.heap.size)) true ts vs ds ps
  | [], vs, ds, ps, _, h, _ => by
    obtain ⟨rfl, rfl, rfl⟩ := trodAll_nil h
    exact h
  | t :: ts, vs, ds, ps, hr, h, hlt => by
    obtain ⟨v, vs', d, ds', a, b, rfl, rfl, rfl, hd, hr'⟩ := trodAll_cons h
    simp only [rowedAll, List.all_cons, Bool.and_eq_true, decide_eq_true_eq] at hr
    refine ⟨a, b, RowKit.Below.trod hl hr.1.1 hr.1.2 hd hb (fun x hx => hlt x (by simp [hx])), below_trodAll hl hb (by simpa [rowedAll] using hr.2) hr' (fun x hx => hlt x (by simp [hx])), rfl⟩

theorem trodAll_len {H : Type} {enc : TypeId × Value → H} {P : Program} {W : World} {base : Nat} {sp : Nat → Bool} {held : Bool} : ∀ {ts : List TypeId} {vs : List Value} {ds : List (DataW H)} {ps : List MemPlace}, DataW.TrodAll enc P W base sp held ts vs ds ps → ds.length = ts.length
  | [], vs, ds, ps, h => by
    obtain ⟨rfl, rfl, rfl⟩ := trodAll_nil h
    rfl
  | t :: ts, vs, ds, ps, h => by
    obtain ⟨v, vs', d, ds', a, b, rfl, rfl, rfl, _, hr⟩ := trodAll_cons h
    simp [trodAll_len hr]

/-- THE LAW's END: true; nothing that was there has turned. -/
theorem law_post {H : Type} {enc : TypeId × Value → H} {P : Program} {f : Func} {s : ChangeSpec} {W W' : World} {args : Array Value} {ds gs : List (DataW H)} {before : List MemPlace}
    (hW : DataW.Whole enc P f.params.toList s.vars false W args.toList ds gs before) (hb : RowKit.Below W.heap.size W W') (hl : laidOutB P = true) (hr : rowedAll P f.params.toList = true)
    {tb : TypeId} (hres : f.resultTypes = #[tb]) (htb : P.underlying tb = some .bool) (hvars : s.vars = [])
    (hfn : s.fn H (ds ++ gs) = { results := [.lit (.bool true)], args := ds }) : s.post enc P f false true false false W args (.bool true) W' := by
  have hlt := fun p hp => hW.lt (p := p) hp
  have hW' := hW
  obtain ⟨p, q, hA, hV, rfl, hfz, hnd⟩ := hW
  rw [hvars] at hV
  obtain ⟨rfl, rfl⟩ := trodVars_none hV
  rw [List.append_nil] at hfn
  simp only [List.append_nil] at hW' hlt
  refine ⟨ds, [], p, [], p, [], hW', ?_, ?_, ?_, ?_, fun h => by simp at h⟩
  · rw [List.append_nil, hfn, hres]
    exact trodAll_cons_mk (shut_bool htb _) trodAll_mk0
  · rw [List.append_nil, hfn]
    exact below_trodAll hl hb hr hA hlt
  · rw [List.append_nil, hfn, hvars]
    rfl
  · exact hb.frame _

end Go.Sx
