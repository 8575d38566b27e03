/- The symbolic executor, proved sound: used by the laws' proofs of this seat. No conditions. -/
import Derived.Test.YtnpadkajapialaaDoorSxV
import Derived.Carry
import Derived.ChangeArms
import Derived.ChangeSame
import Derived.ChangeShapes
import Derived.RowKit
import Derived.OpenShut
import Derived.OpenVars
import Derived.Sort.OwnSortedInts
/- The symbolic executor, part Zh: a law's arguments read as numbers, truth values and lists of rows; the law's end. -/
namespace Go.Sx
open Go Go.ChangeShapes Go.WideShapes Go.RowKit

/-! ### types whose cells are numbers and truth values alone -/
def ksFs (P : Program) (g : TypeId → Option (List CK)) : List Field → Nat → Option (List CK)
  | [], _ => some []
  | f :: fs, o =>
    if f.offset = o then
      match g f.type with
      | some ks => if P.cellsOf f.type = ks.length then (ksFs P g fs (o + ks.length)).map (ks ++ ·) else none
      | none => none
    else none

def ksOf (P : Program) : Nat → TypeId → Option (List CK)
  | 0, _ => none
  | d + 1, t =>
    match P.underlying t with
    | some (.int k) => some [.int k]
    | some .bool => some [.bool]
    | some (.struct fs) => match ksFs P (ksOf P d) fs.toList 0 with
      | some ks => if P.cellsOf t = ks.length then some ks else none
      | none => none
    | _ => none

def inK : CK → Int → Prop
  | .int k, n => k.min ≤ n ∧ n ≤ k.max
  | .bool, n => n = 0 ∨ n = 1

/-- a row of these kinds -/
def RowIn (ks : List CK) (r : List Int) : Prop := r.length = ks.length ∧ ∀ i k, ks[i]? = some k → inK k (r.getD i 0)

theorem RowIn.append {ks ks' : List CK} {r r' : List Int} (h : RowIn ks r) (h' : RowIn ks' r') : RowIn (ks ++ ks') (r ++ r') := by
  refine ⟨by simp [h.1, h'.1], fun i k hk => ?_⟩
  rw [List.getElem?_append] at hk
  split at hk
  · rename_i hi
    have := h.2 i k hk
    rwa [List.getD_eq_getElem?_getD, List.getElem?_append_left (by rw [h.1]; exact hi), ← List.getD_eq_getElem?_getD]
  · rename_i hi
    have := h'.2 _ k hk
    rwa [List.getD_eq_getElem?_getD, List.getElem?_append_right (by rw [h.1]; omega), h.1, ← List.getD_eq_getElem?_getD]

theorem rowVals_append {ks ks' : List CK} {r r' : List Int} (h : r.length = ks.length) : rowVals (ks ++ ks') (r ++ r') = rowVals ks r ++ rowVals ks' r' := by
  unfold rowVals
  exact List.zipWith_append h.symm

theorem ksFs_ok {P : Program} {g : TypeId → Option (List CK)} {cs : List Value} : ∀ (fs : List Field) (o : Nat) (ks : List CK), ksFs P g fs o = some ks →
    (∀ f ∈ fs, ∀ ks', g f.type = some ks' → P.cellsOf f.type = ks'.length → ∃ r, RowIn ks' r ∧ (cs.drop f.offset).take (P.cellsOf f.type) = rowVals ks' r) →
    ∃ r, RowIn ks r ∧ (cs.drop o).take ks.length = rowVals ks r
  | [], o, ks, h, _ => by
    simp only [ksFs, Option.some.injEq] at h
    subst h
    exact ⟨[], ⟨rfl, fun i k hk => by simp at hk⟩, by simp [rowVals]⟩
  | f :: fs, o, ks, h, hg => by
    unfold ksFs at h
    split at h
    · rename_i ho
      subst ho
      split at h
      · rename_i k1 hk1
        split at h
        · rename_i hc
          rw [Option.map_eq_some_iff] at h
          obtain ⟨k2, hk2, rfl⟩ := h
          obtain ⟨r1, hr1, e1⟩ := hg f (List.mem_cons_self ..) k1 hk1 hc
          obtain ⟨r2, hr2, e2⟩ := ksFs_ok fs _ k2 hk2 (fun f' hf' => hg f' (List.mem_cons_of_mem _ hf'))
          refine ⟨r1 ++ r2, hr1.append hr2, ?_⟩
          rw [rowVals_append hr1.1, List.length_append, List.take_add, List.drop_drop, ← e1, hc, ← e2]
        · simp at h
      · simp at h
    · simp at h

section
variable {H : Type} {enc : TypeId × Value → H} {P : Program} {w : World} {base : Nat} {spare : Nat → Bool} {held : Bool}

theorem trod_bool' {t : TypeId} {fuel : Nat} {cs : List Value} {x : DataW H × List MemPlace} (ht : P.underlying t = some .bool) (h : DataW.trod enc P w base spare held fuel t cs = some x) : ∃ b, cs = [.bool b] := by
  cases fuel with
  | zero => simp [DataW.trod] at h
  | succ n =>
    unfold DataW.trod at h
    rw [ht] at h
    split at h <;> simp_all

theorem wf_in {k : IntKind} {n : Int} (h : (Lit.int k n).wf = true) : k.min ≤ n ∧ n ≤ k.max := by
  simpa [Lit.wf] using h

theorem trod_flat : ∀ (d : Nat) (t : TypeId) (ks : List CK) (fuel : Nat) (cs : List Value) (x : DataW H × List MemPlace), ksOf P d t = some ks →
    DataW.trod enc P w base spare held fuel t cs = some x → ∃ r, RowIn ks r ∧ cs = rowVals ks r
  | 0, _, _, _, _, _, hk, _ => by simp [ksOf] at hk
  | d + 1, t, ks, fuel, cs, x, hk, h => by
    unfold ksOf at hk
    split at hk
    · rename_i k hu
      simp only [Option.some.injEq] at hk; subst hk
      obtain ⟨n, rfl, _, hw⟩ := DataW.trod_int hu h
      refine ⟨[n], ⟨rfl, fun i k' hk' => ?_⟩, rfl⟩
      cases i with
      | zero => simp only [List.getElem?_cons_zero, Option.some.injEq] at hk'; subst hk'; exact wf_in hw
      | succ i => simp at hk'
    · rename_i hu
      simp only [Option.some.injEq] at hk; subst hk
      obtain ⟨b, rfl⟩ := trod_bool' hu h
      refine ⟨[if b then 1 else 0], ⟨rfl, fun i k' hk' => ?_⟩, by cases b <;> rfl⟩
      cases i with
      | zero =>
        simp only [List.getElem?_cons_zero, Option.some.injEq] at hk'; subst hk'
        cases b
        · exact .inl rfl
        · exact .inr rfl
      | succ i => simp at hk'
    · rename_i fs hu
      split at hk
      · rename_i ks' hks
        split at hk
        · rename_i hc
          simp only [Option.some.injEq] at hk; subst hk
          obtain ⟨xs, n, _, _, hl, hxl, hf⟩ := DataW.trod_struct hu h
          obtain ⟨r, hr, e⟩ := ksFs_ok (cs := cs) fs.toList 0 ks' hks (fun f hfm ks'' hk'' hc'' => by
            obtain ⟨i, hi⟩ := List.getElem?_of_mem hfm
            have h1 := hf i f (by simpa using hi)
            have hlt : i < xs.length := by
              rw [hxl]
              have := (List.getElem?_eq_some_iff.1 hi).1
              simpa using this
            rw [List.getElem?_eq_getElem hlt] at h1
            exact trod_flat d f.type ks'' n _ _ hk'' h1)
          refine ⟨r, hr, ?_⟩
          rw [List.drop_zero, List.take_of_length_le (by omega)] at e
          exact e
        · simp at hk
      · simp at hk
    · simp at hk

theorem mapM_len {α β : Type} {g : α → Option β} : ∀ {l : List α} {r : List β}, l.mapM g = some r → r.length = l.length
  | [], r, h => by simp at h; subst h; rfl
  | x :: l, r, h => by
    simp only [List.mapM_cons, Option.bind_eq_bind, Option.bind_eq_some_iff, Option.pure_def, Option.some.injEq] at h
    obtain ⟨b, hb, r', hr', rfl⟩ := h
    simp [mapM_len hr']

theorem mapM_get {α β : Type} {g : α → Option β} : ∀ {l : List α} {r : List β}, l.mapM g = some r → ∀ (i : Nat) (a : α), l[i]? = some a → g a = r[i]?
  | [], r, h, i, a, ha => by simp at ha
  | x :: l, r, h, i, a, ha => by
    simp only [List.mapM_cons, Option.bind_eq_bind, Option.bind_eq_some_iff, Option.pure_def, Option.some.injEq] at h
    obtain ⟨b, hb, r', hr', rfl⟩ := h
    cases i with
    | zero => simp only [List.getElem?_cons_zero, Option.some.injEq] at ha; subst ha; simpa using hb
    | succ i => simpa using mapM_get hr' i a (by simpa using ha)

theorem cells?_spec {b o n : Nat} {cs : List Value} (h : w.cells? base ⟨b, o, none⟩ n = some cs) : cs.length = n ∧ ∀ i, i < n → w.cell? ⟨b, o + i, none⟩ = cs[i]? := by
  unfold World.cells? at h
  split at h
  · have hl := mapM_len h
    simp at hl
    refine ⟨hl, fun i hi => ?_⟩
    have := mapM_get h i i (by simp [hi])
    rwa [add_at] at this
  · simp at h

theorem cell_block {b o : Nat} {v : Value} (h : w.cell? ⟨b, o, none⟩ = some v) : ∃ c ty fz, w.heap[b]? = some (.cells c ty fz) ∧ c[o]? = some v := by
  unfold World.cell? at h
  split at h
  · rename_i c ty fz hb
    exact ⟨c, ty, fz, hb, by simpa using h⟩
  · simp at h

/-- What a list of rows that a law is handed stands for. -/
structure SlIn (P : Program) (w : World) (ks : List CK) (v : Value) (i : Info) (l : List (List Int)) : Prop where
  rows : ∀ r ∈ l, RowIn ks r
  wd : i.wd = ks.length
  val : (v = .slice none 0 0 ∧ i.sz = 0 ∧ l = []) ∨ ∃ cap, v = .slice (some ⟨i.blk, i.bs, none⟩) l.length cap ∧ l.length ≤ cap ∧ cap * ks.length ≤ i.sz
  obj : (i.sz = 0 ∧ l = []) ∨ (0 < i.sz ∧ ∃ c ty fz, w.heap[i.blk]? = some (.cells c ty fz) ∧ l.length * ks.length ≤ i.sz ∧ i.bs + i.sz ≤ c.size ∧ (c.toList.drop i.bs).take (l.length * ks.length) = l.flatMap (rowVals ks))

theorem open_rows {t e : TypeId} {ks : List CK} {v : Value} {d : DataW H} {p : List MemPlace} (ht : P.underlying t = some (.slice e)) (hk : ksOf P 8 e = some ks) (hpos : 0 < ks.length) (hc : P.cellsOf e = ks.length)
    {r : Reach} {b0 : Nat} (hval : Value.okWide P w r b0 t v) (hd : DataW.Trod enc P w base (fun _ => true) held t v d p) : ∃ i l, SlIn P w ks v i l := by
  obtain ⟨fuel, hf⟩ := hd
  have hsl : v = .slice none 0 0 ∨ ∃ b o len cap, v = .slice (some ⟨b, o, none⟩) len cap := by
    simp only [Value.okWide, ht, Cell.okWide] at hval
    simp only [Cell.ok, ht] at hval
    split at hval
    all_goals first
      | (left; rfl)
      | (right; rename_i a len cap _; obtain ⟨b, o, sp⟩ := a; obtain ⟨_, _, _, hsp, _⟩ := hval; simp only at hsp; subst hsp; exact ⟨b, o, len, cap, rfl⟩)
      | simp_all
  rcases hsl with rfl | ⟨b, o, len, cap, rfl⟩
  · exact ⟨⟨0, 0, ks.length, 0⟩, [], fun r hr => by simp at hr, rfl, .inl ⟨rfl, rfl, rfl⟩, .inl ⟨rfl, rfl⟩⟩
  · rcases DataW.trod_slice ht hf with ⟨h, _⟩ | ⟨a, len', cap', elems, rest, n, _, hcs, _, _, hlc, _, hel, helem, hsp, _⟩
    · simp [Value.cells] at h
    · simp only [Value.cells, List.cons.injEq, Value.slice.injEq, Option.some.injEq, and_true] at hcs
      obtain ⟨rfl, rfl, rfl⟩ := hcs
      obtain ⟨hrl, hrest⟩ := hsp rfl
      have every : ∀ i, i < cap → ∃ cs r, w.cells? base ⟨b, o + i * ks.length, none⟩ ks.length = some cs ∧ RowIn ks r ∧ cs = rowVals ks r := by
        intro i hi
        by_cases hlt : i < len
        · have h1 := helem i hlt
          rw [hc, add_at, List.getElem?_eq_getElem (by omega), Option.bind_eq_some_iff] at h1
          obtain ⟨cs, h2, h3⟩ := h1
          obtain ⟨r, hr, e⟩ := trod_flat 8 e ks n cs _ hk h3
          exact ⟨cs, r, h2, hr, e⟩
        · have h1 := hrest (i - len) (by omega)
          rw [show len + (i - len) = i from by omega, hc, add_at, List.getElem?_eq_getElem (by omega), Option.bind_eq_some_iff] at h1
          obtain ⟨cs, h2, h3⟩ := h1
          obtain ⟨r, hr, e⟩ := trod_flat 8 e ks n cs _ hk h3
          exact ⟨cs, r, h2, hr, e⟩
      by_cases hcap : cap = 0
      · subst hcap
        have hl0 : len = 0 := by omega
        subst hl0
        exact ⟨⟨b, 0, ks.length, o⟩, [], fun r hr => by simp at hr, rfl, .inr ⟨0, rfl, Nat.le_refl _, by simp⟩, .inl ⟨rfl, rfl⟩⟩
      · -- the block
        obtain ⟨cs0, r0, h0, hr0, e0⟩ := every (cap - 1) (by omega)
        obtain ⟨hl0, hc0⟩ := cells?_spec h0
        have hlast := hc0 (ks.length - 1) (by omega)
        rw [List.getElem?_eq_getElem (by omega)] at hlast
        obtain ⟨c, ty, fz, hb, hco⟩ := cell_block hlast
        have hsz : o + cap * ks.length ≤ c.size := by
          have h1 : o + (cap - 1) * ks.length + (ks.length - 1) < c.size := (Array.getElem?_eq_some_iff.1 hco).1
          have h2 : cap * ks.length = (cap - 1) * ks.length + ks.length := by
            conv => lhs; rw [show cap = (cap - 1) + 1 from by omega]
            rw [Nat.succ_mul]
          omega
        have cellAt : ∀ k, w.cell? ⟨b, k, none⟩ = c[k]? := fun k => by simp [World.cell?, hb]
        have build : ∀ m, m ≤ len → ∃ l : List (List Int), l.length = m ∧ (∀ r ∈ l, RowIn ks r) ∧ (c.toList.drop o).take (m * ks.length) = l.flatMap (rowVals ks) := by
          intro m
          induction m with
          | zero => intro _; exact ⟨[], rfl, fun r hr => by simp at hr, by simp⟩
          | succ m ih =>
            intro hm
            obtain ⟨l, hl, hrows, hflat⟩ := ih (by omega)
            obtain ⟨cs, r, h1, hr, e⟩ := every m (by omega)
            obtain ⟨hcl, hcc⟩ := cells?_spec h1
            refine ⟨l ++ [r], by simp [hl], fun q hq => ?_, ?_⟩
            · rcases List.mem_append.1 hq with hq | hq
              · exact hrows q hq
              · rw [List.mem_singleton.1 hq]; exact hr
            · rw [Nat.succ_mul, List.take_add, hflat, List.flatMap_append, List.drop_drop]
              congr 1
              simp only [List.flatMap_cons, List.flatMap_nil, List.append_nil, ← e]
              apply List.ext_getElem?
              intro k
              rw [List.getElem?_take]
              split
              · rename_i hk'
                have := hcc k hk'
                rw [cellAt] at this
                rw [← this, List.getElem?_drop]
                simp
              · rw [List.getElem?_eq_none (by omega)]
        obtain ⟨l, hl, hrows, hflat⟩ := build len (Nat.le_refl _)
        refine ⟨⟨b, cap * ks.length, ks.length, o⟩, l, hrows, rfl, .inr ⟨cap, by rw [hl], by omega, Nat.le_refl _⟩, .inr ⟨Nat.mul_pos (by omega) hpos, c, ty, fz, hb, ?_, hsz, ?_⟩⟩
        · rw [hl]; exact Nat.mul_le_mul_right _ hlc
        · rw [hl]; exact hflat

/-! ### all the arguments of a law -/
inductive PS where
  | int (k : IntKind)
  | bool
  | rows (ks : List CK)
  deriving DecidableEq

def psOf (P : Program) (t : TypeId) : Option PS :=
  match P.underlying t with
  | some (.int k) => some (.int k)
  | some .bool => some .bool
  | some (.slice e) => match ksOf P 8 e with
    | some ks => if 0 < ks.length ∧ P.cellsOf e = ks.length then some (.rows ks) else none
    | none => none
  | _ => none

def psAll (P : Program) : List TypeId → Option (List PS)
  | [] => some []
  | t :: ts => match psOf P t, psAll P ts with
    | some p, some ps => some (p :: ps)
    | _, _ => none

/-- the arguments of the contract: variable j is parameter j; lists of rows behind the handles h, h + 1, .. -/
def psArgs : List PS → Nat → Nat → List V
  | [], _, _ => []
  | .int k :: ps, j, h => .int k (.var j) :: psArgs ps (j + 1) h
  | .bool :: ps, j, h => .bool (.var j) :: psArgs ps (j + 1) h
  | .rows ks :: ps, j, h => .slice h ks.length (.lit 0) (.un .len (.var j)) none :: psArgs ps (j + 1) (h + 1)

def psH : List PS → Nat → List O
  | [], _ => []
  | .rows ks :: ps, j => .rows true ks (.var j) :: psH ps (j + 1)
  | _ :: ps, j => psH ps (j + 1)

/-- what is known of a parameter -/
def PsIn : PS → U → Prop
  | .int k, u => k.min ≤ u.i ∧ u.i ≤ k.max
  | .bool, _ => True
  | .rows ks, u => ∀ r ∈ u.l, RowIn ks r

/-- all of them -/
def PsAll : List PS → List U → Prop
  | [], us => us = []
  | p :: ps, us => ∃ u us', us = u :: us' ∧ PsIn p u ∧ PsAll ps us'

def PsArg (P : Program) (w : World) : PS → Value → U → Info → Prop
  | .int k, v, u, _ => v = .int k u.i
  | .bool, v, u, _ => v = .bool u.b
  | .rows ks, v, u, i => 0 < ks.length ∧ SlIn P w ks v i u.l

def PsOpen (P : Program) (w : World) : List PS → List Value → List U → List Info → Prop
  | [], vs, us, is => vs = [] ∧ us = [] ∧ is = []
  | p :: ps, vs, us, is => ∃ v vs' u us' i is', vs = v :: vs' ∧ us = u :: us' ∧ is = i :: is' ∧ PsIn p u ∧ PsArg P w p v u i ∧ PsOpen P w ps vs' us' is'

theorem ps_open_one {t : TypeId} {p : PS} {v : Value} {d : DataW H} {q : List MemPlace} (hp : psOf P t = some p) {r : Reach} {b0 : Nat} (hval : Value.okWide P w r b0 t v) (hd : DataW.Trod enc P w base (fun _ => true) held t v d q) :
    ∃ u i, PsIn p u ∧ PsArg P w p v u i := by
  unfold psOf at hp
  split at hp
  · rename_i k hu
    simp only [Option.some.injEq] at hp; subst hp
    obtain ⟨n, rfl, _, _, hw⟩ := open_int hu hval hd
    exact ⟨{ i := n }, ⟨0, 0, 0, 0⟩, wf_in hw, rfl⟩
  · rename_i hu
    simp only [Option.some.injEq] at hp; subst hp
    obtain ⟨b, rfl, _⟩ := open_bool hu hval hd
    exact ⟨{ b := b }, ⟨0, 0, 0, 0⟩, trivial, rfl⟩
  · rename_i e hu
    split at hp
    · rename_i ks hk
      split at hp
      · rename_i hcond
        simp only [Option.some.injEq] at hp; subst hp
        obtain ⟨i, l, hs⟩ := open_rows hu hk hcond.1 hcond.2 hval hd
        exact ⟨{ l := l }, i, hs.rows, hcond.1, hs⟩
      · simp at hp
    · simp at hp
  · simp at hp

theorem ps_open : ∀ (ts : List TypeId) (ps : List PS) (vs : List Value) (ds : List (DataW H)) (q : List MemPlace), psAll P ts = some ps →
    (∀ (j : Nat) t v, ts[j]? = some t → vs[j]? = some v → ∃ r b0, Value.okWide P w r b0 t v) → DataW.TrodAll enc P w base (fun _ => true) held ts vs ds q → ∃ us is, PsOpen P w ps vs us is
  | [], ps, vs, ds, q, hp, _, h => by
    simp only [psAll, Option.some.injEq] at hp; subst hp
    obtain ⟨rfl, rfl, rfl⟩ := trodAll_nil h
    exact ⟨[], [], rfl, rfl, rfl⟩
  | t :: ts, ps, vs, ds, q, hp, hv, h => by
    unfold psAll at hp
    split at hp
    · rename_i p ps' h1 h2
      simp only [Option.some.injEq] at hp; subst hp
      obtain ⟨v, vs', d, ds', a, b, rfl, rfl, rfl, hd, hr⟩ := trodAll_cons h
      obtain ⟨r, b0, hval⟩ := hv 0 t v rfl rfl
      obtain ⟨u, i, hu, ha⟩ := ps_open_one h1 hval hd
      obtain ⟨us, is, ho⟩ := ps_open ts ps' vs' ds' b h2 (fun j t' v' e1 e2 => hv (j + 1) t' v' (by simpa using e1) (by simpa using e2)) hr
      exact ⟨u :: us, i :: is, v, vs', u, us, i, is, rfl, rfl, rfl, hu, ha, ho⟩
    · simp at hp

theorem PsOpen.all : ∀ {ps : List PS} {vs : List Value} {us : List U} {is : List Info}, PsOpen P w ps vs us is → PsAll ps us
  | [], vs, us, is, h => h.2.1
  | p :: ps, vs, us, is, h => by
    obtain ⟨v, vs', u, us', i, is', rfl, rfl, rfl, h1, _, h2⟩ := h
    exact ⟨u, us', rfl, h1, h2.all⟩

/-- the blocks of the lists, in their order -/
def rowInfos : List PS → List Info → List Info
  | .rows _ :: ps, i :: is => i :: rowInfos ps is
  | _ :: ps, _ :: is => rowInfos ps is
  | _, _ => []

theorem psH_length : ∀ (ps : List PS) (j : Nat) (is : List Info), is.length = ps.length → (rowInfos ps is).length = (psH ps j).length
  | [], _, is, h => by cases is <;> simp [rowInfos, psH]
  | .int _ :: ps, j, [], h => by simp at h
  | .bool :: ps, j, [], h => by simp at h
  | .rows _ :: ps, j, [], h => by simp at h
  | .int _ :: ps, j, i :: is, h => by simpa [rowInfos, psH] using psH_length ps (j + 1) is (by simpa using h)
  | .bool :: ps, j, i :: is, h => by simpa [rowInfos, psH] using psH_length ps (j + 1) is (by simpa using h)
  | .rows _ :: ps, j, i :: is, h => by simpa [rowInfos, psH] using psH_length ps (j + 1) is (by simpa using h)

theorem PsOpen.len : ∀ {ps : List PS} {vs : List Value} {us : List U} {is : List Info}, PsOpen P w ps vs us is → is.length = ps.length
  | [], vs, us, is, h => by rw [h.2.2]; rfl
  | p :: ps, vs, us, is, h => by
    obtain ⟨v, vs', u, us', i, is', rfl, rfl, rfl, _, _, h2⟩ := h
    simp [h2.len]

theorem sl_den {I : Itp} {ρ : List U} {η : Env} {ks : List CK} {v : Value} {u : U} {i : Info} {h j : Nat} (hs : SlIn P w ks v i u.l) (hη : η h = some i) (hj : ρ.getD j {} = u) :
    V.den I ρ η (.slice h ks.length (.lit 0) (.un .len (.var j)) none) v := by
  simp only [V.den, E.den, UnO.den, hj]
  refine ⟨i, hη, Int.le_refl _, Int.natCast_nonneg _, ?_⟩
  rcases hs.val with ⟨h1, h2, h3⟩ | ⟨cap, h1, h2, h3⟩
  · exact .inl ⟨h1, h2, by first | rfl | trivial, by rw [h3]; rfl, fun e he => by simp at he⟩
  · exact .inr ⟨cap, i.bs, fun _ => by simp, by simpa using h2, by simpa using h3, fun e he => by simp at he, by rw [h1]; simp⟩

theorem sl_obj {I : Itp} {ρ : List U} {η : Env} {ks : List CK} {v : Value} {u : U} {i : Info} {j : Nat} (hp : 0 < ks.length) (hs : SlIn P w ks v i u.l) (hj : ρ.getD j {} = u) :
    (O.rows true ks (.var j)).den P I ρ η i w.heap[i.blk]? := by
  have e : ((E.var j).den I ρ).l = u.l := by rw [← hj]; rfl
  refine ⟨hp, hs.wd, by rw [e]; exact fun r hr => (hs.rows r hr).1, fun h => by simp at h, ?_⟩
  rw [e]
  rcases hs.obj with h1 | ⟨h1, c, ty, fz, h2, h3, h4, h5⟩
  · exact .inl h1
  · exact .inr ⟨h1, c, ty, fz, h2, fun h => by simp at h, h3, h4, fun h => by simp at h, h5⟩

/-- arguments and objects, handle by handle -/
theorem ps_den {I : Itp} {η : Env} {ρ : List U} : ∀ (ps : List PS) (vs : List Value) (us : List U) (is : List Info) (j h : Nat), PsOpen P w ps vs us is →
    (∀ (k : Nat) (u : U), us[k]? = some u → ρ.getD (j + k) {} = u) → (∀ (k : Nat) (i : Info), (rowInfos ps is)[k]? = some i → η (h + k) = some i) →
    V.denL I ρ η (psArgs ps j h) vs ∧ ∀ (k : Nat) (o : O), (psH ps j)[k]? = some o → o.isRo = true ∧ o ≠ .free ∧ ∃ i : Info, (rowInfos ps is)[k]? = some i ∧ o.den P I ρ η i w.heap[i.blk]?
  | [], vs, us, is, j, h, ho, _, _ => by
    obtain ⟨rfl, rfl, rfl⟩ := ho
    exact ⟨by simp [psArgs, V.denL], fun k o hk => by simp [psH] at hk⟩
  | p :: ps, vs, us, is, j, h, ho, hu, hi => by
    obtain ⟨v, vs', u, us', i, is', rfl, rfl, rfl, h1, h2, h3⟩ := ho
    have hu0 := hu 0 u rfl
    rw [Nat.add_zero] at hu0
    have hu' : ∀ k u', us'[k]? = some u' → ρ.getD (j + 1 + k) {} = u' := fun k u' hk => by
      have := hu (k + 1) u' (by simpa using hk)
      rwa [show j + 1 + k = j + (k + 1) from by omega]
    cases p with
    | int k =>
      obtain ⟨g1, g2⟩ := ps_den ps vs' us' is' (j + 1) h h3 hu' (fun k i hk => hi k i (by simpa [rowInfos] using hk))
      simp only [PsArg] at h2
      refine ⟨?_, fun k o hk => by simpa [rowInfos] using g2 k o (by simpa [psH] using hk)⟩
      simp only [psArgs, V.denL, V.den, E.den, hu0]
      exact ⟨_, _, rfl, h2, g1⟩
    | bool =>
      obtain ⟨g1, g2⟩ := ps_den ps vs' us' is' (j + 1) h h3 hu' (fun k i hk => hi k i (by simpa [rowInfos] using hk))
      simp only [PsArg] at h2
      refine ⟨?_, fun k o hk => by simpa [rowInfos] using g2 k o (by simpa [psH] using hk)⟩
      simp only [psArgs, V.denL, V.den, E.den, hu0]
      exact ⟨_, _, rfl, h2, g1⟩
    | rows ks =>
      obtain ⟨g1, g2⟩ := ps_den ps vs' us' is' (j + 1) (h + 1) h3 hu' (fun k i hk => by
        have := hi (k + 1) i (by simpa [rowInfos] using hk)
        rwa [show h + 1 + k = h + (k + 1) from by omega])
      simp only [PsArg] at h2
      have hη := hi 0 i rfl
      rw [Nat.add_zero] at hη
      refine ⟨?_, fun k o hk => ?_⟩
      · simp only [psArgs, V.denL]
        exact ⟨_, _, rfl, sl_den h2.2 hη hu0, g1⟩
      · cases k with
        | zero =>
          simp only [psH, List.getElem?_cons_zero, Option.some.injEq] at hk
          subst hk
          exact ⟨rfl, (by intro e; cases e), i, rfl, sl_obj h2.1 h2.2 hu0⟩
        | succ k => simpa [rowInfos] using g2 k o (by simpa [psH] using hk)

end

/-- A LAW AT ITS ARGUMENTS. HG: the globals' objects; ηG: what they stand for. -/
theorem Ctr.Valid.law_at {C : Ctx} {I : Itp} {c : Ctr} (hv : c.Valid C I) (hres : c.res = .bool (.bl true)) {HG : List O} {ps : List PS} (hH : c.H = HG ++ psH ps 0) (hargs : c.args = psArgs ps 0 HG.length)
    (hpre : ∀ us, PsAll ps us → Holds I us c.pre) {W : World} {ηG : Nat → Option Info} (hGl : ∀ g h, (g, h) ∈ C.gl → h < HG.length ∧ ∃ i, ηG h = some i ∧ i.blk = g ∧ i.bs = 0)
    (hG : ∀ us η h o, (∀ k, k < HG.length → η k = ηG k) → HG[h]? = some o → o ≠ .free ∧ (o.isRo = true ∨ o = .dead) ∧ ∃ i, ηG h = some i ∧ o.den C.P I us η i W.heap[i.blk]?)
    {vs : Array Value} {us : List U} {is : List Info} (ho : PsOpen C.P W ps vs.toList us is) :
    Calls C.P c.fn vs W (fun e w' => e = .returned (.bool true) ∧ RowKit.Below W.heap.size W w') := by
  let η : Env := fun h => if h < HG.length then ηG h else (rowInfos ps is)[h - HG.length]?
  have hηG : ∀ k, k < HG.length → η k = ηG k := fun k hk => if_pos hk
  have hηR : ∀ k, η (HG.length + k) = (rowInfos ps is)[k]? := fun k => by
    show (if HG.length + k < HG.length then _ else _) = _
    rw [if_neg (by omega), Nat.add_sub_cancel_left]
  obtain ⟨g1, g2⟩ := ps_den (I := I) (η := η) (ρ := us) ps vs.toList us is 0 HG.length ho (fun k u hk => by rw [Nat.zero_add, List.getD_eq_getElem?_getD, hk]; rfl) (fun k i hk => by rw [hηR]; exact hk)
  have hobj : ∀ h o, look c.H h = some o → (o.isRo = true ∨ o = .dead) ∧ ∃ i, η h = some i ∧ o.den C.P I us η i W.heap[i.blk]? := by
    intro h o hl
    have hl' := (look_some hl).1
    rw [hH, List.getElem?_append] at hl'
    split at hl'
    · rename_i hlt
      obtain ⟨_, h2, i, h3, h4⟩ := hG us η h o hηG hl'
      exact ⟨h2, i, by rw [hηG h hlt]; exact h3, h4⟩
    · rename_i hge
      obtain ⟨h1, _, i, h3, h4⟩ := g2 _ o hl'
      refine ⟨.inl h1, i, ?_, h4⟩
      have := hηR (h - HG.length)
      rw [show HG.length + (h - HG.length) = h from by omega] at this
      rw [this]; exact h3
  have hfree : ∀ h, look c.H h = none → η h = none := by
    intro h hl
    rcases Nat.lt_or_ge h c.H.length with hlt | hge
    · exfalso
      obtain ⟨o, hs⟩ : ∃ o, c.H[h]? = some o := ⟨_, List.getElem?_eq_getElem hlt⟩
      have hs' := hs
      rw [hH, List.getElem?_append] at hs'
      split at hs'
      · exact absurd (look_of hs (hG us η h _ hηG hs').1) (by rw [hl]; simp)
      · exact absurd (look_of hs (g2 _ _ hs').2.1) (by rw [hl]; simp)
    · rw [hH, List.length_append] at hge
      have := hηR (h - HG.length)
      rw [show HG.length + (h - HG.length) = h from by omega] at this
      rw [this, List.getElem?_eq_none_iff, psH_length ps 0 is ho.len]
      omega
  have hg : GlOk C.gl η := by
    intro g h hm
    obtain ⟨h1, i, h2, h3, h4⟩ := hGl g h hm
    exact ⟨i, by rw [hηG h h1]; exact h2, h3, h4⟩
  have hm : Mem C.P I us η c.H (ownS c.H η) W W := by
    refine ⟨hfree, fun h o hl => (hobj h o hl).2, ?_, ?_, ?_, Keeps.refl _ _⟩
    · intro h o i hl hi hr hb
      obtain ⟨_, j, hj, hd⟩ := hobj h o hl
      rw [hi] at hj; simp only [Option.some.injEq] at hj; subst hj
      refine ⟨O.block_there hd hb, ?_⟩
      rintro ⟨h2, o2, i2, hl2, hi2, hr2, hb2, _⟩
      rcases (hobj h2 o2 hl2).1 with h1 | rfl
      · rw [hr2] at h1; simp at h1
      · exact hb2.elim
    · intro h o i hl hi hr hb
      rcases (hobj h o hl).1 with h1 | rfl
      · rw [hr] at h1; simp at h1
      · exact hb.elim
    · intro h h' o o' i i' _ hl _ _ _ hr _ hb
      rcases (hobj h o hl).1 with h1 | rfl
      · rw [hr] at h1; simp at h1
      · exact fun hb' => hb.elim
  refine Calls.mono (hv.calls (hpre us ho.all) hg hm (by rw [hargs]; exact g1)) ?_
  rintro e w' ⟨x, η', rfl, hx, hm'⟩
  rw [hres] at hx
  have hx' : x = .bool true := hx
  subst hx'
  have k := hm'.keeps
  refine ⟨rfl, k.os, k.tape, k.output, k.size, fun b hb => k.block b hb ?_⟩
  rintro ⟨h, o, i, hl, _, hr, hb2, _⟩
  rcases (hobj h o hl).1 with h1 | rfl
  · rw [hr] at h1; simp at h1
  · exact hb2.elim

/-! ### behind the call -/
/-- One closed fact: each type can be read and is a row of the table. -/
def rowedAll (P : Program) (ts : List TypeId) : Bool := ts.all fun t => P.readableRec t && decide (t < P.types.size)

theorem below_trodAll {H : Type} {enc : TypeId × Value → H} {P : Program} (hl : laidOutB P = true) {W W' : World} (hb : RowKit.Below W.heap.size W W') :
    ∀ {ts : List TypeId} {vs : List Value} {ds : List (DataW H)} {ps : List MemPlace}, rowedAll P ts = true → DataW.TrodAll enc P W 0 (fun _ => true) true ts vs ds ps → (∀ x ∈ ps, x.block < W.heap.size) →
      DataW.TrodAll enc P W' 0 (fun b => decide (b < W.heap.size)) true ts vs ds ps
  | [], vs, ds, ps, _, h, _ => by
    obtain ⟨rfl, rfl, rfl⟩ := trodAll_nil h
    exact h
  | t :: ts, vs, ds, ps, hr, h, hlt => by
    obtain ⟨v, vs', d, ds', a, b, rfl, rfl, rfl, hd, hr'⟩ := trodAll_cons h
    simp only [rowedAll, List.all_cons, Bool.and_eq_true, decide_eq_true_eq] at hr
    refine ⟨a, b, RowKit.Below.trod hl hr.1.1 hr.1.2 hd hb (fun x hx => hlt x (by simp [hx])), below_trodAll hl hb (by simpa [rowedAll] using hr.2) hr' (fun x hx => hlt x (by simp [hx])), rfl⟩

theorem trodAll_len {H : Type} {enc : TypeId × Value → H} {P : Program} {W : World} {base : Nat} {sp : Nat → Bool} {held : Bool} : ∀ {ts : List TypeId} {vs : List Value} {ds : List (DataW H)} {ps : List MemPlace}, DataW.TrodAll enc P W base sp held ts vs ds ps → ds.length = ts.length
  | [], vs, ds, ps, h => by
    obtain ⟨rfl, rfl, rfl⟩ := trodAll_nil h
    rfl
  | t :: ts, vs, ds, ps, h => by
    obtain ⟨v, vs', d, ds', a, b, rfl, rfl, rfl, _, hr⟩ := trodAll_cons h
    simp [trodAll_len hr]

/-- THE LAW's END: true; nothing that was there has turned. -/
theorem law_post {H : Type} {enc : TypeId × Value → H} {P : Program} {f : Func} {s : ChangeSpec} {W W' : World} {args : Array Value} {ds gs : List (DataW H)} {before : List MemPlace}
    (hW : DataW.Whole enc P f.params.toList s.vars false W args.toList ds gs before) (hb : RowKit.Below W.heap.size W W') (hl : laidOutB P = true) (hr : rowedAll P f.params.toList = true)
    {tb : TypeId} (hres : f.resultTypes = #[tb]) (htb : P.underlying tb = some .bool) (hvars : s.vars = [])
    (hfn : s.fn H (ds ++ gs) = { results := [.lit (.bool true)], args := ds }) : s.post enc P f false true false false W args (.bool true) W' := by
  have hlt := fun p hp => hW.lt (p := p) hp
  have hW' := hW
  obtain ⟨p, q, hA, hV, rfl, hfz, hnd⟩ := hW
  rw [hvars] at hV
  obtain ⟨rfl, rfl⟩ := trodVars_none hV
  rw [List.append_nil] at hfn
  simp only [List.append_nil] at hW' hlt
  refine ⟨ds, [], p, [], p, [], hW', ?_, ?_, ?_, ?_, fun h => by simp at h⟩
  · rw [List.append_nil, hfn, hres]
    exact trodAll_cons_mk (shut_bool htb _) trodAll_mk0
  · rw [List.append_nil, hfn]
    exact below_trodAll hl hb hr hA hlt
  · rw [List.append_nil, hfn, hvars]
    rfl
  · exact hb.frame _

end Go.Sx

/- The symbolic executor, part Zi: a contract's variables, each of one sort; what is known of the rows that are handed in. -/
namespace Go.Sx
open Go

/-- the part of a thing that a sort looks at -/
def U.only : Srt → U → U
  | .i, u => { i := u.i }
  | .b, u => { b := u.b }
  | .r, u => { r := u.r }
  | .l, u => { l := u.l }

theorem only_eqv (s : Srt) (u : U) : s.eqv (u.only s) u := by cases s <;> rfl
theorem only_of_eqv {s : Srt} {u v : U} (h : s.eqv u v) : u.only s = v.only s := by cases s <;> simp_all [Srt.eqv, U.only]

def normU : List Srt → List U → List U
  | [], _ => []
  | s :: Γ, ρ => (ρ.headD {}).only s :: normU Γ ρ.tail

theorem normU_get : ∀ (Γ : List Srt) (ρ : List U) (i : Nat), (normU Γ ρ).getD i {} = match Γ[i]? with | some s => (ρ.getD i {}).only s | none => {}
  | [], ρ, i => by simp [normU]
  | s :: Γ, ρ, 0 => by cases ρ <;> simp [normU]
  | s :: Γ, ρ, i + 1 => by
    simp only [normU, List.getD_cons_succ, List.getElem?_cons_succ, normU_get Γ ρ.tail i]
    cases ρ <;> simp

/-- what the function signs look at, and what they give -/
structure FnS where
  s1 : Nat → Srt × Srt
  s2 : Nat → Srt × Srt × Srt
  s3 : Nat → Srt × Srt × Srt × Srt
  s4 : Nat → Srt × Srt × Srt × Srt × Srt

structure Itp.Resp (I : Itp) (F : FnS) : Prop where
  r1 : ∀ f u, (F.s1 f).1.eqv (I.f1 f u) (I.f1 f (u.only (F.s1 f).2))
  r2 : ∀ f u v, (F.s2 f).1.eqv (I.f2 f u v) (I.f2 f (u.only (F.s2 f).2.1) (v.only (F.s2 f).2.2))
  r3 : ∀ f u v x, (F.s3 f).1.eqv (I.f3 f u v x) (I.f3 f (u.only (F.s3 f).2.1) (v.only (F.s3 f).2.2.1) (x.only (F.s3 f).2.2.2))
  r4 : ∀ f u v x y, (F.s4 f).1.eqv (I.f4 f u v x y) (I.f4 f (u.only (F.s4 f).2.1) (v.only (F.s4 f).2.2.1) (x.only (F.s4 f).2.2.2.1) (y.only (F.s4 f).2.2.2.2))

def UnO.srt : UnO → Srt
  | .not => .b
  | .len => .l
  | _ => .i
def BiO.srt : BiO → Srt × Srt
  | .and | .or | .beq => (.b, .b)
  | .cons => (.i, .r)
  | .row => (.r, .l)
  | .snoc => (.l, .r)
  | .app => (.l, .l)
  | .take | .drop => (.l, .i)
  | .rep => (.i, .r)
  | .find => (.l, .r)
  | _ => (.i, .i)

/-- Is this an expression of this sort, each variable of its own? -/
def E.srtOk (Γ : List Srt) (F : FnS) : Srt → E → Bool
  | _, .lit _ => true
  | _, .bl _ => true
  | _, .nil => true
  | s, .var i => decide (Γ[i]? = some s)
  | _, .un o a => a.srtOk Γ F o.srt
  | _, .bi o a b => a.srtOk Γ F o.srt.1 && b.srtOk Γ F o.srt.2
  | s, .te .ite c a b => c.srtOk Γ F .b && a.srtOk Γ F s && b.srtOk Γ F s
  | _, .te .get a b c => a.srtOk Γ F .l && b.srtOk Γ F .i && c.srtOk Γ F .i
  | _, .te .elems a b c => a.srtOk Γ F .l && b.srtOk Γ F .i && c.srtOk Γ F .i
  | _, .te .ent a b c => a.srtOk Γ F .l && b.srtOk Γ F .r && c.srtOk Γ F .r
  | _, .te .put a b c => a.srtOk Γ F .l && b.srtOk Γ F .r && c.srtOk Γ F .r
  | _, .se A i j x => A.srtOk Γ F .l && i.srtOk Γ F .i && j.srtOk Γ F .i && x.srtOk Γ F .i
  | s, .fn1 f a => decide ((F.s1 f).1 = s) && a.srtOk Γ F (F.s1 f).2
  | s, .fn2 f a b => decide ((F.s2 f).1 = s) && a.srtOk Γ F (F.s2 f).2.1 && b.srtOk Γ F (F.s2 f).2.2
  | s, .fn3 f a b c => decide ((F.s3 f).1 = s) && a.srtOk Γ F (F.s3 f).2.1 && b.srtOk Γ F (F.s3 f).2.2.1 && c.srtOk Γ F (F.s3 f).2.2.2
  | s, .fn4 f a b c d => decide ((F.s4 f).1 = s) && a.srtOk Γ F (F.s4 f).2.1 && b.srtOk Γ F (F.s4 f).2.2.1 && c.srtOk Γ F (F.s4 f).2.2.2.1 && d.srtOk Γ F (F.s4 f).2.2.2.2

theorem Srt.eqv_trans {s : Srt} {u v w : U} (h : s.eqv u v) (h' : s.eqv v w) : s.eqv u w := by cases s <;> exact Eq.trans h h'
theorem Srt.eqv_symm {s : Srt} {u v : U} (h : s.eqv u v) : s.eqv v u := by cases s <;> exact Eq.symm h

theorem E.den_norm {I : Itp} {F : FnS} (hF : I.Resp F) (Γ : List Srt) (ρ : List U) : ∀ (e : E) (s : Srt), e.srtOk Γ F s = true → s.eqv (e.den I ρ) (e.den I (normU Γ ρ)) := by
  intro e
  induction e with
  | lit n => intro s _; cases s <;> rfl
  | bl b => intro s _; cases s <;> rfl
  | nil => intro s _; cases s <;> rfl
  | var i =>
    intro s h
    simp only [E.srtOk, decide_eq_true_eq] at h
    simp only [E.den, normU_get, h]
    exact Srt.eqv_symm (only_eqv s _)
  | un o a ih =>
    intro s h
    have := ih _ h
    cases o <;> simp only [UnO.srt, Srt.eqv] at this <;> simp only [E.den, UnO.den, this] <;> exact s.eqv_refl _
  | bi o a b iha ihb =>
    intro s h
    simp only [E.srtOk, Bool.and_eq_true] at h
    have ha := iha _ h.1
    have hb := ihb _ h.2
    cases o <;> simp only [BiO.srt, Srt.eqv] at ha hb <;> simp only [E.den, BiO.den, ha, hb] <;> exact s.eqv_refl _
  | te o a b c iha ihb ihc =>
    intro s h
    cases o with
    | ite =>
      simp only [E.srtOk, Bool.and_eq_true] at h
      have ha := iha _ h.1.1
      have hb := ihb _ h.1.2
      have hc := ihc _ h.2
      simp only [Srt.eqv] at ha
      simp only [E.den, TeO.den, ha]
      split
      · exact hb
      · exact hc
    | get =>
      simp only [E.srtOk, Bool.and_eq_true] at h
      have ha := iha _ h.1.1
      have hb := ihb _ h.1.2
      have hc := ihc _ h.2
      simp only [Srt.eqv] at ha hb hc
      simp only [E.den, TeO.den, ha, hb, hc]
      exact s.eqv_refl _
    | elems =>
      simp only [E.srtOk, Bool.and_eq_true] at h
      have ha := iha _ h.1.1
      have hb := ihb _ h.1.2
      have hc := ihc _ h.2
      simp only [Srt.eqv] at ha hb hc
      simp only [E.den, TeO.den, ha, hb, hc]
      exact s.eqv_refl _
    | ent =>
      simp only [E.srtOk, Bool.and_eq_true] at h
      have ha := iha _ h.1.1
      have hb := ihb _ h.1.2
      have hc := ihc _ h.2
      simp only [Srt.eqv] at ha hb hc
      simp only [E.den, TeO.den, ha, hb, hc]
      exact s.eqv_refl _
    | put =>
      simp only [E.srtOk, Bool.and_eq_true] at h
      have ha := iha _ h.1.1
      have hb := ihb _ h.1.2
      have hc := ihc _ h.2
      simp only [Srt.eqv] at ha hb hc
      simp only [E.den, TeO.den, ha, hb, hc]
      exact s.eqv_refl _
  | se A i j x ihA ihi ihj ihx =>
    intro s h
    simp only [E.srtOk, Bool.and_eq_true] at h
    have hA := ihA _ h.1.1.1
    have hi := ihi _ h.1.1.2
    have hj := ihj _ h.1.2
    have hx := ihx _ h.2
    simp only [Srt.eqv] at hA hi hj hx
    simp only [E.den, hA, hi, hj, hx]
    exact s.eqv_refl _
  | fn1 f a iha =>
    intro s h
    simp only [E.srtOk, Bool.and_eq_true, decide_eq_true_eq] at h
    obtain ⟨rfl, h1⟩ := h
    simp only [E.den]
    refine Srt.eqv_trans (hF.r1 f _) ?_
    rw [only_of_eqv (iha _ h1)]
    exact Srt.eqv_symm (hF.r1 f _)
  | fn2 f a b iha ihb =>
    intro s h
    simp only [E.srtOk, Bool.and_eq_true, decide_eq_true_eq] at h
    obtain ⟨⟨rfl, h1⟩, h2⟩ := h
    simp only [E.den]
    refine Srt.eqv_trans (hF.r2 f _ _) ?_
    rw [only_of_eqv (iha _ h1), only_of_eqv (ihb _ h2)]
    exact Srt.eqv_symm (hF.r2 f _ _)
  | fn3 f a b c iha ihb ihc =>
    intro s h
    simp only [E.srtOk, Bool.and_eq_true, decide_eq_true_eq] at h
    obtain ⟨⟨⟨rfl, h1⟩, h2⟩, h3⟩ := h
    simp only [E.den]
    refine Srt.eqv_trans (hF.r3 f _ _ _) ?_
    rw [only_of_eqv (iha _ h1), only_of_eqv (ihb _ h2), only_of_eqv (ihc _ h3)]
    exact Srt.eqv_symm (hF.r3 f _ _ _)
  | fn4 f a b c d iha ihb ihc ihd =>
    intro s h
    simp only [E.srtOk, Bool.and_eq_true, decide_eq_true_eq] at h
    obtain ⟨⟨⟨⟨rfl, h1⟩, h2⟩, h3⟩, h4⟩ := h
    simp only [E.den]
    refine Srt.eqv_trans (hF.r4 f _ _ _ _) ?_
    rw [only_of_eqv (iha _ h1), only_of_eqv (ihb _ h2), only_of_eqv (ihc _ h3), only_of_eqv (ihd _ h4)]
    exact Srt.eqv_symm (hF.r4 f _ _ _ _)

mutual
def V.srtOk (Γ : List Srt) (F : FnS) : V → Bool
  | .int _ e => e.srtOk Γ F .i
  | .bool e => e.srtOk Γ F .b
  | .ptr _ r c => r.srtOk Γ F .i && c.srtOk Γ F .i
  | .slice _ _ o n cap => o.srtOk Γ F .i && n.srtOk Γ F .i && (match cap with | some c => c.srtOk Γ F .i | none => true)
  | .func _ cs => V.srtOkL Γ F cs
  | .agg cs => V.srtOkL Γ F cs
  | .tup cs => V.srtOkL Γ F cs
  | _ => true
def V.srtOkL (Γ : List Srt) (F : FnS) : List V → Bool
  | [] => true
  | v :: vs => v.srtOk Γ F && V.srtOkL Γ F vs
end

def O.srtOk (Γ : List Srt) (F : FnS) : O → Bool
  | .cells _ cs => V.srtOkL Γ F cs
  | .rows _ _ A => A.srtOk Γ F .l
  | .dead => true
  | .free => true
  | _ => false

section
variable {P : Program} {I : Itp} {F : FnS} {ρ : List U} {η : Env} {Γ : List Srt}

theorem den_i (hF : I.Resp F) {e : E} (h : e.srtOk Γ F .i = true) : (e.den I (normU Γ ρ)).i = (e.den I ρ).i := (E.den_norm hF Γ ρ e .i h).symm
theorem den_b (hF : I.Resp F) {e : E} (h : e.srtOk Γ F .b = true) : (e.den I (normU Γ ρ)).b = (e.den I ρ).b := (E.den_norm hF Γ ρ e .b h).symm
theorem den_l (hF : I.Resp F) {e : E} (h : e.srtOk Γ F .l = true) : (e.den I (normU Γ ρ)).l = (e.den I ρ).l := (E.den_norm hF Γ ρ e .l h).symm

mutual
theorem V.den_norm (hF : I.Resp F) : ∀ (v : V) (x : Value), v.srtOk Γ F = true → (V.den I (normU Γ ρ) η v x ↔ V.den I ρ η v x)
  | .int k e, x, h => by simp only [V.srtOk] at h; simp only [V.den, den_i hF h]
  | .bool e, x, h => by simp only [V.srtOk] at h; simp only [V.den, den_b hF h]
  | .ptr q r c, x, h => by simp only [V.srtOk, Bool.and_eq_true] at h; simp only [V.den, den_i hF h.1, den_i hF h.2]
  | .slice q w o n cap, x, h => by
    simp only [V.srtOk, Bool.and_eq_true] at h
    have hc : ∀ (g : Int → Prop), (∀ e, cap = some e → g (e.den I (normU Γ ρ)).i) ↔ (∀ e, cap = some e → g (e.den I ρ).i) := by
      intro g
      cases cap with
      | none => simp
      | some c =>
        have := den_i (ρ := ρ) hF h.2
        constructor <;> intro hh e he <;> cases he <;> have := hh c rfl <;> simp_all
    simp only [V.den, den_i hF h.1.1, den_i hF h.1.2]
    have h0 := hc (fun z => z = 0)
    simp only [h0]
    have hC := fun C : Nat => hc (fun z => z = (C : Int))
    simp only [hC]
  | .func f cs, x, h => by
    simp only [V.srtOk] at h
    simp only [V.den]
    constructor <;> rintro ⟨xs, hx, hd⟩
    · exact ⟨xs, hx, (V.denL_norm hF cs _ h).1 hd⟩
    · exact ⟨xs, hx, (V.denL_norm hF cs _ h).2 hd⟩
  | .agg cs, x, h => by
    simp only [V.srtOk] at h
    simp only [V.den]
    constructor <;> rintro ⟨xs, hx, hd⟩
    · exact ⟨xs, hx, (V.denL_norm hF cs _ h).1 hd⟩
    · exact ⟨xs, hx, (V.denL_norm hF cs _ h).2 hd⟩
  | .tup cs, x, h => by
    simp only [V.srtOk] at h
    simp only [V.den]
    constructor <;> rintro ⟨xs, hx, hd⟩
    · exact ⟨xs, hx, (V.denL_norm hF cs _ h).1 hd⟩
    · exact ⟨xs, hx, (V.denL_norm hF cs _ h).2 hd⟩
  | .junk, x, _ => by simp only [V.den]
  | .nilp, x, _ => by simp only [V.den]
  | .nils, x, _ => by simp only [V.den]
  | .nilf, x, _ => by simp only [V.den]
  | .nilm, x, _ => by simp only [V.den]
  | .yld _, x, _ => by simp only [V.den]
  | .map _, x, _ => by simp only [V.den]
theorem V.denL_norm (hF : I.Resp F) : ∀ (vs : List V) (xs : List Value), V.srtOkL Γ F vs = true → (V.denL I (normU Γ ρ) η vs xs ↔ V.denL I ρ η vs xs)
  | [], xs, _ => by simp only [V.denL]
  | v :: vs, xs, h => by
    simp only [V.srtOkL, Bool.and_eq_true] at h
    simp only [V.denL]
    constructor <;> rintro ⟨y, ys, hx, hd, hds⟩
    · exact ⟨y, ys, hx, (V.den_norm hF v _ h.1).1 hd, (V.denL_norm hF vs _ h.2).1 hds⟩
    · exact ⟨y, ys, hx, (V.den_norm hF v _ h.1).2 hd, (V.denL_norm hF vs _ h.2).2 hds⟩
end

theorem O.den_norm (hF : I.Resp F) {o : O} (h : o.srtOk Γ F = true) (i : Info) (x : Option Obj) : o.den P I (normU Γ ρ) η i x ↔ o.den P I ρ η i x := by
  cases o with
  | free => exact Iff.rfl
  | dead => exact Iff.rfl
  | cells ro cs =>
    simp only [O.srtOk] at h
    simp only [O.den, V.denL_norm hF cs _ h]
  | rows ro ks A =>
    simp only [O.srtOk] at h
    simp only [O.den, den_l hF h]
  | _ => simp [O.srtOk] at h

theorem Mem.norm (hF : I.Resp F) {H : List O} (h : H.all (O.srtOk Γ F) = true) {S : Nat → Prop} {w0 w : World} : Mem P I (normU Γ ρ) η H S w0 w ↔ Mem P I ρ η H S w0 w := by
  have ok : ∀ k o, look H k = some o → o.srtOk Γ F = true := fun k o hk => List.all_eq_true.1 h o (List.mem_of_getElem? (look_some hk).1)
  constructor
  · intro m
    exact ⟨m.free, fun k o hk => by obtain ⟨i, hi, hd⟩ := m.obj k o hk; exact ⟨i, hi, (O.den_norm hF (ok k o hk) _ _).1 hd⟩, m.old, m.own, m.apart, m.keeps⟩
  · intro m
    exact ⟨m.free, fun k o hk => by obtain ⟨i, hi, hd⟩ := m.obj k o hk; exact ⟨i, hi, (O.den_norm hF (ok k o hk) _ _).2 hd⟩, m.old, m.own, m.apart, m.keeps⟩

theorem Holds.norm (hF : I.Resp F) {pc : List E} (h : pc.all (E.srtOk Γ F .b) = true) : Holds I (normU Γ ρ) pc ↔ Holds I ρ pc := by
  constructor
  · intro hh c hc; rw [← den_b hF (List.all_eq_true.1 h c hc)]; exact hh c hc
  · intro hh c hc; rw [den_b hF (List.all_eq_true.1 h c hc)]; exact hh c hc

def outsOk (Γ : List Srt) (F : FnS) : List Srt → List E → Bool
  | [], [] => true
  | s :: Γr, e :: es => e.srtOk Γ F s && outsOk Γ F Γr es
  | _, _ => false

theorem outs_norm (hF : I.Resp F) : ∀ (Γr : List Srt) (es : List E), outsOk Γ F Γr es = true → normU Γr (es.map (E.den I (normU Γ ρ))) = normU Γr (es.map (E.den I ρ))
  | [], _, _ => rfl
  | s :: Γr, [], h => by simp [outsOk] at h
  | s :: Γr, e :: es, h => by
    simp only [outsOk, Bool.and_eq_true] at h
    simp only [List.map_cons, normU, List.headD_cons, List.tail_cons]
    rw [outs_norm hF Γr es h.2, only_of_eqv (E.den_norm hF Γ ρ e s h.1)]

/-- Is each variable of a contract of one sort? -/
def Ctr.srtOk (c : Ctr) (F : FnS) (Γ Γr : List Srt) : Bool :=
  V.srtOkL Γ F c.args && c.H.all (O.srtOk Γ F) && c.pre.all (E.srtOk Γ F .b) && outsOk Γ F Γr c.outs && c.res.srtOk Γr F && c.fin.all (O.srtOk Γr F)

end

/-- how wide the rows are that are handed in -/
def Wide (I : Itp) (ρ : List U) (H : List O) : Prop := ∀ o ∈ H, match o with | .rows _ ks A => ∀ r ∈ (A.den I ρ).l, r.length = ks.length | _ => True

/-- A CONTRACT BY RUNNING ITS SUMMARIES at values each of which is of one sort; how wide the rows are is known. What it hands back is looked at by its sorts. -/
theorem Ctr.valid_run {C : Ctx} {I : Itp} {F : FnS} (hF : I.Resp F) (hin : GlIn C.gl C.ng) (hall : ∀ c ∈ C.ctrs, c.Valid C I) {c : Ctr} (hng : C.ng ≤ c.H.length) (hwf : c.wf = true) (hent : (enterFr C.P c.fn c.args).isSome = true) {tms : List Tm} (ht0 : tms[0]? = some (entryTm C.P c)) {fuel : Nat} {sums : List ST}
    (hsum : tms.map (summaryF C fuel c.H.length tms c.rt) = sums) (Γ Γr : List Srt) (hs : c.srtOk F Γ Γr = true)
    (hgo : ∀ ρ0 : List U, ρ0 = normU Γ ρ0 → Holds I ρ0 c.pre → Wide I ρ0 c.H → ∃ out, Runs I (tms.map Tm.pre) sums 0 ρ0 out ∧ normU Γr out = normU Γr (c.outs.map (E.den I ρ0))) : c.Valid C I := by
  simp only [Ctr.srtOk, Bool.and_eq_true] at hs
  obtain ⟨⟨⟨⟨⟨s1, s2⟩, s3⟩, s4⟩, s5⟩, s6⟩ := hs
  rw [summaryF_eq] at hsum
  have hC := ctrs_ok hin hall
  have hD := draw_ok hC
  obtain ⟨fr, hfr⟩ := Option.isSome_iff_exists.1 hent
  have hin' : GlIn C.gl c.H.length := fun g h hg => Nat.lt_of_lt_of_le (hin g h hg) hng
  have hhas : ∃ g b, C.P.funcs[c.fn]? = some g ∧ g.body = some b ∧ (g.name == "runtime.NumGoroutine") = false := by
    unfold enterFr at hfr
    split at hfr
    · rename_i g hg
      split at hfr
      · rename_i b hb
        split at hfr
        · simp at hfr
        · rename_i hn; exact ⟨g, b, hg, hb, by simpa using hn⟩
      · simp at hfr
    · simp at hfr
  refine ⟨hhas, hwf, ?_⟩
  intro ρ η w vs hpre hg hm ha cs
  have hnn : normU Γ ρ = normU Γ (normU Γ ρ) := by
    have : ∀ (Γ : List Srt) (ρ : List U), normU Γ ρ = normU Γ (normU Γ ρ) := by
      intro Γ
      induction Γ with
      | nil => intro ρ; rfl
      | cons s Γ ih =>
        intro ρ
        simp only [normU, List.headD_cons, List.tail_cons]
        rw [← ih ρ.tail]
        congr 1
        cases s <;> rfl
    exact this Γ ρ
  have hm0 := (Mem.norm (ρ := ρ) hF s2).2 hm
  have hwide : Wide I (normU Γ ρ) c.H := by
    intro o ho
    obtain ⟨h, hh⟩ := List.getElem?_of_mem ho
    cases o with
    | rows ro ks A =>
      obtain ⟨i, hi, hd⟩ := hm0.obj h _ (look_of hh (by intro e; cases e))
      exact hd.2.2.1
    | _ => trivial
  obtain ⟨out, hrun, hout⟩ := hgo (normU Γ ρ) hnn ((Holds.norm hF s3).2 hpre) hwide
  obtain ⟨h1, h2, _⟩ := enter_ok (P := C.P) (I := I) (ρ := normU Γ ρ) hfr ((V.denL_norm hF _ _ s1).2 ha)
  obtain ⟨α, lt, Inv, μ, hwf', hI0, hpre', hstep⟩ := TSys_of_goes hrun
  have htm : (entryTm C.P c).st = ⟨fr, [], c.H⟩ := by simp [entryTm, hfr]
  have hG : Gx C I (normU Γ ρ) c.H.length η (ownS c.H η) w cs c.fn (lone (Frame.enter C.P c.fn vs .normal) cs w) (entryTm C.P c).st := by
    rw [htm]
    exact ⟨η, _, [], w, Same.refl _ _, Steps.refl _ _, ⟨h1, rfl, hm0, hg⟩, h2⟩
  obtain ⟨ρf, hfin, η', fr', x, w', hS, hs', hb, hlv, hv, hm'⟩ := run_ok hC hD hin' hsum hwf' Inv μ _ hpre' hstep (μ 0 (normU Γ ρ)) 0 _ (normU Γ ρ) η _ rfl ht0 hI0 hG
  subst hfin
  have e : normU Γr ρf = normU Γr (c.outs.map (E.den I ρ)) := hout.trans (outs_norm hF Γr c.outs s4)
  refine ⟨x, w', η', ⟨fr', hs', hb, hlv⟩, hS, ?_, ?_⟩
  · have := (V.den_norm hF (ρ := ρf) (Γ := Γr) c.res x s5).2 hv
    rw [e] at this
    exact (V.den_norm hF c.res x s5).1 this
  · have := (Mem.norm hF (ρ := ρf) (Γ := Γr) s6).2 hm'
    rw [e] at this
    exact (Mem.norm hF s6).1 this

end Go.Sx

/- The symbolic executor, part Zj: contracts turned: a part of a list is handed in; a law's answer. -/
namespace Go.Sx
open Go

mutual
/-- Is this handle not spoken of? -/
def V.noH (k : Nat) : V → Bool
  | .ptr h _ _ => decide (h ≠ k)
  | .slice h _ _ _ _ => decide (h ≠ k)
  | .func _ cs => V.noHL k cs
  | .yld h => decide (h ≠ k)
  | .map h => decide (h ≠ k)
  | .agg cs => V.noHL k cs
  | .tup cs => V.noHL k cs
  | _ => true
def V.noHL (k : Nat) : List V → Bool
  | [] => true
  | v :: vs => v.noH k && V.noHL k vs
end

section
variable {I : Itp} {ρ : List U} {η η' : Env} {k : Nat}

mutual
theorem V.den_noH (he : ∀ h, h ≠ k → η h = η' h) : ∀ (v : V) (x : Value), v.noH k = true → V.den I ρ η v x → V.den I ρ η' v x
  | .junk, _, _, _ => by simp [V.den]
  | .int _ _, _, _, h => by simpa only [V.den] using h
  | .bool _, _, _, h => by simpa only [V.den] using h
  | .ptr h r c, x, hn, hd => by simp only [V.noH, decide_eq_true_eq] at hn; simp only [V.den] at hd ⊢; rwa [← he h hn]
  | .nilp, _, _, h => by simpa only [V.den] using h
  | .slice h w o n cap, x, hn, hd => by simp only [V.noH, decide_eq_true_eq] at hn; simp only [V.den] at hd ⊢; rwa [← he h hn]
  | .nils, _, _, h => by simpa only [V.den] using h
  | .func f cs, x, hn, hd => by
    simp only [V.noH] at hn
    simp only [V.den] at hd ⊢
    obtain ⟨xs, hx, hr⟩ := hd
    exact ⟨xs, hx, V.denL_noH he cs _ hn hr⟩
  | .nilf, _, _, h => by simpa only [V.den] using h
  | .yld h, x, hn, hd => by simp only [V.noH, decide_eq_true_eq] at hn; simp only [V.den] at hd ⊢; rwa [← he h hn]
  | .map h, x, hn, hd => by simp only [V.noH, decide_eq_true_eq] at hn; simp only [V.den] at hd ⊢; rwa [← he h hn]
  | .nilm, _, _, h => by simpa only [V.den] using h
  | .agg cs, x, hn, hd => by
    simp only [V.noH] at hn
    simp only [V.den] at hd ⊢
    obtain ⟨xs, hx, hr⟩ := hd
    exact ⟨xs, hx, V.denL_noH he cs _ hn hr⟩
  | .tup cs, x, hn, hd => by
    simp only [V.noH] at hn
    simp only [V.den] at hd ⊢
    obtain ⟨xs, hx, hr⟩ := hd
    exact ⟨xs, hx, V.denL_noH he cs _ hn hr⟩
theorem V.denL_noH (he : ∀ h, h ≠ k → η h = η' h) : ∀ (vs : List V) (xs : List Value), V.noHL k vs = true → V.denL I ρ η vs xs → V.denL I ρ η' vs xs
  | [], _, _, h => by simpa only [V.denL] using h
  | v :: vs, xs, hn, h => by
    simp only [V.noHL, Bool.and_eq_true] at hn
    simp only [V.denL] at h ⊢
    obtain ⟨y, ys, hx, hy, hys⟩ := h
    exact ⟨y, ys, hx, V.den_noH he v y hn.1 hy, V.denL_noH he vs ys hn.2 hys⟩
end

def O.noH (k : Nat) : O → Bool
  | .cells _ cs => V.noHL k cs
  | .rows _ _ _ => true
  | .dead => true
  | .free => true
  | _ => false
theorem O.den_noH {P : Program} (he : ∀ h, h ≠ k → η h = η' h) {i : Info} {o : O} {x : Option Obj} (hn : o.noH k = true) (h : o.den P I ρ η i x) : o.den P I ρ η' i x := by
  cases o with
  | free => exact h
  | dead => exact h
  | cells ro cs =>
    obtain ⟨hb, c, ty, fz, hx, h1, h2, h3, h4⟩ := h
    exact ⟨hb, c, ty, fz, hx, h1, h2, h3, V.denL_noH he _ _ hn h4⟩
  | rows ro ks A => exact h
  | _ => simp [O.noH] at hn

/-! ### a part of a list -/
mutual
/-- the argument as it is when a part of the list k is handed in: from a on, n rows -/
def V.winV (θ : List E) (k w v : Nat) (a n : E) : V → Option V
  | .int q e => some (.int q (e.subst θ))
  | .bool e => some (.bool (e.subst θ))
  | .slice h w' o m none => if h = k then (if decide (o = .lit 0) && decide (m = .un .len (.var v)) && decide (w' = w) then some (.slice h w' a n none) else none) else some (.slice h w' (o.subst θ) (m.subst θ) none)
  | .agg cs => (V.winL θ k w v a n cs).map .agg
  | .nils => some .nils
  | _ => none
def V.winL (θ : List E) (k w v : Nat) (a n : E) : List V → Option (List V)
  | [] => some []
  | x :: xs => match x.winV θ k w v a n, V.winL θ k w v a n xs with
    | some y, some ys => some (y :: ys)
    | _, _ => none
end
def winTh (nv v : Nat) : List E := (List.range nv).map fun j => if j = v then .bi .take (.bi .drop (.var v) (.var nv)) (.var (nv + 1)) else .var j
def winO (θ : List E) (k : Nat) (h : Nat) (o : O) : O := if h = k then o else match o with | .rows ro ks A => .rows ro ks (A.subst θ) | o => o
def Ctr.win (c : Ctr) (k w v : Nat) : Ctr :=
  { c with nv := c.nv + 2, args := (V.winL (winTh c.nv v) k w v (.var c.nv) (.var (c.nv + 1)) c.args).getD [], H := c.H.mapIdx (winO (winTh c.nv v) k),
           pre := [.bi .le (.lit 0) (.var c.nv), .bi .le (.lit 0) (.var (c.nv + 1)), .bi .le (.bi .add (.var c.nv) (.var (c.nv + 1))) (.un .len (.var v))] ++ c.pre.map (E.subst (winTh c.nv v)),
           outs := c.outs.map (E.subst (winTh c.nv v)) }
def O.isRows : O → Bool
  | .rows true _ _ => true
  | _ => false
def Ctr.winOk (c : Ctr) (k w v : Nat) : Bool :=
  (V.winL (winTh c.nv v) k w v (.var c.nv) (.var (c.nv + 1)) c.args).isSome && c.H.all O.isRows && (match c.H[k]? with | some (.rows true ks A) => decide (ks.length = w) && decide (A = .var v) | _ => false) && decide (v < c.nv) &&
    c.res.noH k && c.new.all (O.noH k) && decide (c.post.length = c.H.length)

variable {a n : Nat}
def winI (i : Info) (a w : Nat) : Info := { i with bs := i.bs + a * w, sz := i.sz - a * w }

mutual
theorem V.win_den {θ : List E} {w v : Nat} {ea en : E} {i : Info} (hi : η k = some i) (hη : η' = fun h => if h = k then some (winI i (ea.den I ρ).i.toNat w) else η h) (hlen : (en.den I ρ).i = ((E.var v).den I (θ.map (E.den I ρ))).l.length) :
    ∀ (x x' : V) (y : Value), x.winV θ k w v ea en = some x' → V.den I ρ η x' y → V.den I (θ.map (E.den I ρ)) η' x y
  | .int q e, x', y, hx, h => by
    simp only [V.winV, Option.some.injEq] at hx; subst hx
    simpa only [V.den, E.den_subst] using h
  | .bool e, x', y, hx, h => by
    simp only [V.winV, Option.some.injEq] at hx; subst hx
    simpa only [V.den, E.den_subst] using h
  | .slice h w' o m none, x', y, hx, hd => by
    simp only [V.winV] at hx
    split at hx
    · rename_i hk
      subst hk
      split at hx
      · rename_i hc
        simp only [Bool.and_eq_true, decide_eq_true_eq] at hc
        obtain ⟨⟨rfl, rfl⟩, rfl⟩ := hc
        simp only [Option.some.injEq] at hx; subst hx
        simp only [V.den] at hd ⊢
        obtain ⟨j, hj, ho, hn, hd⟩ := hd
        rw [hi] at hj; simp only [Option.some.injEq] at hj; subst hj
        have hl : ((E.un .len (.var v)).den I (θ.map (E.den I ρ))).i = (en.den I ρ).i := hlen.symm
        rw [hl]
        refine ⟨winI i (ea.den I ρ).i.toNat w', by rw [hη]; simp, by simp [E.den], hn, ?_⟩
        have h0 : ((E.lit 0).den I (θ.map (E.den I ρ))).i = 0 := rfl
        rw [h0]
        rcases hd with ⟨hx, hs, ha0, hn0, _⟩ | ⟨C, f, h1, h2, h3, _, h5⟩
        · exact .inl ⟨hx, by simp [winI, hs], rfl, hn0, fun e he => (by cases he)⟩
        · refine .inr ⟨C, f, fun hC => ?_, h2, ?_, fun e he => (by cases he), h5⟩
          · rw [h1 hC]; simp [winI]
          · rw [Nat.add_mul] at h3
            simp only [winI, Int.toNat_zero, Nat.zero_add]
            omega
      · cases hx
    · rename_i hk
      simp only [Option.some.injEq] at hx; subst hx
      simp only [V.den, E.den_subst] at hd ⊢
      rw [hη]
      simp only [if_neg hk]
      obtain ⟨j, hj, ho, hn, hd⟩ := hd
      refine ⟨j, hj, ho, hn, ?_⟩
      rcases hd with ⟨hx, hs, ha0, hn0, _⟩ | ⟨C, f, h1, h2, h3, _, h5⟩
      · exact .inl ⟨hx, hs, ha0, hn0, fun e he => (by cases he)⟩
      · exact .inr ⟨C, f, h1, h2, h3, fun e he => (by cases he), h5⟩
  | .agg cs, x', y, hx, hd => by
    simp only [V.winV, Option.map_eq_some_iff] at hx
    obtain ⟨cs', hcs, rfl⟩ := hx
    simp only [V.den] at hd ⊢
    obtain ⟨xs, h1, h2⟩ := hd
    exact ⟨xs, h1, V.winL_den hi hη hlen _ _ _ hcs h2⟩
  | .junk, _, _, hx, _ => by simp [V.winV] at hx
  | .ptr _ _ _, _, _, hx, _ => by simp [V.winV] at hx
  | .nilp, _, _, hx, _ => by simp [V.winV] at hx
  | .slice _ _ _ _ (some _), _, _, hx, _ => by simp [V.winV] at hx
  | .nils, x', y, hx, h => by
    simp only [V.winV, Option.some.injEq] at hx; subst hx
    simpa only [V.den] using h
  | .func _ _, _, _, hx, _ => by simp [V.winV] at hx
  | .nilf, _, _, hx, _ => by simp [V.winV] at hx
  | .yld _, _, _, hx, _ => by simp [V.winV] at hx
  | .map _, _, _, hx, _ => by simp [V.winV] at hx
  | .nilm, _, _, hx, _ => by simp [V.winV] at hx
  | .tup _, _, _, hx, _ => by simp [V.winV] at hx
theorem V.winL_den {θ : List E} {w v : Nat} {ea en : E} {i : Info} (hi : η k = some i) (hη : η' = fun h => if h = k then some (winI i (ea.den I ρ).i.toNat w) else η h) (hlen : (en.den I ρ).i = ((E.var v).den I (θ.map (E.den I ρ))).l.length) :
    ∀ (xs xs' : List V) (ys : List Value), V.winL θ k w v ea en xs = some xs' → V.denL I ρ η xs' ys → V.denL I (θ.map (E.den I ρ)) η' xs ys
  | [], xs', ys, hx, h => by
    simp only [V.winL, Option.some.injEq] at hx; subst hx
    simpa only [V.denL] using h
  | x :: xs, xs', ys, hx, h => by
    simp only [V.winL] at hx
    split at hx
    · rename_i y' ys' h1 h2
      simp only [Option.some.injEq] at hx; subst hx
      simp only [V.denL] at h ⊢
      obtain ⟨z, zs, hz, hd, hds⟩ := h
      exact ⟨z, zs, hz, V.win_den hi hη hlen x _ z h1 hd, V.winL_den hi hη hlen xs _ zs h2 hds⟩
    · cases hx
end

/-- A CONTRACT'S LIST MAY BE A PART OF A LIST. -/
theorem Ctr.Valid.win {C : Ctx} {c : Ctr} (hv : c.Valid C I) (k w v : Nat) (hok : c.winOk k w v = true) (hwf : (c.win k w v).wf = true) (hgl : C.gl.all (fun p => decide (p.2 ≠ k)) = true) : (c.win k w v).Valid C I := by
  refine ⟨hv.has, hwf, ?_⟩
  intro ρ η W vs hpre hg hm ha cs
  simp only [Ctr.winOk, Bool.and_eq_true, decide_eq_true_eq] at hok
  obtain ⟨⟨⟨⟨⟨⟨o1, o2⟩, o3⟩, o4⟩, o5⟩, o6⟩, o7⟩ := hok
  obtain ⟨args', hargs⟩ := Option.isSome_iff_exists.1 o1
  generalize hθ : winTh c.nv v = θ at *
  have hthv : θ[v]? = some (.bi .take (.bi .drop (.var v) (.var c.nv)) (.var (c.nv + 1))) := by rw [← hθ]; simp [winTh, o4]
  obtain ⟨ks, hk, hks⟩ : ∃ ks, c.H[k]? = some (.rows true ks (.var v)) ∧ ks.length = w := by
    split at o3
    · rename_i ks A hA
      simp only [Bool.and_eq_true, decide_eq_true_eq] at o3
      exact ⟨ks, by rw [hA, o3.2], o3.1⟩
    · cases o3
  have hkl : k < c.H.length := (List.getElem?_eq_some_iff.1 hk).1
  -- what is known
  have hpa : 0 ≤ (ρ.getD c.nv {}).i ∧ 0 ≤ (ρ.getD (c.nv + 1) {}).i ∧ (ρ.getD c.nv {}).i + (ρ.getD (c.nv + 1) {}).i ≤ ((ρ.getD v {}).l.length : Int) ∧ Holds I ρ (c.pre.map (E.subst θ)) := by
    have := hpre
    simp only [Ctr.win, hθ, List.cons_append, List.nil_append, holds_cons_iff, E.den, BiO.den, UnO.den] at this
    exact ⟨of_decide_eq_true this.1, of_decide_eq_true this.2.1, of_decide_eq_true this.2.2.1, this.2.2.2⟩
  obtain ⟨p1, p2, p3, p4⟩ := hpa
  have hpre1 : Holds I (θ.map (E.den I ρ)) c.pre := by
    intro d hd
    have := p4 (d.subst θ) (List.mem_map_of_mem hd)
    rwa [E.den_subst] at this
  have hvar : (E.var v).den I (θ.map (E.den I ρ)) = { l := ((ρ.getD v {}).l.drop (ρ.getD c.nv {}).i.toNat).take (ρ.getD (c.nv + 1) {}).i.toNat } := by
    simp only [E.den, List.getD_eq_getElem?_getD, List.getElem?_map, hthv, Option.map_some, Option.getD_some, BiO.den]
  generalize hA0 : (ρ.getD v {}).l = A at *
  generalize hea : (ρ.getD c.nv {}).i = a at *
  generalize hen : (ρ.getD (c.nv + 1) {}).i = n at *
  have hH' : ∀ h : Nat, (c.win k w v).H[h]? = (c.H[h]?).map (winO θ k h) := by intro h; simp [Ctr.win, hθ, List.getElem?_mapIdx]
  have hlook' : ∀ h, look (c.win k w v).H h = (look c.H h).map (winO θ k h) := by
    intro h
    unfold look
    rw [hH']
    cases hc : c.H[h]? with
    | none => rfl
    | some o =>
      have := List.all_eq_true.1 o2 o (List.mem_of_getElem? hc)
      cases o with
      | rows ro ks A => simp only [Option.map_some, winO]; by_cases hh : h = k <;> simp [hh]
      | _ => simp [O.isRows] at this
  have hro : ∀ h o, look c.H h = some o → o.isRo = true := by
    intro h o ho
    have := List.all_eq_true.1 o2 o (List.mem_of_getElem? (look_some ho).1)
    cases o with
    | rows ro ks A => cases ro <;> simp_all [O.isRows, O.isRo]
    | _ => simp [O.isRows] at this
  have hro' : ∀ h o, look (c.win k w v).H h = some o → o.isRo = true := by
    intro h o ho
    rw [hlook', Option.map_eq_some_iff] at ho
    obtain ⟨q, hq, rfl⟩ := ho
    have := hro h q hq
    cases q with
    | rows ro ks A => simp only [winO]; split <;> exact this
    | cells ro cs => simp only [winO]; split <;> exact this
    | _ => simp [O.isRo] at this
  have hlk : look c.H k = some (.rows true ks (.var v)) := look_of hk (by intro e; cases e)
  have hlk' : look (c.win k w v).H k = some (.rows true ks (.var v)) := by rw [hlook', hlk]; simp [winO]
  obtain ⟨i, hi, hdk⟩ := hm.obj k _ hlk'
  have hS : ∀ b, ¬ ownS (c.win k w v).H η b := by
    rintro b ⟨h, o, j, ho, _, hr, _⟩
    rw [hro' h o ho] at hr; cases hr
  let η1 : Env := fun h => if h = k then some (winI i a.toNat w) else η h
  have hη1 : ∀ h, h ≠ k → η1 h = η h := fun h hh => if_neg hh
  have hη1k : η1 k = some (winI i a.toNat w) := if_pos rfl
  have hS1 : ∀ b, ¬ ownS c.H η1 b := by
    rintro b ⟨h, o, j, ho, _, hr, _⟩
    rw [hro h o ho] at hr; cases hr
  have hden : ∀ h o, look c.H h = some o → ∃ j, η1 h = some j ∧ o.den C.P I (θ.map (E.den I ρ)) η1 j W.heap[j.blk]? ∧ ∃ j0 o0, look (c.win k w v).H h = some o0 ∧ η h = some j0 ∧ j.blk = j0.blk ∧ (o.hasBlk j → o0.hasBlk j0) := by
    intro h o ho
    by_cases hh : h = k
    · subst hh
      rw [hlk] at ho; simp only [Option.some.injEq] at ho; subst ho
      refine ⟨_, hη1k, ?_, i, _, hlk', hi, rfl, fun hb => ?_⟩
      · obtain ⟨d1, d2, d3, d4, d5⟩ := hdk
        have hvl : ((E.var v).den I ρ).l = A := hA0
        rw [hvl] at d3 d5
        refine ⟨d1, d2, ?_, fun e => (by cases e), ?_⟩
        · rw [hvar]
          intro r hr
          exact d3 r (List.mem_of_mem_drop (List.mem_of_mem_take hr))
        · rw [hvar]
          simp only
          have hll : ((A.drop a.toNat).take n.toNat).length = n.toNat := by rw [List.length_take, List.length_drop]; omega
          rcases d5 with ⟨hs, hnil⟩ | ⟨hs, cc, ty, fz, hx, _, hlen, hbs, _, hcells⟩
          · left
            refine ⟨by simp [winI, hs], ?_⟩
            rw [hnil]; simp
          · have hmul : (a.toNat + n.toNat) * ks.length ≤ A.length * ks.length := Nat.mul_le_mul_right _ (by omega)
            rw [Nat.add_mul] at hmul
            by_cases hz : i.sz - a.toNat * w = 0
            · left
              refine ⟨hz, ?_⟩
              rw [← hks] at hz
              have hn0 : n.toNat * ks.length = 0 := by omega
              have : n.toNat = 0 := by
                rcases Nat.mul_eq_zero.1 hn0 with h | h
                · exact h
                · omega
              rw [this]; simp
            · right
              refine ⟨by simp only [winI]; omega, cc, ty, fz, hx, fun e => (by cases e), ?_, ?_, fun e => (by cases e), ?_⟩
              · rw [hll]; simp only [winI]; rw [← hks]; omega
              · simp only [winI]; rw [← hks] at hz ⊢; omega
              · rw [hll, flat_take _ _ (fun r hr => d3 r (List.mem_of_mem_drop hr)), flat_drop _ _ d3, ← hcells]
                simp only [winI]
                rw [← hks, List.drop_take, List.take_take, List.drop_drop, Nat.min_eq_left (by omega)]
      · simp only [O.hasBlk, winI] at hb ⊢; omega
    · have hq : look (c.win k w v).H h = some (winO θ k h o) := by rw [hlook', ho]; rfl
      obtain ⟨j, hj, hd⟩ := hm.obj h _ hq
      refine ⟨j, by rw [hη1 h hh]; exact hj, ?_, j, _, hq, hj, rfl, fun hb => ?_⟩
      · have hall := List.all_eq_true.1 o2 o (List.mem_of_getElem? (look_some ho).1)
        cases o with
        | rows ro ks' A' =>
          simp only [winO, if_neg hh, O.den, E.den_subst] at hd ⊢
          exact hd
        | _ => simp [O.isRows] at hall
      · cases o with
        | rows ro ks' A' => simp only [winO, if_neg hh]; exact hb
        | _ => simp only [winO, if_neg hh]; exact hb
  have hm1 : Mem C.P I (θ.map (E.den I ρ)) η1 c.H (ownS c.H η1) W W := by
    refine ⟨fun h hl => ?_, fun h o ho => ?_, fun h o j ho hj hr hb => ?_, fun h o j ho hj hr _ => ?_, fun h h' o o' j j' _ ho _ _ _ hr _ _ _ => ?_, Keeps.refl _ _⟩
    · have hh : h ≠ k := by rintro rfl; rw [hlk] at hl; cases hl
      rw [hη1 h hh]
      exact hm.free h (by rw [hlook', hl]; rfl)
    · obtain ⟨j, h1, h2, _⟩ := hden h o ho
      exact ⟨j, h1, h2⟩
    · obtain ⟨j', h1, _, j0, o0, h3, h4, h5, h6⟩ := hden h o ho
      rw [hj] at h1; simp only [Option.some.injEq] at h1; subst h1
      have := hm.old h o0 j0 h3 h4 (hro' h o0 h3) (h6 hb)
      rw [h5]
      exact ⟨this.1, hS1 _⟩
    · rw [hro h o ho] at hr; cases hr
    · rw [hro h o ho] at hr; cases hr
  have hg1 : GlOk C.gl η1 := by
    intro g h hgh
    have hne : h ≠ k := by simpa using List.all_eq_true.1 hgl _ hgh
    rw [hη1 h hne]
    exact hg g h hgh
  have ha1 : V.denL I (θ.map (E.den I ρ)) η1 c.args vs.toList := by
    have ha' : V.denL I ρ η args' vs.toList := by
      have : (c.win k w v).args = args' := by simp [Ctr.win, hθ, hargs]
      rw [← this]; exact ha
    refine V.winL_den (ea := .var c.nv) (en := .var (c.nv + 1)) hi ?_ ?_ _ _ _ hargs ha'
    · simp only [E.den, hea]; rfl
    · rw [hvar]
      simp only [E.den, hen, List.length_take, List.length_drop]
      omega
  obtain ⟨x, W', η', r1, r2, r3, r4⟩ := hv.run _ η1 W vs hpre1 hg1 hm1 ha1 cs
  let η2 : Env := fun h => if h = k then η k else η' h
  have hη2 : ∀ h, h ≠ k → η' h = η2 h := fun h hh => (if_neg hh).symm
  have houts : (c.win k w v).outs.map (E.den I ρ) = c.outs.map (E.den I (θ.map (E.den I ρ))) := by
    simp only [Ctr.win, hθ, List.map_map]
    exact List.map_congr_left fun e _ => by simp [E.den_subst]
  have hfin : (c.win k w v).fin = c.fin := by
    unfold Ctr.fin
    congr 1
    apply List.ext_getElem?
    intro h
    simp only [List.getElem?_zipWith, hH']
    cases hc : c.H[h]? with
    | none => rfl
    | some o =>
      have hall := List.all_eq_true.1 o2 o (List.mem_of_getElem? hc)
      cases o with
      | rows ro ks A =>
        simp only [Option.map_some]
        have : (c.win k w v).post = c.post := rfl
        rw [this]
        cases c.post[h]? with
        | none => rfl
        | some p =>
          simp only [winO]
          split <;> cases p <;> rfl
      | _ => simp [O.isRows] at hall
  have hpk : ∃ p, c.post[k]? = some p := ⟨_, List.getElem?_eq_getElem (by omega)⟩
  obtain ⟨p, hp⟩ := hpk
  have hwfO := hv.wf
  simp only [Ctr.wf, Bool.and_eq_true] at hwfO
  obtain ⟨_, hat⟩ := wfO_at hwfO.1
  have hpn : p = none := by
    rcases (hat k _ hk).2 with ⟨q, _, hr, _⟩ | ⟨hq, _⟩
    · cases hr
    · rw [hp] at hq; simpa using hq
  subst hpn
  have hfk : look c.fin k = some .dead := by
    refine look_of ?_ (by intro e; cases e)
    unfold Ctr.fin
    rw [List.getElem?_append_left (by simp; omega), List.getElem?_zipWith, hk, hp]
    rfl
  have hno : ∀ h o, look c.fin h = some o → o.noH k = true := by
    intro h o ho
    have hq := (look_some ho).1
    unfold Ctr.fin at hq
    rw [List.getElem?_append] at hq
    split at hq
    · rw [List.getElem?_zipWith] at hq
      cases hc : c.H[h]? with
      | none => rw [hc] at hq; simp at hq
      | some t =>
        rw [hc] at hq
        cases hpo : c.post[h]? with
        | none => rw [hpo] at hq; simp at hq
        | some p' =>
          rw [hpo] at hq
          simp only [Option.some.injEq] at hq
          rcases (hat h t hc).2 with ⟨q, _, hr, _⟩ | ⟨hq2, _⟩
          · have hall := List.all_eq_true.1 o2 t (List.mem_of_getElem? hc)
            cases t with
            | rows ro ks A => cases ro <;> simp_all [O.isRows, O.isRo]
            | _ => simp [O.isRows] at hall
          · rw [hpo] at hq2; simp only [Option.some.injEq] at hq2; subst hq2
            cases t <;> simp only [finO] at hq <;> subst hq <;> rfl
    · exact List.all_eq_true.1 o6 o (List.mem_of_getElem? hq)
  refine ⟨x, W', η2, r1, ?_, ?_, ?_⟩
  · intro h hh j hj
    show (if h = k then η k else η' h) = some j
    by_cases hhk : h = k
    · rw [if_pos hhk, ← hhk]; exact hj
    · rw [if_neg hhk]
      refine r2 h (by simpa [Ctr.win] using hh) j ?_
      rw [hη1 h hhk]; exact hj
  · rw [houts]
    exact V.den_noH hη2 _ _ o5 r3
  · rw [houts, hfin]
    refine ⟨fun h hl => ?_, fun h o ho => ?_, fun h o j ho hj hr hb => ?_, fun h o j ho hj hr hb => ?_, fun h h' o o' j j' hne ho ho' hj hj' hr hr' hb hb' => ?_, ?_⟩
    · have hh : h ≠ k := by rintro rfl; rw [hfk] at hl; cases hl
      rw [← hη2 h hh]; exact r4.free h hl
    · by_cases hh : h = k
      · subst hh
        rw [hfk] at ho; simp only [Option.some.injEq] at ho; subst ho
        exact ⟨i, by show (if h = h then η h else η' h) = _; rw [if_pos rfl]; exact hi, trivial⟩
      · obtain ⟨j, h1, h2⟩ := r4.obj h o ho
        exact ⟨j, by rw [← hη2 h hh]; exact h1, O.den_noH hη2 (hno h o ho) h2⟩
    · have hh : h ≠ k := by rintro rfl; rw [hfk] at ho; simp only [Option.some.injEq] at ho; subst ho; exact hb.elim
      rw [← hη2 h hh] at hj
      exact ⟨(r4.old h o j ho hj hr hb).1, hS _⟩
    · have hh : h ≠ k := by rintro rfl; rw [hfk] at ho; simp only [Option.some.injEq] at ho; subst ho; exact hb.elim
      rw [← hη2 h hh] at hj
      rcases r4.own h o j ho hj hr hb with h1 | h1
      · exact (hS1 _ h1).elim
      · exact .inr h1
    · have hh : h ≠ k := by rintro rfl; rw [hfk] at ho; simp only [Option.some.injEq] at ho; subst ho; exact hb.elim
      have hh' : h' ≠ k := by rintro rfl; rw [hfk] at ho'; simp only [Option.some.injEq] at ho'; subst ho'; exact hb'.elim
      rw [← hη2 h hh] at hj
      rw [← hη2 h' hh'] at hj'
      exact r4.apart h h' o o' j j' hne ho ho' hj hj' hr hr' hb hb'
    · have hSS : ownS (c.win k w v).H η = ownS c.H η1 := funext fun b => propext ⟨fun h => (hS b h).elim, fun h => (hS1 b h).elim⟩
      rw [hSS]; exact r4.keeps

/-- A law's contract, when what is returned was shown to be true. -/
theorem Ctr.Valid.said {C : Ctx} {F : FnS} (hF : I.Resp F) {c : Ctr} (hv : c.Valid C I) (ho : c.outs = [.bl true]) (hr : c.res = .bool (.var 0)) (hd : c.fin.all (O.srtOk [] F) = true) : ({ c with outs := [], res := .bool (.bl true) } : Ctr).Valid C I := by
  refine ⟨hv.has, hv.wf, fun ρ η W vs hpre hg hm ha cs => ?_⟩
  obtain ⟨x, W', η', r1, r2, r3, r4⟩ := hv.run ρ η W vs hpre hg hm ha cs
  rw [ho] at r3 r4
  rw [hr] at r3
  refine ⟨x, W', η', r1, r2, ?_, ?_⟩
  · simp only [V.den, E.den] at r3 ⊢
    exact r3
  · exact (Mem.norm (Γ := []) hF hd).2 r4

end
end Go.Sx

/- The symbolic executor, part ZK: slices.Sort at numbers, as a contract: what the library of the kit proves of it becomes one. -/
namespace Go.Sx
open Go Go.Sort Go.Proofs

/-- the first n rows (of one cell), in order -/
def sortPre (A : List (List Int)) (n : Nat) : List (List Int) := (((A.take n).map fun r => r.getD 0 0).mergeSort fun x y => decide (x ≤ y)).map (fun x => [x]) ++ A.drop n

theorem sortPre_0 (A : List (List Int)) : sortPre A 0 = A := by simp [sortPre]
theorem sortPre_length (A : List (List Int)) (n : Nat) : (sortPre A n).length = A.length := by
  simp [sortPre]
  omega
theorem sortPre_one {A : List (List Int)} {n : Nat} (h : ∀ r ∈ A, r.length = 1) : ∀ r ∈ sortPre A n, r.length = 1 := by
  intro r hr
  unfold sortPre at hr
  rcases List.mem_append.1 hr with h1 | h1
  · obtain ⟨x, _, rfl⟩ := List.mem_map.1 h1
    rfl
  · exact h r (List.mem_of_mem_drop h1)

theorem rowVals_ones : ∀ {A : List (List Int)}, (∀ r ∈ A, r.length = 1) → A.flatMap (rowVals [.int .i64]) = A.map fun r => .int .i64 (r.getD 0 0)
  | [], _ => rfl
  | r :: A, h => by
    rw [List.flatMap_cons, List.map_cons, rowVals_ones (fun q hq => h q (by simp [hq]))]
    have := h r (by simp)
    match r, this with
    | [x], _ => rfl

def cSort (f s : Nat) : Ctr := { fn := f, nv := 2, args := [.slice 0 1 (.lit 0) (.var 1) none], H := [.rows false [.int .i64] (.var 0)], pre := [.bi .le (.lit 0) (.var 1), .bi .le (.var 1) (.un .len (.var 0)), .bi .le (.un .len (.var 0)) (.lit 1000000000)], outs := [.fn2 s (.var 0) (.var 1)], res := .tup [], post := [some (.rows false [.int .i64] (.var 0))], new := [] }

theorem cSort_valid {C : Ctx} {I : Itp} {f s : Nat} (hI : ∀ u v : U, I.f2 s u v = { l := sortPre u.l v.i.toNat })
    (has : ∃ g b, C.P.funcs[f]? = some g ∧ g.body = some b ∧ (g.name == "runtime.NumGoroutine") = false)
    (hC : ∀ (blk off cap : Nat) (zs : List Int) (w : World), Go.Sort.Holds (Value.int .i64) w blk off zs.toArray → blk < w.heap.size → zs.length < 4611686018427387904 →
      Calls C.P f #[.slice (some ⟨blk, off, none⟩) zs.length cap] w fun e w' => e = .returned (.tuple #[]) ∧ ∃ n os, w' = grow (Go.Sort.putRow (Value.int .i64) (Sort.ahead w n) blk off (zs.mergeSort fun x y => decide (x ≤ y)).toArray) os)
    (hN : ∀ (p : Option Addr) (cap : Nat) (w : World), Calls C.P f #[.slice p 0 cap] w fun e w' => e = .returned (.tuple #[]) ∧ w' = w) : (cSort f s).Valid C I := by
  refine ⟨has, by rfl, ?_⟩
  intro ρ η w vs hpre hg hm hv cs
  obtain ⟨y, ys, hvs, hy, hys⟩ := hv
  obtain rfl : ys = [] := hys
  have hvs' : vs = #[y] := by apply Array.ext'; rw [hvs]
  subst hvs'
  obtain ⟨i, hi, hden⟩ := hm.obj 0 (.rows false [.int .i64] (.var 0)) rfl
  obtain ⟨i', hi', h0, hn, hcase⟩ := hy
  have hii : i' = i := by rw [hi] at hi'; exact (Option.some.inj hi').symm
  rw [hii] at hcase
  clear hii hi'
  have hp := hpre
  obtain ⟨p1, p2, p3, _⟩ : ((0 : Int) ≤ (ρ.getD 1 {}).i) ∧ ((ρ.getD 1 {}).i ≤ ((ρ.getD 0 {}).l.length : Int)) ∧ (((ρ.getD 0 {}).l.length : Int) ≤ 1000000000) ∧ True := by
    simp only [cSort, holds_cons_iff, E.den, BiO.den, UnO.den] at hp
    exact ⟨of_decide_eq_true hp.1, of_decide_eq_true hp.2.1, of_decide_eq_true hp.2.2.1, trivial⟩
  obtain ⟨A, hA'⟩ : ∃ A, (ρ.getD 0 {}).l = A := ⟨_, rfl⟩
  obtain ⟨n, hn'⟩ : ∃ n : Nat, (ρ.getD 1 {}).i = n := ⟨_, (Int.toNat_of_nonneg p1).symm⟩
  have hA : (E.den I ρ (.var 0)).l = A := hA'
  have hnn : (E.den I ρ (.var 1)).i = n := hn'
  rw [hA', hn'] at p2
  rw [hA'] at p3
  obtain ⟨_, hwd, hlen, hbs, hblk⟩ := hden
  rw [hA] at hlen hblk
  have hone : ∀ r ∈ A, r.length = 1 := hlen
  have hout : (cSort f s).outs.map (E.den I ρ) = [{ l := sortPre A n }] := by
    show [I.f2 s (ρ.getD 0 {}) (ρ.getD 1 {})] = _
    rw [hI, hA', hn']
    rfl
  rw [hout]
  have hfin : (cSort f s).fin = [.rows false [.int .i64] (.var 0)] := rfl
  rw [hfin]
  -- nothing is to be sorted
  have none (p : Option Addr) (cap : Nat) (hy : y = .slice p 0 cap) (hn0 : n = 0) : ∃ x w' η', RetsIn C.P f #[y] w cs x w' ∧ Same 1 η η' ∧ V.den I [{ l := sortPre A n }] η' (.tup []) x ∧ Mem C.P I [{ l := sortPre A n }] η' [.rows false [.int .i64] (.var 0)] (ownS (cSort f s).H η) w w' := by
    obtain ⟨e, w', fr, ⟨he, hw⟩, hc, hf, hl⟩ := hN p cap w cs
    subst he
    subst hw
    subst hy
    refine ⟨_, _, η, ⟨fr, hc, hf, hl⟩, Same.refl _ _, ⟨#[], rfl, rfl⟩, ?_⟩
    subst hn0
    rw [sortPre_0]
    have hh (h : Nat) (o : O) : look [.rows false [.int .i64] (.var 0)] h = some o ↔ look (cSort f s).H h = some o := Iff.rfl
    have hsame (o : O) (h : Nat) (ho : look (cSort f s).H h = some o) (j : Info) (x : Option Obj) : o.den C.P I ρ η j x → o.den C.P I [{ l := A }] η j x := by
      match h with
      | 0 =>
        obtain rfl : _ = o := Option.some.inj ho
        intro hd
        obtain ⟨d1, d2, d3, d4, d5⟩ := hd
        rw [hA] at d3 d5
        exact ⟨d1, d2, d3, d4, d5⟩
      | h + 1 => simp [look, cSort] at ho
    exact ⟨hm.free, fun h o ho => by
      obtain ⟨j, hj, hd⟩ := hm.obj h o ho
      exact ⟨j, hj, hsame o h ho j _ hd⟩, hm.old, hm.own, hm.apart, hm.keeps⟩
  rcases hcase with ⟨hy, _, _, hn0, _⟩ | ⟨cp, off, hoff, hcp, hsz, _, hy⟩
  · exact none _ _ hy (by rw [hnn] at hn0; omega)
  rw [hnn] at hcp hy
  rw [Int.toNat_natCast] at hcp hy
  by_cases hn0 : n = 0
  · subst hn0
    exact none _ _ hy rfl
  have hb0 := hbs rfl
  have hoff' : off = 0 := by
    rw [hoff (by omega), hb0]
    show 0 + (0 : Int).toNat * 1 = 0
    rfl
  subst hoff'
  rcases hblk with ⟨hs0, hAn⟩ | ⟨hpos, c, ty, fz, hx, hfz, hAl, hcs, hcz, hct⟩
  · rw [hAn] at p2; simp at p2; omega
  have hfz' := hfz rfl
  subst hfz'
  rw [hb0, List.drop_zero, List.length_singleton, Nat.mul_one, rowVals_ones hone] at hct
  rw [List.length_singleton, Nat.mul_one] at hAl
  have hcz' := hcz rfl
  obtain ⟨zs, hzs⟩ : ∃ zs : List Int, zs = (A.take n).map fun r => r.getD 0 0 := ⟨_, rfl⟩
  have hzl : zs.length = n := by rw [hzs, List.length_map, List.length_take]; omega
  have hct2 : c.toList.take zs.length = zs.map (Value.int .i64) := by
    rw [hzl, hzs, List.map_map, List.map_take]
    have := congrArg (List.take n) hct
    rw [List.take_take, Nat.min_eq_left (by omega)] at this
    rw [this]
    rfl
  have hlt : i.blk < w.heap.size := (Array.getElem?_eq_some_iff.1 hx).1
  obtain ⟨e, w', fr, ⟨he, k, os, hw⟩, hc, hf, hl⟩ := hC i.blk 0 cp zs w (holds_of_blockI hx hct2) hlt (by rw [hzl]; omega) cs
  subst he
  rw [hzl] at hc
  obtain ⟨ts, hts⟩ : ∃ ts : List Int, ts = zs.mergeSort fun x y => decide (x ≤ y) := ⟨_, rfl⟩
  rw [← hts] at hw
  have htl : ts.length = n := by rw [hts, List.length_mergeSort, hzl]
  subst hy
  refine ⟨_, w', η, ⟨fr, hc, hf, hl⟩, Same.refl _ _, ⟨#[], rfl, rfl⟩, ?_⟩
  have hheap : w'.heap[i.blk]? = some (.cells (putCells (Value.int .i64) 0 ts.toArray c) ty (0, 0)) := by rw [hw]; exact heap_sortedI ts.toArray hx
  have hold (b : Nat) (hb : b < w.heap.size) (hne : b ≠ i.blk) : w'.heap[b]? = w.heap[b]? := by
    rw [hw, heap_grow_old _ _ (by simpa using hb)]
    simp [Go.Sort.putRow, mapBlock, Sort.ahead, Array.getElem?_modify, Ne.symm hne]
  have hSb : ownS (cSort f s).H η i.blk := ⟨0, _, i, rfl, hi, rfl, hpos, rfl⟩
  have hnewA : (putCells (Value.int .i64) 0 ts.toArray c).toList.take (sortPre A n).length = (sortPre A n).map fun r => Value.int .i64 (r.getD 0 0) := by
    rw [sortPre_length]
    have e0 : (sortPre A n).map (fun r => Value.int .i64 (r.getD 0 0)) = ts.map (Value.int .i64) ++ (A.drop n).map fun r => Value.int .i64 (r.getD 0 0) := by
      unfold sortPre
      rw [List.map_append, List.map_map, hts, hzs]
      rfl
    rw [e0]
    apply List.ext_getElem?
    intro j
    by_cases hj : j < A.length
    · rw [List.getElem?_take_of_lt hj, Array.getElem?_toList]
      have hjc : j < c.size := by omega
      have hcj : c[j]? = some (.int .i64 ((A.getD j []).getD 0 0)) := by
        have := congrArg (fun l => l[j]?) hct
        simp only [List.getElem?_take_of_lt hj, Array.getElem?_toList, List.getElem?_map] at this
        rw [this, List.getElem?_eq_getElem hj]
        simp [List.getD, List.getElem?_eq_getElem hj]
      by_cases hjn : j < n
      · rw [List.getElem?_append_left (by rw [List.length_map]; omega)]
        simp [putCells, htl, hjn, hjc]
      · rw [List.getElem?_append_right (by rw [List.length_map]; omega), List.length_map, htl, List.getElem?_map, List.getElem?_drop, show n + (j - n) = j by omega, List.getElem?_eq_getElem hj]
        have : (putCells (Value.int .i64) 0 ts.toArray c)[j]? = c[j]? := by
          rw [Array.getElem?_eq_getElem hjc]
          simp [putCells, htl, hjc, hjn]
        rw [this, hcj]
        simp [List.getD, List.getElem?_eq_getElem hj]
    · rw [List.getElem?_take_eq_none (by omega), List.getElem?_eq_none (by simp; omega)]
  refine ⟨hm.free, ?_, ?_, ?_, ?_, ?_⟩
  · intro h o ho
    match h with
    | 0 =>
      obtain rfl : _ = o := Option.some.inj ho
      refine ⟨i, hi, by decide, hwd, sortPre_one hone, fun _ => hb0, Or.inr ⟨hpos, _, ty, (0, 0), hheap, fun _ => rfl, ?_, ?_, ?_, ?_⟩⟩
      · show (sortPre A n).length * 1 ≤ _
        rw [sortPre_length]; omega
      · simpa [putCells] using hcs
      · intro _; simpa [putCells] using hcz'
      · rw [hb0, List.drop_zero]
        show List.take ((sortPre A n).length * 1) _ = (sortPre A n).flatMap (rowVals [.int .i64])
        rw [Nat.mul_one, rowVals_ones (sortPre_one hone)]
        exact hnewA
    | h + 1 => simp [look] at ho
  · intro h o j ho hj hro
    match h with
    | 0 =>
      obtain rfl : _ = o := Option.some.inj ho
      cases hro
    | h + 1 => simp [look] at ho
  · intro h o j ho hj hro hb
    match h with
    | 0 => exact hm.own 0 _ j rfl hj rfl (by obtain rfl : _ = o := Option.some.inj ho; exact hb)
    | h + 1 => simp [look] at ho
  · intro h h' o o' j j' hne ho ho'
    match h, h' with
    | 0, 0 => exact (hne rfl).elim
    | 0, h' + 1 => simp [look] at ho'
    | h + 1, _ => simp [look] at ho
  · refine ⟨by rw [hw]; rfl, by rw [hw]; rfl, by rw [hw]; rfl, by rw [hw]; simp [grow, Go.Sort.putRow, mapBlock, Sort.ahead], fun b hb hS => hold b hb (fun e => hS (e ▸ hSb))⟩
end Go.Sx

/- The symbolic executor, part Zl: maps that count keys of two numbers. -/
namespace Go.Sx
open Go

/-- how often a key was counted -/
def cntAt (A : List (List Int)) (k : List Int) : Int := (A.getD (findRow A k) []).getD 2 0
def bump (A : List (List Int)) (a b : Int) : List (List Int) := putRow A [a, b] [a, b, IntKind.wrap .i64 (cntAt A [a, b] + 1)]

theorem cntAt_def (A : List (List Int)) (k : List Int) : (A.getD (Int.toNat ((findRow A k : Nat) : Int)) []).getD (Int.toNat 2) 0 = cntAt A k := rfl
theorem cntAt_def' (A : List (List Int)) (k : List Int) : (A.getD (findRow A k) []).getD 2 0 = cntAt A k := rfl
theorem bump_def (A : List (List Int)) (a b : Int) : putRow A [a, b] [a, b, IntKind.wrap .i64 (cntAt A [a, b] + 1)] = bump A a b := rfl

theorem cntAt_cons (x : List Int) (A : List (List Int)) (k : List Int) : cntAt (x :: A) k = if keyIs k x then x.getD 2 0 else cntAt A k := by
  unfold cntAt
  rw [findRow_cons]
  split <;> rfl
theorem keyIs_2 (a b c d : Int) (l : List Int) : keyIs [a, b] (c :: d :: l) = (c == a && d == b) := by
  unfold keyIs
  simp [List.take]
theorem cntAt_put (a b c : Int) (k : List Int) (hk : k.length = 2) : ∀ A : List (List Int), cntAt (putRow A [a, b] [a, b, c]) k = if k = [a, b] then c else cntAt A k
  | [] => by
    match k, hk with
    | [d, e], _ =>
      show cntAt ([[a, b, c]]) [d, e] = _
      rw [cntAt_cons, keyIs_2]
      by_cases h : [d, e] = [a, b]
      · rw [if_pos h]; cases h; simp
      · rw [if_neg h, if_neg]
        simp only [Bool.and_eq_true, beq_iff_eq]
        rintro ⟨rfl, rfl⟩; exact h rfl
  | x :: A => by
    rw [putRow_cons]
    by_cases hx : keyIs [a, b] x = true
    · rw [if_pos hx, cntAt_cons, cntAt_cons]
      match k, hk with
      | [d, e], _ =>
        rw [keyIs_2]
        by_cases h : [d, e] = [a, b]
        · rw [if_pos h]; cases h; simp
        · rw [if_neg h, if_neg, if_neg]
          · intro hx'
            unfold keyIs at hx hx'
            rw [beq_iff_eq] at hx hx'
            exact h (hx'.symm.trans hx)
          · simp only [Bool.and_eq_true, beq_iff_eq]
            rintro ⟨rfl, rfl⟩; exact h rfl
    · rw [if_neg hx, cntAt_cons, cntAt_cons, cntAt_put a b c k hk A]
      split
      · rename_i hkx
        split
        · rename_i h; subst h; exact (hx hkx).elim
        · rfl
      · rfl

/-- the map counts these keys -/
def Cnt (A : List (List Int)) (ks : List (List Int)) : Prop := ∀ k : List Int, k.length = 2 → cntAt A k = (ks.count k : Int)
theorem Cnt.nil : Cnt [] [] := fun _ _ => rfl
theorem Cnt.at {A ks : List (List Int)} (h : Cnt A ks) (a b : Int) : cntAt A [a, b] = (ks.count [a, b] : Int) := h _ rfl
theorem Cnt.bump {A ks : List (List Int)} (h : Cnt A ks) (hn : ks.length ≤ 1000000) (a b : Int) : Cnt (bump A a b) (ks ++ [[a, b]]) := by
  intro k hk
  unfold Sx.bump
  rw [cntAt_put a b _ k hk, List.count_append]
  have hc : ks.count [a, b] ≤ ks.length := List.count_le_length
  by_cases hkk : k = [a, b]
  · subst hkk
    rw [if_pos rfl, h.at, List.count_singleton_self]
    rw [wrap_fit] <;> simp [IntKind.min, IntKind.max, IntKind.signed, IntKind.bits] <;> omega
  · rw [if_neg hkk, h k hk]
    have : List.count k [[a, b]] = 0 := List.count_eq_zero.2 (by simpa using hkk)
    omega
theorem Cnt.fresh {A ks : List (List Int)} (h : Cnt A ks) (hn : ks.length ≤ 1000000) {a b : Int} (hf : [a, b] ∉ ks) : cntAt (Sx.bump A a b) [a, b] = 1 := by
  rw [(h.bump hn a b).at, List.count_append, List.count_singleton_self, List.count_eq_zero.2 hf]; rfl
end Go.Sx

/- The symbolic executor, part ZM: slices.Sort at numbers, as a contract beside one global. -/
namespace Go.Sx
open Go Go.Sort Go.Proofs

def cSortD (f s : Nat) : Ctr := { fn := f, nv := 2, args := [.slice 1 1 (.lit 0) (.var 1) none], H := [.dead, .rows false [.int .i64] (.var 0)], pre := [.bi .le (.lit 0) (.var 1), .bi .le (.var 1) (.un .len (.var 0)), .bi .le (.un .len (.var 0)) (.lit 1000000000)], outs := [.fn2 s (.var 0) (.var 1)], res := .tup [], post := [none, some (.rows false [.int .i64] (.var 0))], new := [] }

theorem cSortD_valid {C : Ctx} {I : Itp} {f s : Nat} (hI : ∀ u v : U, I.f2 s u v = { l := sortPre u.l v.i.toNat })
    (has : ∃ g b, C.P.funcs[f]? = some g ∧ g.body = some b ∧ (g.name == "runtime.NumGoroutine") = false)
    (hC : ∀ (blk off cap : Nat) (zs : List Int) (w : World), Go.Sort.Holds (Value.int .i64) w blk off zs.toArray → blk < w.heap.size → zs.length < 4611686018427387904 →
      Calls C.P f #[.slice (some ⟨blk, off, none⟩) zs.length cap] w fun e w' => e = .returned (.tuple #[]) ∧ ∃ n os, w' = grow (Go.Sort.putRow (Value.int .i64) (Sort.ahead w n) blk off (zs.mergeSort fun x y => decide (x ≤ y)).toArray) os)
    (hN : ∀ (p : Option Addr) (cap : Nat) (w : World), Calls C.P f #[.slice p 0 cap] w fun e w' => e = .returned (.tuple #[]) ∧ w' = w) : (cSortD f s).Valid C I := by
  refine ⟨has, by rfl, ?_⟩
  intro ρ η w vs hpre hg hm hv cs
  obtain ⟨y, ys, hvs, hy, hys⟩ := hv
  obtain rfl : ys = [] := hys
  have hvs' : vs = #[y] := by apply Array.ext'; rw [hvs]
  subst hvs'
  obtain ⟨i, hi, hden⟩ := hm.obj 1 (.rows false [.int .i64] (.var 0)) rfl
  obtain ⟨i', hi', h0, hn, hcase⟩ := hy
  have hii : i' = i := by rw [hi] at hi'; exact (Option.some.inj hi').symm
  rw [hii] at hcase
  clear hii hi'
  have hp := hpre
  obtain ⟨p1, p2, p3, _⟩ : ((0 : Int) ≤ (ρ.getD 1 {}).i) ∧ ((ρ.getD 1 {}).i ≤ ((ρ.getD 0 {}).l.length : Int)) ∧ (((ρ.getD 0 {}).l.length : Int) ≤ 1000000000) ∧ True := by
    simp only [cSortD, holds_cons_iff, E.den, BiO.den, UnO.den] at hp
    exact ⟨of_decide_eq_true hp.1, of_decide_eq_true hp.2.1, of_decide_eq_true hp.2.2.1, trivial⟩
  obtain ⟨A, hA'⟩ : ∃ A, (ρ.getD 0 {}).l = A := ⟨_, rfl⟩
  obtain ⟨n, hn'⟩ : ∃ n : Nat, (ρ.getD 1 {}).i = n := ⟨_, (Int.toNat_of_nonneg p1).symm⟩
  have hA : (E.den I ρ (.var 0)).l = A := hA'
  have hnn : (E.den I ρ (.var 1)).i = n := hn'
  rw [hA', hn'] at p2
  rw [hA'] at p3
  obtain ⟨_, hwd, hlen, hbs, hblk⟩ := hden
  rw [hA] at hlen hblk
  have hone : ∀ r ∈ A, r.length = 1 := hlen
  have hout : (cSortD f s).outs.map (E.den I ρ) = [{ l := sortPre A n }] := by
    show [I.f2 s (ρ.getD 0 {}) (ρ.getD 1 {})] = _
    rw [hI, hA', hn']
    rfl
  rw [hout]
  have hfin : (cSortD f s).fin = [.dead, .rows false [.int .i64] (.var 0)] := rfl
  rw [hfin]
  -- nothing is to be sorted
  have none (p : Option Addr) (cap : Nat) (hy : y = .slice p 0 cap) (hn0 : n = 0) : ∃ x w' η', RetsIn C.P f #[y] w cs x w' ∧ Same 2 η η' ∧ V.den I [{ l := sortPre A n }] η' (.tup []) x ∧ Mem C.P I [{ l := sortPre A n }] η' [.dead, .rows false [.int .i64] (.var 0)] (ownS (cSortD f s).H η) w w' := by
    obtain ⟨e, w', fr, ⟨he, hw⟩, hc, hf, hl⟩ := hN p cap w cs
    subst he
    subst hw
    subst hy
    refine ⟨_, _, η, ⟨fr, hc, hf, hl⟩, Same.refl _ _, ⟨#[], rfl, rfl⟩, ?_⟩
    subst hn0
    rw [sortPre_0]
    have hh (h : Nat) (o : O) : look [.dead, .rows false [.int .i64] (.var 0)] h = some o ↔ look (cSortD f s).H h = some o := Iff.rfl
    have hsame (o : O) (h : Nat) (ho : look (cSortD f s).H h = some o) (j : Info) (x : Option Obj) : o.den C.P I ρ η j x → o.den C.P I [{ l := A }] η j x := by
      match h with
      | 0 =>
        obtain rfl : _ = o := Option.some.inj ho
        exact fun _ => trivial
      | 1 =>
        obtain rfl : _ = o := Option.some.inj ho
        intro hd
        obtain ⟨d1, d2, d3, d4, d5⟩ := hd
        rw [hA] at d3 d5
        exact ⟨d1, d2, d3, d4, d5⟩
      | h + 2 => simp [look, cSortD] at ho
    exact ⟨hm.free, fun h o ho => by
      obtain ⟨j, hj, hd⟩ := hm.obj h o ho
      exact ⟨j, hj, hsame o h ho j _ hd⟩, hm.old, hm.own, hm.apart, hm.keeps⟩
  rcases hcase with ⟨hy, _, _, hn0, _⟩ | ⟨cp, off, hoff, hcp, hsz, _, hy⟩
  · exact none _ _ hy (by rw [hnn] at hn0; omega)
  rw [hnn] at hcp hy
  rw [Int.toNat_natCast] at hcp hy
  by_cases hn0 : n = 0
  · subst hn0
    exact none _ _ hy rfl
  have hb0 := hbs rfl
  have hoff' : off = 0 := by
    rw [hoff (by omega), hb0]
    show 0 + (0 : Int).toNat * 1 = 0
    rfl
  subst hoff'
  rcases hblk with ⟨hs0, hAn⟩ | ⟨hpos, c, ty, fz, hx, hfz, hAl, hcs, hcz, hct⟩
  · rw [hAn] at p2; simp at p2; omega
  have hfz' := hfz rfl
  subst hfz'
  rw [hb0, List.drop_zero, List.length_singleton, Nat.mul_one, rowVals_ones hone] at hct
  rw [List.length_singleton, Nat.mul_one] at hAl
  have hcz' := hcz rfl
  obtain ⟨zs, hzs⟩ : ∃ zs : List Int, zs = (A.take n).map fun r => r.getD 0 0 := ⟨_, rfl⟩
  have hzl : zs.length = n := by rw [hzs, List.length_map, List.length_take]; omega
  have hct2 : c.toList.take zs.length = zs.map (Value.int .i64) := by
    rw [hzl, hzs, List.map_map, List.map_take]
    have := congrArg (List.take n) hct
    rw [List.take_take, Nat.min_eq_left (by omega)] at this
    rw [this]
    rfl
  have hlt : i.blk < w.heap.size := (Array.getElem?_eq_some_iff.1 hx).1
  obtain ⟨e, w', fr, ⟨he, k, os, hw⟩, hc, hf, hl⟩ := hC i.blk 0 cp zs w (holds_of_blockI hx hct2) hlt (by rw [hzl]; omega) cs
  subst he
  rw [hzl] at hc
  obtain ⟨ts, hts⟩ : ∃ ts : List Int, ts = zs.mergeSort fun x y => decide (x ≤ y) := ⟨_, rfl⟩
  rw [← hts] at hw
  have htl : ts.length = n := by rw [hts, List.length_mergeSort, hzl]
  subst hy
  refine ⟨_, w', η, ⟨fr, hc, hf, hl⟩, Same.refl _ _, ⟨#[], rfl, rfl⟩, ?_⟩
  have hheap : w'.heap[i.blk]? = some (.cells (putCells (Value.int .i64) 0 ts.toArray c) ty (0, 0)) := by rw [hw]; exact heap_sortedI ts.toArray hx
  have hold (b : Nat) (hb : b < w.heap.size) (hne : b ≠ i.blk) : w'.heap[b]? = w.heap[b]? := by
    rw [hw, heap_grow_old _ _ (by simpa using hb)]
    simp [Go.Sort.putRow, mapBlock, Sort.ahead, Array.getElem?_modify, Ne.symm hne]
  have hSb : ownS (cSortD f s).H η i.blk := ⟨1, _, i, rfl, hi, rfl, hpos, rfl⟩
  have hnewA : (putCells (Value.int .i64) 0 ts.toArray c).toList.take (sortPre A n).length = (sortPre A n).map fun r => Value.int .i64 (r.getD 0 0) := by
    rw [sortPre_length]
    have e0 : (sortPre A n).map (fun r => Value.int .i64 (r.getD 0 0)) = ts.map (Value.int .i64) ++ (A.drop n).map fun r => Value.int .i64 (r.getD 0 0) := by
      unfold sortPre
      rw [List.map_append, List.map_map, hts, hzs]
      rfl
    rw [e0]
    apply List.ext_getElem?
    intro j
    by_cases hj : j < A.length
    · rw [List.getElem?_take_of_lt hj, Array.getElem?_toList]
      have hjc : j < c.size := by omega
      have hcj : c[j]? = some (.int .i64 ((A.getD j []).getD 0 0)) := by
        have := congrArg (fun l => l[j]?) hct
        simp only [List.getElem?_take_of_lt hj, Array.getElem?_toList, List.getElem?_map] at this
        rw [this, List.getElem?_eq_getElem hj]
        simp [List.getD, List.getElem?_eq_getElem hj]
      by_cases hjn : j < n
      · rw [List.getElem?_append_left (by rw [List.length_map]; omega)]
        simp [putCells, htl, hjn, hjc]
      · rw [List.getElem?_append_right (by rw [List.length_map]; omega), List.length_map, htl, List.getElem?_map, List.getElem?_drop, show n + (j - n) = j by omega, List.getElem?_eq_getElem hj]
        have : (putCells (Value.int .i64) 0 ts.toArray c)[j]? = c[j]? := by
          rw [Array.getElem?_eq_getElem hjc]
          simp [putCells, htl, hjc, hjn]
        rw [this, hcj]
        simp [List.getD, List.getElem?_eq_getElem hj]
    · rw [List.getElem?_take_eq_none (by omega), List.getElem?_eq_none (by simp; omega)]
  refine ⟨hm.free, ?_, ?_, ?_, ?_, ?_⟩
  · intro h o ho
    match h with
    | 0 =>
      obtain rfl : _ = o := Option.some.inj ho
      obtain ⟨j, hj, _⟩ := hm.obj 0 .dead rfl
      exact ⟨j, hj, trivial⟩
    | 1 =>
      obtain rfl : _ = o := Option.some.inj ho
      refine ⟨i, hi, by decide, hwd, sortPre_one hone, fun _ => hb0, Or.inr ⟨hpos, _, ty, (0, 0), hheap, fun _ => rfl, ?_, ?_, ?_, ?_⟩⟩
      · show (sortPre A n).length * 1 ≤ _
        rw [sortPre_length]; omega
      · simpa [putCells] using hcs
      · intro _; simpa [putCells] using hcz'
      · rw [hb0, List.drop_zero]
        show List.take ((sortPre A n).length * 1) _ = (sortPre A n).flatMap (rowVals [.int .i64])
        rw [Nat.mul_one, rowVals_ones (sortPre_one hone)]
        exact hnewA
    | h + 2 => simp [look] at ho
  · intro h o j ho hj hro
    match h with
    | 0 =>
      obtain rfl : _ = o := Option.some.inj ho
      cases hro
    | 1 =>
      obtain rfl : _ = o := Option.some.inj ho
      cases hro
    | h + 2 => simp [look] at ho
  · intro h o j ho hj hro hb
    match h with
    | 0 => exact hm.own 0 _ j rfl hj rfl (by obtain rfl : _ = o := Option.some.inj ho; exact hb)
    | 1 => exact hm.own 1 _ j rfl hj rfl (by obtain rfl : _ = o := Option.some.inj ho; exact hb)
    | h + 2 => simp [look] at ho
  · intro h h' o o' j j' hne ho ho' hj hj' hro hro' hb hb'
    match h, h' with
    | 0, _ => obtain rfl : _ = o := Option.some.inj ho; cases hb
    | _, 0 => obtain rfl : _ = o' := Option.some.inj ho'; cases hb'
    | 1, 1 => exact (hne rfl).elim
    | 1, h' + 2 => simp [look] at ho'
    | h + 2, _ => simp [look] at ho
  · refine ⟨by rw [hw]; rfl, by rw [hw]; rfl, by rw [hw]; rfl, by rw [hw]; simp [grow, Go.Sort.putRow, mapBlock, Sort.ahead], fun b hb hS => hold b hb (fun e => hS (e ▸ hSb))⟩
end Go.Sx
