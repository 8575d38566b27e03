/- The symbolic executor, proved sound: used by the laws' proofs of this seat. No conditions. -/
import Derived.Test.YtnpadkajapialaaDoorSxII
import Derived.WideKeyRuns
import Derived.RangeFuncIn
import Derived.RangeFuncNested
/- The symbolic executor, part M: append, put together. -/
namespace Go.Sx
open Go

section
variable {P : Program} {I : Itp} {ρ : List U} {pc : List E} {η : Env} {H : List O} {S : Nat → Prop} {w0 w : World}

theorem append_block {b : Nat} {c : Array Value} {ty : TypeId} (hb : w.heap[b]? = some (.cells c ty (0, 0))) {olds news : List Value} (hle : olds.length + news.length ≤ c.size) (ht : c.toList.take olds.length = olds) (h1 : ∀ u ∈ news, u.oneCell' = true) :
    ∃ c2, (storeCells ⟨b, olds.length, none⟩ news).run P w = .ok () (w.setRow b c2) ∧ c2.size = c.size ∧ c2.toList.take (olds.length + news.length) = olds ++ news := by
  have h2 := run_storeCells_at P b olds.length ty news 0 c w hb (by omega) h1
  simp only [Nat.add_zero] at h2
  refine ⟨_, h2, size_written _ _ _ hle, ?_⟩
  rw [take_written _ _ _ _ (Nat.le_refl _) hle, List.take_take, Nat.min_eq_left (by omega), ht, List.drop_eq_nil_of_le (by simp; omega), List.append_nil]

theorem store_none (a : Addr) : (storeCells a []).run P w = .ok () w := by simp [storeCells]

theorem shownCells_all {h ws : Nat} {len : E} {cap : Option E} {old cs : List V} {ro : Bool} (hs : shownCells H (.slice h ws (.lit 0) len cap) = some old) (hl : H[h]? = some (.cells ro cs)) (hlen : old.length = cs.length) : old = cs := by
  simp only [shownCells, hl, natLit] at hs
  split at hs
  · rename_i h1 h2 h3
    simp at h1 h2
    obtain ⟨_, rfl⟩ := h1
    subst h2
    split at hs
    · simp only [Option.some.injEq] at hs; subst hs
      rename_i n _ _ _
      simp only [Nat.zero_mul, List.drop_zero] at hlen ⊢
      rw [List.take_of_length_le]
      simp at hlen
      omega
    · simp at hs
  · simp at hs

/-- The list of rows behind a handle, all of it shown. -/
theorem whole_shows (m : Mem P I ρ η H S w0 w) (hpc : Holds I ρ pc) {h : Nat} {len : E} {cap : Option E} {sv : Value} {ro : Bool} {ks : List CK} {A : E} (hl : H[h]? = some (.rows ro ks A))
    (hx : V.den I ρ η (.slice h ks.length (.lit 0) len cap) sv) (hn : (len.den I ρ).i = ((A.den I ρ).l.length : Int)) :
    Shows P w sv (A.den I ρ).l.length ks.length ((A.den I ρ).l.flatMap (rowVals ks)) := by
  obtain ⟨_, _, _, _, h5⟩ := shown_ok hpc m hx (ks := ks) (B := mkTake pc (mkDrop pc A (.lit 0)) (if (E.lit 0).same (.lit 0) && len.same (mkLen pc A) then .un .len A else len)) (ns := [.bi .le (mkAdd (.lit 0) len) (mkLen pc A)])
    (by simp [shown, hl]) (by
      intro c hc
      simp only [List.mem_singleton] at hc
      subst hc
      have : ((mkAdd (.lit 0) len).den I ρ).i ≤ ((mkLen pc A).den I ρ).i := by rw [mkAdd_i, mkLen_i hpc, hn, lit_i]; omega
      exact decide_eq_true this)
  have hlen : ((if (E.lit 0).same (.lit 0) && len.same (mkLen pc A) then E.un .len A else len).den I ρ).i = (len.den I ρ).i := by
    split
    · rename_i hc
      simp only [Bool.and_eq_true] at hc
      rw [E.same_eq hc.2, mkLen_i hpc]; rfl
    · rfl
  have hB : ((mkTake pc (mkDrop pc A (.lit 0)) (if (E.lit 0).same (.lit 0) && len.same (mkLen pc A) then E.un .len A else len)).den I ρ).l = (A.den I ρ).l := by
    rw [mkTake_l hpc, mkDrop_l hpc, hlen, hn, lit_i]
    simp
  rw [hB] at h5
  exact h5

theorem rowCells_ok : ∀ {ks : List CK} {vs : List V} {l : List E} {xs : List Value}, rowCells ks vs = some l → V.denL I ρ η vs xs → xs = rowVals ks (l.map fun e => (e.den I ρ).i) ∧ l.length = ks.length
  | [], [], l, xs, h, hd => by
    simp only [rowCells, Option.some.injEq] at h; subst h
    simp only [V.denL] at hd; subst hd
    exact ⟨rfl, rfl⟩
  | [], _ :: _, l, xs, h, _ => by simp [rowCells] at h
  | _ :: _, [], l, xs, h, _ => by simp [rowCells] at h
  | k :: ks, v :: vs, l, xs, h, hd => by
    simp only [rowCells] at h
    split at h
    · rename_i e l' he hl
      simp only [Option.some.injEq] at h; subst h
      simp only [V.denL] at hd
      obtain ⟨y, ys, rfl, hy, hys⟩ := hd
      obtain ⟨h1, h2⟩ := rowCells_ok hl hys
      refine ⟨?_, by simp [h2]⟩
      rw [cellE_ok he hy, h1]
      simp [rowVals]
    · simp at h

theorem rowsOfCells_ok : ∀ (n : Nat) {ks : List CK} {vs : List V} {l : List E} {xs : List Value}, rowsOfCells ks n vs = some l → V.denL I ρ η vs xs →
    xs = (l.map fun e => (e.den I ρ).r).flatMap (rowVals ks) ∧ (∀ e ∈ l, (e.den I ρ).r.length = ks.length)
  | n, ks, [], l, xs, h, hd => by
    simp only [rowsOfCells, Option.some.injEq] at h; subst h
    simp only [V.denL] at hd; subst hd
    exact ⟨rfl, fun e he => by simp at he⟩
  | 0, ks, _ :: _, l, xs, h, _ => by simp [rowsOfCells] at h
  | n + 1, ks, v :: vs, l, xs, h, hd => by
    simp only [rowsOfCells] at h
    split at h
    · rename_i r l' hr hl
      simp only [Option.some.injEq] at h; subst h
      obtain ⟨h1, h2⟩ := rowCells_ok hr (V.denL_take ks.length hd)
      obtain ⟨h3, h4⟩ := rowsOfCells_ok n hl (V.denL_drop ks.length hd)
      constructor
      · simp only [List.map_cons, List.flatMap_cons, rowOf_r]
        rw [← h1, ← h3, List.take_append_drop]
      · intro e he
        simp only [List.mem_cons] at he
        rcases he with rfl | he
        · rw [rowOf_r]; simpa using h2
        · exact h4 e he
    · simp at h

theorem foldl_snoc : ∀ (l : List E) (A : E), ((l.foldl mkSnoc A).den I ρ).l = (A.den I ρ).l ++ l.map fun e => (e.den I ρ).r
  | [], A => by simp
  | e :: l, A => by rw [List.foldl_cons, foldl_snoc l, mkSnoc_l]; simp

/-- What append is, of a list t of elements e. -/
structure App (P : Program) (t e : TypeId) (ti : TypeInfo) (z : Value) : Prop where
  ht : P.underlying t = some (.slice e)
  hi : P.info? e = some ti
  hz : ti.zero = some z
  hzs : z.cells.size = ti.size
  pos : 0 < ti.size

/-- the result of an append -/
def AppOk (P : Program) (I : Itp) (ρ : List U) (η : Env) (S : Nat → Prop) (w0 w : World) (t ty : TypeId) (sv xv : Value) (v : V) (H' : List O) : Prop :=
  ∃ x w' η', (Builtin.append_ #[t, t] ty #[sv, xv]).run P w = .ok x w' ∧ η.le η' ∧ V.den I ρ η' v x ∧ Mem P I ρ η' H' S w0 w'

variable {t ty e : TypeId} {ti : TypeInfo} {z : Value}

/-- A new block of cells. -/
theorem app_grow_cells (a : App P t e ti z) (m : Mem P I ρ η H S w0 w) {fr : Nat} (hfr : look H fr = none) {sa : Option Addr} {n C k : Nat} {xv : Value} {olds news : List Value} {cs : List V}
    (hs : Shows P w (.slice sa n C) n ti.size olds) (hx : Shows P w xv k ti.size news) (hg : C < n + k) (hd : V.denL I ρ η cs (olds ++ news)) {le : E} (hle : (le.den I ρ).i = ((n + k : Nat) : Int))
    (hroom : Holds I ρ (roomE ti.bytes le)) :
    AppOk P I ρ η S w0 w t ty (.slice sa n C) xv (.slice fr ti.size (.lit 0) le none) (setO H fr (.cells false cs)) := by
  obtain ⟨r1, r2⟩ := roomE_ok hroom hle
  have hrun := run_append_grow' (ty := ty) a.ht a.hi a.hz hs hx hg r2 r1
  have hall : (olds ++ news).length = (n + k) * ti.size := by rw [List.length_append, hs.size, hx.size, Nat.add_mul]
  obtain ⟨η', h1, h2, h3⟩ := grow_cells m hfr hd hall (grownCap_ge w (n + k) C e) a.hzs e hle
  exact ⟨_, _, η', hrun, h1, h3, h2⟩

theorem app_grow_rows (a : App P t e ti z) (m : Mem P I ρ η H S w0 w) {fr : Nat} (hfr : look H fr = none) {sa : Option Addr} {n C k : Nat} {xv : Value} {olds news : List Value} {ks : List CK} {A : E}
    (hs : Shows P w (.slice sa n C) n ti.size olds) (hx : Shows P w xv k ti.size news) (hg : C < n + k) (hks : ks.length = ti.size) (hrows : ∀ r ∈ (A.den I ρ).l, r.length = ks.length) (hA : (A.den I ρ).l.flatMap (rowVals ks) = olds ++ news)
    {le : E} (hle : (le.den I ρ).i = ((n + k : Nat) : Int)) (hAl : (A.den I ρ).l.length = n + k)
    (hroom : Holds I ρ (roomE ti.bytes le)) :
    AppOk P I ρ η S w0 w t ty (.slice sa n C) xv (.slice fr ti.size (.lit 0) le none) (setO H fr (.rows false ks A)) := by
  obtain ⟨r1, r2⟩ := roomE_ok hroom hle
  have hrun := run_append_grow' (ty := ty) a.ht a.hi a.hz hs hx hg r2 r1
  have hge := grownCap_ge w (n + k) C e
  obtain ⟨η', h1, h2, h3⟩ := grow_rows m hfr (by rw [hks]; exact a.pos) hrows hAl (n := n + k) (cap := grownCap w (n + k) C e) (by omega) hge hA.symm (by rw [hks]; exact a.hzs) e hle
  rw [hks] at h3
  exact ⟨_, _, η', hrun, h1, h3, h2⟩

/-- In place: the block's cells stay cells, behind the same handle. -/
theorem app_in_place (a : App P t e ti z) (m : Mem P I ρ η H S w0 w) {h : Nat} {cs : List V} (hl : H[h]? = some (.cells false cs)) {i : Info} (hi : η h = some i) {n C k f : Nat} {xv : Value} {news : List Value} {new : List V}
    (hx : Shows P w xv k ti.size news) (hd : V.denL I ρ η new news) (hfit : n + k ≤ C) (hf : 0 < C → f = 0) (hC : C * ti.size ≤ i.sz) (hcs : (n + k) * ti.size ≤ cs.length) {le : E} (hle : (le.den I ρ).i = ((n + k : Nat) : Int)) {cap : Option E} (hcap : ∀ c, cap = some c → (c.den I ρ).i = (C : Int)) :
    AppOk P I ρ η S w0 w t ty (.slice (some ⟨i.blk, f, none⟩) n C) xv (.slice h ti.size (.lit 0) le cap) (setO H h (.cells false (setCells cs (n * ti.size) new))) := by
  have hrun := run_append_fit (ty := ty) (w := w) a.ht a.hi (sa := some ⟨i.blk, f, none⟩) hx hfit
  obtain ⟨c, tc, fz, hb, hfz, hsz, hszi, hden⟩ := m.cells_read hl hi
  have hbs := m.cells_bs hl hi
  have hfz' := hfz rfl
  subst hfz'
  have hval : V.den I ρ η (.slice h ti.size (.lit 0) le cap) (.slice (some ⟨i.blk, f, none⟩) (n + k) C) := by
    simp only [V.den]
    refine ⟨i, hi, by simp [E.den], by omega, .inr ⟨C, f, fun h0 => by rw [hf h0]; simp [E.den, hbs], by omega, by simpa [E.den] using hC, hcap, ?_⟩⟩
    rw [hle]; rfl
  have hnl := V.denL_length hd
  have hnk : news.length = k * ti.size := hx.size
  simp only [add_at] at hrun
  rw [Nat.add_mul] at hcs
  by_cases hk : news = []
  · subst hk
    rw [store_none] at hrun
    have hnew : new = [] := List.length_eq_zero_iff.1 (by simpa using hnl.symm)
    subst hnew
    refine ⟨_, w, η, hrun, Env.le_refl _, hval, ?_⟩
    simp only [setCells]
    exact m.write (look_of hl (by intro e; cases e)) hi rfl trivial rfl rfl rfl (Nat.le_refl _) (fun _ _ _ => rfl) rfl (by intro e; cases e) ⟨hbs, c, tc, (0, 0), hb, fun _ => rfl, hsz, hszi, hden⟩
  · have hkpos : 0 < k := by
      rcases Nat.eq_zero_or_pos k with h0 | h0
      · subst h0; rw [Nat.zero_mul] at hnk; exact (hk (List.length_eq_zero_iff.1 hnk)).elim
      · exact h0
    have hf0 := hf (by omega)
    subst hf0
    have h2 := run_storeCells_at P i.blk (n * ti.size) tc news 0 c w hb (by omega) hx.one
    simp only [Nat.add_zero] at h2
    simp only [Nat.zero_add] at hrun
    rw [h2] at hrun
    refine ⟨_, _, η, hrun, Env.le_refl _, hval, ?_⟩
    refine m.write (look_of hl (by intro e; cases e)) hi rfl trivial rfl rfl rfl (by simp) (fun b _ hne => setRow_other _ _ _ _ hne) rfl (by intro e; cases e) ?_
    rw [setRow_heap w i.blk c _ tc (0, 0) hb]
    refine ⟨hbs, _, tc, (0, 0), rfl, fun _ => rfl, ?_, ?_, ?_⟩
    · rw [setCells_length, size_written _ _ _ (by omega)]; exact hsz
    · rw [size_written _ _ _ (by omega)]; exact hszi
    · rw [setCells_length, take_written _ _ _ _ (by omega) hsz]
      exact setCells_denL new cs _ _ _ hden hd (by omega)

/-- In place: rows stay rows. -/
theorem app_in_rows (a : App P t e ti z) (m : Mem P I ρ η H S w0 w) {h : Nat} {ks : List CK} {A A' : E} (hl : H[h]? = some (.rows false ks A)) {i : Info} (hi : η h = some i) (hks : ks.length = ti.size) {n C k f : Nat} {xv : Value} {B : List (List Int)} (hB : ∀ r ∈ B, r.length = ks.length)
    (hx : Shows P w xv k ti.size (B.flatMap (rowVals ks))) (hfit : n + k ≤ C) (hC1 : 1 ≤ C) (hf : 0 < C → f = 0) (hC : C * ti.size ≤ i.sz) (hlen : (A.den I ρ).l.length = C) (hA' : (A'.den I ρ).l = (A.den I ρ).l.take n ++ B ++ (A.den I ρ).l.drop (n + k)) {le : E} (hle : (le.den I ρ).i = ((n + k : Nat) : Int)) {cap : Option E} (hcap : ∀ c, cap = some c → (c.den I ρ).i = (C : Int)) :
    AppOk P I ρ η S w0 w t ty (.slice (some ⟨i.blk, f, none⟩) n C) xv (.slice h ti.size (.lit 0) le cap) (setO H h (.rows false ks A')) := by
  have hrun := run_append_fit (ty := ty) (w := w) a.ht a.hi (sa := some ⟨i.blk, f, none⟩) hx hfit
  obtain ⟨hpos, hwd, hrows, hd⟩ := m.rows_own hl hi
  have hbs := m.rows_bs hl hi
  have hBk : B.length = k := by
    have h6 := flat_length ks B hB
    rw [hx.size, hks] at h6
    exact (Nat.eq_of_mul_eq_mul_right a.pos h6).symm
  have hlen' : (A'.den I ρ).l.length = C := by rw [hA']; simp only [List.length_append, List.length_take, List.length_drop]; omega
  have hrows' : ∀ r ∈ (A'.den I ρ).l, r.length = ks.length := by
    intro r hr
    rw [hA', List.mem_append, List.mem_append] at hr
    rcases hr with (hr | hr) | hr
    · exact hrows r (List.mem_of_mem_take hr)
    · exact hB r hr
    · exact hrows r (List.mem_of_mem_drop hr)
  have hval : V.den I ρ η (.slice h ti.size (.lit 0) le cap) (.slice (some ⟨i.blk, f, none⟩) (n + k) C) := by
    simp only [V.den]
    refine ⟨i, hi, by simp [E.den], by omega, .inr ⟨C, f, fun h0 => by rw [hf h0]; simp [E.den, hbs], by omega, by simpa [E.den] using hC, hcap, ?_⟩⟩
    rw [hle]; rfl
  simp only [add_at] at hrun
  have hszp : 0 < i.sz := by
    have : 0 < C * ti.size := Nat.mul_pos (by omega) a.pos
    omega
  by_cases hk : k = 0
  · subst hk
    have hB0 : B = [] := List.length_eq_zero_iff.1 hBk
    subst hB0
    rw [List.flatMap_nil, store_none] at hrun
    refine ⟨_, w, η, hrun, Env.le_refl _, hval, ?_⟩
    have hAA : (A'.den I ρ).l = (A.den I ρ).l := by rw [hA', List.append_nil, Nat.add_zero, List.take_append_drop]
    refine m.write (look_of hl (by intro e; cases e)) hi rfl hszp rfl rfl rfl (Nat.le_refl _) (fun _ _ _ => rfl) rfl (by intro e; cases e) (den_rows_own hbs ⟨hpos, hwd, hrows', ?_⟩)
    rw [hAA]
    exact hd
  · have hf0 := hf (by omega)
    subst hf0
    rcases hd with ⟨h0, _⟩ | ⟨hsz0, c, tc, fz, hb, hfz, hle2, hszi, htk⟩
    · exfalso
      have : 0 < C * ti.size := Nat.mul_pos (by omega) a.pos
      omega
    have hfz' := hfz rfl
    subst hfz'
    have hnl : (B.flatMap (rowVals ks)).length = k * ti.size := hx.size
    have hnk : (n + k) * ti.size ≤ C * ti.size := Nat.mul_le_mul_right _ hfit
    rw [Nat.add_mul] at hnk
    rw [hlen, hks] at hle2 htk
    have h2 := run_storeCells_at P i.blk (n * ti.size) tc (B.flatMap (rowVals ks)) 0 c w hb (by omega) hx.one
    simp only [Nat.add_zero] at h2
    simp only [Nat.zero_add] at hrun
    rw [h2] at hrun
    refine ⟨_, _, η, hrun, Env.le_refl _, hval, ?_⟩
    refine m.write (look_of hl (by intro e; cases e)) hi rfl hszp rfl rfl rfl (by simp) (fun b _ hne => setRow_other _ _ _ _ hne) rfl (by intro e; cases e) ?_
    rw [setRow_heap w i.blk c _ tc (0, 0) hb]
    refine den_rows_own hbs ⟨hpos, hwd, hrows', .inr ⟨hsz0, _, tc, (0, 0), rfl, fun _ => rfl, ?_, ?_, ?_⟩⟩
    · rw [size_written _ _ _ (by omega), hlen', hks]; exact hle2
    · rw [size_written _ _ _ (by omega)]; exact hszi
    · rw [hlen', hks, take_written _ _ _ _ (by omega) hle2, htk, hA', List.flatMap_append, List.flatMap_append, flat_take ks _ hrows, flat_drop ks _ hrows, hks, hnl, ← Nat.add_mul]

/-- The old handle is given up; the list is cells behind a new one. -/
theorem app_dead_cells (a : App P t e ti z) (m : Mem P I ρ η H S w0 w) {h fr : Nat} (hfr : look H fr = none) {cs : List V} (hl : H[h]? = some (.cells false cs)) {len : E} {cap : Option E} {sv : Value} (hs : V.den I ρ η (.slice h ti.size (.lit 0) len cap) sv)
    {n k : Nat} (hlen : (len.den I ρ).i = (n : Int)) {xv : Value} {olds news : List Value} {new : List V} (hso : Shows P w sv n ti.size olds) (hold : V.denL I ρ η cs olds) (hpre : ∀ i c ty fz, η h = some i → w.heap[i.blk]? = some (.cells c ty fz) → c.toList.take olds.length = olds)
    (hx : Shows P w xv k ti.size news) (hd : V.denL I ρ η new news) {le : E} (hle : (le.den I ρ).i = ((n + k : Nat) : Int)) (hroom : Holds I ρ (roomE ti.bytes le)) :
    AppOk P I ρ η S w0 w t ty sv xv (.slice fr ti.size (.lit 0) le none) (setO (setO H h .dead) fr (.cells false (cs ++ new))) := by
  have hlk := look_of hl (by intro e; cases e)
  have hs' := hs
  simp only [V.den] at hs
  obtain ⟨i, hi, _, _, hs⟩ := hs
  obtain ⟨c, tc, fz, hb, hfz, hsz, hszi, hden⟩ := m.cells_read hl hi
  have hbs := m.cells_bs hl hi
  have hfz' := hfz rfl
  subst hfz'
  have hp := hpre i c tc (0, 0) hi hb
  have hol := V.denL_length hold
  have hnl := V.denL_length hd
  have hnk : news.length = k * ti.size := hx.size
  have hon : olds.length = n * ti.size := hso.size
  rw [hlen] at hs
  simp only [Int.toNat_natCast] at hs
  -- the block again, with more of it known
  have place : ∀ {w' : World} {c2 : Array Value} {f C : Nat}, w'.heap[i.blk]? = some (.cells c2 tc (0, 0)) → w'.os = w.os → w'.tape = w.tape → w'.output = w.output → w.heap.size ≤ w'.heap.size → (∀ b, b < w.heap.size → b ≠ i.blk → w'.heap[b]? = w.heap[b]?) →
      c2.size = c.size → (n + k) * ti.size ≤ c.size → c2.toList.take (olds.length + news.length) = olds ++ news →
      Mem P I ρ (η.ext fr ⟨i.blk, i.sz, 0, 0⟩) (setO (setO H h .dead) fr (.cells false (cs ++ new))) S w0 w' := by
    intro w' c2 f C h1 h2 h3 h4 h5 h6 h7 h8 h9
    refine m.move (o' := .cells false (cs ++ new)) hlk hi rfl trivial hfr rfl h2 h3 h4 h5 h6 rfl (by intro e; cases e) ⟨rfl, c2, tc, (0, 0), h1, fun _ => rfl, ?_, by rw [h7]; exact hszi, ?_⟩
    · rw [List.length_append, h7, ← hol, ← hnl, hon, hnk, ← Nat.add_mul]; exact h8
    · rw [List.length_append, ← hol, ← hnl, h9]
      exact V.denL_append (V.denL_mono (Env.le_ext _ (m.free fr hfr)) _ _ hold) (V.denL_mono (Env.le_ext _ (m.free fr hfr)) _ _ hd)
  have dead : ∀ {sa : Option Addr} {C : Nat}, sv = .slice sa n C → C < n + k → AppOk P I ρ η S w0 w t ty sv xv (.slice fr ti.size (.lit 0) le none) (setO (setO H h .dead) fr (.cells false (cs ++ new))) := by
    intro sa C hsv hg
    subst hsv
    exact app_grow_cells a (m.kill hlk) (look_dead hlk hfr) hso hx hg (V.denL_append hold hd) hle hroom
  rcases hs with ⟨rfl, hsz0, _, hn0, _⟩ | ⟨C, f, hf, hC, hszC, _, rfl⟩
  · have hn0' : n = 0 := by omega
    subst hn0'
    by_cases hk : k = 0
    · subst hk
      have hrun := run_append_fit (ty := ty) (w := w) a.ht a.hi (sa := none) (sLen := 0) (sCap := 0) hx (by omega)
      have hne : news = [] := List.length_eq_zero_iff.1 (by simpa using hnk)
      have hoe : olds = [] := List.length_eq_zero_iff.1 (by simpa using hon)
      refine ⟨_, w, _, hrun, Env.le_ext ⟨i.blk, i.sz, 0, 0⟩ (m.free fr hfr), ?_, place (f := 0) (C := 0) hb rfl rfl rfl (Nat.le_refl _) (fun _ _ _ => rfl) rfl (by simp) (by subst hne hoe; simp)⟩
      simp only [V.den]
      refine ⟨_, Env.ext_self .., by simp [E.den], by omega, .inl ⟨by simp, hsz0, rfl, by simpa using hle, fun c hc => by simp at hc⟩⟩
    · exact dead rfl (by omega)
  · by_cases hfit : n + k ≤ C
    · have hrun := run_append_fit (ty := ty) (w := w) a.ht a.hi (sa := some ⟨i.blk, f, none⟩) hx hfit
      simp only [add_at] at hrun
      have h0 : ((E.lit 0).den I ρ).i.toNat = 0 := by simp [E.den]
      rw [h0] at hf hszC
      simp only [hbs, Nat.zero_mul, Nat.zero_add] at hf hszC
      have hval : V.den I ρ (η.ext fr ⟨i.blk, i.sz, 0, 0⟩) (.slice fr ti.size (.lit 0) le none) (.slice (some ⟨i.blk, f, none⟩) (n + k) C) := by
        simp only [V.den]
        refine ⟨_, Env.ext_self .., by simp [E.den], by omega, .inr ⟨C, f, fun h1 => by rw [hf h1]; simp [E.den], by omega, by simpa [E.den] using hszC, fun c hc => by simp at hc, ?_⟩⟩
        rw [hle]; rfl
      have hroomC : (n + k) * ti.size ≤ c.size := by rw [hszi]; exact Nat.le_trans (Nat.mul_le_mul_right _ hfit) hszC
      by_cases hC0 : C = 0
      · have hn0 : n = 0 := by omega
        have hk0 : k = 0 := by omega
        subst hn0 hk0
        have hne : news = [] := List.length_eq_zero_iff.1 (by simpa using hnk)
        have hoe : olds = [] := List.length_eq_zero_iff.1 (by simpa using hon)
        subst hne
        rw [store_none] at hrun
        refine ⟨_, w, _, hrun, Env.le_ext _ (m.free fr hfr), hval, place (f := 0) (C := 0) hb rfl rfl rfl (Nat.le_refl _) (fun _ _ _ => rfl) rfl (by simp) (by subst hoe; simp)⟩
      · have hf0 := hf (by omega)
        subst hf0
        obtain ⟨c2, hst, h7, h9⟩ := append_block hb (olds := olds) (news := news) (by rw [hon, hnk, ← Nat.add_mul]; exact hroomC) hp hx.one
        simp only [Nat.zero_add] at hrun
        rw [← hon, hst] at hrun
        refine ⟨_, _, _, hrun, Env.le_ext _ (m.free fr hfr), hval, place (f := 0) (C := 0) (setRow_heap w i.blk c c2 tc (0, 0) hb) rfl rfl rfl (by simp) (fun b _ hne => setRow_other _ _ _ _ hne) h7 hroomC h9⟩
    · exact dead rfl (by omega)

/-- The old handle is given up; the list is rows behind a new one. -/
theorem app_dead_rows (a : App P t e ti z) (m : Mem P I ρ η H S w0 w) {h fr : Nat} (hfr : look H fr = none) {o : O} (hlk : look H h = some o) (hro : o.isRo = false) (hbs0 : ∀ i, η h = some i → i.bs = 0) {len : E} {cap : Option E} {sv : Value} (hs : V.den I ρ η (.slice h ti.size (.lit 0) len cap) sv)
    {n k : Nat} (hlen : (len.den I ρ).i = (n : Int)) {xv : Value} {olds news : List Value} (hso : Shows P w sv n ti.size olds)
    (hold : ∀ i, η h = some i → (i.sz = 0 ∧ n = 0) ∨ (0 < i.sz ∧ o.hasBlk i ∧ ∃ c tc, w.heap[i.blk]? = some (.cells c tc (0, 0)) ∧ c.size = i.sz ∧ c.toList.take olds.length = olds))
    (hx : Shows P w xv k ti.size news) {ks : List CK} {A : E} (hks : ks.length = ti.size) (hrows : ∀ r ∈ (A.den I ρ).l, r.length = ks.length) (hA : (A.den I ρ).l.flatMap (rowVals ks) = olds ++ news) (hAl : (A.den I ρ).l.length = n + k)
    {le : E} (hle : (le.den I ρ).i = ((n + k : Nat) : Int)) (hroom : Holds I ρ (roomE ti.bytes le)) :
    AppOk P I ρ η S w0 w t ty sv xv (.slice fr ti.size (.lit 0) le none) (setO (setO H h .dead) fr (.rows false ks A)) := by
  have hpos := a.pos
  simp only [V.den] at hs
  obtain ⟨i, hi, _, _, hs⟩ := hs
  have hbs := hbs0 i hi
  have hnk : news.length = k * ti.size := hx.size
  have hon : olds.length = n * ti.size := hso.size
  rw [hlen] at hs
  simp only [Int.toNat_natCast] at hs
  have dead : ∀ {sa : Option Addr} {C : Nat}, sv = .slice sa n C → C < n + k → AppOk P I ρ η S w0 w t ty sv xv (.slice fr ti.size (.lit 0) le none) (setO (setO H h .dead) fr (.rows false ks A)) := by
    intro sa C hsv hg
    subst hsv
    exact app_grow_rows a (m.kill hlk) (look_dead hlk hfr) hso hx hg hks hrows hA hle hAl hroom
  have h0 : ((E.lit 0).den I ρ).i.toNat = 0 := by simp [E.den]
  -- nothing held, nothing added
  have none_ : i.sz = 0 → n = 0 → k = 0 → Mem P I ρ (η.ext fr ⟨i.blk, 0, ks.length, 0⟩) (setO (setO H h .dead) fr (.rows false ks A)) S w0 w := by
    intro _ hn0 hk0
    refine (m.kill hlk).empty (look_dead hlk hfr) rfl ⟨by omega, rfl, hrows, fun _ => rfl, .inl ⟨rfl, ?_⟩⟩
    exact List.length_eq_zero_iff.1 (by omega)
  rcases hs with ⟨rfl, hsz0, _, hn0, _⟩ | ⟨C, f, hf, hC, hszC, _, rfl⟩
  · have hn0' : n = 0 := by omega
    subst hn0'
    by_cases hk : k = 0
    · subst hk
      have hrun := run_append_fit (ty := ty) (w := w) a.ht a.hi (sa := none) (sLen := 0) (sCap := 0) hx (by omega)
      refine ⟨_, w, _, hrun, Env.le_ext _ (m.free fr hfr), ?_, none_ hsz0 rfl rfl⟩
      simp only [V.den]
      exact ⟨_, Env.ext_self .., by simp [E.den], by omega, .inl ⟨by simp, rfl, rfl, by simpa using hle, fun c hc => by simp at hc⟩⟩
    · exact dead rfl (by omega)
  · by_cases hfit : n + k ≤ C
    · have hrun := run_append_fit (ty := ty) (w := w) a.ht a.hi (sa := some ⟨i.blk, f, none⟩) hx hfit
      simp only [add_at] at hrun
      rw [h0] at hf hszC
      simp only [hbs, Nat.zero_mul, Nat.zero_add] at hf hszC
      have hval : ∀ (s : Nat), i.sz = s → V.den I ρ (η.ext fr ⟨i.blk, s, ks.length, 0⟩) (.slice fr ti.size (.lit 0) le none) (.slice (some ⟨i.blk, f, none⟩) (n + k) C) := by
        intro s hs
        simp only [V.den]
        refine ⟨_, Env.ext_self .., by simp [E.den], by omega, .inr ⟨C, f, fun h1 => by rw [hf h1]; simp [E.den], by omega, by simpa [E.den, hs] using hszC, fun c hc => by simp at hc, ?_⟩⟩
        rw [hle]; rfl
      rcases hold i hi with ⟨hs0, hn0⟩ | ⟨hsp, hblk, c, tc, hb, hszi, hp⟩
      · have hC0 : C = 0 := by
          rcases Nat.eq_zero_or_pos C with h1 | h1
          · exact h1
          · have := Nat.mul_pos h1 hpos; omega
        have hk0 : k = 0 := by omega
        subst hn0 hk0
        have hne : news = [] := List.length_eq_zero_iff.1 (by simpa using hnk)
        subst hne
        rw [store_none] at hrun
        exact ⟨_, w, _, hrun, Env.le_ext _ (m.free fr hfr), hval 0 hs0, none_ hs0 rfl rfl⟩
      · have hroomC : (n + k) * ti.size ≤ c.size := by rw [hszi]; exact Nat.le_trans (Nat.mul_le_mul_right _ hfit) hszC
        have place : ∀ {w' : World} {c2 : Array Value}, w'.heap[i.blk]? = some (.cells c2 tc (0, 0)) → w'.os = w.os → w'.tape = w.tape → w'.output = w.output → w.heap.size ≤ w'.heap.size → (∀ b, b < w.heap.size → b ≠ i.blk → w'.heap[b]? = w.heap[b]?) →
            c2.size = c.size → c2.toList.take (olds.length + news.length) = olds ++ news →
            Mem P I ρ (η.ext fr ⟨i.blk, i.sz, ks.length, 0⟩) (setO (setO H h .dead) fr (.rows false ks A)) S w0 w' := by
          intro w' c2 h1 h2 h3 h4 h5 h6 h7 h9
          refine m.move (o' := .rows false ks A) hlk hi hro hblk hfr rfl h2 h3 h4 h5 h6 rfl (by intro e; cases e) (den_rows_own rfl ⟨by omega, rfl, hrows, .inr ⟨hsp, c2, tc, (0, 0), h1, fun _ => rfl, ?_, by rw [h7]; exact hszi, ?_⟩⟩)
          · rw [hAl, h7, hks]; exact hroomC
          · rw [hAl, hA, ← h9, hon, hnk, ← Nat.add_mul, hks]
        by_cases hC0 : C = 0
        · have hn0 : n = 0 := by omega
          have hk0 : k = 0 := by omega
          subst hn0 hk0
          have hne : news = [] := List.length_eq_zero_iff.1 (by simpa using hnk)
          have hoe : olds = [] := List.length_eq_zero_iff.1 (by simpa using hon)
          subst hne
          rw [store_none] at hrun
          exact ⟨_, w, _, hrun, Env.le_ext _ (m.free fr hfr), hval _ rfl, place hb rfl rfl rfl (Nat.le_refl _) (fun _ _ _ => rfl) rfl (by subst hoe; simp)⟩
        · have hf0 := hf (by omega)
          subst hf0
          obtain ⟨c2, hst, h7, h9⟩ := append_block hb (olds := olds) (news := news) (by rw [hon, hnk, ← Nat.add_mul]; exact hroomC) hp hx.one
          simp only [Nat.zero_add] at hrun
          rw [← hon, hst] at hrun
          exact ⟨_, _, _, hrun, Env.le_ext _ (m.free fr hfr), hval _ rfl, place (setRow_heap w i.blk c c2 tc (0, 0) hb) rfl rfl rfl (by simp) (fun b _ hne => setRow_other _ _ _ _ hne) h7 h9⟩
    · exact dead rfl (by omega)

end
end Go.Sx

/- The symbolic executor, part N: append, case by case. -/
namespace Go.Sx
open Go

section
variable {P : Program} {I : Itp} {ρ : List U} {pc : List E} {η : Env} {H : List O} {S : Nat → Prop} {w0 w : World}

theorem den_nat {e : E} {n : Nat} (h : natLit e = some n) : (e.den I ρ).i = (n : Int) := by
  have := natLit_ok h
  subst this
  rfl

theorem holds_tail {c : E} {cs : List E} (h : Holds I ρ (c :: cs)) : Holds I ρ cs := fun d hd => h d (List.mem_cons_of_mem _ hd)
theorem holds_left {cs ds : List E} (h : Holds I ρ (cs ++ ds)) : Holds I ρ cs := fun d hd => h d (List.mem_append_left _ hd)
theorem holds_right {cs ds : List E} (h : Holds I ρ (cs ++ ds)) : Holds I ρ ds := fun d hd => h d (List.mem_append_right _ hd)

theorem roomE_congr {b : Nat} {e e' : E} (h : Holds I ρ (roomE b e)) (he : (e'.den I ρ).i = (e.den I ρ).i) : Holds I ρ (roomE b e') := by
  intro d hd
  simp only [roomE, List.mem_singleton] at hd
  subst hd
  have h1 := holds_le (h _ (List.mem_cons_self ..))
  refine decide_eq_true ?_
  rw [he]; exact h1

theorem same_lit0 {off : E} (h : off.same (.lit 0) = true) : off = .lit 0 := E.same_eq h


theorem inPlace_ok (hpc : Holds I ρ pc) {A len lenx c : E} {cap : Option E} (h : inPlace pc A len lenx cap = some c) : cap = some c ∧ (c.den I ρ).i = ((A.den I ρ).l.length : Int) ∧ (len.den I ρ).i + (lenx.den I ρ).i ≤ (c.den I ρ).i ∧ 1 ≤ (c.den I ρ).i := by
  unfold inPlace at h
  split at h
  · split at h
    · rename_i hc
      simp only [Option.some.injEq] at h; subst h
      have h1 := decEq'_ok hpc hc.1
      have h2 := decLe_ok hpc hc.2.1
      have h3 := decLe_ok hpc hc.2.2
      rw [mkLen_i hpc, beq_iff_eq] at h1
      have h2' := of_decide_eq_true h2
      have h3' := of_decide_eq_true h3
      rw [mkAdd_i] at h2'
      rw [lit_i] at h3'
      exact ⟨rfl, h1.symm, h2', h3'⟩
    · cases h
  · cases h

theorem appendR_ok (hpc : Holds I ρ pc) (m : Mem P I ρ η H S w0 w) {fr : Nat} (hfr : look H fr = none) {t t2 ty : TypeId} {s x : V} {sv xv : Value} (hs : V.den I ρ η s sv) (hx : V.den I ρ η x xv) {r : AR}
    (h : appendR P pc H fr t t2 s x = .ok r) (hn : Holds I ρ r.needs) :
    ∃ y w' η', (Builtin.append_ #[t, t2] ty #[sv, xv]).run P w = .ok y w' ∧ η.le η' ∧ V.den I ρ η' r.v y ∧ Mem P I ρ η' (applyEff H r.eff) S w0 w' := by
  unfold appendR at h
  split at h
  · simp at h
  · rename_i htt
    have htt' : t = t2 := by simpa using htt
    subst htt'
    split at h
    · rename_i e ht
      split at h
      · rename_i ti z hi hz
        split at h
        · simp at h
        · rename_i hzi
          simp only [not_or, ne_eq, Classical.not_not] at hzi
          obtain ⟨hzl, hpos⟩ := hzi
          obtain ⟨ti', zv, hi', hz', _, _, hzs, _⟩ := zeroCellsV_ok (I := I) (ρ := ρ) (η := η) hz
          rw [hi] at hi'; simp only [Option.some.injEq] at hi'; subst hi'
          have a : App P t e ti zv := ⟨ht, hi, hz', by omega, by omega⟩
          split at h
          · -- nothing is added
            simp only [V.den] at hx; subst hx
            split at h
            · simp only [V.den] at hs; subst hs
              simp only [Res.ok.injEq] at h; subst h
              have hrun := run_append_fit (ty := ty) (w := w) ht hi (sa := none) (sLen := 0) (sCap := 0) (shows_nil (P := P) (w := w) ti.size) (by omega)
              exact ⟨_, w, η, hrun, Env.le_refl _, by simp [V.den], m⟩
            · simp only [Res.ok.injEq] at h; subst h
              have hs0 := hs
              simp only [V.den] at hs
              obtain ⟨i, hi2, _, _, hs⟩ := hs
              rcases hs with ⟨rfl, _⟩ | ⟨C, f, _, hC, _, _, rfl⟩
              · have hrun := run_append_fit (ty := ty) (w := w) ht hi (sa := none) (sLen := 0) (sCap := 0) (shows_nil (P := P) (w := w) ti.size) (by omega)
                exact ⟨_, w, η, hrun, Env.le_refl _, hs0, m⟩
              · have hrun := run_append_fit (ty := ty) (w := w) ht hi (sa := some ⟨i.blk, f, none⟩) (sCap := C) (shows_nil (P := P) (w := w) ti.size) (Nat.add_le_of_le_sub (Nat.zero_le _) hC)
                simp only [store_none] at hrun
                exact ⟨_, w, η, hrun, Env.le_refl _, hs0, m⟩
            · simp at h
          · rename_i hx' wx offx lenx capx
            split at h
            · simp at h
            · rename_i hwx
              have hwx' : wx = ti.size := by simpa using hwx
              subst hwx'
              split at h
              · -- onto nil
                simp only [V.den] at hs; subst hs
                split at h
                · rename_i cs k hcs hk
                  obtain ⟨news, hd, hsx, _⟩ := shownCells_ok m hx hcs hk
                  split at h
                  · rename_i hk0
                    subst hk0
                    simp only [Res.ok.injEq] at h; subst h
                    have hrun := run_append_fit (ty := ty) (w := w) ht hi (sa := none) (sLen := 0) (sCap := 0) hsx (by omega)
                    exact ⟨_, w, η, hrun, Env.le_refl _, by simp [V.den], m⟩
                  · rename_i hk0
                    obtain ⟨rv, he, _, hneed⟩ := okR_ok hpc h
                    rw [rv, he]
                    exact app_grow_cells a m hfr (n := 0) (shows_nil _) hsx (by omega) (by simpa using hd) (by simp [E.den]) (hneed hn)
                · split at h
                  · rename_i ks B ns hsh
                    obtain ⟨rv, he, _, hneed⟩ := okR_ok hpc h
                    rw [rv, he]
                    have hN := hneed hn
                    obtain ⟨h1, h2, h3, h4, h5⟩ := shown_ok hpc m hx hsh (holds_left hN)
                    have hBl : ((mkLen pc B).den I ρ).i = ((0 + (B.den I ρ).l.length : Nat) : Int) := by rw [mkLen_i hpc]; simp
                    by_cases hk0 : (B.den I ρ).l.length = 0
                    · have hB : (B.den I ρ).l = [] := List.length_eq_zero_iff.1 hk0
                      rw [hk0] at h5
                      have hrun := run_append_fit (ty := ty) (w := w) ht hi (sa := none) (sLen := 0) (sCap := 0) h5 (by omega)
                      refine ⟨_, w, _, hrun, Env.le_ext ⟨0, 0, ks.length, 0⟩ (m.free fr hfr), ?_, ?_⟩
                      · simp only [V.den]
                        refine ⟨_, Env.ext_self .., by simp [E.den], by rw [hBl]; omega, .inl ⟨by simp, rfl, rfl, by rw [hBl, hk0]; rfl, fun c hc => by simp at hc⟩⟩
                      · exact m.empty hfr rfl ⟨h2, rfl, h3, fun _ => rfl, .inl ⟨rfl, hB⟩⟩
                    · exact app_grow_rows a m hfr (n := 0) (shows_nil _) h5 (by omega) h1.symm h3 (by simp) hBl (by omega) (roomE_congr (holds_right hN) (by rw [hBl, ← h4]; simp))
                  · simp at h
              · rename_i hh ws off len cap
                split at h
                · simp at h
                · rename_i hws
                  simp only [not_or, ne_eq, Classical.not_not, Bool.not_eq_true', Bool.not_eq_false] at hws
                  obtain ⟨hws1, hoff⟩ := hws
                  subst hws1
                  have hoff' := same_lit0 hoff
                  subst hoff'
                  split at h
                  · -- onto cells
                    rename_i cs hl
                    split at h
                    · rename_i old n hold hnl
                      obtain ⟨olds, hdo, hso, hpre⟩ := shownCells_ok m hs hold hnl
                      split at h
                      · rename_i new k hnew hkl
                        obtain ⟨news, hd, hsx, _⟩ := shownCells_ok m hx hnew hkl
                        split at h
                        · rename_i c hcap
                          split at h
                          · rename_i hfit
                            split at h
                            · rename_i hroom
                              simp only [Res.ok.injEq] at h; subst h
                              have hs0 := hs
                              simp only [V.den] at hs
                              obtain ⟨i, hi2, _, _, hs⟩ := hs
                              have hln := den_nat (I := I) (ρ := ρ) hnl
                              rw [hln] at hs
                              rcases hs with ⟨rfl, hsz0, _, hn0, hc0⟩ | ⟨C, f, hf, hC, hszC, hcc, rfl⟩
                              · have hc := hc0 _ rfl
                                rw [lit_i] at hc
                                have hn0' : n = 0 := by omega
                                have hk0 : k = 0 := by omega
                                subst hn0' hk0
                                have hrun := run_append_fit (ty := ty) (w := w) ht hi (sa := none) (sLen := 0) (sCap := 0) hsx (by omega)
                                have hne : news = [] := List.length_eq_zero_iff.1 (by simpa using hsx.size)
                                have hnew0 : new = [] := List.length_eq_zero_iff.1 (by have := V.denL_length hd; rw [hne] at this; simpa using this.symm)
                                subst hnew0
                                refine ⟨_, w, η, hrun, Env.le_refl _, ?_, ?_⟩
                                · simp only [V.den]
                                  exact ⟨i, hi2, by simp [E.den], by simp [E.den], .inl ⟨by simp, hsz0, rfl, by simp [E.den], hc0⟩⟩
                                · simp only [applyEff, setCells]
                                  obtain ⟨c', tc, fz, hb, hfz, hsz, hszi, hden⟩ := m.cells_read hl hi2
                                  exact m.write (look_of hl (by intro e; cases e)) hi2 rfl trivial rfl rfl rfl (Nat.le_refl _) (fun _ _ _ => rfl) rfl (by intro e; cases e) ⟨m.cells_bs hl hi2, c', tc, fz, hb, hfz, hsz, hszi, hden⟩
                              · have hcC := hcc _ rfl
                                rw [lit_i] at hcC
                                simp only [m.cells_bs hl hi2, Int.toNat_natCast, lit_i, Int.toNat_zero, Nat.zero_mul, Nat.zero_add] at hf hszC hC ⊢
                                exact app_in_place a m hl hi2 hsx hd (by omega) hf hszC hroom (by rw [lit_i]) (fun c' hc' => hcc c' hc')
                            · simp at h
                          · rename_i hfit
                            obtain ⟨rv, he, _, hneed⟩ := okR_ok hpc h
                            rw [rv, he]
                            have hs0 := hs
                            simp only [V.den] at hs
                            obtain ⟨i, hi2, _, _, hs⟩ := hs
                            have hln := den_nat (I := I) (ρ := ρ) hnl
                            rw [hln] at hs
                            rcases hs with ⟨rfl, hsz0, _, hn0, hc0⟩ | ⟨C, f, hf, hC, hszC, hcc, rfl⟩
                            · have hc := hc0 _ rfl
                              rw [lit_i] at hc
                              have hn0' : n = 0 := by omega
                              subst hn0'
                              exact app_grow_cells a m hfr hso hsx (by omega) (V.denL_append hdo hd) (by rw [lit_i]) (hneed hn)
                            · have hcC := hcc _ rfl
                              rw [lit_i] at hcC
                              simp only [Int.toNat_natCast] at hso ⊢
                              exact app_grow_cells a m hfr hso hsx (by omega) (V.denL_append hdo hd) (by rw [lit_i]) (hneed hn)
                        · split at h
                          · simp at h
                          · rename_i hne
                            simp only [not_or, ne_eq, Classical.not_not] at hne
                            obtain ⟨rv, he, _, hneed⟩ := okR_ok hpc h
                            rw [rv, he]
                            have hall := shownCells_all hold hl hne.2
                            subst hall
                            exact app_dead_cells a m hfr hl hs (den_nat hnl) hso hdo (fun i c ty fz h1 h2 => hpre i c ty fz h1 h2 rfl) hsx hd (by rw [lit_i]) (hneed hn)
                      · split at h
                        · rename_i ks B ns hsh
                          split at h
                          · simp at h
                          · rename_i hne
                            simp only [not_or, ne_eq, Classical.not_not] at hne
                            obtain ⟨hne1, hne2, hne3⟩ := hne
                            split at h
                            · rename_i l hrl
                              obtain ⟨rv, he, _, hneed⟩ := okR_ok hpc h
                              rw [rv, he]
                              have hN := hneed hn
                              obtain ⟨h1, h2, h3, h4, h5⟩ := shown_ok hpc m hx hsh (holds_left hN)
                              have hall := shownCells_all hold hl hne2
                              subst hall
                              obtain ⟨g1, g2⟩ := rowsOfCells_ok _ hrl hdo
                              have hAd : ((mkApp (rowsOf l) B).den I ρ).l = (l.map fun e => (e.den I ρ).r) ++ (B.den I ρ).l := by rw [mkApp_l, rowsOf_l]
                              have hr1 : ∀ r ∈ (l.map fun e => (e.den I ρ).r), r.length = ks.length := by
                                intro r hr
                                simp only [List.mem_map] at hr
                                obtain ⟨e, he, rfl⟩ := hr
                                exact g2 e he
                              have hll : l.length = n := by
                                have h6 := flat_length ks _ hr1
                                rw [← g1, hso.size, List.length_map, hne3] at h6
                                exact (Nat.eq_of_mul_eq_mul_right a.pos h6).symm
                              have hAl : ((mkApp (rowsOf l) B).den I ρ).l.length = n + (B.den I ρ).l.length := by rw [hAd, List.length_append, List.length_map, hll]
                              refine app_dead_rows a m hfr (look_of hl (by intro e; cases e)) rfl (fun _ hi9 => m.cells_bs hl hi9) hs (den_nat hnl) hso ?_ h5 hne3 ?_ ?_ hAl ?_ ?_
                              · intro i hi2
                                obtain ⟨c, tc, fz, hb, hfz, hsz, hszi, hden⟩ := m.cells_read hl hi2
                                have hfz' := hfz rfl
                                subst hfz'
                                have hp := hpre i c tc (0, 0) hi2 hb rfl
                                rcases Nat.eq_zero_or_pos i.sz with h0 | h0
                                · refine .inl ⟨h0, ?_⟩
                                  have h7 : olds.length = 0 := by
                                    have := V.denL_length hdo; omega
                                  rw [hso.size] at h7
                                  rcases Nat.mul_eq_zero.1 h7 with h8 | h8
                                  · exact h8
                                  · exact (hpos h8).elim
                                · exact .inr ⟨h0, trivial, c, tc, hb, hszi, hp⟩
                              · intro r hr
                                rw [hAd, List.mem_append] at hr
                                rcases hr with hr | hr
                                · exact hr1 r hr
                                · exact h3 r hr
                              · rw [hAd, List.flatMap_append, ← g1]
                              · rw [mkLen_i hpc, hAl]
                              · refine roomE_congr (holds_right hN) ?_
                                rw [mkLen_i hpc, hAl, mkAdd_i, lit_i, ← h4]; simp
                            · simp at h
                        · simp at h
                    · simp at h
                  · -- onto rows
                    rename_i ks A hl
                    split at h
                    · simp at h
                    · rename_i hne
                      simp only [not_or, ne_eq, Classical.not_not] at hne
                      obtain ⟨hne1, hne2⟩ := hne
                      obtain ⟨q1, q2, q3, q4⟩ := m.rows_read hl (i := (m.obj hh _ (look_of hl (by intro e; cases e))).choose) (m.obj hh _ (look_of hl (by intro e; cases e))).choose_spec.1
                      have hold : ∀ (_ : (len.den I ρ).i = ((A.den I ρ).l.length : Int)) (i : Info), η hh = some i → (i.sz = 0 ∧ (A.den I ρ).l.length = 0) ∨ (0 < i.sz ∧ (O.rows false ks A).hasBlk i ∧ ∃ c tc, w.heap[i.blk]? = some (.cells c tc (0, 0)) ∧ c.size = i.sz ∧ c.toList.take ((A.den I ρ).l.flatMap (rowVals ks)).length = (A.den I ρ).l.flatMap (rowVals ks)) := by
                        intro _ i hi2
                        obtain ⟨_, _, _, hd4⟩ := m.rows_own hl hi2
                        rcases hd4 with ⟨h0, h1⟩ | ⟨h0, c, tc, fz, hb, hfz, hle, hsz, htk⟩
                        · exact .inl ⟨h0, by rw [h1]; rfl⟩
                        · have hfz' := hfz rfl
                          subst hfz'
                          exact .inr ⟨h0, h0, c, tc, hb, hsz, by rw [flat_length ks _ q3]; exact htk⟩
                      split at h
                      · -- in place
                        rename_i c hin
                        obtain ⟨rfl, p1, p2, p3⟩ := inPlace_ok hpc hin
                        have place : ∀ {B : E} {k : Nat}, (∀ r ∈ (B.den I ρ).l, r.length = ks.length) → Shows P w xv k ti.size ((B.den I ρ).l.flatMap (rowVals ks)) → (lenx.den I ρ).i = (k : Int) → 0 ≤ (len.den I ρ).i →
                            AppOk P I ρ η S w0 w t ty sv xv (.slice hh ti.size (.lit 0) (mkAdd len lenx) (some c)) (setO H hh (.rows false ks (splice pc A len lenx B))) := by
                          intro B k hB hsx hk hl0
                          simp only [V.den] at hs
                          obtain ⟨i, hi2, _, _, hs⟩ := hs
                          have hbs := m.rows_bs hl hi2
                          obtain ⟨n, hnn⟩ : ∃ n : Nat, (len.den I ρ).i = (n : Int) := ⟨(len.den I ρ).i.toNat, by omega⟩
                          have hspl : ((splice pc A len lenx B).den I ρ).l = (A.den I ρ).l.take n ++ (B.den I ρ).l ++ (A.den I ρ).l.drop (n + k) := by
                            unfold splice
                            rw [mkApp_l, mkApp_l, mkTake_l hpc, mkDrop_l hpc, mkAdd_i, hnn, hk]
                            congr 2
                          have hlee : ((mkAdd len lenx).den I ρ).i = ((n + k : Nat) : Int) := by rw [mkAdd_i, hnn, hk]; rfl
                          rw [hnn] at hs
                          rcases hs with ⟨rfl, hsz0, _, hn0, hc0⟩ | ⟨C, f, hf, hC, hszC, hcc, rfl⟩
                          · have hc := hc0 _ rfl
                            omega
                          · have hcC := hcc _ rfl
                            simp only [hbs, Int.toNat_natCast, lit_i, Int.toNat_zero, Nat.zero_mul, Nat.zero_add] at hf hszC hC ⊢
                            exact app_in_rows a m hl hi2 hne2 hB hsx (by omega) (by omega) hf hszC (by omega) hspl hlee (fun c' hc' => hcc c' hc')
                        split at h
                        · rename_i new k hnew hkl
                          obtain ⟨news, hd, hsx, _⟩ := shownCells_ok m hx hnew hkl
                          split at h
                          · rename_i l hrl
                            obtain ⟨rv, he, _, hneed⟩ := okR_ok hpc h
                            rw [rv, he]
                            have hN := hneed hn
                            have n1 := holds_le (hN _ (List.mem_cons_self ..))
                            simp only [lit_i] at n1
                            obtain ⟨g1, g2⟩ := rowsOfCells_ok _ hrl hd
                            have hr1 : ∀ r ∈ ((rowsOf l).den I ρ).l, r.length = ks.length := by
                              intro r hr
                              rw [rowsOf_l, List.mem_map] at hr
                              obtain ⟨e, he, rfl⟩ := hr
                              exact g2 e he
                            exact place hr1 (by rw [rowsOf_l, ← g1]; exact hsx) (den_nat hkl) n1
                          · simp at h
                        · split at h
                          · rename_i ks' B ns hsh
                            split at h
                            · simp at h
                            · rename_i hkk
                              have hkk' : ks' = ks := by simpa using hkk
                              subst hkk'
                              obtain ⟨rv, he, _, hneed⟩ := okR_ok hpc h
                              rw [rv, he]
                              have hN := hneed hn
                              have n1 := holds_le (hN _ (List.mem_cons_self ..))
                              simp only [lit_i] at n1
                              obtain ⟨h1, h2, h3, h4, h5⟩ := shown_ok hpc m hx hsh (holds_tail hN)
                              exact place h3 h5 h4.symm n1
                          · simp at h
                      split at h
                      · rename_i new k hnew hkl
                        obtain ⟨news, hd, hsx, _⟩ := shownCells_ok m hx hnew hkl
                        split at h
                        · rename_i l hrl
                          obtain ⟨rv, he, _, hneed⟩ := okR_ok hpc h
                          rw [rv, he]
                          have hN := hneed hn
                          have hlA := holds_eq (hN _ (List.mem_cons_self ..))
                          rw [mkLen_i hpc] at hlA
                          have hs' : V.den I ρ η (.slice hh ks.length (.lit 0) len cap) sv := by rw [hne2]; exact hs
                          have hso := whole_shows m hpc hl hs' hlA
                          rw [hne2] at hso
                          obtain ⟨g1, g2⟩ := rowsOfCells_ok _ hrl hd
                          have hAd := foldl_snoc (I := I) (ρ := ρ) l A
                          have hr1 : ∀ r ∈ (l.map fun e => (e.den I ρ).r), r.length = ks.length := by
                            intro r hr
                            simp only [List.mem_map] at hr
                            obtain ⟨e, he, rfl⟩ := hr
                            exact g2 e he
                          have hll : l.length = k := by
                            have h6 := flat_length ks _ hr1
                            rw [← g1, hsx.size, List.length_map, hne2] at h6
                            exact (Nat.eq_of_mul_eq_mul_right a.pos h6).symm
                          have hAl : ((l.foldl mkSnoc A).den I ρ).l.length = (A.den I ρ).l.length + k := by rw [hAd, List.length_append, List.length_map, hll]
                          refine app_dead_rows a m hfr (look_of hl (by intro e; cases e)) rfl (fun _ hi9 => m.rows_bs hl hi9) hs hlA hso (hold hlA) hsx hne2 ?_ ?_ hAl ?_ ?_
                          · intro r hr
                            rw [hAd, List.mem_append] at hr
                            rcases hr with hr | hr
                            · exact q3 r hr
                            · exact hr1 r hr
                          · rw [hAd, List.flatMap_append, ← g1]
                          · rw [mkLen_i hpc, hAl]
                          · refine roomE_congr (holds_tail hN) ?_
                            rw [mkLen_i hpc, hAl, plus_i, mkLen_i hpc]; simp
                        · simp at h
                      · split at h
                        · rename_i ks' B ns hsh
                          split at h
                          · simp at h
                          · rename_i hkk
                            have hkk' : ks' = ks := by simpa using hkk
                            subst hkk'
                            obtain ⟨rv, he, _, hneed⟩ := okR_ok hpc h
                            rw [rv, he]
                            have hN := hneed hn
                            have hlA := holds_eq (hN _ (List.mem_cons_self ..))
                            rw [mkLen_i hpc] at hlA
                            obtain ⟨h1, h2, h3, h4, h5⟩ := shown_ok hpc m hx hsh (holds_left (holds_tail hN))
                            have hs' : V.den I ρ η (.slice hh ks'.length (.lit 0) len cap) sv := by rw [hne2]; exact hs
                            have hso := whole_shows m hpc hl hs' hlA
                            rw [hne2] at hso
                            have hAd := mkApp_l I ρ A B
                            have hAl : ((mkApp A B).den I ρ).l.length = (A.den I ρ).l.length + (B.den I ρ).l.length := by rw [hAd, List.length_append]
                            refine app_dead_rows a m hfr (look_of hl (by intro e; cases e)) rfl (fun _ hi9 => m.rows_bs hl hi9) hs hlA hso (hold hlA) h5 hne2 ?_ ?_ hAl ?_ ?_
                            · intro r hr
                              rw [hAd, List.mem_append] at hr
                              rcases hr with hr | hr
                              · exact q3 r hr
                              · exact h3 r hr
                            · rw [hAd, List.flatMap_append]
                            · rw [mkLen_i hpc, hAl]
                            · refine roomE_congr (holds_right (holds_tail hN)) ?_
                              rw [mkLen_i hpc, hAl, mkAdd_i, mkLen_i hpc, ← h4]; simp
                        · simp at h
                  · simp at h
              · simp at h
          · simp at h
      · simp at h
    · simp at h


theorem run_append_zeros {t tn ty e : TypeId} {i : TypeInfo} {z : Value} {k kn : IntKind} (ht : P.underlying t = some (.slice e)) (htn : P.underlying tn = some (.int kn)) (hi : P.info? e = some i) (hz : i.zero = some z) (hpos : 0 < i.size) {sa : Option Addr} {n C m : Nat} {olds : List Value}
    (hs : Shows P w (.slice sa n C) n i.size olds) (hg : C < n + m) (hm : 0 < m) (hm2 : m ≤ 1048576) (h63 : ((n + m : Nat) : Int) ≤ 9223372036854775807) (hfit : (n + m) * i.bytes ≤ 140737488355328) :
    (Builtin.append_ #[t, tn] ty #[.slice sa n C, .int k m]).run P w =
      .ok (.slice (some ⟨w.heap.size, 0, none⟩) (n + m) (grownCap w (n + m) C e)) (w.drew.alloc (.cells ((olds ++ (Builtin.zeroCells z.cells m).toList).toArray ++ Builtin.zeroCells z.cells (grownCap w (n + m) C e - (n + m))) e)) := by
  have hn : ¬ (n + m ≤ C) := by omega
  have hw : IntKind.i64.wrap (m : Int) = m := by rw [IntKind.wrap_i64]; omega
  have h63' : ¬ (9223372036854775807 < ((n : Int) + (m : Int))) := by omega
  have h48 := growslice_fits hg hfit
  have h48' : ¬ (281474976710656 < Builtin.nextslicecap (n + m) C * i.bytes) := by omega
  have h48i : ¬ (281474976710656 < (m : Int) * (i.bytes : Int)) := by
    have : m * i.bytes ≤ (n + m) * i.bytes := Nat.mul_le_mul_right _ (by omega)
    rw [← Int.natCast_mul]
    omega
  have hneg : ¬ ((m : Int) < 0) := by omega
  have hns : ¬ (m * i.size = 0) := Nat.mul_ne_zero (by omega) (by omega)
  have hfo := hs.cells w.drew rfl
  simp [Builtin.append_, run_underlying ht, run_underlying htn, sizeOf, typeInfo, zeroValue, hi, hz, asInt, asIntOf, hw, hn, hneg, hns, h63', h48', h48i, Question.forced, hfo, newRow, grownCap]
  congr 2
  apply Array.ext'
  simp [List.append_assoc]

theorem zeros_den {z : List V} {zv : Value} (hd : V.denL I ρ η z zv.cells.toList) (hpos : 0 < zv.cells.size) (m : Nat) : V.denL I ρ η (repeatL z m) (Builtin.zeroCells zv.cells m).toList := made_den hd hpos m

theorem appendZ_ok (hpc : Holds I ρ pc) (m : Mem P I ρ η H S w0 w) {fr : Nat} (hfr : look H fr = none) {t tn ty : TypeId} {k kn : IntKind} (htn : P.underlying tn = some (.int kn)) {s : V} {sv : Value} (hs : V.den I ρ η s sv) {q : Nat} (hq : q ≤ 1048576) {r : AR}
    (h : appendZ P pc H fr t s q = .ok r) (hn : Holds I ρ r.needs) :
    ∃ y w' η', (Builtin.append_ #[t, tn] ty #[sv, .int k q]).run P w = .ok y w' ∧ η.le η' ∧ V.den I ρ η' r.v y ∧ Mem P I ρ η' (applyEff H r.eff) S w0 w' := by
  unfold appendZ at h
  split at h
  · rename_i e ht
    split at h
    · rename_i ti z hi hz
      split at h
      · simp at h
      · rename_i hzi
        simp only [not_or, ne_eq, Classical.not_not] at hzi
        obtain ⟨hzl, hpos, hq0⟩ := hzi
        obtain ⟨ti', zv, hi', hz', hd, _, hzs, _⟩ := zeroCellsV_ok (I := I) (ρ := ρ) (η := η) hz
        rw [hi] at hi'; simp only [Option.some.injEq] at hi'; subst hi'
        have hzc : zv.cells.size = ti.size := by omega
        have grown : ∀ {sa : Option Addr} {n C : Nat} {olds : List Value} {cs : List V}, sv = .slice sa n C → Shows P w (.slice sa n C) n ti.size olds → V.denL I ρ η cs olds → C < n + q → Holds I ρ (roomE ti.bytes (.lit (n + q : Nat))) →
            ∃ y w' η', (Builtin.append_ #[t, tn] ty #[sv, .int k q]).run P w = .ok y w' ∧ η.le η' ∧ V.den I ρ η' (.slice fr ti.size (.lit 0) (.lit (n + q : Nat)) none) y ∧ Mem P I ρ η' (setO H fr (.cells false (cs ++ repeatL z q))) S w0 w' := by
          intro sa n C olds cs hsv hsh hdo hg hroom
          subst hsv
          obtain ⟨r1, r2⟩ := roomE_ok hroom (k := n + q) (by simp [E.den])
          have hrun := run_append_zeros (w := w) (ty := ty) (k := k) ht htn hi hz' (by omega) hsh hg (by omega) hq r2 r1
          have hall : (olds ++ (Builtin.zeroCells zv.cells q).toList).length = (n + q) * ti.size := by
            rw [List.length_append, hsh.size, Array.length_toList, size_zeroCells, hzc, Nat.add_mul]
          obtain ⟨η', h1, h2, h3⟩ := grow_cells m hfr (V.denL_append hdo (zeros_den hd (by omega) q)) hall (grownCap_ge w (n + q) C e) hzc e (le := .lit (n + q : Nat)) (by simp [E.den])
          exact ⟨_, _, η', hrun, h1, h3, h2⟩
        split at h
        · simp only [V.den] at hs; subst hs
          obtain ⟨rv, he, _, hneed⟩ := okR_ok hpc h
          rw [rv, he]
          have hN := hneed hn
          have := grown (n := 0) (C := 0) (sa := none) (olds := []) (cs := []) rfl (shows_nil ti.size) (by simp [V.denL]) (by omega) (by rw [Nat.zero_add]; exact hN)
          rw [Nat.zero_add, List.nil_append] at this
          simp only [applyEff]
          exact this
        · rename_i hh ws off len c
          split at h
          · simp at h
          · rename_i hws
            have hws' : ws = ti.size := by simpa using hws
            subst hws'
            split at h
            · rename_i old n hold hnl
              split at h
              · rename_i hlt
                obtain ⟨rv, he, _, hneed⟩ := okR_ok hpc h
                rw [rv, he]
                have hN := hneed hn
                simp only [applyEff]
                obtain ⟨olds, hdo, hso, _⟩ := shownCells_ok m hs hold hnl
                have hln := den_nat (I := I) (ρ := ρ) hnl
                simp only [V.den] at hs
                obtain ⟨i, hi2, _, _, hs⟩ := hs
                rcases hs with ⟨hsv, _, _, hz0, _⟩ | ⟨C, f, _, hC, _, hcap, hsv⟩
                · have hn0 : n = 0 := by omega
                  subst hn0
                  have hso' := hso
                  rw [hsv] at hso'
                  exact grown (n := 0) (C := 0) (sa := none) hsv hso' hdo (by omega) hN
                · have hc := hcap _ rfl
                  rw [lit_i] at hc
                  have hln2 : (len.den I ρ).i.toNat = n := by omega
                  rw [hln2] at hsv
                  have hso' := hso
                  rw [hsv] at hso'
                  exact grown (n := n) (C := C) (sa := some ⟨i.blk, f, none⟩) hsv hso' hdo (by omega) hN
              · simp at h
            · simp at h
        · simp at h
    · simp at h
  · simp at h

end
end Go.Sx

/- The symbolic executor, part Na: maps. -/
namespace Go.Sx
open Go

section
variable {P : Program} {I : Itp} {ρ : List U} {pc : List E} {η : Env} {H : List O} {S : Nat → Prop} {w0 w : World}

theorem rowV_ok {ks : List CK} {ag : Bool} {v : V} {r : List E} (h : rowV ks ag v = some r) {x : Value} (hv : V.den I ρ η v x) :
    x = asVal ag (rowVals ks (r.map fun e => (e.den I ρ).i)) ∧ r.length = ks.length := by
  unfold rowV at h
  split at h
  · rename_i vs hc
    obtain ⟨h1, _, h3⟩ := cellsOf_ok hv hc
    cases v with
    | agg cs =>
      simp only at h
      split at h
      · rename_i hag
        subst hag
        obtain ⟨h4, h5⟩ := rowCells_ok h h1
        refine ⟨?_, h5⟩
        simp only [V.den] at hv
        obtain ⟨xs, rfl, _⟩ := hv
        rw [← h4]
        simp [asVal, Value.cells]
      · cases h
    | junk => simp [V.cellsOf] at hc
    | tup _ => simp [V.cellsOf] at hc
    | _ =>
      simp only at h
      split at h
      · rename_i hag
        simp only [Bool.not_eq_true'] at hag
        subst hag
        obtain ⟨h4, h5⟩ := rowCells_ok h h1
        refine ⟨?_, h5⟩
        rw [← h4]
        simp only [V.cellsOf, Option.some.injEq] at hc
        subst hc
        have ha := (atom_cells hv (by simpa using h3)).2
        rw [ha]
        simp [asVal]
      · cases h
  · cases h

theorem zeroKs_ok : ∀ {vs : List Value} {ks : List CK}, zeroKs vs = some ks → vs = rowVals ks (List.replicate ks.length 0)
  | [], ks, h => by simp [zeroKs] at h; subst h; rfl
  | v :: vs, ks, h => by
    simp only [zeroKs] at h
    split at h
    · rename_i k ks' hk hks
      simp only [Option.some.injEq] at h; subst h
      rw [zeroKs_ok hks]
      simp only [List.length_cons, List.replicate_succ, rowVals, List.zipWith_cons_cons]
      congr 1
      · unfold zeroK at hk
        split at hk
        · split at hk
          · rename_i hn; simp at hk; subst hk; subst hn; rfl
          · cases hk
        · split at hk
          · cases hk
          · rename_i hb; simp at hk; subst hk; simp [CK.val, hb]
        · cases hk
    · cases h

theorem flatT_ok {t : TypeId} {ks : List CK} {ag : Bool} (h : flatT P t = some (ks, ag)) :
    isAggT P t = some ag ∧ (ag = false → ks.length = 1) ∧ ∀ w, (zeroValue t).run P w = .ok (asVal ag (rowVals ks (List.replicate ks.length 0))) w := by
  unfold flatT at h
  split at h
  · rename_i i hi
    split at h
    · rename_i xs hz ha
      rw [Option.map_eq_some_iff] at h
      obtain ⟨ks', hk, he⟩ := h
      simp only [Prod.mk.injEq] at he
      obtain ⟨rfl, rfl⟩ := he
      refine ⟨ha, (fun e => by cases e), fun w => ?_⟩
      rw [← zeroKs_ok hk]
      simp [zeroValue, typeInfo, hi, hz, asVal]
    · rename_i v hz ha
      rw [Option.map_eq_some_iff] at h
      obtain ⟨k, hk, he⟩ := h
      simp only [Prod.mk.injEq] at he
      obtain ⟨rfl, rfl⟩ := he
      refine ⟨ha, fun _ => rfl, fun w => ?_⟩
      have := zeroKs_ok (vs := [v]) (ks := [k]) (by simp [zeroKs, hk])
      rw [← this]
      simp [zeroValue, typeInfo, hi, hz, asVal]
    · cases h
  · cases h

/-! ### keys -/

theorem varsV_den (ks : List CK) (hk : ks.all isIntK = true) : ∀ (i : Nat) (r : List Int) (ρ : List U), r.length = ks.length → (∀ q, q < r.length → (ρ.getD (i + q) {}).i = r.getD q 0) → V.denL I ρ η (varsV ks i) (rowVals ks r) := by
  induction ks with
  | nil => intro i r ρ hl _; simp [varsV, rowVals, V.denL]
  | cons k ks ih =>
    intro i r ρ hl hr
    simp only [List.all_cons, Bool.and_eq_true] at hk
    cases r with
    | nil => simp at hl
    | cons a r =>
      cases k with
      | bool => simp [isIntK] at hk
      | int k =>
        simp only [varsV, rowVals, List.zipWith_cons_cons, V.denL]
        refine ⟨_, _, rfl, ?_, ih hk.2 (i + 1) r ρ (by simpa using hl) (fun q hq => ?_)⟩
        · have := hr 0 (by simp)
          simp only [Nat.add_zero, List.getD_cons_zero] at this
          simp only [V.den, E.den, CK.val, this]
        · have := hr (q + 1) (by simpa using hq)
          rw [List.getD_cons_succ] at this
          rw [← this]; congr 1; congr 1; omega

theorem canonE_den (w : Nat) (r r' : List Int) (ρ : List U) (hl : r.length = w) (hl' : r'.length = w) (h1 : ∀ q, q < w → (ρ.getD q {}).i = r.getD q 0) (h2 : ∀ q, q < w → (ρ.getD (w + q) {}).i = r'.getD q 0) :
    ∀ (n i : Nat), i + n = w → (((canonE w n i).den I ρ).b = true ↔ r.drop i = r'.drop i)
  | 0, i, hi => by
    rw [List.drop_of_length_le (by omega), List.drop_of_length_le (by omega)]
    simp [canonE, E.den]
  | n + 1, i, hi => by
    have ih := canonE_den w r r' ρ hl hl' h1 h2 n (i + 1) (by omega)
    simp only [canonE, mkAnd_b, Bool.and_eq_true, ih]
    rw [List.drop_eq_getElem_cons (show i < r.length by omega), List.drop_eq_getElem_cons (show i < r'.length by omega)]
    have e1 := h1 i (by omega)
    have e2 := h2 i (by omega)
    rw [List.getD_eq_getElem?_getD (l := r), List.getElem?_eq_getElem (show i < r.length by omega)] at e1
    rw [List.getD_eq_getElem?_getD (l := r'), List.getElem?_eq_getElem (show i < r'.length by omega)] at e2
    simp only [E.den, BiO.den, e1, e2, Option.getD_some, beq_iff_eq, List.cons.injEq]

structure KeyOk (P : Program) (t : TypeId) (ks : List CK) (ag : Bool) : Prop where
  flat : flatT P t = some (ks, ag)
  ints : ks.all isIntK = true
  pos : 0 < ks.length
  parts : keyParts P t ks.length = true
  eq : ∃ e, eqT P [] 20 t (varsV ks 0) (varsV ks ks.length) = some e ∧ e = canonE ks.length ks.length 0

theorem keyT_ok {t : TypeId} {ks : List CK} {ag : Bool} (h : keyT P t = some (ks, ag)) : KeyOk P t ks ag := by
  unfold keyT at h
  split at h
  · rename_i ks' ag' hf
    split at h
    · rename_i hc
      simp only [Option.some.injEq, Prod.mk.injEq] at h
      obtain ⟨rfl, rfl⟩ := h
      simp only [Bool.and_eq_true, decide_eq_true_eq] at hc
      obtain ⟨⟨⟨h1, h2⟩, h3⟩, h4⟩ := hc
      refine ⟨hf, h1, h2, h3, ?_⟩
      unfold keyEq at h4
      split at h4
      · rename_i e he; exact ⟨e, he, E.same_eq h4⟩
      · cases h4
    · cases h
  · cases h

/-- Two keys are compared. -/
theorem KeyOk.equal {t : TypeId} {ks : List CK} {ag : Bool} (k : KeyOk P t ks ag) {r r' : List Int} (hl : r.length = ks.length) (hl' : r'.length = ks.length) (w : World) :
    (Op.equal t (asVal ag (rowVals ks r)) (asVal ag (rowVals ks r'))).run P w = .ok (r == r') w := by
  obtain ⟨e, he, hs⟩ := k.eq
  let ρ : List U := (r ++ r').map fun n => ({ i := n } : U)
  have hg : ∀ q, (ρ.getD q {}).i = (r ++ r').getD q 0 := by
    intro q
    simp only [ρ, List.getD_eq_getElem?_getD, List.getElem?_map]
    cases (r ++ r')[q]? <;> rfl
  have h1 : ∀ q, q < ks.length → (ρ.getD q {}).i = r.getD q 0 := fun q hq => by
    rw [hg, List.getD_eq_getElem?_getD, List.getElem?_append_left (by omega), List.getD_eq_getElem?_getD]
  have h2 : ∀ q, q < ks.length → (ρ.getD (ks.length + q) {}).i = r'.getD q 0 := fun q hq => by
    rw [hg, List.getD_eq_getElem?_getD, List.getElem?_append_right (by omega), List.getD_eq_getElem?_getD, hl]
    congr 2; omega
  let I : Itp := ⟨fun _ _ => {}, fun _ _ _ => {}, fun _ _ _ _ => {}, fun _ _ _ _ _ => {}⟩
  let η : Env := fun _ => none
  have hX : V.denL I ρ η (varsV ks 0) (rowVals ks r) := varsV_den ks k.ints 0 r ρ hl (fun q hq => by rw [Nat.zero_add]; exact h1 q (by omega))
  have hY : V.denL I ρ η (varsV ks ks.length) (rowVals ks r') := varsV_den ks k.ints _ r' ρ hl' (fun q hq => h2 q (by omega))
  have q := (eqT_ok (I := I) (ρ := ρ) (pc := []) (η := η) (fun _ h => by cases h) 20).1 t _ _ e ag he (flatT_ok k.flat).1 _ _ hX hY 10000 w (by omega)
  have hc := canonE_den (I := I) ks.length r r' ρ hl hl' h1 h2 ks.length 0 (by omega)
  rw [← hs] at hc
  have hb : (e.den I ρ).b = (r == r') := by
    rw [Bool.eq_iff_iff, hc]; simp
  rw [hb] at q
  exact q

theorem rowVals_length (ks : List CK) (r : List Int) (h : r.length = ks.length) : (rowVals ks r).length = ks.length := by simp [rowVals, h]

theorem int_cell {ks : List CK} (hk : ks.all isIntK = true) {r : List Int} (hl : r.length = ks.length) {j : Nat} (hj : j < ks.length) : ∃ k n, (rowVals ks r)[j]? = some (.int k n) := by
  have : j < r.length := by omega
  simp only [rowVals, List.getElem?_zipWith, List.getElem?_eq_getElem hj, List.getElem?_eq_getElem this]
  have h := List.all_eq_true.1 hk ks[j] (List.getElem_mem hj)
  cases hkj : ks[j] with
  | bool => rw [hkj] at h; simp [isIntK] at h
  | int k => exact ⟨k, r[j], rfl⟩

/-- A key may be one. -/
theorem KeyOk.checkN {t : TypeId} {ks : List CK} {ag : Bool} (k : KeyOk P t ks ag) {r : List Int} (hl : r.length = ks.length) (em : Bool) (w : World) (N : Nat) :
    (Instr.checkKey em (N + 1 + 1) t (asVal ag (rowVals ks r))).run P w = .ok () w := by
  obtain ⟨hag, h1, _⟩ := flatT_ok k.flat
  have hp := k.parts
  unfold keyParts at hp
  have one : ∀ (n : Nat) (e : TypeId) (off : Nat) (kk : IntKind), P.underlying e = some (.int kk) → sizeT P e = some 1 → off + 1 ≤ ks.length →
      ∃ a, (part e (rowVals ks r).toArray off).run P w = .ok a w ∧ (Instr.checkKey em (n + 1) e a).run P w = .ok () w := by
    intro n e off kk hu hs hle
    have hae : isAggT P e = some false := by unfold isAggT; rw [hu]
    have hlen := rowVals_length ks r hl
    refine ⟨_, part_run w hae hs (rowVals ks r).toArray off (by simp [hlen]; omega) (fun _ => by omega), ?_⟩
    obtain ⟨k', n', hc⟩ := int_cell k.ints hl (j := off) (by omega)
    have : asVal false (((rowVals ks r).toArray.toList.drop off).take 1) = .int k' n' := by
      have hlt : off < (rowVals ks r).length := by omega
      rw [List.getElem?_eq_getElem hlt] at hc
      show (List.take 1 (List.drop off (rowVals ks r))).headD undef = _
      rw [List.drop_eq_getElem_cons hlt]
      exact Option.some.inj hc
    rw [this]
    simp [Instr.checkKey, run_underlying hu]
  split at hp
  · rename_i kk hu
    have : ag = false := by unfold isAggT at hag; rw [hu] at hag; simpa using hag.symm
    subst this
    obtain ⟨k', n', hc⟩ := int_cell k.ints hl k.pos
    have e : asVal false (rowVals ks r) = .int k' n' := by
      simp only [asVal, Bool.false_eq_true, if_false]
      cases hr : rowVals ks r with
      | nil => rw [hr] at hc; simp at hc
      | cons a l => rw [hr] at hc; simp at hc; simp [hc]
    rw [e]
    simp [Instr.checkKey, run_underlying hu]
  · rename_i n e hu
    have : ag = true := by unfold isAggT at hag; rw [hu] at hag; simpa using hag.symm
    subst this
    simp only [Bool.and_eq_true, decide_eq_true_eq] at hp
    obtain ⟨⟨hp1, hp2⟩, hp3⟩ := hp
    split at hp1
    · rename_i kk hue
      simp only [asVal, if_true]
      rw [Instr.checkKey]
      simp only [Sem.run_bind, run_underlying hu, Result.andThen_ok]
      simp only [Std.Legacy.Range.forIn_eq_forIn_range', Std.Legacy.Range.size, Nat.sub_zero, Nat.add_one_sub_one, Nat.div_one]
      have each : ∀ j ∈ List.range' 0 n, j < n := fun j hj => by
        have := List.mem_range'.1 hj
        obtain ⟨i, hi, rfl⟩ := this
        omega
      generalize List.range' 0 n = is at each
      induction is with
      | nil => simp
      | cons j is ih =>
        have hj := each j (by simp)
        obtain ⟨a, p1, p2⟩ := one N e (j * 1) kk hue hp2 (by omega)
        simp only [List.forIn_cons, Sem.run_bind, sizeT_run hp2, Result.andThen_ok, p1, p2, Sem.run_pure]
        exact ih (fun y hy => each y (by simp [hy]))
    · cases hp1
  · rename_i fs hu
    have : ag = true := by unfold isAggT at hag; rw [hu] at hag; simpa using hag.symm
    subst this
    simp only [asVal, if_true]
    rw [Instr.checkKey]
    simp only [Sem.run_bind, run_underlying hu, Result.andThen_ok]
    rw [← Array.forIn_toList]
    generalize fs.toList = L at hp
    induction L with
    | nil => simp
    | cons f L ih =>
      simp only [List.all_cons, Bool.and_eq_true, decide_eq_true_eq] at hp
      obtain ⟨⟨⟨⟨hn, hi⟩, hs⟩, ho⟩, hrest⟩ := hp
      split at hi
      · rename_i kk hue
        obtain ⟨a, p1, p2⟩ := one N f.type f.offset kk hue hs ho
        simp only [List.forIn_cons, Sem.run_bind, hn, ne_eq, not_false_eq_true, if_true, Result.andThen_ok, p1, p2, Sem.run_pure]
        exact ih (by simpa using hrest)
      · cases hi
  · cases hp

theorem KeyOk.check {t : TypeId} {ks : List CK} {ag : Bool} (k : KeyOk P t ks ag) {r : List Int} (hl : r.length = ks.length) (em : Bool) (w : World) :
    (Instr.checkKey em 10000 t (asVal ag (rowVals ks r))).run P w = .ok () w := k.checkN hl em w 9998

/-- the entry at a place -/
theorem mapCells_get (ks vs : List CK) (ka va : Bool) : ∀ (l : List (List Int)) (n j : Nat), (mapCells ks vs ka va l n)[j]? = (l[j]?).map fun r => ⟨asVal ka (rowVals ks (r.take ks.length)), asVal va (rowVals vs (r.drop ks.length)), n + j⟩
  | [], n, j => by simp [mapCells]
  | r :: l, n, 0 => by simp [mapCells]
  | r :: l, n, j + 1 => by
    simp only [mapCells, List.getElem?_cons_succ, mapCells_get ks vs ka va l (n + 1) j]
    congr 1
    funext r
    congr 1
    omega

/-- The value of a key's entry. -/
def foundAt (ks vs : List CK) (va : Bool) (l : List (List Int)) (k : List Int) : Option (Nat × Value) :=
  if findRow l k < l.length then some (findRow l k, asVal va (rowVals vs ((l.getD (findRow l k) []).drop ks.length))) else none

theorem keyIs_iff {k r : List Int} {n : Nat} (hk : k.length = n) : keyIs k r = (k == r.take n) := by
  unfold keyIs; rw [hk, Bool.beq_comm]

theorem findRow_lt_cons {r : List Int} {l : List (List Int)} {k : List Int} (h : keyIs k r = false) : findRow (r :: l) k = findRow l k + 1 := by rw [findRow_cons, h]; rfl

theorem KeyOk.find {t : TypeId} {ks vs : List CK} {ag va : Bool} (k : KeyOk P t ks ag) {key : List Int} (hk : key.length = ks.length) (w : World) {l : List (List Int)} (hl : ∀ r ∈ l, r.length = ks.length + vs.length) (n : Nat) :
    (Instr.findKey t (asVal ag (rowVals ks key)) (mapCells ks vs ag va l n)).run P w = .ok (foundAt ks vs va l key) w := by
  have step : ∀ (f : List MapEntry → Nat → Option (Option (Nat × Value))), True := fun _ => trivial
  clear step
  have shift : ∀ (r : List Int) (l : List (List Int)), keyIs key r = false → foundAt ks vs va (r :: l) key = (foundAt ks vs va l key).map fun x => (x.1 + 1, x.2) := by
    intro r l h
    unfold foundAt
    rw [findRow_lt_cons h]
    simp only [List.length_cons, Nat.add_lt_add_iff_right, List.getD_cons_succ]
    split <;> rfl
  have head : ∀ (r : List Int) (l : List (List Int)), keyIs key r = true → foundAt ks vs va (r :: l) key = some (0, asVal va (rowVals vs (r.drop ks.length))) := by
    intro r l h
    unfold foundAt
    rw [findRow_cons, h]
    simp
  obtain ⟨hag, h1, _⟩ := flatT_ok k.flat
  by_cases hint : ∃ kk, P.underlying t = some (.int kk)
  · obtain ⟨kk, hu⟩ := hint
    have : ag = false := by unfold isAggT at hag; rw [hu] at hag; simpa using hag.symm
    subst this
    have hks := h1 rfl
    obtain ⟨k1, hk1⟩ : ∃ k1, ks = [k1] := by
      cases ks with
      | nil => simp at hks
      | cons a l' => simp at hks; exact ⟨a, by simp [hks]⟩
    subst hk1
    have hki := k.ints
    simp only [List.all_cons, List.all_nil, Bool.and_true] at hki
    cases k1 with
    | bool => simp [isIntK] at hki
    | int ik =>
      obtain ⟨x, hx⟩ : ∃ x, key = [x] := by
        cases key with
        | nil => simp at hk
        | cons a l' => simp at hk; exact ⟨a, by simp [hk]⟩
      subst hx
      have main : ∀ (l : List (List Int)) (n i : Nat), (∀ r ∈ l, r.length = 1 + vs.length) → Instr.findNow (.int kk) (.int ik x) (mapCells [.int ik] vs false va l n) i = some ((foundAt [.int ik] vs va l [x]).map fun y => (i + y.1, y.2)) := by
        intro l
        induction l with
        | nil => intro n i _; rfl
        | cons r l ih =>
          intro n i hl
          have hr := hl r (by simp)
          cases r with
          | nil => simp at hr; omega
          | cons a r =>
            have hkey : (asVal false (rowVals [CK.int ik] ((a :: r).take [CK.int ik].length))) = .int ik a := rfl
            simp only [mapCells, Instr.findNow, hkey, Instr.sameNow, if_true]
            by_cases e : x = a
            · subst e
              have hh : keyIs [x] (x :: r) = true := by simp [keyIs]
              rw [head _ _ hh]
              simp
            · have hh : keyIs [x] (a :: r) = false := by simp [keyIs]; exact fun h => e h.symm
              rw [shift _ _ hh]
              have e' : (x == a) = false := by simpa using e
              simp only [e']
              rw [ih (n + 1) (i + 1) (fun r hr => hl r (by simp [hr]))]
              cases foundAt [.int ik] vs va l [x] with
              | none => rfl
              | some y => simp; omega
      have := main l n 0 hl
      simp only [Instr.findKey, Sem.run_bind, run_underlying hu, Result.andThen_ok]
      show (match Instr.findNow (.int kk) (.int ik x) (mapCells [.int ik] vs false va l n) 0 with | some r => pure r | none => _ : Sem (Option (Nat × Value))).run P w = _
      rw [this]
      simp only [Sem.run_pure]
      congr 1
      cases foundAt [.int ik] vs va l [x] <;> simp
  · have hwide : (match P.underlying t with | some (.array _ _) | some (.struct _) => true | _ => false) = true := by
      have hp := k.parts
      unfold keyParts at hp
      split at hp
      · rename_i kk hu; exact (hint ⟨kk, hu⟩).elim
      · rename_i hu; rw [hu]
      · rename_i hu; rw [hu]
      · cases hp
    rw [run_findKey_eq w hwide]
    have main : ∀ (l : List (List Int)) (n i : Nat), (∀ r ∈ l, r.length = ks.length + vs.length) → (Instr.findAsking t (asVal ag (rowVals ks key)) (mapCells ks vs ag va l n) i).run P w = .ok ((foundAt ks vs va l key).map fun y => (i + y.1, y.2)) w := by
      intro l
      induction l with
      | nil => intro n i _; rfl
      | cons r l ih =>
        intro n i hl
        have hr := hl r (by simp)
        have heq := k.equal (r := key) (r' := r.take ks.length) hk (by simp; omega) w
        rw [← keyIs_iff hk] at heq
        simp only [mapCells, Instr.findAsking, Sem.run_bind, heq, Result.andThen_ok, Sem.run_ite]
        cases hh : keyIs key r with
        | true =>
          rw [head _ _ hh]
          simp
        | false =>
          rw [shift _ _ hh]
          simp only [Bool.false_eq_true, if_false]
          rw [ih (n + 1) (i + 1) (fun r hr => hl r (by simp [hr]))]
          cases foundAt ks vs va l key with
          | none => rfl
          | some y => simp; omega
    have := main l n 0 hl
    rw [this]
    congr 1
    cases foundAt ks vs va l key <;> simp

end
end Go.Sx

/- The symbolic executor, part Nb: the operations on maps. -/
namespace Go.Sx
open Go

section
variable {P : Program} {I : Itp} {ρ : List U} {pc : List E} {η : Env} {H : List O} {S : Nat → Prop} {w0 w : World}

theorem colsDen (hpc : Holds I ρ pc) (K : List CK) (A r : E) : ∀ (n j : Nat) (l : List V), colsOf pc K A r j n = some l →
    V.denL I ρ η l ((List.range' j n).map fun c => (K.getD c .bool).val (((A.den I ρ).l.getD (r.den I ρ).i.toNat []).getD c 0))
  | 0, j, l, h => by simp only [colsOf, Option.some.injEq] at h; subst h; simp [V.denL]
  | n + 1, j, l, h => by
    simp only [colsOf] at h
    split at h
    · rename_i k l' hk hl'
      simp only [Option.some.injEq] at h; subst h
      simp only [List.range'_succ, List.map_cons, V.denL]
      have hK : K.getD j .bool = k := by simp [List.getD_eq_getElem?_getD, hk]
      refine ⟨_, _, rfl, ?_, colsDen hpc K A r n (j + 1) l' hl'⟩
      rw [hK]
      refine cellV_ok hpc k _ ?_
      rw [mkGetT_i hpc]
      rfl
    · cases h

theorem getD_app_right (ks vs : List CK) (q : Nat) : (ks ++ vs).getD (ks.length + q) .bool = vs.getD q .bool := by
  rw [List.getD_eq_getElem?_getD, List.getElem?_append_right (by omega), List.getD_eq_getElem?_getD]
  congr 2; omega

/-- the numbers of a row as cells -/
theorem cells_row (vs : List CK) : ∀ (r : List Int) (n : Nat) (f : Nat → Int) (K : Nat → CK), (∀ q, q < vs.length → K (n + q) = vs.getD q .bool) → (∀ q, q < vs.length → f (n + q) = r.getD q 0) → r.length = vs.length →
    ((List.range' n vs.length).map fun c => (K c).val (f c)) = rowVals vs r := by
  induction vs with
  | nil => intro r n f K _ _ _; simp [rowVals]
  | cons v vs ih =>
    intro r n f K hK hf hl
    cases r with
    | nil => simp at hl
    | cons a r =>
      simp only [List.length_cons, List.range'_succ, List.map_cons, rowVals, List.zipWith_cons_cons]
      congr 1
      · have h1 := hK 0 (by simp)
        have h2 := hf 0 (by simp)
        simp at h1 h2
        rw [h1, h2]
      · exact ih r (n + 1) f K (fun q hq => by
          have := hK (q + 1) (by simpa using hq)
          rw [List.getD_cons_succ] at this
          rw [← this]; congr 1; omega) (fun q hq => by
          have := hf (q + 1) (by simpa using hq)
          rw [List.getD_cons_succ] at this
          rw [← this]; congr 1; omega) (by simpa using hl)

theorem val_cells (ks vs : List CK) {row : List Int} (h : row.length = ks.length + vs.length) :
    ((List.range' ks.length vs.length).map fun c => ((ks ++ vs).getD c .bool).val (row.getD c 0)) = rowVals vs (row.drop ks.length) := by
  refine cells_row vs _ _ (fun c => row.getD c 0) (fun c => (ks ++ vs).getD c .bool) (fun q _ => getD_app_right ks vs q) (fun q hq => ?_) (by simp [h])
  simp only [List.getD_eq_getElem?_getD, List.getElem?_drop]

theorem val_none (ks vs : List CK) : ((List.range' ks.length vs.length).map fun c => ((ks ++ vs).getD c .bool).val (([] : List Int).getD c 0)) = rowVals vs (List.replicate vs.length 0) := by
  refine cells_row vs _ _ (fun c => ([] : List Int).getD c 0) (fun c => (ks ++ vs).getD c .bool) (fun q _ => getD_app_right ks vs q) (fun q hq => ?_) (by simp)
  simp only [List.getD_eq_getElem?_getD, List.getElem?_replicate]
  simp [hq]

theorem key_cells (ks vs : List CK) {row : List Int} (h : row.length = ks.length + vs.length) :
    ((List.range' 0 ks.length).map fun c => ((ks ++ vs).getD c .bool).val (row.getD c 0)) = rowVals ks (row.take ks.length) := by
  refine cells_row ks _ _ (fun c => row.getD c 0) (fun c => (ks ++ vs).getD c .bool) (fun q hq => ?_) (fun q hq => ?_) (by simp [h])
  · rw [Nat.zero_add, List.getD_eq_getElem?_getD, List.getElem?_append_left (by omega), List.getD_eq_getElem?_getD]
  · simp only [List.getD_eq_getElem?_getD, List.getElem?_take, Nat.zero_add]
    rw [if_pos hq]

theorem asV_den {ag : Bool} {l : List V} {xs : List Value} (h : V.denL I ρ η l xs) : V.den I ρ η (asV ag l) (asVal ag xs) := by
  unfold asV asVal
  cases ag with
  | true => simp only [if_true, V.den]; exact ⟨_, rfl, h⟩
  | false =>
    simp only [Bool.false_eq_true, if_false]
    cases l with
    | nil => trivial
    | cons v l =>
      simp only [V.denL] at h
      obtain ⟨y, ys, rfl, hy, _⟩ := h
      exact hy

/-- A map's type, taken apart. -/
theorem mapT_ok {t : TypeId} {ks vs : List CK} {ka va : Bool} (h : mapT P t = some ((ks, ka), (vs, va))) : ∃ k e, P.underlying t = some (.map k e) ∧ KeyOk P k ks ka ∧ flatT P e = some (vs, va) := by
  unfold mapT at h
  split at h
  · rename_i k e hu
    split at h
    · rename_i a' b' ha hb
      simp only [Option.some.injEq, Prod.mk.injEq] at h
      obtain ⟨rfl, rfl⟩ := h
      exact ⟨k, e, hu, keyT_ok ha, hb⟩
    · cases h
  · cases h

theorem Mem.map_read (m : Mem P I ρ η H S w0 w) {h : Nat} {ks vs : List CK} {ka va : Bool} {A : E} (hl : H[h]? = some (.amap ks vs ka va A)) {i : Info} (hi : η h = some i) :
    (∀ r ∈ (A.den I ρ).l, r.length = ks.length + vs.length) ∧ w.heap[i.blk]? = some (.map (mapCells ks vs ka va (A.den I ρ).l 0).toArray (A.den I ρ).l.length) := by
  obtain ⟨j, hj, hd⟩ := m.obj h _ (look_of hl (by intro e; cases e))
  rw [hi] at hj; simp only [Option.some.injEq] at hj; subst hj
  exact hd

theorem findRow_le (l : List (List Int)) (k : List Int) : findRow l k ≤ l.length := List.findIdx_le_length
theorem findRow_is {l : List (List Int)} {k : List Int} (h : findRow l k < l.length) : keyIs k (l.getD (findRow l k) []) = true := by
  have := List.findIdx_getElem (p := keyIs k) (w := h)
  rw [List.getD_eq_getElem?_getD, List.getElem?_eq_getElem h]
  exact this

theorem mem_getD {l : List (List Int)} {j : Nat} (h : j < l.length) : l.getD j [] ∈ l := by
  rw [List.getD_eq_getElem?_getD, List.getElem?_eq_getElem h]
  exact List.getElem_mem h

/-- the value that a lookup finds, or a zero -/
theorem found_cells (hpc : Holds I ρ pc) {ks vs : List CK} {A r : E} {l : List V} (hc : colsOf pc (ks ++ vs) A r ks.length vs.length = some l) {k : List Int} (hr : (r.den I ρ).i = findRow (A.den I ρ).l k) (hA : ∀ r ∈ (A.den I ρ).l, r.length = ks.length + vs.length) :
    V.denL I ρ η l (rowVals vs (if findRow (A.den I ρ).l k < (A.den I ρ).l.length then ((A.den I ρ).l.getD (findRow (A.den I ρ).l k) []).drop ks.length else List.replicate vs.length 0)) := by
  have h := colsDen (η := η) hpc (ks ++ vs) A r _ _ l hc
  rw [hr, Int.toNat_natCast] at h
  split
  · rename_i hlt
    rw [val_cells ks vs (hA _ (mem_getD hlt))] at h
    exact h
  · rename_i hlt
    rw [show (A.den I ρ).l.getD (findRow (A.den I ρ).l k) [] = [] from by rw [List.getD_eq_getElem?_getD, List.getElem?_eq_none (by omega)]; rfl, val_none] at h
    exact h

theorem getMap {r : Nat} {es : Array MapEntry} {clock : Nat} (hb : w.heap[r]? = some (.map es clock)) : (getObj r).run P w = .ok (.map es clock) w := by
  simp [getObj, Sem.run, hb]
theorem setMapR {r : Nat} {es : Array MapEntry} {clock : Nat} (o : Obj) (hb : w.heap[r]? = some (.map es clock)) : (setObj r o).run P w = .ok () { w with heap := w.heap.setIfInBounds r o } := by
  simp [setObj, Sem.run, hb]
theorem foundAt_some {ks vs : List CK} {va : Bool} {l : List (List Int)} {k : List Int} (h : findRow l k < l.length) : foundAt ks vs va l k = some (findRow l k, asVal va (rowVals vs ((l.getD (findRow l k) []).drop ks.length))) := by simp [foundAt, h]
theorem foundAt_none {ks vs : List CK} {va : Bool} {l : List (List Int)} {k : List Int} (h : ¬ findRow l k < l.length) : foundAt ks vs va l k = none := by simp [foundAt, h]

theorem lookupR_ok (hpc : Holds I ρ pc) (m : Mem P I ρ η H S w0 w) {t : TypeId} {x k : V} {xv kv : Value} (hx : V.den I ρ η x xv) (hk : V.den I ρ η k kv) {c : Bool} {r : AR} (h : lookupR P pc H t x k c = .ok r) :
    ∃ z, (Instr.lookup t xv kv c).run P w = .ok z w ∧ V.den I ρ η r.v z ∧ r.eff = [] := by
  unfold lookupR at h
  split at h
  · rename_i hh
    split at h
    · rename_i ks vs ka va A ks' ka' vs' va' hl hT
      split at h
      · rename_i he
        obtain ⟨rfl, rfl, rfl, rfl⟩ := he
        split at h
        · rename_i q hq
          simp only at h
          split at h
          · rename_i cs hcs
            simp only [Res.ok.injEq] at h; subst h
            simp only [V.den] at hx
            obtain ⟨i, hi, rfl⟩ := hx
            obtain ⟨hA, hb⟩ := m.map_read hl hi
            obtain ⟨kt, e, hu, K, hF⟩ := mapT_ok hT
            obtain ⟨rfl, hql⟩ := rowV_ok hq hk
            obtain ⟨_, _, hz⟩ := flatT_ok hF
            have hkl : (q.map fun e => (e.den I ρ).i).length = ks.length := by simp [hql]
            have hfi := mkFind_i (I := I) (ρ := ρ) hpc A (rowOf q)
            rw [rowOf_r] at hfi
            have hcell := found_cells (η := η) hpc hcs hfi hA
            have hb' : ((mkC pc (.bi .lt (mkFind pc A (rowOf q)) (mkLen pc A))).den I ρ).b = decide (findRow (A.den I ρ).l (q.map fun e => (e.den I ρ).i) < (A.den I ρ).l.length) := by
              rw [mkC_b hpc]
              simp only [E.den, BiO.den, hfi, mkLen_i hpc]
              simp
            generalize (q.map fun e => (e.den I ρ).i) = key at *
            have hd := asV_den (ag := va) hcell
            have hfind := K.find (vs := vs) (va := va) hkl w hA 0
            by_cases hlt : findRow (A.den I ρ).l key < (A.den I ρ).l.length
            · rw [if_pos hlt] at hd
              rw [foundAt_some hlt] at hfind
              generalize asVal va (rowVals vs (List.drop ks.length ((A.den I ρ).l.getD (findRow (A.den I ρ).l key) []))) = zz at hd hfind
              refine ⟨if c then .tuple #[zz, .bool true] else zz, ?_, ?_, rfl⟩
              · simp only [Instr.lookup, Sem.run_bind, run_underlying hu, Result.andThen_ok, getMap hb, Sem.run_pure, K.check hkl, hfind]
              · cases c with
                | false => exact hd
                | true =>
                  simp only [if_true, V.den]
                  refine ⟨_, rfl, ?_⟩
                  simp only [V.denL]
                  refine ⟨_, _, rfl, hd, _, _, rfl, ?_, rfl⟩
                  simp only [V.den, hb', hlt, decide_true]
            · rw [if_neg hlt] at hd
              rw [foundAt_none hlt] at hfind
              generalize asVal va (rowVals vs (List.replicate vs.length 0)) = zz at hd hz
              refine ⟨if c then .tuple #[zz, .bool false] else zz, ?_, ?_, rfl⟩
              · simp only [Instr.lookup, Sem.run_bind, run_underlying hu, Result.andThen_ok, getMap hb, Sem.run_pure, K.check hkl, hfind, hz]
              · cases c with
                | false => exact hd
                | true =>
                  simp only [if_true, V.den]
                  refine ⟨_, rfl, ?_⟩
                  simp only [V.denL]
                  refine ⟨_, _, rfl, hd, _, _, rfl, ?_, rfl⟩
                  simp only [V.den, hb', hlt, decide_false]
          · cases h
        · cases h
      · cases h
    · cases h
  · cases h

/-! ### writing -/

theorem mapCells_app (ks vs : List CK) (ka va : Bool) : ∀ (l m : List (List Int)) (n : Nat), mapCells ks vs ka va (l ++ m) n = mapCells ks vs ka va l n ++ mapCells ks vs ka va m (n + l.length)
  | [], m, n => by simp [mapCells]
  | r :: l, m, n => by
    simp only [List.cons_append, mapCells, mapCells_app ks vs ka va l m (n + 1), List.length_cons]
    rw [show n + 1 + l.length = n + (l.length + 1) from by omega]

theorem mapCells_set (ks vs : List CK) (ka va : Bool) (r : List Int) (f : MapEntry → MapEntry) : ∀ (l : List (List Int)) (n j : Nat) (q : List Int), l[j]? = some q →
    f ⟨asVal ka (rowVals ks (q.take ks.length)), asVal va (rowVals vs (q.drop ks.length)), n + j⟩ = ⟨asVal ka (rowVals ks (r.take ks.length)), asVal va (rowVals vs (r.drop ks.length)), n + j⟩ →
    (mapCells ks vs ka va l n).modify j f = mapCells ks vs ka va (l.set j r) n
  | [], n, j, q, h, _ => by simp at h
  | a :: l, n, 0, q, h, hf => by
    simp only [List.getElem?_cons_zero, Option.some.injEq] at h
    subst h
    simp only [Nat.add_zero] at hf
    simp [mapCells, hf]
  | a :: l, n, j + 1, q, h, hf => by
    simp only [List.getElem?_cons_succ] at h
    simp only [mapCells, List.set_cons_succ, List.modify_succ_cons]
    rw [mapCells_set ks vs ka va r f l (n + 1) j q h (by rw [show n + 1 + j = n + (j + 1) from by omega]; exact hf)]

theorem sameBits_row : ∀ (ks : List CK) (r : List Int) (n : Nat), ks.all isIntK = true → ((rowVals ks r).zip (rowVals ks r)).all (fun (x, y) => Instr.sameBits n x y) = true
  | [], _, _, _ => by simp [rowVals]
  | _ :: _, [], _, _ => by simp [rowVals]
  | k :: ks, a :: r, n, h => by
    simp only [List.all_cons, Bool.and_eq_true] at h
    have := sameBits_row ks r n h.2
    cases k with
    | bool => simp [isIntK] at h
    | int k =>
      simp only [rowVals, List.zipWith_cons_cons, List.zip_cons_cons, List.all_cons, CK.val] at this ⊢
      rw [this]
      simp [Instr.sameBits]

theorem KeyOk.stays {t : TypeId} {ks : List CK} {ag : Bool} (k : KeyOk P t ks ag) {r : List Int} (hl : r.length = ks.length) (w : World) :
    (Instr.keyThatStays (asVal ag (rowVals ks r)) (asVal ag (rowVals ks r))).run P w = .ok (asVal ag (rowVals ks r)) w := by
  have hs : Instr.sameBits 10000 (asVal ag (rowVals ks r)) (asVal ag (rowVals ks r)) = true := by
    cases ag with
    | true =>
      have := sameBits_row ks r 9999 k.ints
      show Instr.sameBits (9999 + 1) (.agg (rowVals ks r).toArray) (.agg (rowVals ks r).toArray) = true
      simp only [Instr.sameBits, beq_self_eq_true, Bool.true_and]
      exact this
    | false =>
      obtain ⟨k', n', hc⟩ := int_cell k.ints hl k.pos
      have e : asVal false (rowVals ks r) = .int k' n' := by
        simp only [asVal, Bool.false_eq_true, if_false]
        cases hr : rowVals ks r with
        | nil => rw [hr] at hc; simp at hc
        | cons a l => rw [hr] at hc; simp at hc; simp [hc]
      rw [e]
      simp [Instr.sameBits]
  simp [Instr.keyThatStays, hs]

theorem keyIs_take {k r : List Int} {n : Nat} (hk : k.length = n) (h : keyIs k r = true) : r.take n = k := by
  unfold keyIs at h
  rw [hk] at h
  simpa using h

/-- A map is written. -/
theorem Mem.setMap (m : Mem P I ρ η H S w0 w) {h : Nat} {ks vs : List CK} {ka va : Bool} {A B : E} (hl : H[h]? = some (.amap ks vs ka va A)) {i : Info} (hi : η h = some i)
    (hB : ∀ r ∈ (B.den I ρ).l, r.length = ks.length + vs.length) : Mem P I ρ η (setO H h (.amap ks vs ka va B)) S w0 { w with heap := w.heap.setIfInBounds i.blk (.map (mapCells ks vs ka va (B.den I ρ).l 0).toArray (B.den I ρ).l.length) } := by
  obtain ⟨_, hb⟩ := m.map_read hl hi
  refine m.write (look_of hl (by intro e; cases e)) hi rfl trivial rfl rfl rfl (by simp) (fun b _ hne => by simp [Ne.symm hne]) rfl (by intro e; cases e) ?_
  have hlt : i.blk < w.heap.size := (Array.getElem?_eq_some_iff.1 hb).1
  refine ⟨hB, ?_⟩
  simp [hlt]

theorem putRow_len {ks vs : List CK} {l : List (List Int)} (hl : ∀ r ∈ l, r.length = ks.length + vs.length) {k row : List Int} (hr : row.length = ks.length + vs.length) : ∀ r ∈ putRow l k row, r.length = ks.length + vs.length := by
  intro r h
  unfold putRow at h
  split at h
  · rcases List.mem_or_eq_of_mem_set h with h | h
    · exact hl r h
    · rw [h]; exact hr
  · rcases List.mem_append.1 h with h | h
    · exact hl r h
    · rw [List.mem_singleton] at h; rw [h]; exact hr

theorem entRow_len {ks vs : List CK} {l : List (List Int)} (hl : ∀ r ∈ l, r.length = ks.length + vs.length) {k row : List Int} (hr : row.length = ks.length + vs.length) : ∀ r ∈ entRow l k row, r.length = ks.length + vs.length := by
  intro r h
  unfold entRow at h
  split at h
  · exact hl r h
  · rcases List.mem_append.1 h with h | h
    · exact hl r h
    · rw [List.mem_singleton] at h; rw [h]; exact hr

theorem entry_at {ks vs : List CK} {ka va : Bool} {l : List (List Int)} {j : Nat} (hj : j < l.length) :
    (mapCells ks vs ka va l 0).toArray[j]? = some ⟨asVal ka (rowVals ks ((l.getD j []).take ks.length)), asVal va (rowVals vs ((l.getD j []).drop ks.length)), j⟩ := by
  rw [List.getElem?_toArray, mapCells_get, List.getD_eq_getElem?_getD, List.getElem?_eq_getElem hj]
  simp

theorem mapPutR_ok (hpc : Holds I ρ pc) (m : Mem P I ρ η H S w0 w) {t : TypeId} {x k v : V} {xv kv vv : Value} (hx : V.den I ρ η x xv) (hk : V.den I ρ η k kv) (hv : V.den I ρ η v vv) {r : AR} (h : mapPutR P pc H t x k v = .ok r) :
    ∃ w', (Instr.mapUpdate t xv kv vv).run P w = .ok () w' ∧ r.v = .tup [] ∧ Mem P I ρ η (applyEff H r.eff) S w0 w' := by
  unfold mapPutR at h
  split at h
  · rename_i hh
    split at h
    · rename_i ks vs ka va A ks' ka' vs' va' hl hT
      split at h
      · rename_i he
        obtain ⟨rfl, rfl, rfl, rfl⟩ := he
        split at h
        · rename_i q s hq hs
          simp only [Res.ok.injEq] at h; subst h
          simp only [V.den] at hx
          obtain ⟨i, hi, rfl⟩ := hx
          obtain ⟨hA, hb⟩ := m.map_read hl hi
          obtain ⟨kt, e, hu, K, hF⟩ := mapT_ok hT
          obtain ⟨rfl, hql⟩ := rowV_ok hq hk
          obtain ⟨rfl, hsl⟩ := rowV_ok hs hv
          have hkl : (q.map fun e => (e.den I ρ).i).length = ks.length := by simp [hql]
          have hvl : (s.map fun e => (e.den I ρ).i).length = vs.length := by simp [hsl]
          have hfind := K.find (vs := vs) (va := va) hkl w hA 0
          have hput := mkPut_l (I := I) (ρ := ρ) hpc A (rowOf q) (rowOf (q ++ s))
          rw [rowOf_r, rowOf_r, List.map_append] at hput
          generalize (q.map fun e => (e.den I ρ).i) = key at *
          generalize (s.map fun e => (e.den I ρ).i) = val at *
          have hlen := putRow_len (ks := ks) (vs := vs) hA (k := key) (row := key ++ val) (by simp [hkl, hvl])
          have hm := m.setMap hl hi (B := mkPut pc A (rowOf q) (rowOf (q ++ s))) (by rw [hput]; exact hlen)
          rw [hput] at hm
          refine ⟨_, ?_, rfl, hm⟩
          by_cases hlt : findRow (A.den I ρ).l key < (A.den I ρ).l.length
          · have hkey := keyIs_take hkl (findRow_is hlt)
            rw [foundAt_some hlt] at hfind
            simp only [Instr.mapUpdate, Sem.run_bind, run_underlying hu, Result.andThen_ok, getMap hb, K.check hkl, hfind, entry_at hlt, Option.map_some, Option.getD_some, hkey, K.stays hkl, Result.andThen_ok, setMapR _ hb]
            congr 3
            have e1 : putRow (A.den I ρ).l key (key ++ val) = (A.den I ρ).l.set (findRow (A.den I ρ).l key) (key ++ val) := by simp [putRow, hlt]
            rw [e1, List.length_set]
            congr 1
            rw [← mapCells_set ks vs ka va (key ++ val) (fun e => { e with key := asVal ka (rowVals ks key), val := asVal va (rowVals vs val) }) _ 0 _ _ (List.getElem?_eq_getElem hlt) (by simp [← hkl])]
            simp [List.modify_toArray]
          · rw [foundAt_none hlt] at hfind
            simp only [Instr.mapUpdate, Sem.run_bind, run_underlying hu, Result.andThen_ok, getMap hb, K.check hkl, hfind, setMapR _ hb]
            congr 3
            have e1 : putRow (A.den I ρ).l key (key ++ val) = (A.den I ρ).l ++ [key ++ val] := by simp [putRow, hlt]
            rw [e1, mapCells_app]
            simp [mapCells, ← hkl]
        · cases h
      · cases h
    · cases h
  · cases h

end
end Go.Sx

/- The symbolic executor, part Nc: maps: entries, making, ranging. -/
namespace Go.Sx
open Go

section
variable {P : Program} {I : Itp} {ρ : List U} {pc : List E} {η : Env} {H : List O} {S : Nat → Prop} {w0 w : World}

theorem makeMapR_ok (m : Mem P I ρ η H S w0 w) {fr : Nat} (hfr : look H fr = none) {t : TypeId} {r : AR} (h : makeMapR P fr t = .ok r) :
    ∃ z w' η', (Instr.makeMap t none).run P w = .ok z w' ∧ η.le η' ∧ V.den I ρ η' r.v z ∧ Mem P I ρ η' (applyEff H r.eff) S w0 w' := by
  unfold makeMapR at h
  split at h
  · rename_i ks ka vs va hT
    simp only [Res.ok.injEq] at h; subst h
    refine ⟨_, _, η.ext fr ⟨w.heap.size, 0, 0, 0⟩, rfl, Env.le_ext _ (m.free fr hfr), ?_, ?_⟩
    · simp only [V.den]; exact ⟨_, Env.ext_self .., rfl⟩
    · simp only [applyEff]
      refine m.fresh hfr rfl rfl rfl rfl rfl rfl (by intro e; cases e) ?_
      exact ⟨fun r hr => by simp [E.den] at hr, rfl⟩
  · cases h

theorem zero_row_den (n : Nat) (r : List E) (key : List Int) (hr : (r.map fun e => (e.den I ρ).i) = key) : ((rowOf (r ++ List.replicate n (.lit 0))).den I ρ).r = key ++ List.replicate n 0 := by
  rw [rowOf_r, List.map_append, hr]
  simp [E.den]

theorem mapEntryR_ok (hpc : Holds I ρ pc) (m : Mem P I ρ η H S w0 w) {t : TypeId} {x k : V} {xv kv : Value} (hx : V.den I ρ η x xv) (hk : V.den I ρ η k kv) {r : AR} (h : mapEntryR P pc H t x k = .ok r) :
    ∃ z w' η', (Instr.mapEntry t xv kv).run P w = .ok z w' ∧ η.le η' ∧ V.den I ρ η' r.v z ∧ Mem P I ρ η' (applyEff H r.eff) S w0 w' := by
  unfold mapEntryR at h
  split at h
  · rename_i hh
    split at h
    · rename_i ks vs ka va A ks' ka' vs' va' hl hT
      split at h
      · rename_i he
        obtain ⟨rfl, rfl, rfl, rfl⟩ := he
        split at h
        · rename_i q hq
          split at h
          · rename_i cs hcs
            simp only [Res.ok.injEq] at h; subst h
            simp only [V.den] at hx
            obtain ⟨i, hi, rfl⟩ := hx
            obtain ⟨hA, hb⟩ := m.map_read hl hi
            obtain ⟨kt, e, hu, K, hF⟩ := mapT_ok hT
            obtain ⟨rfl, hql⟩ := rowV_ok hq hk
            obtain ⟨_, _, hz⟩ := flatT_ok hF
            have hkl : (q.map fun e => (e.den I ρ).i).length = ks.length := by simp [hql]
            have hfi : ((E.bi .find A (rowOf q)).den I ρ).i = findRow (A.den I ρ).l (q.map fun e => (e.den I ρ).i) := by
              simp only [E.den, BiO.den, rowOf_r]
            have hcell := found_cells (η := η) hpc hcs hfi hA
            have hent : ((E.te .ent A (rowOf q) (rowOf (q ++ List.replicate vs.length (.lit 0)))).den I ρ).l = entRow (A.den I ρ).l (q.map fun e => (e.den I ρ).i) ((q.map fun e => (e.den I ρ).i) ++ List.replicate vs.length 0) := by
              simp only [E.den, TeO.den, zero_row_den _ _ _ rfl]
              rw [rowOf_r]
            generalize (q.map fun e => (e.den I ρ).i) = key at *
            have hd := asV_den (ag := va) hcell
            have hfind := K.find (vs := vs) (va := va) hkl w hA 0
            have hlen := entRow_len (ks := ks) (vs := vs) hA (k := key) (row := key ++ List.replicate vs.length 0) (by simp [hkl])
            have hm := m.setMap hl hi (B := .te .ent A (rowOf q) (rowOf (q ++ List.replicate vs.length (.lit 0)))) (by rw [hent]; exact hlen)
            rw [hent] at hm
            by_cases hlt : findRow (A.den I ρ).l key < (A.den I ρ).l.length
            · rw [if_pos hlt] at hd
              rw [foundAt_some hlt] at hfind
              have hkey := keyIs_take hkl (findRow_is hlt)
              generalize hzz : asVal va (rowVals vs (List.drop ks.length ((A.den I ρ).l.getD (findRow (A.den I ρ).l key) []))) = zz at hd hfind
              refine ⟨.tuple #[zz, goInt (findRow (A.den I ρ).l key)], _, η, ?_, Env.le_refl _, ?_, hm⟩
              · simp only [Instr.mapEntry, Sem.run_bind, run_underlying hu, Result.andThen_ok, getMap hb, K.check hkl, hfind, entry_at hlt, Option.map_some, Option.getD_some, hkey, K.stays hkl, setMapR _ hb, Sem.run_pure]
                have e1 : entRow (A.den I ρ).l key (key ++ List.replicate vs.length 0) = (A.den I ρ).l := by simp [entRow, hlt]
                rw [e1]
                congr 4
                have e2 := mapCells_set ks vs ka va ((A.den I ρ).l[findRow (A.den I ρ).l key]) (fun e => { e with key := asVal ka (rowVals ks key) }) (A.den I ρ).l 0 _ _ (List.getElem?_eq_getElem hlt) (by
                  have : ((A.den I ρ).l[findRow (A.den I ρ).l key]).take ks.length = key := by
                    rw [List.getD_eq_getElem?_getD, List.getElem?_eq_getElem hlt] at hkey
                    exact hkey
                  rw [this])
                rw [List.set_getElem_self] at e2
                rw [← e2]
                simp [List.modify_toArray, e2]
              · simp only [V.den]
                refine ⟨_, rfl, ?_⟩
                simp only [V.denL]
                refine ⟨_, _, rfl, hd, _, _, rfl, ?_, rfl⟩
                simp only [V.den, hfi, goInt]
            · rw [if_neg hlt] at hd
              rw [foundAt_none hlt] at hfind
              have hle := findRow_le (A.den I ρ).l key
              have heq : findRow (A.den I ρ).l key = (A.den I ρ).l.length := by omega
              refine ⟨.tuple #[asVal va (rowVals vs (List.replicate vs.length 0)), goInt (A.den I ρ).l.length], _, η, ?_, Env.le_refl _, ?_, hm⟩
              · simp only [Instr.mapEntry, Sem.run_bind, run_underlying hu, Result.andThen_ok, getMap hb, K.check hkl, hfind, hz, setMapR _ hb, Sem.run_pure]
                have e1 : entRow (A.den I ρ).l key (key ++ List.replicate vs.length 0) = (A.den I ρ).l ++ [key ++ List.replicate vs.length 0] := by simp [entRow, hlt]
                rw [e1, mapCells_app, List.length_append, List.length_singleton]
                congr 4
                simp [mapCells, ← hkl]
              · simp only [V.den]
                refine ⟨_, rfl, ?_⟩
                simp only [V.denL]
                refine ⟨_, _, rfl, hd, _, _, rfl, ?_, rfl⟩
                simp only [V.den, hfi, goInt, heq]
          · cases h
        · cases h
      · cases h
    · cases h
  · cases h

theorem cellsR_r : ∀ {e : E} {l : List E}, cellsR e = some l → (e.den I ρ).r = l.map fun e => (e.den I ρ).i
  | .nil, l, h => by simp [cellsR] at h; subst h; rfl
  | .bi o a r, l, h => by
    unfold cellsR at h
    split at h
    · rename_i he; cases he
    · rename_i a' r' h1
      simp only [E.bi.injEq] at h1
      obtain ⟨rfl, rfl, rfl⟩ := h1
      rw [Option.map_eq_some_iff] at h
      obtain ⟨l', h2, rfl⟩ := h
      simp [E.den, BiO.den, cellsR_r h2]
    · cases h
  | .lit _, _, h => by simp [cellsR] at h
  | .bl _, _, h => by simp [cellsR] at h
  | .var _, _, h => by simp [cellsR] at h
  | .un _ _, _, h => by simp [cellsR] at h
  | .te _ _ _ _, _, h => by simp [cellsR] at h
  | .se _ _ _ _, _, h => by simp [cellsR] at h
  | .fn1 _ _, _, h => by simp [cellsR] at h
  | .fn2 _ _ _, _, h => by simp [cellsR] at h
  | .fn3 _ _ _ _, _, h => by simp [cellsR] at h
  | .fn4 _ _ _ _ _, _, h => by simp [cellsR] at h

theorem samePre_take : ∀ {a b : List E}, samePre a b = true → (b.map fun e => (e.den I ρ).i).take a.length = a.map fun e => (e.den I ρ).i
  | [], _, _ => by simp
  | a :: l, [], h => by simp [samePre] at h
  | a :: l, b :: m, h => by
    simp only [samePre, Bool.and_eq_true] at h
    rw [E.same_eq h.1]
    simp [samePre_take h.2]

theorem find_born (ks vs : List CK) (ka va : Bool) : ∀ (l : List (List Int)) (n j : Nat), j < l.length → (mapCells ks vs ka va l n).findIdx? (fun e => (e.born : Int) == ((n + j : Nat) : Int)) = some j
  | [], n, j, h => by simp at h
  | r :: l, n, 0, h => by simp [mapCells, List.findIdx?_cons]
  | r :: l, n, j + 1, h => by
    have ih := find_born ks vs ka va l (n + 1) j (by simpa using h)
    rw [show n + 1 + j = n + (j + 1) from by omega] at ih
    simp only [mapCells, List.findIdx?_cons]
    rw [ih]
    have : ((n : Int) == ((n + (j + 1) : Nat) : Int)) = false := by simp; omega
    simp only [this]
    simp

theorem entryStoreR_ok (hpc : Holds I ρ pc) (m : Mem P I ρ η H S w0 w) {t : TypeId} {x s v : V} {xv sv vv : Value} (hx : V.den I ρ η x xv) (hs : V.den I ρ η s sv) (hv : V.den I ρ η v vv) {r : AR} (h : entryStoreR P pc H x s v = .ok r) :
    ∃ w', (Instr.entryStore t xv sv vv).run P w = .ok () w' ∧ r.v = .tup [] ∧ Mem P I ρ η (applyEff H r.eff) S w0 w' := by
  unfold entryStoreR at h
  split at h
  · rename_i hh A0 k0
    split at h
    · rename_i ks vs ka va A k row hl
      split at h
      · rename_i hsame
        simp only [Bool.and_eq_true] at hsame
        have e1 := E.same_eq hsame.1
        have e2 := E.same_eq hsame.2
        subst e1; subst e2
        split at h
        · rename_i q rr y hq hrr hy
          split at h
          · rename_i hc
            simp only [Res.ok.injEq] at h; subst h
            simp only [V.den] at hx hs
            obtain ⟨i, hi, rfl⟩ := hx
            subst hs
            obtain ⟨hA, hb⟩ := m.map_read hl hi
            obtain ⟨rfl, hyl⟩ := rowV_ok hy hv
            have hkr := cellsR_r (I := I) (ρ := ρ) hq
            have hrow := cellsR_r (I := I) (ρ := ρ) hrr
            have hpre := samePre_take (I := I) (ρ := ρ) hc.2
            have hkl : (q.map fun e => (e.den I ρ).i).length = ks.length := by simp [hc.1]
            have hvl : (y.map fun e => (e.den I ρ).i).length = vs.length := by simp [hyl]
            have hput := mkPut_l (I := I) (ρ := ρ) hpc A0 k0 (rowOf (q ++ y))
            rw [rowOf_r, List.map_append, hkr] at hput
            have hst : ((E.bi .find A0 k0).den I ρ).i = findRow (A0.den I ρ).l (q.map fun e => (e.den I ρ).i) := by simp only [E.den, BiO.den, hkr]
            have hent : ((E.te .ent A0 k0 row).den I ρ).l = entRow (A0.den I ρ).l (q.map fun e => (e.den I ρ).i) (rr.map fun e => (e.den I ρ).i) := by simp only [E.den, TeO.den, hkr, hrow]
            rw [hc.1] at hpre
            rw [hst]
            rw [hent] at hA hb
            generalize (q.map fun e => (e.den I ρ).i) = key at *
            generalize (y.map fun e => (e.den I ρ).i) = val at *
            generalize (rr.map fun e => (e.den I ρ).i) = row' at *
            have hsub : ∀ r ∈ (A0.den I ρ).l, r.length = ks.length + vs.length := fun r hr => hA r (by unfold entRow; split; exact hr; exact List.mem_append_left _ hr)
            have hlen := putRow_len (ks := ks) (vs := vs) hsub (k := key) (row := key ++ val) (by simp [hkl, hvl])
            have hm := m.setMap hl hi (B := mkPut pc A0 k0 (rowOf (q ++ y))) (by rw [hput]; exact hlen)
            rw [hput] at hm
            refine ⟨_, ?_, rfl, hm⟩
            have hlt' : findRow (A0.den I ρ).l key < (entRow (A0.den I ρ).l key row').length := by
              have := findRow_le (A0.den I ρ).l key
              unfold entRow
              split
              · assumption
              · simp; omega
            have hfi := find_born ks vs ka va (entRow (A0.den I ρ).l key row') 0 (findRow (A0.den I ρ).l key) hlt'
            rw [Nat.zero_add] at hfi
            have hfi' : (mapCells ks vs ka va (entRow (A0.den I ρ).l key row') 0).toArray.findIdx? (fun e => (e.born : Int) == ((findRow (A0.den I ρ).l key : Nat) : Int)) = some (findRow (A0.den I ρ).l key) := by
              rw [← hfi]; simp
            simp only [Instr.entryStore, asInt, asIntOf, Sem.run_bind, getMap hb, Result.andThen_ok, Sem.run_pure, hfi', setMapR _ hb]
            congr 3
            have e3 : (putRow (A0.den I ρ).l key (key ++ val)).length = (entRow (A0.den I ρ).l key row').length := by
              unfold putRow entRow; split <;> simp
            rw [e3]
            congr 1
            have e4 : putRow (A0.den I ρ).l key (key ++ val) = (entRow (A0.den I ρ).l key row').set (findRow (A0.den I ρ).l key) (key ++ val) := by
              unfold putRow entRow
              split
              · rfl
              · have := findRow_le (A0.den I ρ).l key
                have : findRow (A0.den I ρ).l key = (A0.den I ρ).l.length := by omega
                rw [this]
                simp
            have e5 : ((entRow (A0.den I ρ).l key row')[findRow (A0.den I ρ).l key]).take ks.length = key := by
              by_cases hlt : findRow (A0.den I ρ).l key < (A0.den I ρ).l.length
              · have hkey := keyIs_take hkl (findRow_is hlt)
                have : (entRow (A0.den I ρ).l key row') = (A0.den I ρ).l := by simp [entRow, hlt]
                simp only [this]
                rw [List.getD_eq_getElem?_getD, List.getElem?_eq_getElem hlt] at hkey
                exact hkey
              · have hle := findRow_le (A0.den I ρ).l key
                have heq : findRow (A0.den I ρ).l key = (A0.den I ρ).l.length := by omega
                have : (entRow (A0.den I ρ).l key row') = (A0.den I ρ).l ++ [row'] := by simp [entRow, hlt]
                simp only [this, heq]
                simp [hpre]
            rw [e4, ← mapCells_set ks vs ka va (key ++ val) (fun e => { e with val := asVal va (rowVals vs val) }) _ 0 _ _ (List.getElem?_eq_getElem hlt') (by simp only [e5, List.take_left' hkl, List.drop_left' hkl])]
            simp [List.modify_toArray]
          · cases h
        · cases h
      · cases h
    · cases h
  · cases h

theorem rowsL_len : ∀ {A : E} {n : Nat}, rowsL A = some n → (A.den I ρ).l.length = n
  | .nil, n, h => by simp [rowsL] at h; subst h; rfl
  | .bi o r A, n, h => by
    unfold rowsL at h
    split at h
    · rename_i he; cases he
    · rename_i a' r' h1
      simp only [E.bi.injEq] at h1
      obtain ⟨rfl, rfl, rfl⟩ := h1
      rw [Option.map_eq_some_iff] at h
      obtain ⟨l', h2, rfl⟩ := h
      simp [E.den, BiO.den, rowsL_len h2]
    · cases h
  | .lit _, _, h => by simp [rowsL] at h
  | .bl _, _, h => by simp [rowsL] at h
  | .var _, _, h => by simp [rowsL] at h
  | .un _ _, _, h => by simp [rowsL] at h
  | .te _ _ _ _, _, h => by simp [rowsL] at h
  | .se _ _ _ _, _, h => by simp [rowsL] at h
  | .fn1 _ _, _, h => by simp [rowsL] at h
  | .fn2 _ _ _, _, h => by simp [rowsL] at h
  | .fn3 _ _ _ _, _, h => by simp [rowsL] at h
  | .fn4 _ _ _ _ _, _, h => by simp [rowsL] at h

theorem rangeR_ok (m : Mem P I ρ η H S w0 w) {fr : Nat} (hfr : look H fr = none) {t : TypeId} {x : V} {xv : Value} (hx : V.den I ρ η x xv) {r : AR} (h : rangeR P H fr t x = .ok r) :
    ∃ z w' η', (Instr.range t xv).run P w = .ok z w' ∧ η.le η' ∧ V.den I ρ η' r.v z ∧ Mem P I ρ η' (applyEff H r.eff) S w0 w' := by
  unfold rangeR at h
  split at h
  · rename_i k e hh hu
    split at h
    · rename_i ks vs ka va A hl
      split at h
      · rename_i n hn
        simp only [Res.ok.injEq] at h; subst h
        simp only [V.den] at hx
        obtain ⟨i, hi, rfl⟩ := hx
        obtain ⟨hA, hb⟩ := m.map_read hl hi
        rw [rowsL_len hn] at hb
        refine ⟨.pointer (some ⟨w.heap.size, 0, none⟩), w.alloc (.mapIter (some i.blk) n #[] n), η.ext fr ⟨w.heap.size, 0, 0, 0⟩, ?_, Env.le_ext _ (m.free fr hfr), den_ptr0 (Env.ext_self ..), ?_⟩
        · simp only [Instr.range, Sem.run_bind, run_underlying hu, Result.andThen_ok, getMap hb, Sem.run_pure]
          rfl
        · simp only [applyEff]
          refine m.fresh hfr rfl rfl rfl rfl rfl rfl (by intro e; cases e) ?_
          have hne : hh ≠ fr := by
            rintro rfl
            rw [look_of hl (by intro e; cases e)] at hfr
            cases hfr
          exact ⟨i, by rw [Env.ext_ne hne]; exact hi, rfl, rfl⟩
      · cases h
    · cases h
  · cases h

end
end Go.Sx

/- The symbolic executor, part Nd: the next entry of a map, whichever it is. -/
namespace Go.Sx
open Go

section
variable {P : Program} {I : Itp} {ρ : List U} {pc : List E} {η : Env} {H : List O} {S : Nat → Prop} {w0 w : World}

theorem choose_next {s : Nat} (hs : 0 < s) (w : World) : ∃ c w', (choose (.mapNext s)).run P w = .ok c w' ∧ c < s ∧ w'.heap = w.heap ∧ w'.os = w.os ∧ w'.tape = w.tape ∧ w'.output = w.output := by
  by_cases h1 : s ≤ 1
  · exact ⟨0, w, by simp [choose, Sem.run, Question.forced, h1], hs, rfl, rfl, rfl, rfl⟩
  · refine ⟨(w.tape w.drawn (.mapNext s)) % s, { w with drawn := w.drawn + 1 }, ?_, Nat.mod_lt _ hs, rfl, rfl, rfl, rfl⟩
    simp [choose, Sem.run, Question.forced, h1, Question.cut]

theorem allSome_mem {α β : Type} {f : α → Option β} : ∀ {l : List α} {rs : List β}, allSome (l.map f) = some rs → ∀ a ∈ l, ∃ r ∈ rs, f a = some r
  | [], _, _, a, ha => by cases ha
  | b :: l, rs, h, a, ha => by
    simp only [List.map_cons] at h
    cases hb : f b with
    | none => rw [hb] at h; simp [allSome] at h
    | some r =>
      rw [hb] at h
      simp only [allSome, Option.map_eq_some_iff] at h
      obtain ⟨rs', h1, rfl⟩ := h
      rcases List.mem_cons.1 ha with rfl | ha
      · exact ⟨r, by simp, hb⟩
      · obtain ⟨r', h2, h3⟩ := allSome_mem h1 a ha
        exact ⟨r', by simp [h2], h3⟩

theorem mapCells_mem {ks vs : List CK} {ka va : Bool} {l : List (List Int)} {e : MapEntry} (h : e ∈ mapCells ks vs ka va l 0) : ∃ i, i < l.length ∧ e.born = i ∧ e.key = asVal ka (rowVals ks ((l.getD i []).take ks.length)) ∧ e.val = asVal va (rowVals vs ((l.getD i []).drop ks.length)) := by
  obtain ⟨i, hi⟩ := List.getElem?_of_mem h
  rw [mapCells_get, Option.map_eq_some_iff] at hi
  obtain ⟨r, hr, rfl⟩ := hi
  have hlt := (List.getElem?_eq_some_iff.1 hr).1
  refine ⟨i, hlt, by simp, ?_, ?_⟩ <;> simp [List.getD_eq_getElem?_getD, hr]

/-- what a step of an iterator comes to -/
theorem next_run {ks vs : List CK} {ka va : Bool} {l : List (List Int)} {g b n : Nat} {seen : List Nat} (hn : l.length = n) (hpos : 0 < n) (hg : w.heap[g]? = some (.mapIter (some b) n seen.toArray n))
    (hb : w.heap[b]? = some (.map (mapCells ks vs ka va l 0).toArray n)) (p : Option Nat) (ty : TypeId) :
    ((∀ i, i < n → seen.contains i = true) ∧ (Instr.next (.pointer (some ⟨g, 0, p⟩)) false ty).run P w = .ok (.tuple #[.bool false]) w) ∨
    (∃ (i : Nat) (w' : World), i < n ∧ seen.contains i = false ∧ (Instr.next (.pointer (some ⟨g, 0, p⟩)) false ty).run P w = .ok (.tuple #[.bool true, asVal ka (rowVals ks ((l.getD i []).take ks.length)), asVal va (rowVals vs ((l.getD i []).drop ks.length))]) ({ w' with heap := w.heap.setIfInBounds g (.mapIter (some b) n (seen ++ [i]).toArray n) } : World) ∧
      w'.os = w.os ∧ w'.tape = w.tape ∧ w'.output = w.output) := by
  have hg' : (getObj g).run P w = .ok (.mapIter (some b) n seen.toArray n) w := by simp [getObj, Sem.run, hg]
  generalize hes : (mapCells ks vs ka va l 0).toArray = es at hb
  have hmem : ∀ e ∈ es, ∃ i, i < n ∧ e.born = i ∧ e.key = asVal ka (rowVals ks ((l.getD i []).take ks.length)) ∧ e.val = asVal va (rowVals vs ((l.getD i []).drop ks.length)) := by
    intro e he
    rw [← hes, List.mem_toArray] at he
    rw [← hn]
    exact mapCells_mem he
  have hat : ∀ i, i < n → ∃ e ∈ es, e.born = i := by
    intro i hi
    refine ⟨⟨asVal ka (rowVals ks ((l.getD i []).take ks.length)), asVal va (rowVals vs ((l.getD i []).drop ks.length)), i⟩, ?_, rfl⟩
    have := entry_at (ks := ks) (vs := vs) (ka := ka) (va := va) (l := l) (j := i) (by omega)
    rw [hes] at this
    exact Array.mem_of_getElem? this
  have hall : es.all (fun e => decide (e.born ≥ n)) = false := by
    obtain ⟨e, he, h0⟩ := hat 0 hpos
    rw [Bool.eq_false_iff]
    intro h
    have := Array.all_eq_true_iff_forall_mem.1 h e he
    simp [h0] at this
    omega
  let left := es.filter fun e => !seen.toArray.contains e.born
  have hleft : ∀ e ∈ left, ∃ i, i < n ∧ seen.contains i = false ∧ e.key = asVal ka (rowVals ks ((l.getD i []).take ks.length)) ∧ e.val = asVal va (rowVals vs ((l.getD i []).drop ks.length)) ∧ e.born = i := by
    intro e he
    simp only [left, Array.mem_filter] at he
    obtain ⟨i, h1, h2, h3, h4⟩ := hmem e he.1
    refine ⟨i, h1, ?_, h3, h4, h2⟩
    have := he.2
    rw [h2] at this
    simpa using this
  have hold : left.filter (fun e => decide (e.born < n)) = left := by
    rw [Array.filter_eq_self]
    intro e he
    obtain ⟨i, h1, _, _, _, h5⟩ := hleft e he
    simp [h5, h1]
  have hnew : left.filter (fun e => decide (e.born ≥ n)) = #[] := by
    rw [Array.filter_eq_empty_iff]
    intro e he
    obtain ⟨i, h1, _, _, _, h5⟩ := hleft e he
    simp [h5]; omega
  have run1 : (Instr.next (.pointer (some ⟨g, 0, p⟩)) false ty).run P w =
      (do match ((if left.isEmpty then #[none] else #[]) ++ left.map some)[← choose (.mapNext ((if left.isEmpty then #[none] else #[]) ++ left.map some).size)]? with
          | some (some e) =>
            setObj g (.mapIter (some b) n (seen.toArray.push e.born) n)
            pure (.tuple #[.bool true, e.key, e.val])
          | some none => pure (.tuple #[.bool false])
          | none => stuck "Next: no such candidate" : Sem Value).run P w := by
    simp only [Instr.next, Sem.run_bind, hg', Result.andThen_ok, getMap hb, hall, Bool.and_false, Bool.false_eq_true, if_false]
    have e1 : (es.filter fun e => !seen.toArray.contains e.born).filter (fun e => decide (e.born < n)) = left := hold
    have e2 : (es.filter fun e => !seen.toArray.contains e.born).filter (fun e => decide (e.born ≥ n)) = #[] := hnew
    rw [e1, e2, Array.append_empty]
    rfl
  by_cases hemp : left.isEmpty = true
  · left
    have hl0 : left = #[] := by simpa using hemp
    refine ⟨fun i hi => ?_, ?_⟩
    · obtain ⟨e, he, h0⟩ := hat i hi
      cases hc : seen.contains i with
      | true => rfl
      | false =>
        have : e ∈ left := by
          simp only [left, Array.mem_filter]
          refine ⟨he, ?_⟩
          rw [h0]
          simpa using hc
        rw [hl0] at this
        simp at this
    · rw [run1, hl0]
      simp [choose, Sem.run, Question.forced]
  · right
    simp only [Bool.not_eq_true] at hemp
    have hsz : 0 < left.size := by
      rcases Nat.eq_zero_or_pos left.size with h | h
      · rw [Array.isEmpty, h] at hemp; simp at hemp
      · exact h
    obtain ⟨c, w', hc, hlt, h1, h2, h3, h4⟩ := choose_next (P := P) (s := left.size) hsz w
    obtain ⟨i, a1, a2, a3, a4, a5⟩ := hleft left[c] (Array.getElem_mem hlt)
    refine ⟨i, w', a1, a2, ?_, h2, h3, h4⟩
    rw [run1, hemp]
    simp only [Bool.false_eq_true, if_false, Array.empty_append, Array.size_map, Sem.run_bind, hc, Result.andThen_ok, Array.getElem?_map, Array.getElem?_eq_getElem hlt, Option.map_some]
    have hs : (setObj g (.mapIter (some b) n (seen.toArray.push i) n)).run P w' = .ok () { w' with heap := w.heap.setIfInBounds g (.mapIter (some b) n (seen.toArray.push i) n) } := by
      simp [setObj, Sem.run, h1, hg]
    simp only [a5, hs, Result.andThen_ok, Sem.run_pure, a3, a4]
    simp

/-- what is there when an iterator is asked -/
theorem nextR_parts (m : Mem P I ρ η H S w0 w) {g hh n : Nat} {seen : List Nat} {ks vs : List CK} {ka va : Bool} {A : E} (hg : H[g]? = some (.iter (some hh) n seen n)) (hl : H[hh]? = some (.amap ks vs ka va A)) (hn : rowsL A = some n)
    {xv : Value} (hx : V.den I ρ η (.ptr g (.lit 0) (.lit 0)) xv) : ∃ i j : Info, η g = some i ∧ η hh = some j ∧ i.bs = 0 ∧ xv = .pointer (some ⟨i.blk, 0, none⟩) ∧ w.heap[i.blk]? = some (.mapIter (some j.blk) n seen.toArray n) ∧
      w.heap[j.blk]? = some (.map (mapCells ks vs ka va (A.den I ρ).l 0).toArray n) ∧ (A.den I ρ).l.length = n ∧ (∀ r ∈ (A.den I ρ).l, r.length = ks.length + vs.length) := by
  simp only [V.den] at hx
  obtain ⟨i, hi, _, _, rfl⟩ := hx
  obtain ⟨j', hj', hd⟩ := m.obj g _ (look_of hg (by intro e; cases e))
  rw [hi] at hj'; simp only [Option.some.injEq] at hj'; subst hj'
  obtain ⟨j, hj, hd, hbs⟩ := hd
  obtain ⟨hA, hb⟩ := m.map_read hl hj
  rw [rowsL_len hn] at hb
  exact ⟨i, j, hi, hj, hbs, by simp [E.den, hbs], hd, hb, rowsL_len hn, hA⟩

/-- A step of an iterator over a map whose rows stand there one by one: all have been seen. -/
theorem nextR_ok (m : Mem P I ρ η H S w0 w) {x : V} {xv : Value} (hx : V.den I ρ η x xv) {r : AR} (h : nextR pc H x = .ok r) (ty : TypeId) :
    ∃ z, (Instr.next xv false ty).run P w = .ok z w ∧ V.den I ρ η r.v z ∧ r.eff = [] := by
  unfold nextR at h
  split at h
  · rename_i g
    split at h
    · rename_i hh n seen mm hg
      split at h
      · rename_i ks vs ka va A hl
        split at h
        · rename_i hc
          obtain ⟨hn, rfl, hpos⟩ := hc
          simp only at h
          split at h
          · rename_i hemp
            simp only [Res.ok.injEq] at h; subst h
            obtain ⟨i, j, hi, hj, _, rfl, h1, h2, h3, h4⟩ := nextR_parts m hg hl hn hx
            rcases next_run (P := P) h3 hpos h1 h2 none ty with ⟨_, hr⟩ | ⟨q, w', hq, hs, _⟩
            · refine ⟨_, hr, ?_, rfl⟩
              simp only [V.den]
              exact ⟨_, rfl, by simp only [V.denL]; exact ⟨_, _, rfl, by simp [V.den, E.den], rfl⟩⟩
            · exfalso
              have := List.isEmpty_iff.1 hemp
              rw [List.filter_eq_nil_iff] at this
              have := this q (List.mem_range.2 hq)
              rw [hs] at this
              simp at this
          · split at h <;> cases h
        · cases h
      · cases h
    · cases h
  · cases h

/-- .. and if not: it is one of those that are left. -/
theorem nextR_any (hpc : Holds I ρ pc) (m : Mem P I ρ η H S w0 w) {x : V} {xv : Value} (hx : V.den I ρ η x xv) {rs : List AR} (h : nextR pc H x = .any rs) (ty : TypeId) :
    ∃ r ∈ rs, ∃ z w', (Instr.next xv false ty).run P w = .ok z w' ∧ V.den I ρ η r.v z ∧ Mem P I ρ η (applyEff H r.eff) S w0 w' := by
  unfold nextR at h
  split at h
  · rename_i g
    split at h
    · rename_i hh n seen mm hg
      split at h
      · rename_i ks vs ka va A hl
        split at h
        · rename_i hc
          obtain ⟨hn, rfl, hpos⟩ := hc
          simp only at h
          split at h
          · cases h
          · rename_i hemp
            split at h
            · rename_i rs' hrs
              simp only [Res.any.injEq] at h; subst h
              obtain ⟨i, j, hi, hj, hbs, rfl, h1, h2, h3, h4⟩ := nextR_parts m hg hl hn hx
              rcases next_run (P := P) h3 hpos h1 h2 none ty with ⟨hall, _⟩ | ⟨q, w', hq, hs, hr, hos, htape, hout⟩
              · exfalso
                apply hemp
                rw [List.isEmpty_iff, List.filter_eq_nil_iff]
                intro k hk
                rw [hall k (List.mem_range.1 hk)]
                simp
              · have hmem : q ∈ (List.range mm).filter fun i => !seen.contains i := by
                  rw [List.mem_filter]
                  exact ⟨List.mem_range.2 hq, by rw [hs]; rfl⟩
                obtain ⟨r, hr1, hr2⟩ := allSome_mem hrs q hmem
                refine ⟨r, hr1, _, _, hr, ?_, ?_⟩
                · unfold nextAt at hr2
                  split at hr2
                  · rename_i a b ha hb
                    simp only [Option.some.injEq] at hr2; subst hr2
                    have hlen : ((A.den I ρ).l.getD q []).length = ks.length + vs.length := h4 _ (mem_getD (by omega))
                    have d1 := colsDen (η := η) hpc (ks ++ vs) A (.lit q) _ _ a ha
                    have d2 := colsDen (η := η) hpc (ks ++ vs) A (.lit q) _ _ b hb
                    rw [show ((E.lit (q : Int)).den I ρ).i.toNat = q from by simp [E.den]] at d1 d2
                    rw [key_cells ks vs hlen] at d1
                    rw [val_cells ks vs hlen] at d2
                    simp only [V.den]
                    refine ⟨_, rfl, ?_⟩
                    simp only [V.denL]
                    exact ⟨_, _, rfl, by simp [V.den, E.den], _, _, rfl, asV_den d1, _, _, rfl, asV_den d2, rfl⟩
                  · cases hr2
                · unfold nextAt at hr2
                  split at hr2
                  · simp only [Option.some.injEq] at hr2; subst hr2
                    simp only [applyEff]
                    have hlt : i.blk < w.heap.size := (Array.getElem?_eq_some_iff.1 h1).1
                    refine m.write (look_of hg (by intro e; cases e)) hi rfl trivial hos htape hout (by simp) (fun b _ hne => by simp [Ne.symm hne]) rfl (by intro e; cases e) ?_
                    refine ⟨j, hj, ?_, hbs⟩
                    simp [hlt]
                  · cases hr2
            · cases h
        · cases h
      · cases h
    · cases h
  · cases h

theorem find_entry {ks vs : List CK} {ka va : Bool} {l : List (List Int)} {i : Nat} (hi : i < l.length) :
    (mapCells ks vs ka va l 0).toArray.find? (fun e => e.born == i) = some ⟨asVal ka (rowVals ks ((l.getD i []).take ks.length)), asVal va (rowVals vs ((l.getD i []).drop ks.length)), i⟩ := by
  rw [List.find?_toArray]
  cases hf : (mapCells ks vs ka va l 0).find? (fun e => e.born == i) with
  | none =>
    exfalso
    rw [List.find?_eq_none] at hf
    have := entry_at (ks := ks) (vs := vs) (ka := ka) (va := va) (l := l) (j := i) hi
    have hm := Array.mem_of_getElem? this
    rw [List.mem_toArray] at hm
    exact hf _ hm (by simp)
  | some e =>
    have h1 := List.find?_some hf
    have h2 := List.mem_of_find?_eq_some hf
    obtain ⟨j, _, hb, hk, hv⟩ := mapCells_mem h2
    simp only [beq_iff_eq] at h1
    have hji : j = i := hb.symm.trans h1
    subst hji
    cases e
    simp only at hb hk hv
    rw [hb, hk, hv]

/-- The entry that an iterator stands at. -/
theorem entryR_ok (hpc : Holds I ρ pc) (m : Mem P I ρ η H S w0 w) {x : V} {xv : Value} (hx : V.den I ρ η x xv) {r : AR} (h : entryR pc H x = .ok r) :
    ∃ z, (Instr.entry xv).run P w = .ok z w ∧ V.den I ρ η r.v z ∧ r.eff = [] := by
  unfold entryR at h
  split at h
  · rename_i g
    split at h
    · rename_i hh n seen mm hg
      split at h
      · rename_i ks vs ka va A q hl hq
        split at h
        · rename_i hc
          obtain ⟨hn, rfl, hlt⟩ := hc
          split at h
          · rename_i a b ha hb
            simp only [Res.ok.injEq] at h; subst h
            obtain ⟨i, j, hi, hj, _, rfl, h1, h2, h3, h4⟩ := nextR_parts m hg hl hn hx
            have hg' : (getObj i.blk).run P w = .ok (.mapIter (some j.blk) mm seen.toArray mm) w := by simp [getObj, Sem.run, h1]
            have hm' : (getObj j.blk).run P w = .ok (.map (mapCells ks vs ka va (A.den I ρ).l 0).toArray mm) w := by simp [getObj, Sem.run, h2]
            have hback : seen.toArray.back? = some q := by simp [hq]
            have hfind := find_entry (ks := ks) (vs := vs) (ka := ka) (va := va) (l := (A.den I ρ).l) (i := q) (by omega)
            refine ⟨.tuple #[asVal ka (rowVals ks (((A.den I ρ).l.getD q []).take ks.length)), asVal va (rowVals vs (((A.den I ρ).l.getD q []).drop ks.length))], ?_, ?_, rfl⟩
            rotate_left
            · simp only [V.den]
              have hlen : ((A.den I ρ).l.getD q []).length = ks.length + vs.length := h4 _ (mem_getD (by omega))
              have d1 := colsDen (η := η) hpc (ks ++ vs) A (.lit q) _ _ a ha
              have d2 := colsDen (η := η) hpc (ks ++ vs) A (.lit q) _ _ b hb
              rw [show ((E.lit (q : Int)).den I ρ).i.toNat = q from by simp [E.den]] at d1 d2
              rw [key_cells ks vs hlen] at d1
              rw [val_cells ks vs hlen] at d2
              refine ⟨_, rfl, ?_⟩
              simp only [V.denL]
              exact ⟨_, _, rfl, asV_den d1, _, _, rfl, asV_den d2, rfl⟩
            · simp only [Instr.entry, Sem.run_bind, hg', Result.andThen_ok, hback, hm', bne_self_eq_false, Bool.false_eq_true, if_false, hfind, Sem.run_pure]
          · cases h
        · cases h
      · cases h
    · cases h
  · cases h

end
end Go.Sx

/- The symbolic executor, part O: one operation. -/
namespace Go.Sx
open Go

section
variable {P : Program} {I : Itp} {ρ : List U} {pc : List E} {η : Env} {H : List O} {S : Nat → Prop} {w0 w : World}

/-- The globals' handles stand for the globals' blocks. -/
def GlOk (gl : List (Nat × Nat)) (η : Env) : Prop := ∀ g h, (g, h) ∈ gl → ∃ i, η h = some i ∧ i.blk = g ∧ i.bs = 0
theorem GlOk.mono {gl : List (Nat × Nat)} {η η' : Env} (h : GlOk gl η) (hle : η.le η') : GlOk gl η' := fun g k hk => by
  obtain ⟨i, hi, hb⟩ := h g k hk
  exact ⟨i, hle _ _ hi, hb⟩

theorem evalO_den {gl : List (Nat × Nat)} (hg : GlOk gl η) {tmps : List V} {fr : Frame} (ht : V.denL I ρ η tmps fr.tmps.toList) (x : Operand) : V.den I ρ η (evalO gl tmps x) (fr.eval x) := by
  cases x with
  | tmp t =>
    simp only [evalO, Frame.eval]
    rw [List.getD_eq_getElem?_getD, Array.getD_eq_getD_getElem?]
    cases hv : tmps[t]? with
    | some v =>
      obtain ⟨y, hy, hd⟩ := V.denL_get t ht hv
      rw [Array.getElem?_toList] at hy
      rw [hy]
      exact hd
    | none =>
      have hlen := V.denL_length ht
      rw [List.getElem?_eq_none_iff] at hv
      rw [Array.getElem?_eq_none (by simp at hlen; omega)]
      simp only [Option.getD_none, V.den, undef]
      exact ⟨_, rfl, rfl⟩
  | const v => exact constV_ok v
  | global g =>
    simp only [evalO, Frame.eval]
    split
    · rename_i g' h hf
      have hm := List.mem_of_find?_eq_some hf
      have he := List.find?_some hf
      simp only [beq_iff_eq] at he
      subst he
      obtain ⟨i, hi, hb, hb0⟩ := hg _ _ hm
      simp only [V.den]
      exact ⟨i, hi, by simp [E.den], by simp [E.den], by simp [E.den, hb, hb0]⟩
    · trivial
  | func f =>
    simp only [evalO, Frame.eval, V.den]
    exact ⟨#[], rfl, rfl⟩

theorem map_denL {gl : List (Nat × Nat)} {tmps : List V} {ev : Operand → Value} (hev : ∀ x, V.den I ρ η (evalO gl tmps x) (ev x)) : ∀ xs : List Operand, V.denL I ρ η (xs.map (evalO gl tmps)) (xs.map ev)
  | [] => rfl
  | x :: xs => by
    simp only [List.map_cons, V.denL]
    exact ⟨_, _, rfl, hev x, map_denL hev xs⟩

theorem parts_den {gl : List (Nat × Nat)} {tmps : List V} {ev : Operand → Value} (hev : ∀ x, V.den I ρ η (evalO gl tmps x) (ev x)) : ∀ ps : List (Nat × Operand), partsDen I ρ η (ps.map fun (i, x) => (i, evalO gl tmps x)) (ps.map fun (i, x) => (i, ev x))
  | [] => rfl
  | (i, x) :: ps => by
    simp only [List.map_cons, partsDen]
    exact ⟨_, _, rfl, hev x, parts_den hev ps⟩

theorem opt_den {gl : List (Nat × Nat)} {tmps : List V} {ev : Operand → Value} (hev : ∀ x, V.den I ρ η (evalO gl tmps x) (ev x)) (o : Option Operand) : optDen I ρ η (o.map (evalO gl tmps)) (o.map ev) := by
  cases o with
  | none => trivial
  | some x => exact hev x

theorem whichAt_ok {I : Itp} {ρ : List U} {pc : List E} (hpc : Holds I ρ pc) {c : E} : ∀ {js : List Nat} {j : Nat}, whichAt pc c js = some (.inl j) → (c.den I ρ).i = (j : Int)
  | [], j, h => by simp [whichAt] at h
  | k :: js, j, h => by
    unfold whichAt at h
    split at h
    · rename_i hd
      simp only [Option.some.injEq, Sum.inl.injEq] at h; subst h
      have := decC_ok hpc _ _ hd
      simpa [E.den, BiO.den] using this
    · exact whichAt_ok hpc h
    · simp at h
theorem pinP_ok {P : Program} {I : Itp} {ρ : List U} {pc : List E} {η : Env} {H : List O} (hpc : Holds I ρ pc) {t : TypeId} {x x' : V} {xv : Value} (h : pinP P pc H t x = some (.inl x')) (hx : V.den I ρ η x xv) : V.den I ρ η x' xv := by
  unfold pinP at h
  split at h
  · split at h
    · split at h
      · rename_i j hw
        simp only [Option.some.injEq, Sum.inl.injEq] at h; subst h
        have := whichAt_ok hpc hw
        simp only [V.den] at hx ⊢
        obtain ⟨i, h1, h2, h3, h4⟩ := hx
        refine ⟨i, h1, h2, ?_, ?_⟩
        · simp [E.den]
        · rw [h4, this]; simp [E.den]
      · simp at h
      · simp at h
    · simp at h
  · simp at h
theorem indexP_ok {P : Program} {I : Itp} {ρ : List U} {pc : List E} {η : Env} (hpc : Holds I ρ pc) {t : TypeId} {x ix : V} {xv iv : Value} (hx : V.den I ρ η x xv) (hix : V.den I ρ η ix iv)
    {r : AR} (h : indexP' P pc t x ix = .ok r) (hn : Holds I ρ r.needs) (w : World) :
    ∃ z, (Instr.index t xv iv).run P w = .ok z w ∧ V.den I ρ η r.v z ∧ r.eff = [] := by
  unfold indexP' at h
  split at h
  · split at h
    · split at h
      · simp at h
      · split at h
        · rename_i j hw
          have := whichAt_ok hpc hw
          refine indexR_ok hpc hx (ix := .int _ (.lit j)) ?_ h hn w
          simp only [V.den] at hix ⊢
          rw [hix, this]; rfl
        · simp at h
        · simp at h
    · simp at h
  · exact indexR_ok hpc hx hix h hn w
theorem loadP_ok {P : Program} {I : Itp} {ρ : List U} {pc : List E} {η : Env} {H : List O} {S : Nat → Prop} {w0 w : World} (hpc : Holds I ρ pc) (m : Mem P I ρ η H S w0 w) {t : TypeId} {x : V} {xv : Value} (hx : V.den I ρ η x xv) {r : AR} (h : loadP' P pc H t x = .ok r) (hn : Holds I ρ r.needs) :
    ∃ y, (Instr.loadAt t xv).run P w = .ok y w ∧ V.den I ρ η r.v y ∧ r.eff = [] := by
  unfold loadP' at h
  split at h
  · split at h
    · rename_i hp; exact loadR_ok hpc m (pinP_ok hpc hp hx) h hn
    · simp at h
    · simp at h
  · exact loadR_ok hpc m hx h hn
theorem storeP_ok {P : Program} {I : Itp} {ρ : List U} {pc : List E} {η : Env} {H : List O} {S : Nat → Prop} {w0 w : World} (hpc : Holds I ρ pc) (m : Mem P I ρ η H S w0 w) {t : TypeId} {x v : V} {xv vv : Value} (hx : V.den I ρ η x xv) (hv : V.den I ρ η v vv) {r : AR}
    (h : storeP' P pc H t x v = .ok r) (hn : Holds I ρ r.needs) :
    ∃ w', (Instr.storeAt t xv vv).run P w = .ok () w' ∧ r.v = .tup [] ∧ Mem P I ρ η (applyEff H r.eff) S w0 w' := by
  unfold storeP' at h
  split at h
  · split at h
    · rename_i hp; exact storeR_ok hpc m (pinP_ok hpc hp hx) hv h hn
    · simp at h
    · simp at h
  · exact storeR_ok hpc m hx hv h hn

/-- an operation that leaves memory alone -/
theorem OpOk.calm {sem : Sem Value} {r : AR} {z : Value} (m : Mem P I ρ η H S w0 w) (h1 : sem.run P w = .ok z w) (h2 : V.den I ρ η r.v z) (h3 : r.eff = []) :
    OpOk P I ρ η H S w0 w (do pure (.value (← sem))) r :=
  ⟨.value z, z, w, η, by simp [h1], .inl rfl, Env.le_refl _, h2, by rw [h3]; exact m⟩

theorem OpOk.made {sem : Sem Value} {r : AR} (h : ∃ z w' η', sem.run P w = .ok z w' ∧ η.le η' ∧ V.den I ρ η' r.v z ∧ Mem P I ρ η' (applyEff H r.eff) S w0 w') :
    OpOk P I ρ η H S w0 w (do pure (.value (← sem))) r := by
  obtain ⟨z, w', η', h1, h2, h3, h4⟩ := h
  exact ⟨.value z, z, w', η', by simp [h1], .inl rfl, h2, h3, h4⟩

theorem zeroRow_is {z : List V} {r : List E} {ks : List CK} (h : zeroRow z = some (r, ks)) :
    z.mapM (fun v => match v with | .int _ e => some e | .bool e => some (b2i e) | _ => none) = some r ∧ z.mapM (fun v => match v with | .int k _ => some (CK.int k) | .bool _ => some CK.bool | _ => none) = some ks := by
  unfold zeroRow at h
  split at h
  · rename_i r' ks' h1 h2
    simp only [Option.some.injEq, Prod.mk.injEq] at h
    obtain ⟨rfl, rfl⟩ := h
    exact ⟨h1, h2⟩
  · cases h

theorem clearR_ok (hpc : Holds I ρ pc) (m : Mem P I ρ η H S w0 w) {t ty : TypeId} {ts : List TypeId} {x : V} {xv : Value} {ys : List Value} (hx : V.den I ρ η x xv) {r : AR} (h : clearR P pc H t x = .ok r) (hn : Holds I ρ r.needs) :
    ∃ z w' η', (Builtin.clear_ ⟨t :: ts⟩ ty ⟨xv :: ys⟩).run P w = .ok z w' ∧ η.le η' ∧ V.den I ρ η' r.v z ∧ Mem P I ρ η' (applyEff H r.eff) S w0 w' := by
  have hnil : ∀ η', V.den I ρ η' (.tup []) (.tuple #[]) := fun η' => by simp only [V.den]; exact ⟨#[], rfl, by simp [V.denL]⟩
  unfold clearR at h
  split at h
  · rename_i e hu
    simp only [Res.ok.injEq] at h; subst h
    have hx' : xv = .slice none 0 0 := by simpa only [V.den] using hx
    subst hx'
    exact ⟨.tuple #[], w, η, by simp [Builtin.clear_, run_underlying hu], Env.le_refl _, hnil η, m⟩
  · rename_i e hh ww oo nn cc hu
    split at h
    · rename_i ks A i z hl hi hz
      split at h
      · simp at h
      · rename_i hc
        simp only [not_or, ne_eq, Classical.not_not] at hc
        obtain ⟨rfl, hzl, hsw⟩ := hc
        split at h
        · rename_i rr ks' hzr
          split at h
          · simp at h
          · rename_i hkk
            have hkk' : ks' = ks := by simpa using hkk
            subst hkk'
            obtain ⟨rv, he, _, hneed⟩ := okR_ok hpc h
            have n1 := holds_le (hneed hn _ (List.mem_cons_self ..))
            rw [mkAdd_i, mkLen_i hpc] at n1
            obtain ⟨i', zv, hi', hzv, hd, hone, hzs, hrun⟩ := zeroCellsV_ok (I := I) (ρ := ρ) (η := η) hz
            rw [hi] at hi'; simp only [Option.some.injEq] at hi'; subst hi'
            obtain ⟨z1, z2⟩ := zeroRow_is hzr
            obtain ⟨h1, h2, h3⟩ := zeroRow_ok hd z1 z2
            have hsz : zv.cells.size = ks'.length := by omega
            simp only [V.den] at hx
            obtain ⟨j, hj, ho0, hn0, hx⟩ := hx
            obtain ⟨hpos, hwd, hrows, hmem⟩ := m.rows_own hl hj
            have hbs := m.rows_bs hl hj
            obtain ⟨o, hoo⟩ : ∃ o : Nat, (oo.den I ρ).i = (o : Int) := ⟨(oo.den I ρ).i.toNat, by omega⟩
            obtain ⟨n, hnn⟩ : ∃ n : Nat, (nn.den I ρ).i = (n : Int) := ⟨(nn.den I ρ).i.toNat, by omega⟩
            rw [hoo, hnn] at hx n1
            have hrow : ((rowOf rr).den I ρ).r.length = ks'.length := by rw [rowOf_r]; simp [h1]
            have hspl : ((splice pc A oo nn (.bi .rep nn (rowOf rr))).den I ρ).l = (A.den I ρ).l.take o ++ List.replicate n ((rowOf rr).den I ρ).r ++ (A.den I ρ).l.drop (o + n) := by
              unfold splice
              rw [mkApp_l, mkApp_l, mkTake_l hpc, mkDrop_l hpc, mkAdd_i, hoo, hnn]
              simp only [E.den, BiO.den, hnn, Int.toNat_natCast]
              congr 2
            have hlen' : ((splice pc A oo nn (.bi .rep nn (rowOf rr))).den I ρ).l.length = (A.den I ρ).l.length := by
              rw [hspl]; simp only [List.length_append, List.length_take, List.length_drop, List.length_replicate]; omega
            have hrows' : ∀ r ∈ ((splice pc A oo nn (.bi .rep nn (rowOf rr))).den I ρ).l, r.length = ks'.length := by
              intro r hr
              rw [hspl, List.mem_append, List.mem_append] at hr
              rcases hr with (hr | hr) | hr
              · exact hrows r (List.mem_of_mem_take hr)
              · rw [List.eq_of_mem_replicate hr]; exact hrow
              · exact hrows r (List.mem_of_mem_drop hr)
            rw [rv, he]
            have same : n = 0 → Mem P I ρ η (applyEff H [(hh, .rows false ks' (splice pc A oo nn (.bi .rep nn (rowOf rr))))]) S w0 w := by
              intro hn0'
              subst hn0'
              have hAA : ((splice pc A oo nn (.bi .rep nn (rowOf rr))).den I ρ).l = (A.den I ρ).l := by rw [hspl]; simp
              simp only [applyEff]
              refine ⟨fun k hk => ?_, fun k o hk => ?_, fun k o i' hk hi'' hr hb => ?_, fun k o i' hk hi'' hr hb => ?_, fun k k' o o' i1 i2 hne hk hk' h1 h2 hr hr' hb hb' => ?_, m.keeps⟩
              all_goals rw [look_setO (by intro e; cases e)] at hk
              · split at hk
                · simp at hk
                · exact m.free k hk
              · split at hk
                · rename_i hkh
                  simp only [Option.some.injEq] at hk; subst hk
                  subst hkh
                  exact ⟨j, hj, den_rows_own hbs ⟨hpos, hwd, hrows', by rw [hAA]; exact hmem⟩⟩
                · exact m.obj k o hk
              · split at hk
                · simp only [Option.some.injEq] at hk; subst hk; cases hr
                · exact m.old k o i' hk hi'' hr hb
              · split at hk
                · rename_i hkh
                  simp only [Option.some.injEq] at hk; subst hk
                  subst hkh
                  exact m.own _ _ i' (look_of hl (by intro e; cases e)) hi'' rfl hb
                · exact m.own k o i' hk hi'' hr hb
              · rw [look_setO (by intro e; cases e)] at hk'
                split at hk
                · rename_i hkh
                  simp only [Option.some.injEq] at hk; subst hk
                  subst hkh
                  split at hk'
                  · rename_i hkh'; exact (hne hkh'.symm).elim
                  · exact m.apart _ k' _ o' i1 i2 hne (look_of hl (by intro e; cases e)) hk' h1 h2 rfl hr' hb hb'
                · split at hk'
                  · rename_i hkh'
                    simp only [Option.some.injEq] at hk'; subst hk'
                    subst hkh'
                    exact m.apart k _ o _ i1 i2 hne hk (look_of hl (by intro e; cases e)) h1 h2 hr rfl hb hb'
                  · exact m.apart k k' o o' i1 i2 hne hk hk' h1 h2 hr hr' hb hb'
            rcases hx with ⟨rfl, hsz0, _, hn0', _⟩ | ⟨C, f, hf, hC, hszC, _, rfl⟩
            · exact ⟨.tuple #[], w, η, by simp [Builtin.clear_, run_underlying hu], Env.le_refl _, hnil η, same (by omega)⟩
            · simp only [Int.toNat_natCast] at hf hC hszC ⊢
              by_cases hn1 : n = 0
              · refine ⟨.tuple #[], w, η, ?_, Env.le_refl _, hnil η, same hn1⟩
                rw [hn1]
                simp [Builtin.clear_, run_underlying hu]
              · have hf0 := hf (by omega)
                rw [hbs, Nat.zero_add] at hf0
                subst hf0
                rcases hmem with ⟨h0, hA0⟩ | ⟨hszp, c, tc, fz, hb, hfz, hle2, hszi, htk⟩
                · exfalso
                  rw [hA0] at n1
                  simp at n1
                  omega
                have hfz' := hfz rfl
                subst hfz'
                have hflat : (Builtin.zeroCells zv.cells n).toList = (List.replicate n ((rowOf rr).den I ρ).r).flatMap (rowVals ks') := by
                  rw [flat_replicate, ← h3]
                  show ((Array.range (n * zv.cells.size)).map (zv.cells[· % zv.cells.size]!)).toList = _
                  rw [Array.toList_map, Array.toList_range, range_map_mod _ (by omega)]
                have hfl : (Builtin.zeroCells zv.cells n).toList.length = n * ks'.length := by rw [Array.length_toList, size_zeroCells, hsz]
                have hmul : (o + n) * ks'.length ≤ (A.den I ρ).l.length * ks'.length := Nat.mul_le_mul_right _ (by omega)
                rw [Nat.add_mul] at hmul
                have hones : ∀ u ∈ (Builtin.zeroCells zv.cells n).toList, u.oneCell' = true := by rw [hflat]; exact flat_one ks' _
                have hst := run_storeCells_at P j.blk (o * ks'.length) tc (Builtin.zeroCells zv.cells n).toList 0 c w hb (by omega) hones
                simp only [Nat.add_zero] at hst
                have hc1 : (Builtin.clear_ ⟨t :: ts⟩ ty ⟨.slice (some ⟨j.blk, o * ks'.length, none⟩) n C :: ys⟩).run P w = ((storeCells ⟨j.blk, o * ks'.length, none⟩ (Builtin.zeroCells zv.cells n).toList).run P w).andThen fun _ w' => .ok (.tuple #[]) w' := by
                  obtain ⟨n', rfl⟩ : ∃ n', n = n' + 1 := ⟨n - 1, by omega⟩
                  simp [Builtin.clear_, run_underlying hu, hrun]
                rw [hst] at hc1
                refine ⟨.tuple #[], _, η, hc1, Env.le_refl _, hnil η, ?_⟩
                · simp only [applyEff]
                  refine m.write (look_of hl (by intro e; cases e)) hj rfl hszp rfl rfl rfl (by simp) (fun b _ hne => setRow_other _ _ _ _ hne) rfl (by intro e; cases e) ?_
                  rw [setRow_heap w j.blk c _ tc (0, 0) hb]
                  refine den_rows_own hbs ⟨hpos, hwd, hrows', .inr ⟨hszp, _, tc, (0, 0), rfl, fun _ => rfl, ?_, ?_, ?_⟩⟩
                  · rw [size_written _ _ _ (by omega), hlen']; exact hle2
                  · rw [size_written _ _ _ (by omega)]; exact hszi
                  · rw [hlen', take_written _ _ _ _ (by omega) hle2, htk, hspl, List.flatMap_append, List.flatMap_append, flat_take ks' _ hrows, flat_drop ks' _ hrows, hfl, ← hflat, ← Nat.add_mul]
        · simp at h
    · simp at h
  · simp at h

theorem builtinR_ok (hpc : Holds I ρ pc) (m : Mem P I ρ η H S w0 w) {fr : Nat} (hfr : look H fr = none) {b : Builtin} {ts : Array TypeId} {ty : TypeId} {cs : Array Bool} {args : List V} {vs : Array Value} (ha : V.denL I ρ η args vs.toList)
    {r : AR} (h : builtinR P pc H fr b ts.toList args = .ok r) (hn : Holds I ρ r.needs) : OpOk P I ρ η H S w0 w (builtin b ts ty cs vs) r := by
  obtain ⟨vs⟩ := vs
  obtain ⟨ts⟩ := ts
  simp only at ha h
  unfold builtinR at h
  split at h
  · rename_i t ts x xs
    simp only [V.denL] at ha
    obtain ⟨y, ys, rfl, hy, hys⟩ := ha
    obtain ⟨z, h1, h2, h3⟩ := lenR_ok m hy h ts ys ty
    exact OpOk.calm m h1 h2 h3
  · rename_i t t2 s x
    simp only [V.denL] at ha
    obtain ⟨y, ys, rfl, hy, y2, ys2, rfl, hy2, rfl⟩ := ha
    split at h
    · rename_i kn k q htn
      split at h
      · rename_i hq
        simp only [V.den] at hy2
        subst hy2
        have e : ((E.lit q).den I ρ).i = ((q.toNat : Nat) : Int) := by simp [E.den]; omega
        rw [e]
        exact OpOk.made (appendZ_ok hpc m hfr htn hy (by omega) h hn)
      · simp at h
    · exact OpOk.made (appendR_ok hpc m hfr hy hy2 h hn)
  · rename_i x xs _
    simp only [V.denL] at ha
    obtain ⟨y, ys, rfl, hy, hys⟩ := ha
    split at h
    · obtain ⟨z, h1, h2, h3, _⟩ := minmaxR_ok (g := fun a b => if b < a then b else a) (step := Builtin.min2) hpc (mkMin_i hpc) (fun k k' a b w => by simp [Builtin.min2]) w _ _ y ys r hy hys h
      exact OpOk.calm m (by simpa [Builtin.min_] using h1) h2 h3
    · simp at h
  · rename_i x xs _
    simp only [V.denL] at ha
    obtain ⟨y, ys, rfl, hy, hys⟩ := ha
    split at h
    · obtain ⟨z, h1, h2, h3, _⟩ := minmaxR_ok (g := fun a b => if b > a then b else a) (step := Builtin.max2) hpc (mkMax_i hpc) (fun k k' a b w => by simp [Builtin.max2]) w _ _ y ys r hy hys h
      exact OpOk.calm m (by simpa [Builtin.max_] using h1) h2 h3
    · simp at h
  · rename_i t ts x xs _
    simp only [V.denL] at ha
    obtain ⟨y, ys, rfl, hy, hys⟩ := ha
    exact OpOk.made (clearR_ok hpc m hy h hn)
  · simp at h

set_option maxHeartbeats 1600000 in
theorem opR_ok (hpc : Holds I ρ pc) (m : Mem P I ρ η H S w0 w) {gl : List (Nat × Nat)} {fr : Nat} (hfr : look H fr = none) {tmps : List V} {ev : Operand → Value} (hev : ∀ x, V.den I ρ η (evalO gl tmps x) (ev x)) {o : Oper}
    {r : AR} (h : opR P gl pc H fr tmps o.op = .ok r) (hn : Holds I ρ r.needs) : OpOk P I ρ η H S w0 w (execOp ev o) r := by
  obtain ⟨dst, op, ty, pos, after, guard⟩ := o
  simp only at h ⊢
  unfold opR at h
  unfold execOp
  cases op <;> simp only at h ⊢ <;> try (simp at h; done)
  case move x =>
    simp only [Res.ok.injEq] at h; subst h
    exact ⟨_, _, w, η, Sem.run_pure .., .inl rfl, Env.le_refl _, hev x, m⟩
  case assign x =>
    simp only [Res.ok.injEq] at h; subst h
    exact ⟨_, _, w, η, Sem.run_pure .., .inl rfl, Env.le_refl _, hev x, m⟩
  case pick c a b =>
    obtain ⟨z, h1, h2, h3⟩ := pickR_ok hpc (hev c) (hev a) (hev b) h w
    exact ⟨_, z, w, η, h1, .inl rfl, Env.le_refl _, h2, by rw [h3]; exact m⟩
  case alloc t => exact OpOk.made (allocR_ok m hfr h)
  case box t x => exact OpOk.made (boxR_ok m hfr (hev x) h)
  case build t ps =>
    obtain ⟨z, h1, h2, h3⟩ := buildR_ok (xs := ps.map fun (i, x) => (i, ev x)) (by rw [Array.toList_map]; exact parts_den hev ps.toList) h w
    exact OpOk.calm m h1 h2 h3
  case buildSlice t n ps =>
    have q := buildSliceR_ok m hfr (xs := ps.map fun (i, x) => (i, ev x)) (by rw [Array.toList_map]; exact parts_den hev ps.toList) h
    exact OpOk.made q
  case load t x =>
    obtain ⟨z, h1, h2, h3⟩ := loadP_ok hpc m (hev x) h hn
    exact OpOk.calm m h1 h2 h3
  case store t a x =>
    obtain ⟨w', h1, h2, h3⟩ := storeP_ok hpc m (hev a) (hev x) h hn
    exact ⟨.skip, undef, w', η, by simp [h1], .inr ⟨rfl, rfl⟩, Env.le_refl _, by rw [h2]; exact ⟨_, rfl, rfl⟩, h3⟩
  case nilCheck x =>
    have hx := hev x
    split at h
    · rename_i heq
      simp only [Res.ok.injEq] at h; subst h
      rw [heq] at hx
      have hx0 := hx
      simp only [V.den] at hx
      obtain ⟨i, _, _, _, hx⟩ := hx
      refine ⟨.value (ev x), _, w, η, by rw [hx]; rfl, .inl rfl, Env.le_refl _, hx0, m⟩
    · rename_i heq
      simp only [Res.ok.injEq] at h; subst h
      rw [heq] at hx
      have hx0 := hx
      simp only [V.den] at hx
      obtain ⟨xs, hx, _⟩ := hx
      refine ⟨.value (ev x), _, w, η, by rw [hx]; rfl, .inl rfl, Env.le_refl _, hx0, m⟩
    · rename_i heq
      simp only [Res.ok.injEq] at h; subst h
      rw [heq] at hx
      have hx0 := hx
      simp only [V.den] at hx
      obtain ⟨i, _, _, _, hx⟩ := hx
      rcases hx with ⟨hx, _⟩ | ⟨C, f, _, _, _, _, hx⟩
      · refine ⟨.value (ev x), _, w, η, by rw [hx]; rfl, .inl rfl, Env.le_refl _, hx0, m⟩
      · refine ⟨.value (ev x), _, w, η, by rw [hx]; rfl, .inl rfl, Env.le_refl _, hx0, m⟩
    · rename_i heq
      simp only [Res.ok.injEq] at h; subst h
      rw [heq] at hx
      have hx0 := hx
      simp only [V.den] at hx
      obtain ⟨i, _, hx⟩ := hx
      refine ⟨.value (ev x), _, w, η, by rw [hx]; rfl, .inl rfl, Env.le_refl _, hx0, m⟩
    · simp at h
  case binOp op t x y c =>
    obtain ⟨z, h1, h2, h3⟩ := binR_ok hpc (hev x) (hev y) h hn x y w
    exact OpOk.calm m h1 h2 h3
  case unOp op t x =>
    obtain ⟨z, h1, h2, h3⟩ := unR_ok hpc (hev x) h w
    exact OpOk.calm m h1 h2 h3
  case convert s d x =>
    split at h
    · rename_i ds k k' e hs hu heq
      simp only [Res.ok.injEq] at h; subst h
      have hx := hev x
      rw [heq] at hx
      simp only [V.den] at hx
      refine OpOk.calm m (z := .int k (k.wrap (e.den I ρ).i)) ?_ (by simp only [V.den]; rw [mkWrap_i hpc]) rfl
      rw [hx]
      simp [convert, run_underlying hs, run_underlying hu, Conv.intToInt]
    · simp at h
  case makeFunc fn first caps =>
    split at h
    · rename_i f
      split at h
      · rename_i hem
        simp only [Res.ok.injEq] at h; subst h
        have he : first = #[] := by
          have : first.toList = [] := List.isEmpty_iff.1 hem
          exact Array.toList_eq_nil_iff.1 this
        subst he
        refine OpOk.calm m (z := .func (.func f) #[] (caps.map ev)) (by simp [Instr.makeFunc]) ?_ rfl
        simp only [V.den]
        exact ⟨_, rfl, by rw [Array.toList_map]; exact map_denL hev caps.toList⟩
      · simp at h
    · simp at h
  case makeSlice t l c => exact OpOk.made (makeSliceR_ok hpc m hfr (hev l) (hev c) h hn)
  case slice t x lo hi mx =>
    obtain ⟨z, h1, h2, h3⟩ := sliceR_ok hpc m (hev x) (opt_den hev lo) (opt_den hev hi) (opt_den hev mx) h hn
    exact OpOk.calm m h1 h2 h3
  case fieldAddr t x i =>
    obtain ⟨z, h1, h2, h3⟩ := fieldAddrR_ok (hev x) h w
    exact OpOk.calm m h1 h2 h3
  case field t x i =>
    obtain ⟨z, h1, h2, h3⟩ := fieldR_ok (hev x) h w
    exact OpOk.calm m h1 h2 h3
  case indexAddr t x i =>
    obtain ⟨z, h1, h2, h3⟩ := indexAddrR_ok hpc m (hev x) (hev i) h hn
    exact OpOk.calm m h1 h2 h3
  case index t x i =>
    obtain ⟨z, h1, h2, h3⟩ := indexP_ok hpc (hev x) (hev i) h hn w
    exact OpOk.calm m h1 h2 h3
  case extract x i =>
    split at h
    · rename_i vs heq
      split at h
      · rename_i v hv
        simp only [Res.ok.injEq] at h; subst h
        have hx := hev x
        rw [heq] at hx
        simp only [V.den] at hx
        obtain ⟨xs, hx, hd⟩ := hx
        obtain ⟨y, hy, hyd⟩ := V.denL_get i hd hv
        rw [Array.getElem?_toList] at hy
        refine OpOk.calm m (z := y) ?_ hyd rfl
        rw [hx]
        simp [Instr.extract, hy]
      · simp at h
    · simp at h
  case makeMap t rs =>
    cases rs with
    | none => exact OpOk.made (makeMapR_ok m hfr h)
    | some _ => simp at h
  case lookup t x k c =>
    obtain ⟨z, h1, h2, h3⟩ := lookupR_ok hpc m (hev x) (hev k) h
    exact OpOk.calm m h1 h2 h3
  case mapUpdate t x k y =>
    obtain ⟨w', h1, h2, h3⟩ := mapPutR_ok hpc m (hev x) (hev k) (hev y) h
    exact ⟨.skip, undef, w', η, by simp [h1], .inr ⟨rfl, rfl⟩, Env.le_refl _, by rw [h2]; exact ⟨_, rfl, rfl⟩, h3⟩
  case insert t x k y =>
    obtain ⟨w', h1, h2, h3⟩ := mapPutR_ok hpc m (hev x) (hev k) (hev y) h
    exact ⟨.skip, undef, w', η, by simp [h1], .inr ⟨rfl, rfl⟩, Env.le_refl _, by rw [h2]; exact ⟨_, rfl, rfl⟩, h3⟩
  case mapEntry t x k => exact OpOk.made (mapEntryR_ok hpc m (hev x) (hev k) h)
  case entryStore t x k y =>
    obtain ⟨w', h1, h2, h3⟩ := entryStoreR_ok (t := t) hpc m (hev x) (hev k) (hev y) h
    exact ⟨.skip, undef, w', η, by simp [h1], .inr ⟨rfl, rfl⟩, Env.le_refl _, by rw [h2]; exact ⟨_, rfl, rfl⟩, h3⟩
  case range t x => exact OpOk.made (rangeR_ok m hfr (hev x) h)
  case next x st =>
    cases st with
    | false =>
      obtain ⟨z, h1, h2, h3⟩ := nextR_ok m (hev x) h ty
      exact OpOk.calm m h1 h2 h3
    | true => simp at h
  case entry x =>
    obtain ⟨z, h1, h2, h3⟩ := entryR_ok hpc m (hev x) h
    exact OpOk.calm m h1 h2 h3
  case call c =>
    split at h
    · rename_i b hc
      have hargs : V.denL I ρ η (c.args.toList.map (evalO gl tmps)) (c.args.toList.map ev) := map_denL hev _
      have hrun : ∀ sem : Sem Next, builtin b c.argTypes ty (c.args.map fun | .const _ => true | _ => false) (c.args.map ev) = sem → OpOk P I ρ η H S w0 w sem r → OpOk P I ρ η H S w0 w (do let d ← resolve ev c ty; invoke d.target d.args) r := by
        intro sem hsem hok
        obtain ⟨nx, x, w', η', h1, h2⟩ := hok
        refine ⟨nx, x, w', η', ?_, h2⟩
        rw [← h1, ← hsem]
        simp [resolve, hc, invoke]
        rfl
      refine hrun _ rfl ?_
      exact builtinR_ok hpc m hfr (by rw [Array.toList_map]; exact hargs) h hn
    · simp at h

end
end Go.Sx

/- The symbolic executor, part P: the machine's steps within a frame. -/
namespace Go.Sx
open Go

/-- A state of the machine that an abstract one stands for. -/
structure Den (C : Ctx) (I : Itp) (ρ : List U) (η : Env) (S : Nat → Prop) (w0 : World) (s : St) (F : Frame) (Fs : List Frame) (w : World) : Prop where
  top : s.top.den C.P I ρ η F
  below : Fr.denL C.P I ρ η s.below Fs
  mem : Mem C.P I ρ η s.H S w0 w
  glob : GlOk C.gl η

def botFn (fr : Fr) : List Fr → Nat
  | [] => fr.fn
  | f :: fs => botFn f fs

/-- what a call hands back -/
def RetsIn (P : Program) (f : FuncId) (args : Array Value) (w : World) (cs : List Frame) (x : Value) (w' : World) : Prop :=
  ∃ fr, Steps P (lone (Frame.enter P f args .normal) cs w) (lone fr cs w') ∧ fr.fn = f ∧ fr.leaving P w' (.returned x)

/-- The machine comes to a state that s stands for. -/
def Nx (C : Ctx) (I : Itp) (ρ : List U) (η : Env) (S : Nat → Prop) (w0 : World) (cs : List Frame) (bot : Nat) (m : Machine) (s : St) : Prop :=
  ∃ η' F Fs w', η.le η' ∧ Steps C.P m (lone F (Fs ++ cs) w') ∧ Den C I ρ η' S w0 s F Fs w' ∧ botFn s.top s.below = bot

/-- The machine comes to the return of the function at the bottom. -/
def Rx (C : Ctx) (I : Itp) (ρ : List U) (η : Env) (S : Nat → Prop) (w0 : World) (cs : List Frame) (bot : Nat) (m : Machine) (v : V) (H : List O) : Prop :=
  ∃ η' fr x w', η.le η' ∧ Steps C.P m (lone fr cs w') ∧ fr.fn = bot ∧ fr.leaving C.P w' (.returned x) ∧ V.den I ρ η' v x ∧ Mem C.P I ρ η' H S w0 w' ∧ GlOk C.gl η'

def OutOk (C : Ctx) (I : Itp) (ρ : List U) (η : Env) (S : Nat → Prop) (w0 : World) (cs : List Frame) (bot : Nat) (m : Machine) : Out → Prop
  | .next s => Nx C I ρ η S w0 cs bot m s
  | .br _ s => Nx C I ρ η S w0 cs bot m s
  | .two c a b => ((c.den I ρ).b = true → Nx C I ρ η S w0 cs bot m a) ∧ ((c.den I ρ).b = false → Nx C I ρ η S w0 cs bot m b)
  | .need ns s => Holds I ρ ns → Nx C I ρ η S w0 cs bot m s
  | .ret v H => Rx C I ρ η S w0 cs bot m v H
  | .bad _ => True
  | .alts ss => ∃ s ∈ ss, Nx C I ρ η S w0 cs bot m s

section
variable {C : Ctx} {I : Itp} {ρ : List U} {pc : List E} {η : Env} {S : Nat → Prop} {w0 w : World} {s : St} {F : Frame} {Fs cs : List Frame}

theorem frame_as (h : F.mode = .run) : F = F.atR ⟨F.tmps, F.defers⟩ F.todo := by
  obtain ⟨fn, tmps, todo, defers, mode, kind, ro⟩ := F
  simp only at h
  subst h
  rfl

theorem mv {P : Program} (hm : F.mode = .run) {K K' : List Item} (ht : F.todo = K) {w' : World} (h : ∀ (b : Frame) (a : Act), b.roundOf = F.roundOf → a = ⟨F.tmps, F.defers⟩ → step P (lone (b.atR a K) cs w) = .next (lone (b.atR a K') cs w')) :
    step P (lone F cs w) = .next (lone { F with todo := K' } cs w') := by
  have e := frame_as hm
  have h1 := h F ⟨F.tmps, F.defers⟩ rfl rfl
  subst ht
  rw [← e] at h1
  rw [h1]
  obtain ⟨fn, tmps, todo, defers, mode, kind, ro⟩ := F
  simp only at hm
  subst hm
  rfl

theorem botFn_top {f g : Fr} (h : f.fn = g.fn) : ∀ l : List Fr, botFn f l = botFn g l
  | [] => h
  | _ :: _ => rfl

theorem Nx.here (d : Den C I ρ η S w0 s F Fs w) : Nx C I ρ η S w0 cs (botFn s.top s.below) (lone F (Fs ++ cs) w) s :=
  ⟨η, F, Fs, w, Env.le_refl _, Steps.refl _ _, d, rfl⟩

/-- A step that turns the list of what is to be done alone. -/
theorem Nx.todo (d : Den C I ρ η S w0 s F Fs w) {K K' : List Item} {k' : List TI} (ht : F.todo = K) (h : ∀ (b : Frame) (a : Act), b.roundOf = F.roundOf → a = ⟨F.tmps, F.defers⟩ → step C.P (lone (b.atR a K) (Fs ++ cs) w) = .next (lone (b.atR a K') (Fs ++ cs) w))
    (hk : TI.denL (bodyOf C.P s.top.fn) η k' K') : Nx C I ρ η S w0 cs (botFn s.top s.below) (lone F (Fs ++ cs) w) { s with top := { s.top with todo := k' } } := by
  have hb : botFn { s.top with todo := k' } s.below = botFn s.top s.below := botFn_top (f := { s.top with todo := k' }) (g := s.top) rfl s.below
  refine ⟨η, { F with todo := K' }, Fs, w, Env.le_refl _, Steps.one (mv d.top.mode ht h), ⟨?_, d.below, d.mem, d.glob⟩, hb⟩
  exact ⟨d.top.fn, d.top.tmps, hk, d.top.defs, d.top.mode, d.top.kind, d.top.rnd⟩

theorem exitToT_ok {body : Code} (id : Nat) : ∀ (k : List TI) (K : List Item), TI.denL body η k K →
    match exitToT id k with
    | some k' => ∃ K', exitTo id K = some K' ∧ TI.denL body η k' K'
    | none => exitTo id K = none
  | [], K, h => by
    simp only [TI.denL] at h; subst h
    rfl
  | t :: k, K, h => by
    simp only [TI.denL] at h
    obtain ⟨x, K', rfl, hx, hk⟩ := h
    have ih := exitToT_ok id k K' hk
    cases t with
    | blk id' =>
      simp only [TI.den] at hx; subst hx
      simp only [exitToT, exitTo, beq_iff_eq]
      by_cases he : id' = id
      · rw [if_pos he, if_pos he]; exact ⟨K', rfl, hk⟩
      · rw [if_neg he, if_neg he]; exact ih
    | «at» p => simp only [TI.den] at hx; subst hx; exact ih
    | reg p i => simp only [TI.den] at hx; obtain ⟨_, _, _, _, rfl⟩ := hx; exact ih
    | lp p => simp only [TI.den] at hx; obtain ⟨_, _, rfl⟩ := hx; exact ih
    | sc p => simp only [TI.den] at hx; obtain ⟨_, _, rfl⟩ := hx; exact ih
    | rfn h => simp only [TI.den] at hx; obtain ⟨_, _, rfl⟩ := hx; exact ih
    | erf h => simp only [TI.den] at hx; obtain ⟨_, _, rfl⟩ := hx; exact ih
    | beg => simp only [TI.den] at hx; subst hx; exact ih
    | jmp j => simp only [TI.den] at hx; subst hx; exact ih

/-- Is an operation wanted? -/
theorem wantedT_ok (hpc : Holds I ρ pc) {ops : Array Oper} {tmps : List V} {T : Array Value} (ht : V.denL I ρ η tmps T.toList) {o : Oper} {b : Bool} {e : E} (h : wantedT ops.toList tmps o.guard pc = (some b, e)) :
    Region.wanted o (yielded ops T) = b := by
  unfold wantedT at h
  unfold Region.wanted
  split at h
  · rename_i hg
    rw [hg]
    simp only [Prod.mk.injEq, Option.some.injEq] at h
    exact h.1
  · rename_i j want hg
    rw [hg]
    simp only [yielded]
    rw [← Array.getElem?_toList]
    split at h
    · rename_i q hq
      rw [hq]
      simp only [Option.bind_some]
      split at h
      · rename_i d hd
        rw [hd]
        simp only [Option.bind_some]
        split at h
        · rename_i c hc
          obtain ⟨x, hx, hxd⟩ := V.denL_get d ht hc
          rw [Array.getElem?_toList] at hx
          rw [hx]
          simp only [V.den] at hxd
          subst hxd
          split at h
          · rename_i bb hdec
            simp only [Prod.mk.injEq, Option.some.injEq] at h
            obtain ⟨rfl, _⟩ := h
            have hval : (c.den I ρ).b = bb := decC_ok hpc _ _ hdec
            simp [hval]
          · simp at h
        · rename_i hc
          obtain ⟨x, hx, hxd⟩ := V.denL_get d ht hc
          rw [Array.getElem?_toList] at hx
          rw [hx]
          simp only [V.den] at hxd
          obtain ⟨xs, rfl, _⟩ := hxd
          simp only [Prod.mk.injEq, Option.some.injEq] at h
          obtain ⟨rfl, _⟩ := h
          rfl
        · rename_i hc
          have hlen := V.denL_length ht
          rw [List.getElem?_eq_none_iff] at hc
          rw [Array.getElem?_eq_none (by simp at hlen; omega)]
          simp only [Prod.mk.injEq, Option.some.injEq] at h
          obtain ⟨rfl, _⟩ := h
          rfl
        · simp at h
      · rename_i hd
        rw [hd]
        simp only [Prod.mk.injEq, Option.some.injEq] at h
        obtain ⟨rfl, _⟩ := h
        rfl
    · rename_i hq
      rw [hq]
      simp only [Prod.mk.injEq, Option.some.injEq] at h
      obtain ⟨rfl, _⟩ := h
      rfl

theorem putT_ok {tmps : List V} {T : Array Value} {D : List Deferred} (ht : V.denL I ρ η tmps T.toList) {v : V} {x : Value} (hv : V.den I ρ η v x) (dst : Option Tmp) : V.denL I ρ η (putT tmps dst v) ((⟨T, D⟩ : Act).put dst x).tmps.toList := by
  cases dst with
  | none => exact ht
  | some d => simp only [putT, Act.put, Array.toList_setIfInBounds]; exact V.denL_set d ht hv

theorem put_defers (a : Act) (dst : Option Tmp) (v : Value) : (a.put dst v).defers = a.defers := by cases dst <;> rfl

end
end Go.Sx

/- The symbolic executor, part Q: operations, calls, returns, rounds. -/
namespace Go.Sx
open Go

section
variable {C : Ctx} {I : Itp} {ρ : List U} {pc : List E} {η : Env} {S : Nat → Prop} {w0 w : World} {s : St} {F : Frame} {Fs cs : List Frame}

/-- The frame once an operation of a region has given its value. -/
def Frame.putAt (F : Frame) (dst : Option Tmp) (x : Value) (todo : List Item) : Frame :=
  { F with tmps := ((⟨F.tmps, F.defers⟩ : Act).put dst x).tmps, todo := todo }

theorem put_atR (hm : F.mode = .run) (dst : Option Tmp) (x : Value) (todo : List Item) : F.atR ((⟨F.tmps, F.defers⟩ : Act).put dst x) todo = Frame.putAt F dst x todo := by
  obtain ⟨fn, tmps, todo', defers, mode, kind, ro⟩ := F
  simp only at hm
  subst hm
  cases dst <;> rfl

variable {P : Program} {ops : Array Oper} {i : Nat} {rest : List Nat} {K : List Item} {o : Oper}

theorem step_opv (hm : F.mode = .run) (ht : F.todo = .inRegion ops (i :: rest) :: K) (ho : ops[i]? = some o) (hw : Region.wanted o (yielded ops F.tmps) = true) (hnd : ∀ c, o.op ≠ .defer c)
    {nx : Next} {x : Value} {w' : World} (hr : (execOp F.eval o).run P w = .ok nx w') (hx : nx = .value x ∨ (nx = .skip ∧ x = undef)) :
    step P (lone F cs w) = .next (lone (Frame.putAt F o.dst x (.inRegion ops rest :: K)) cs w') := by
  have e := frame_as hm
  rw [ht] at e
  have hev : F.eval = (⟨F.tmps, F.defers⟩ : Act).eval := by
    conv => lhs; rw [e]
    exact Frame.eval_atR ..
  have hg := stepGR_op (P := P) (b := F) (a := ⟨F.tmps, F.defers⟩) (k := K) (cs := cs) (w := w) (rest := rest) ho hw
  rw [← e, Oper.semAt_eq _ _ _ hnd, ← hev] at hg
  have hfin : F.finish x = Frame.putAt F o.dst x (.inRegion ops rest :: K) := by
    conv => lhs; rw [e]
    rw [Frame.finish_atR, put_atR hm]
    simp [ho]
  rw [← hfin]
  refine step_lone_go ?_
  rw [hg]
  rcases hx with rfl | ⟨rfl, rfl⟩
  · simp [stepG.apply, Sem.runT_eq, hr, GStep.bare_after]
  · simp [stepG.apply, Sem.runT_eq, hr, GStep.bare_after]

theorem step_opcall (hm : F.mode = .run) (ht : F.todo = .inRegion ops (i :: rest) :: K) (ho : ops[i]? = some o) (hw : Region.wanted o (yielded ops F.tmps) = true) (hnd : ∀ c, o.op ≠ .defer c)
    {f : FuncId} {args : Array Value} {w' : World} (hr : (execOp F.eval o).run P w = .ok (.enter f args) w') :
    step P (lone F cs w) = .next (lone (Frame.enter P f args .normal) (F :: cs) w') := by
  have e := frame_as hm
  rw [ht] at e
  have hev : F.eval = (⟨F.tmps, F.defers⟩ : Act).eval := by
    conv => lhs; rw [e]
    exact Frame.eval_atR ..
  have hg := stepGR_op (P := P) (b := F) (a := ⟨F.tmps, F.defers⟩) (k := K) (cs := cs) (w := w) (rest := rest) ho hw
  rw [← e, Oper.semAt_eq _ _ _ hnd, ← hev] at hg
  refine step_lone_go ?_
  rw [hg]
  simp [stepG.apply, Sem.runT_eq, hr, GStep.bare_after, ht]

theorem step_opround (hm : F.mode = .run) (ht : F.todo = .inRegion ops (i :: rest) :: K) (ho : ops[i]? = some o) (hw : Region.wanted o (yielded ops F.tmps) = true) (hnd : ∀ c, o.op ≠ .defer c)
    {l : Nat} {f : FuncId} {tmps : Array Value} {asg bd : Code} {w' : World} (hr : (execOp F.eval o).run P w = .ok (.round l f tmps asg bd) w') :
    step P (lone F cs w) = .next (lone (Frame.round l f tmps asg bd .normal) (F :: cs) w') := by
  have e := frame_as hm
  rw [ht] at e
  have hev : F.eval = (⟨F.tmps, F.defers⟩ : Act).eval := by
    conv => lhs; rw [e]
    exact Frame.eval_atR ..
  have hg := stepGR_op (P := P) (b := F) (a := ⟨F.tmps, F.defers⟩) (k := K) (cs := cs) (w := w) (rest := rest) ho hw
  rw [← e, Oper.semAt_eq _ _ _ hnd, ← hev] at hg
  refine step_lone_go ?_
  rw [hg]
  simp [stepG.apply, Sem.runT_eq, hr, GStep.bare_after]

theorem step_opskip (hm : F.mode = .run) (ht : F.todo = .inRegion ops (i :: rest) :: K) (ho : ops[i]? = some o) (hw : Region.wanted o (yielded ops F.tmps) = false) :
    step P (lone F cs w) = .next (lone (Frame.putAt F o.dst undef (.inRegion ops rest :: K)) cs w) := by
  have e := frame_as hm
  rw [ht] at e
  have hs := stepR_op_skip (P := P) (b := F) (a := ⟨F.tmps, F.defers⟩) (k := K) (cs := cs) (w := w) (ops := ops) (i := i) (rest := rest) (by simp [ho, hw])
  rw [← e] at hs
  rw [hs, put_atR hm]
  simp [ho]

theorem finish_op (hm : F.mode = .run) (ht : F.todo = .inRegion ops (i :: rest) :: K) (ho : ops[i]? = some o) (x : Value) : F.finish x = Frame.putAt F o.dst x (.inRegion ops rest :: K) := by
  have e := frame_as hm
  rw [ht] at e
  conv => lhs; rw [e]
  rw [Frame.finish_atR, put_atR hm]
  simp [ho]

/-- A frame whose temporary has been set stands for the abstract one whose temporary has been set. -/
theorem put_den {η' : Env} {fr : Fr} (d : fr.den P I ρ η F) (hle : η.le η') {v : V} {x : Value} (hv : V.den I ρ η' v x) (dst : Option Tmp) {k : List TI} {K : List Item} (hk : TI.denL (bodyOf P fr.fn) η' k K) :
    Fr.den P I ρ η' { fr with tmps := putT fr.tmps dst v, todo := k } (Frame.putAt F dst x K) := by
  have d' := Fr.den_mono hle d
  exact ⟨d'.fn, putT_ok d'.tmps hv dst, hk, d'.defs, d'.mode, d'.kind, d'.rnd⟩

theorem reg_list {n i : Nat} (h : i < n) : List.range' i (n - i) = i :: List.range' (i + 1) (n - (i + 1)) := by
  rw [show n - i = (n - (i + 1)) + 1 from by omega, List.range'_succ]

/-- Entering a function. -/
theorem enter_ok {f : Nat} {args : List V} {fr : Fr} (h : enterFr P f args = some fr) {vs : Array Value} (ha : V.denL I ρ η args vs.toList) : fr.den P I ρ η (Frame.enter P f vs .normal) ∧ fr.fn = f ∧
    ∃ g c, P.funcs[f]? = some g ∧ g.body = some c ∧ (g.name == "runtime.NumGoroutine") = false := by
  unfold enterFr at h
  split at h
  · rename_i g hg
    split at h
    · rename_i c hc
      split at h
      · simp at h
      · rename_i hname
        simp only [Option.some.injEq] at h
        subst h
        refine ⟨⟨rfl, ?_, ?_, rfl, rfl, rfl, rfl⟩, rfl, g, c, hg, hc, by simpa using hname⟩
        · simp only [Frame.enter, hg, Option.map_some, Option.getD_some, Array.toList_append, Array.toList_replicate]
          have hlen := V.denL_length ha
          rw [← hlen, Array.length_toList]
          exact V.denL_append ha (V.denL_replicate (by exact ⟨_, rfl, rfl⟩) _)
        · simp only [Frame.enter, hg, Option.bind_some, hc, Option.getD_some]
          exact ⟨_, _, rfl, by simp [TI.den, codeAt, bodyOf, hg, hc], rfl⟩
    · simp at h
  · simp at h

theorem callFunc_run {f : Nat} {g : Func} {c : Code} (hg : P.funcs[f]? = some g) (hc : g.body = some c) (hn : (g.name == "runtime.NumGoroutine") = false) (args : Array Value) (w : World) : (callFunc f args).run P w = .ok (.enter f args) w := by
  simp at hn
  simp [callFunc, hg, hc, hn]

theorem call_func {gl : List (Nat × Nat)} {ev : Operand → Value} {tmps : List V} (hev : ∀ x, V.den I ρ η (evalO gl tmps x) (ev x)) {o : Oper} {f : Nat} {caps args : List V} (h : funVal gl tmps o.op = some (.func f caps, args))
    {g : Func} {c : Code} (hg : P.funcs[f]? = some g) (hc : g.body = some c) (hn : (g.name == "runtime.NumGoroutine") = false) (w : World) :
    ∃ vs, (execOp ev o).run P w = .ok (.enter f vs) w ∧ V.denL I ρ η (args ++ caps) vs.toList ∧ ∀ d, o.op ≠ .defer d := by
  unfold funVal at h
  split at h
  · rename_i cl hop
    split at h
    · rename_i x hcal
      simp only [Option.some.injEq, Prod.mk.injEq] at h
      obtain ⟨hx, rfl⟩ := h
      have hxd := hev x
      rw [hx] at hxd
      simp only [V.den] at hxd
      obtain ⟨xs, hxe, hcaps⟩ := hxd
      refine ⟨cl.args.map ev ++ xs, ?_, ?_, ?_⟩
      · simp [execOp, hop, resolve, hcal, Deferred.ofValue, hxe, invoke, callFunc_run hg hc hn]
      · rw [Array.toList_append, Array.toList_map]
        exact V.denL_append (map_denL hev _) hcaps
      · intro d hd; rw [hop] at hd; cases hd
    · simp at h
  · simp at h

theorem call_yield {gl : List (Nat × Nat)} {ev : Operand → Value} {tmps : List V} (hev : ∀ x, V.den I ρ η (evalO gl tmps x) (ev x)) {o : Oper} {l : Nat} {args : List V} (h : funVal gl tmps o.op = some (.yld l, args)) {i : Info} (hi : η l = some i) :
    ∃ vs : Array Value, (∀ (w : World) (r : Loop), w.heap[i.blk]? = some (.loop r) → vs.size = r.params.size → (execOp ev o).run P w = .ok (.round i.blk r.fn ((r.params.zip vs).foldl (fun tmps (t, a) => tmps.setIfInBounds t a) r.tmps) r.assign r.body) w) ∧ V.denL I ρ η args vs.toList ∧ ∀ d, o.op ≠ .defer d := by
  unfold funVal at h
  split at h
  · rename_i cl hop
    split at h
    · rename_i x hcal
      simp only [Option.some.injEq, Prod.mk.injEq] at h
      obtain ⟨hx, rfl⟩ := h
      have hxd := hev x
      rw [hx] at hxd
      simp only [V.den] at hxd
      obtain ⟨j, hj, hxe⟩ := hxd
      rw [hi] at hj
      simp only [Option.some.injEq] at hj
      subst hj
      refine ⟨cl.args.map ev, ?_, ?_, ?_⟩
      · intro w r hr hs
        have hy := run_yield (P := P) hr hs
        simp only [execOp, hop, resolve, hcal, Deferred.ofValue, hxe, Sem.run_bind, Sem.run_pure, Result.andThen, invoke, Array.empty_append]
        exact hy
      · rw [Array.toList_map]
        exact map_denL hev _
      · intro d hd; rw [hop] at hd; cases hd
    · simp at h
  · simp at h

theorem opR_defer {gl : List (Nat × Nat)} {H : List O} {fr : Nat} {tmps : List V} {op : Op} {r : AR} (h : opR P gl pc H fr tmps op = .ok r) : ∀ c, op ≠ .defer c := by
  rintro c rfl
  simp [opR] at h

end
end Go.Sx

/- The symbolic executor, part R: leaving a frame; rounds of a range over a function. -/
namespace Go.Sx
open Go

section
variable {C : Ctx} {I : Itp} {ρ : List U} {pc : List E} {η : Env} {S : Nat → Prop} {H : List O} {w0 w : World} {s : St} {F : Frame} {Fs cs : List Frame} {P : Program}

theorem set_eq_setO {h : Nat} {o o' : O} (hl : H[h]? = some o) : H.set h o' = setO H h o' := by
  have : h < H.length := (List.getElem?_eq_some_iff.1 hl).1
  simp [setO, this]

/-- A loop's record is written. -/
theorem Mem.setLoop (m : Mem P I ρ η H S w0 w) {l : Nat} {a : AL} (hl : H[l]? = some (.loop a)) {i : Info} (hi : η l = some i) (st : LoopState) (pend : Option Jmp) :
    ∃ (r : Loop), w.heap[i.blk]? = some (.loop r) ∧ r.state = a.st ∧ r.pending = a.pend.map Jmp.code ∧ r.fn = a.fn ∧ V.denL I ρ η a.tmps r.tmps.toList ∧
      (∃ f, codeAt (bodyOf P a.fn) a.path = .rangeFunc f r.params r.assign r.body) ∧ (∃ d, η a.dh = some d ∧ r.defers = d.blk) ∧
      Mem P I ρ η (H.set l (.loop { a with st := st, pend := pend })) S w0 (w.putObj i.blk (.loop { r with state := st, pending := pend.map Jmp.code })) := by
  have hlk := look_of hl (by intro e; cases e)
  obtain ⟨j, hj, hd⟩ := m.obj l _ hlk
  rw [hi] at hj; simp only [Option.some.injEq] at hj; subst hj
  obtain ⟨tm, prm, f, asg, bd, d, hx, h1, h2, h3⟩ := hd
  refine ⟨_, hx, rfl, rfl, rfl, h1, ⟨f, h2⟩, ⟨d, h3, rfl⟩, ?_⟩
  rw [set_eq_setO hl]
  have hlt : i.blk < w.heap.size := by
    rcases Nat.lt_or_ge i.blk w.heap.size with h | h
    · exact h
    · rw [Array.getElem?_eq_none h] at hx; simp at hx
  refine m.write hlk hi rfl trivial rfl rfl rfl (by simp) (fun b _ hne => World.putObj_heap_other hne) rfl (by intro e; cases e) ?_
  rw [World.putObj_heap_same hlt]
  exact ⟨tm, prm, f, asg, bd, d, rfl, h1, h2, h3⟩

/-- The value comes back to a frame that waits. -/
theorem finishT_ok {fr fr' : Fr} {c : Frame} (d : fr.den P I ρ η c) {v : V} (h : finishT P fr v = some fr') {x : Value} (hv : V.den I ρ η v x) : fr'.den P I ρ η (c.finish x) ∧ fr'.fn = fr.fn := by
  unfold finishT at h
  split at h
  · rename_i p i k htodo
    split at h
    · rename_i id ops dr hc
      split at h
      · rename_i o ho
        simp only [Option.some.injEq] at h
        subst h
        have ht := d.todo
        rw [htodo] at ht
        simp only [TI.denL, TI.den] at ht
        obtain ⟨y, ys, hF, ⟨id', ops', dr', hc', rfl⟩, hk⟩ := ht
        rw [hc] at hc'
        simp only [Code.region.injEq] at hc'
        obtain ⟨_, rfl, _⟩ := hc'
        have ho' : ops[i]? = some o := by rw [← Array.getElem?_toList]; exact ho
        have hi : i < ops.size := by
          rcases Nat.lt_or_ge i ops.size with h | h
          · exact h
          · rw [Array.getElem?_eq_none h] at ho'; simp at ho'
        rw [reg_list hi] at hF
        rw [finish_op d.mode hF ho' x]
        refine ⟨put_den d (Env.le_refl _) hv o.dst ?_, rfl⟩
        exact ⟨_, _, rfl, ⟨id, ops, dr, hc, rfl⟩, hk⟩
      · simp at h
    · simp at h
  · rename_i h' k htodo
    simp only [Option.some.injEq] at h
    subst h
    have ht := d.todo
    rw [htodo] at ht
    simp only [TI.denL, TI.den] at ht
    obtain ⟨y, ys, hF, ⟨i, hi, rfl⟩, hk⟩ := ht
    have e : c.finish x = { c with todo := .endRangeFunc i.blk :: ys } := by simp [Frame.finish, hF]
    rw [e]
    refine ⟨⟨d.fn, d.tmps, ?_, d.defs, d.mode, d.kind, d.rnd⟩, rfl⟩
    exact ⟨_, _, rfl, ⟨i, hi, rfl⟩, hk⟩
  · simp at h

theorem botFn_cons {f g : Fr} (h : f.fn = g.fn) (l : List Fr) : botFn f l = botFn g l := botFn_top h l

/-- On with the frame below. -/
theorem retTo_ok {m : Machine} {η' : Env} (hle : η.le η') {fr : Fr} {below : List Fr} (hb : s.below = fr :: below) {c : Frame} {Ds : List Frame} {v : V} {H : List O} {x : Value} {w' : World}
    (hs : Steps C.P m (lone (c.finish x) (Ds ++ cs) w')) (d : fr.den C.P I ρ η' c) (ds : Fr.denL C.P I ρ η' below Ds) (hv : V.den I ρ η' v x) (hm : Mem C.P I ρ η' H S w0 w') (hg : GlOk C.gl η') :
    OutOk C I ρ η S w0 cs (botFn s.top s.below) m (retTo C.P s v H) := by
  unfold retTo
  rw [hb]
  simp only
  split
  · rename_i fr' hfin
    obtain ⟨h1, h2⟩ := finishT_ok d hfin hv
    exact ⟨η', _, Ds, w', hle, hs, ⟨h1, ds, hm, hg⟩, botFn_top h2 below⟩
  · trivial

/-- one result -/
def resF (T : Array Value) : ResultVar → Sem Value
  | .tmp t => pure (T.getD t undef)
  | .cell a t => do loadVar t (← asAddr (T.getD a undef))

/-- The results of a function. -/
theorem resV_ok (hpc : Holds I ρ pc) (m : Mem P I ρ η H S w0 w) {tmps : List V} {T : Array Value} (ht : V.denL I ρ η tmps T.toList) : ∀ (rs : List ResultVar) (vs : List V), resV P pc H tmps rs = some vs →
    ∃ xs, (rs.mapM (resF T)).run P w = .ok xs w ∧ V.denL I ρ η vs xs
  | [], vs, h => by
    simp only [resV, Option.some.injEq] at h; subst h
    exact ⟨[], by simp, rfl⟩
  | .tmp t :: rs, vs, h => by
    simp only [resV, Option.map_eq_some_iff] at h
    obtain ⟨l, hl, rfl⟩ := h
    obtain ⟨xs, h1, h2⟩ := resV_ok hpc m ht rs l hl
    have hg : V.den I ρ η (tmps.getD t (.tup [])) (T.getD t undef) := by
      have := evalO_den (gl := []) (fr := ({ (default : Frame) with tmps := T } : Frame)) (fun g h hm => by simp at hm) ht (.tmp t)
      exact this
    refine ⟨T.getD t undef :: xs, ?_, _, _, rfl, hg, h2⟩
    simp only [List.mapM_cons, resF, Sem.run_bind, Sem.run_pure, Result.andThen, h1]
  | .cell a t :: rs, vs, h => by
    simp only [resV] at h
    split at h
    · rename_i r l hr hl
      split at h
      · rename_i hemp
        simp only [Option.some.injEq] at h; subst h
        obtain ⟨xs, h1, h2⟩ := resV_ok hpc m ht rs l hl
        have hg : V.den I ρ η (tmps.getD a (.tup [])) (T.getD a undef) := by
          have := evalO_den (gl := []) (fr := ({ (default : Frame) with tmps := T } : Frame)) (fun g h hm => by simp at hm) ht (.tmp a)
          exact this
        have hne : r.needs = [] := List.isEmpty_iff.1 hemp
        obtain ⟨y, hy, hyd, _⟩ := loadR_ok hpc m hg hr (by rw [hne]; intro c hc; simp at hc)
        have hy' : (do loadVar t (← asAddr (T.getD a undef)) : Sem Value).run P w = .ok y w := by
          cases hv : tmps.getD a (.tup []) with
          | ptr hh rr cc =>
            rw [hv] at hg
            simp only [V.den] at hg
            obtain ⟨i, _, _, _, hx⟩ := hg
            rw [hx] at hy ⊢
            simp only [Instr.loadAt, Instr.sureAddr, Sem.run_bind, Sem.run_pure, Result.andThen] at hy
            simp only [asAddr, Sem.run_bind, Sem.run_pure, Result.andThen]
            exact hy
          | _ => rw [hv] at hr; simp [loadR] at hr
        refine ⟨y :: xs, ?_, _, _, rfl, hyd, h2⟩
        have hy2 : (resF T (.cell a t)).run P w = .ok y w := hy'
        simp only [List.mapM_cons, Sem.run_bind, hy2, Sem.run_pure, Result.andThen, h1]
      · simp at h
    · simp at h

theorem results_ok (hpc : Holds I ρ pc) (m : Mem P I ρ η H S w0 w) {tmps : List V} {T : Array Value} (ht : V.denL I ρ η tmps T.toList) {fn : Func} {vs : List V} (h : resV P pc H tmps fn.results.toList = some vs) :
    ∃ x, (results fn T).run P w = .ok x w ∧ V.den I ρ η (retVal vs) x := by
  obtain ⟨xs, h1, h2⟩ := resV_ok hpc m ht _ _ h
  have hlen := V.denL_length h2
  have hrun : (results fn T).run P w = .ok (if h : xs.toArray.size = 1 then xs.toArray[0] else .tuple xs.toArray) w := by
    have e : results fn T = (do let vs ← fn.results.mapM (resF T); pure (if h : vs.size = 1 then vs[0] else .tuple vs)) := rfl
    have e2 : (fn.results.mapM (resF T)).run P w = .ok xs.toArray w := by
      rw [Array.mapM_eq_mapM_toList, map_eq_pure_bind]
      simp only [Sem.run_bind, h1, Result.andThen, Sem.run_pure]
    rw [e]
    simp only [Sem.run_bind, e2, Result.andThen, Sem.run_pure]
  refine ⟨_, hrun, ?_⟩
  match vs, xs, hlen, h2 with
  | [], [], _, h2 => exact ⟨#[], rfl, h2⟩
  | [v], [x], _, h2 =>
    simp only [V.denL] at h2
    obtain ⟨y, ys, he, hy, rfl⟩ := h2
    simp only [List.cons.injEq, and_true] at he
    subst he
    simpa [retVal] using hy
  | v :: v' :: vs, x :: x' :: xs, _, h2 =>
    have : retVal (v :: v' :: vs) = .tup (v :: v' :: vs) := rfl
    rw [this]
    simp only [V.den]
    exact ⟨(x :: x' :: xs).toArray, by simp, h2⟩

/-- The marks of the range loops are taken off. -/
theorem killDefs_ok : ∀ (hs : List Nat) (ds : List Deferred) (H H' : List O) (w : World), Mem P I ρ η H S w0 w → defMarks η hs ds → killDefs H hs = some H' → ∀ (G : Frame), G.mode = .returning → G.defers = ds →
    ∃ w', Steps P (lone G cs w) (lone { G with defers := [] } cs w') ∧ Mem P I ρ η H' S w0 w'
  | [], ds, H, H', w, m, hd, h, G, _, hG => by
    simp only [defMarks] at hd; subst hd
    simp only [killDefs, Option.some.injEq] at h; subst h
    have e : { G with defers := [] } = G := by rw [← hG]
    rw [e]
    exact ⟨w, Steps.refl _ _, m⟩
  | h :: hs, ds, H, H', w, m, hd, hk, G, hm, hG => by
    simp only [defMarks] at hd
    obtain ⟨i, ds', hi, rfl, hd'⟩ := hd
    simp only [killDefs] at hk
    split at hk
    · rename_i hl
      have hlk := look_of hl (by intro e; cases e)
      obtain ⟨j, hj, hden⟩ := m.obj h _ hlk
      rw [hi] at hj; simp only [Option.some.injEq] at hj; subst hj
      have hb : w.heap[i.blk]? = some (.deferred (some [])) := hden
      have m' : Mem P I ρ η (H.set h .dead) S w0 (w.putObj i.blk (.deferred none)) := by
        rw [set_eq_setO hl]
        exact m.write hlk hi rfl trivial rfl rfl rfl (by simp) (fun b _ hne => World.putObj_heap_other hne) rfl (by intro e; cases e) trivial
      obtain ⟨w', hs', hm'⟩ := killDefs_ok hs ds' _ H' _ m' hd' hk { G with defers := ds' } hm rfl
      refine ⟨w', Steps.head (m₁ := lone { G with defers := ds' } cs (w.putObj i.blk (.deferred none))) ?_ hs', hm'⟩
      refine step_lone_go ?_
      have hr := run_takeDeferred (P := P) hb
      simp [stepG, hm, unwind, hG, Sem.runT_eq, hr, GStep.bare_after]
    · simp at hk

/-- a frame at its end, by a jump -/
def AtEnd (F : Frame) (j : Option Jmp) : Prop :=
  (F.todo = [] ∧ j = none) ∨ (∃ k, F.todo = .code .ret :: k ∧ j = some .ret) ∨ (∃ id k, F.todo = .code (.exit id) :: k ∧ exitTo id k = none ∧ j = some (.exit id))

theorem leaveT_ok (hpc : Holds I ρ pc) (d : Den C I ρ η S w0 s F Fs w) {j : Option Jmp} (ha : AtEnd F j) : OutOk C I ρ η S w0 cs (botFn s.top s.below) (lone F (Fs ++ cs) w) (leaveT C pc s j) := by
  have e := frame_as d.top.mode
  unfold leaveT
  split
  · -- a round
    rename_i l hl
    have hr := d.top.rnd
    rw [hl] at hr
    obtain ⟨i, hi, hro⟩ := hr
    split
    · rename_i a fr below hla hdefs hbelow
      obtain ⟨r, hb, h1, h2, h3, h4, h5, h6, hm⟩ := d.mem.setLoop hla hi (if j.isNone then .ready else .done) j
      have hF := d.below
      rw [hbelow] at hF
      simp only [Fr.denL] at hF
      obtain ⟨c, Ds, rfl, hc, hDs⟩ := hF
      have hend := run_endRound (P := C.P) (j.map Jmp.code) hb
      have hst : step C.P (lone F (c :: Ds ++ cs) w) = .next (lone (c.finish (.bool j.isNone)) (Ds ++ cs) (w.putObj i.blk (.loop { r with state := if j.isNone then .ready else .done, pending := j.map Jmp.code }))) := by
        have hn : (j.map Jmp.code).isNone = j.isNone := by cases j <;> rfl
        rw [hn] at hend
        rcases ha with ⟨ht, rfl⟩ | ⟨k, ht, rfl⟩ | ⟨id, k, ht, hx, rfl⟩
        · rw [e, ht]; exact stepR_round_end hro d.top.kind hend
        · rw [e, ht]; exact stepR_round_ret hro d.top.kind hend
        · rw [e, ht]; exact stepR_round_exit hro d.top.kind hx hend
      exact retTo_ok (Env.le_refl _) hbelow (Steps.one hst) hc hDs rfl hm d.glob
    · trivial
  · rename_i hnone
    have hr := d.top.rnd
    rw [hnone] at hr
    simp only at hr
    have hgo : (∀ id, j ≠ some (.exit id)) → step C.P (lone F (Fs ++ cs) w) = .next (lone { F with mode := .returning } (Fs ++ cs) w) := by
      intro hj
      rcases ha with ⟨ht, rfl⟩ | ⟨k, ht, rfl⟩ | ⟨id, k, ht, hx, rfl⟩
      · have := stepR_end (P := C.P) (b := F) (a := ⟨F.tmps, F.defers⟩) (cs := Fs ++ cs) (w := w) hr
        rw [← ht, ← e] at this
        exact this
      · have := stepR_ret (P := C.P) (b := F) (a := ⟨F.tmps, F.defers⟩) (k := k) (cs := Fs ++ cs) (w := w) hr
        rw [← ht, ← e] at this
        exact this
      · exact (hj id rfl).elim
    have main : (∀ id, j ≠ some (.exit id)) → OutOk C I ρ η S w0 cs (botFn s.top s.below) (lone F (Fs ++ cs) w) (match C.P.funcs[s.top.fn]?, killDefs s.H s.top.defs with
      | some fn, some H => match resV C.P pc H s.top.tmps fn.results.toList with
        | some vs => retTo C.P s (retVal vs) H
        | none => .bad 305
      | _, _ => .bad 306) := by
      intro hj
      split
      · rename_i fn H' hfn hk
        split
        · rename_i vs hres
          obtain ⟨w', hs, hm⟩ := killDefs_ok (cs := Fs ++ cs) s.top.defs F.defers s.H H' w d.mem d.top.defs hk { F with mode := .returning } rfl rfl
          obtain ⟨x, hx, hxd⟩ := results_ok hpc hm (T := F.tmps) d.top.tmps hres
          have hlv : Frame.leaving C.P { F with mode := .returning, defers := [] } w' (.returned x) := ⟨rfl, rfl, d.top.kind, fn, by rw [← hfn, ← d.top.fn], hx⟩
          have hS : Steps C.P (lone F (Fs ++ cs) w) (lone { F with mode := .returning, defers := [] } (Fs ++ cs) w') := Steps.head (hgo hj) hs
          have hbel := d.below
          cases hb : s.below with
          | nil =>
            rw [hb] at hbel
            simp only [Fr.denL] at hbel
            subst hbel
            simp only [retTo, hb]
            exact ⟨η, _, x, w', Env.le_refl _, hS, d.top.fn, hlv, hxd, hm, d.glob⟩
          | cons fr below =>
            rw [hb] at hbel
            simp only [Fr.denL] at hbel
            obtain ⟨c, Ds, rfl, hc, hDs⟩ := hbel
            rw [← hb]
            exact retTo_ok (Env.le_refl _) hb (hS.trans (Steps.one (step_leave_returned hlv))) hc hDs hxd hm d.glob
        · trivial
      · trivial
    split
    · trivial
    · rename_i hne
      exact main (fun id h => hne id h)

end
end Go.Sx

/- The symbolic executor, part S: one step of the machine. -/
namespace Go.Sx
open Go

/-- What is asked of the contracts. -/
def CtrOk (C : Ctx) (I : Itp) : Prop :=
  ∀ (ρ : List U) (pc : List E) (η : Env) (H : List O) (S : Nat → Prop) (w0 w : World) (h f : Nat) (args : List V) (vs : Array Value) (r : AR),
    Holds I ρ pc → Mem C.P I ρ η H S w0 w → GlOk C.gl η → (∀ k, k < 4 → look H (h + k) = none) → V.denL I ρ η args vs.toList → ctrsR C.ng pc H h f args C.ctrs = .ok r → Holds I ρ r.needs →
    (∃ g c, C.P.funcs[f]? = some g ∧ g.body = some c ∧ (g.name == "runtime.NumGoroutine") = false) ∧
      ∀ cs : List Frame, ∃ x w' η', RetsIn C.P f vs w cs x w' ∧ η.le η' ∧ V.den I ρ η' r.v x ∧ Mem C.P I ρ η' (applyEff H r.eff) S w0 w'

/-- What is asked of a region whose order is drawn. -/
def DrawOk (C : Ctx) (I : Itp) : Prop :=
  ∀ (ρ : List U) (pc : List E) (η : Env) (S : Nat → Prop) (w0 w : World) (s : St) (F : Frame) (Fs cs : List Frame) (id : Nat) (ops : Array Oper) (p : List Nat) (k : List TI) (K : List Item),
    Holds I ρ pc → Den C I ρ η S w0 s F Fs w → F.todo = .code (.region id ops true) :: K → codeAt (bodyOf C.P s.top.fn) p = .region id ops true → TI.denL (bodyOf C.P s.top.fn) η k K →
    OutOk C I ρ η S w0 cs (botFn s.top s.below) (lone F (Fs ++ cs) w) (drawL C pc s ops.toList p k)

section
variable {C : Ctx} {I : Itp} {ρ : List U} {pc : List E} {η : Env} {S : Nat → Prop} {H : List O} {w0 w : World} {s : St} {F : Frame} {Fs cs : List Frame} {P : Program}

theorem look_ge {h : Nat} (hh : H.length ≤ h) : look H h = none := look_none_of (List.getElem?_eq_none hh)

theorem setO_len (o : O) : setO H H.length o = H ++ [o] := by simp [setO]

/-- The state after an operation. -/
theorem applyAR_den (d : Den C I ρ η S w0 s F Fs w) {η' : Env} (hle : η.le η') {w' : World} {r : AR} {x : Value} (hv : V.den I ρ η' r.v x) (hm : Mem C.P I ρ η' (applyEff s.H r.eff) S w0 w') (dst : Option Tmp)
    {todo : List TI} {K : List Item} (hk : TI.denL (bodyOf C.P s.top.fn) η todo K) : Den C I ρ η' S w0 (applyAR s dst todo r) (Frame.putAt F dst x K) Fs w' :=
  ⟨put_den d.top hle hv dst (TI.denL_mono hle _ _ hk), Fr.denL_mono hle _ _ d.below, hm, d.glob.mono hle⟩

theorem applyAR_bot (s : St) (dst : Option Nat) (todo : List TI) (r : AR) : botFn (applyAR s dst todo r).top (applyAR s dst todo r).below = botFn s.top s.below :=
  botFn_top (f := (applyAR s dst todo r).top) (g := s.top) rfl s.below

theorem outAR_ok {m : Machine} {dst : Option Nat} {todo : List TI} {r : AR} (h : Holds I ρ r.needs → Nx C I ρ η S w0 cs (botFn s.top s.below) m (applyAR s dst todo r)) :
    OutOk C I ρ η S w0 cs (botFn s.top s.below) m (outAR s dst todo r) := by
  unfold outAR
  split
  · rename_i hn
    exact h (by rw [hn]; intro c hc; simp at hc)
  · exact h

/-- An operation in the text's order. -/
theorem oper_ok (hpc : Holds I ρ pc) (d : Den C I ρ η S w0 s F Fs w) {ops : Array Oper} {i : Nat} {rest : List Nat} {K : List Item} {o : Oper} (ht : F.todo = .inRegion ops (i :: rest) :: K) (ho : ops[i]? = some o)
    (hw : Region.wanted o (yielded ops F.tmps) = true) {todo : List TI} (hk : TI.denL (bodyOf C.P s.top.fn) η todo (.inRegion ops rest :: K)) :
    OutOk C I ρ η S w0 cs (botFn s.top s.below) (lone F (Fs ++ cs) w) (outRes s o.dst todo (opR C.P C.gl pc s.H s.H.length s.top.tmps o.op)) := by
  unfold outRes
  split
  · rename_i r hr
    refine outAR_ok (fun hn => ?_)
    obtain ⟨nx, x, w', η', h1, h2, h3, h4, h5⟩ := opR_ok (o := o) hpc d.mem (look_ge (Nat.le_refl _)) (evalO_den d.glob d.top.tmps) hr hn
    exact ⟨η', _, Fs, w', h3, Steps.one (step_opv d.top.mode ht ho hw (opR_defer hr) h1 h2), applyAR_den d h3 h4 h5 o.dst hk, applyAR_bot ..⟩
  · exact Nx.here d
  · trivial
  · trivial

theorem anyOf_ok (hpc : Holds I ρ pc) {H : List O} (m : Mem C.P I ρ η H S w0 w) {tmps : List V} {ev : Operand → Value} (hev : ∀ x, V.den I ρ η (evalO C.gl tmps x) (ev x)) {o : Oper} {rs : List AR} (h : anyOf C.gl pc H tmps o.op = some rs) :
    ∃ r ∈ rs, OpOk C.P I ρ η H S w0 w (execOp ev o) r ∧ ∀ c, o.op ≠ .defer c := by
  unfold anyOf at h
  split at h
  · rename_i op x hop
    split at h
    · rename_i rs' hn
      simp only [Option.some.injEq] at h; subst h
      obtain ⟨r, hr, z, w', h1, h2, h3⟩ := nextR_any hpc m (hev x) hn o.type
      refine ⟨r, hr, ?_, fun c hc => by rw [hop] at hc; cases hc⟩
      have e : execOp ev o = (do pure (.value (← Instr.next (ev x) false o.type))) := by unfold execOp; rw [hop]
      rw [e]
      exact OpOk.made ⟨z, w', η, h1, Env.le_refl _, h2, h3⟩
    · cases h
  · cases h

/-- An operation that is no call, in the text's order. -/
theorem outOp_ok (hpc : Holds I ρ pc) (d : Den C I ρ η S w0 s F Fs w) {ops : Array Oper} {i : Nat} {rest : List Nat} {K : List Item} {o : Oper} (ht : F.todo = .inRegion ops (i :: rest) :: K) (ho : ops[i]? = some o)
    (hw : Region.wanted o (yielded ops F.tmps) = true) {todo : List TI} (hk : TI.denL (bodyOf C.P s.top.fn) η todo (.inRegion ops rest :: K)) :
    OutOk C I ρ η S w0 cs (botFn s.top s.below) (lone F (Fs ++ cs) w) (outOp C pc s o.dst todo o.op) := by
  unfold outOp
  split
  · rename_i rs hrs
    obtain ⟨r, hr, ⟨nx, x, w', η', h1, h2, h3, h4, h5⟩, hnd⟩ := anyOf_ok hpc d.mem (evalO_den d.glob d.top.tmps) hrs
    exact ⟨_, List.mem_map.2 ⟨r, hr, rfl⟩, η', _, Fs, w', h3, Steps.one (step_opv d.top.mode ht ho hw hnd h1 h2), applyAR_den d h3 h4 h5 o.dst hk, applyAR_bot ..⟩
  · exact oper_ok hpc d ht ho hw hk

theorem fold_tmps : ∀ (ps : List Nat) (args tmps : List V) (vs : List Value) (T : Array Value), V.denL I ρ η args vs → V.denL I ρ η tmps T.toList →
    V.denL I ρ η ((ps.zip args).foldl (fun t (p : Nat × V) => t.set p.1 p.2) tmps) ((ps.zip vs).foldl (fun t (p : Nat × Value) => t.setIfInBounds p.1 p.2) T).toList
  | [], _, _, _, _, _, ht => by simpa using ht
  | _ :: _, [], _, vs, _, ha, ht => by simp only [V.denL] at ha; subst ha; simpa using ht
  | p :: ps, a :: args, tmps, vs, T, ha, ht => by
    simp only [V.denL] at ha
    obtain ⟨y, ys, rfl, hy, hys⟩ := ha
    simp only [List.zip_cons_cons, List.foldl_cons]
    refine fold_tmps ps args _ ys _ hys ?_
    rw [Array.toList_setIfInBounds]
    exact V.denL_set p ht hy

theorem round_ok (m : Mem P I ρ η H S w0 w) {l : Nat} {args : List V} {fr : Fr} (h : roundFr P H l args = some fr) :
    ∃ i r, η l = some i ∧ w.heap[i.blk]? = some (.loop r) ∧ ∀ vs : Array Value, V.denL I ρ η args vs.toList → vs.size = r.params.size ∧
      fr.den P I ρ η (Frame.round i.blk r.fn ((r.params.zip vs).foldl (fun tmps (t, a) => tmps.setIfInBounds t a) r.tmps) r.assign r.body .normal) := by
  unfold roundFr at h
  split at h
  · rename_i a hl
    split at h
    · rename_i prm asg bd hc
      split at h
      · rename_i hlen
        simp only [Option.some.injEq] at h
        subst h
        have hlk := look_of hl (by intro e; cases e)
        obtain ⟨i, hi, tm, prm', f, asg', bd', d, hx, h1, h2, h3⟩ := m.obj l _ hlk
        rw [hc] at h2
        simp only [Code.rangeFunc.injEq] at h2
        obtain ⟨rfl, rfl, rfl, rfl⟩ := h2
        refine ⟨i, _, hi, hx, fun vs hv => ?_⟩
        have hvl := V.denL_length hv
        refine ⟨by show vs.size = prm.size; simp only [Array.length_toList] at hvl hlen; omega, rfl, ?_, ?_, rfl, rfl, rfl, i, hi, rfl⟩
        · simp only [Frame.round]
          rw [← Array.foldl_toList, Array.toList_zip]
          exact fold_tmps _ _ _ _ _ hv h1
        · simp only [Frame.round]
          refine ⟨_, _, rfl, ?_, _, _, rfl, rfl, _, _, rfl, ?_, rfl⟩
          · simp only [TI.den, codeAt, hc, Code.sub]; simp
          · simp only [TI.den, codeAt, hc, Code.sub]; simp
      · simp at h
    · simp at h
  · simp at h

theorem callT_ok (hC : CtrOk C I) (hpc : Holds I ρ pc) (d : Den C I ρ η S w0 s F Fs w) {ops : Array Oper} {i : Nat} {rest : List Nat} {K : List Item} {o : Oper} (ht : F.todo = .inRegion ops (i :: rest) :: K) (ho : ops[i]? = some o)
    (hw : Region.wanted o (yielded ops F.tmps) = true) {todo : List TI} (hk : TI.denL (bodyOf C.P s.top.fn) η todo (.inRegion ops rest :: K)) {fv : V} {args : List V} (hf : funVal C.gl s.top.tmps o.op = some (fv, args)) :
    OutOk C I ρ η S w0 cs (botFn s.top s.below) (lone F (Fs ++ cs) w) (callT C pc s o.dst todo fv args) := by
  have hev := evalO_den d.glob d.top.tmps
  unfold callT
  split
  · rename_i f caps
    have enter : OutOk C I ρ η S w0 cs (botFn s.top s.below) (lone F (Fs ++ cs) w) (if C.shut.contains f then .bad (10000 + f) else
      match enterFr C.P f (args ++ caps) with
      | some fr => .next { top := fr, below := s.top :: s.below, H := s.H }
      | none => .bad (20000 + f)) := by
      split
      · trivial
      · split
        · rename_i fr hfr
          have hex : ∃ g c, C.P.funcs[f]? = some g ∧ g.body = some c ∧ (g.name == "runtime.NumGoroutine") = false := by
            unfold enterFr at hfr
            split at hfr
            · rename_i g hg
              split at hfr
              · rename_i c hc
                split at hfr
                · simp at hfr
                · rename_i hn; exact ⟨g, c, hg, hc, by simpa using hn⟩
              · simp at hfr
            · simp at hfr
          obtain ⟨g, c, hg, hc, hn⟩ := hex
          obtain ⟨vs, h1, h2, h3⟩ := call_func (P := C.P) hev hf hg hc hn w
          obtain ⟨h4, h5, _⟩ := enter_ok hfr h2
          refine ⟨η, _, F :: Fs, w, Env.le_refl _, Steps.one (step_opcall d.top.mode ht ho hw h3 h1), ⟨h4, ?_, d.mem, d.glob⟩, rfl⟩
          exact ⟨F, Fs, rfl, d.top, d.below⟩
        · trivial
    split
    · rename_i r hr
      refine outAR_ok (fun hn => ?_)
      have hfree : ∀ k, k < 4 → look s.H (s.H.length + k) = none := fun k _ => look_ge (by omega)
      -- the function that is called
      have hvs : ∃ vs : Array Value, V.denL I ρ η (args ++ caps) vs.toList ∧ ∀ g c, C.P.funcs[f]? = some g → g.body = some c → (g.name == "runtime.NumGoroutine") = false → (execOp F.eval o).run C.P w = .ok (.enter f vs) w ∧ ∀ d, o.op ≠ .defer d := by
        by_cases hex : ∃ g c, C.P.funcs[f]? = some g ∧ g.body = some c ∧ (g.name == "runtime.NumGoroutine") = false
        · obtain ⟨g, c, hg, hc, hnm⟩ := hex
          obtain ⟨vs, h1, h2, h3⟩ := call_func (P := C.P) hev hf hg hc hnm w
          exact ⟨vs, h2, fun _ _ _ _ _ => ⟨h1, h3⟩⟩
        · have hsome : ∃ vs : Array Value, V.denL I ρ η (args ++ caps) vs.toList := by
            unfold funVal at hf
            split at hf
            · rename_i cl hop
              split at hf
              · rename_i x hcal
                simp only [Option.some.injEq, Prod.mk.injEq] at hf
                obtain ⟨hx, rfl⟩ := hf
                have hxd := hev x
                rw [hx] at hxd
                simp only [V.den] at hxd
                obtain ⟨xs, hxe, hcaps⟩ := hxd
                exact ⟨(cl.args.toList.map F.eval ++ xs.toList).toArray, V.denL_append (map_denL hev _) hcaps⟩
              · simp at hf
            · simp at hf
          obtain ⟨vs, hvs⟩ := hsome
          exact ⟨vs, hvs, fun g c hg hc hnm => (hex ⟨g, c, hg, hc, hnm⟩).elim⟩
      obtain ⟨vs, hv, hrun⟩ := hvs
      obtain ⟨⟨g, c, hg, hc, hnm⟩, hrets⟩ := hC ρ pc η s.H S w0 w s.H.length f (args ++ caps) vs r hpc d.mem d.glob hfree hv hr hn
      obtain ⟨x, w', η', h1, h2, h3, h4⟩ := hrets (F :: (Fs ++ cs))
      obtain ⟨h5, h6⟩ := hrun g c hg hc hnm
      obtain ⟨fr, hs, hfn, hlv⟩ := h1
      refine ⟨η', _, Fs, w', h2, ?_, applyAR_den d h2 h3 h4 o.dst hk, applyAR_bot ..⟩
      refine Steps.head (step_opcall d.top.mode ht ho hw h6 h5) (hs.trans ?_)
      rw [← finish_op d.top.mode ht ho x]
      exact Steps.one (step_leave_returned hlv)
    · exact enter
  · rename_i l
    split
    · rename_i fr hfr
      obtain ⟨i', r, hi, hb, hall⟩ := round_ok d.mem hfr
      obtain ⟨vs, h1, h2, h3⟩ := call_yield (P := C.P) hev hf hi
      obtain ⟨h4, h5⟩ := hall vs h2
      refine ⟨η, _, F :: Fs, w, Env.le_refl _, Steps.one (step_opround d.top.mode ht ho hw h3 (h1 w r hb h4)), ⟨h5, ?_, d.mem, d.glob⟩, rfl⟩
      exact ⟨F, Fs, rfl, d.top, d.below⟩
    · trivial
  · trivial

end
end Go.Sx

/- The symbolic executor, part T: one step, all of it; the tree of ways. -/
namespace Go.Sx
open Go

section
variable {C : Ctx} {I : Itp} {ρ : List U} {pc : List E} {η : Env} {S : Nat → Prop} {H : List O} {w0 w : World} {s : St} {F : Frame} {Fs cs : List Frame} {P : Program}

theorem two_new (o1 o2 : O) : H ++ [o1, o2] = setO (setO H H.length o1) (H.length + 1) o2 := by
  rw [setO_len]
  have : H.length + 1 = (H ++ [o1]).length := by simp
  rw [this, setO_len]
  simp

theorem new_out {o : O} {h : Nat} (hh : H.length < h) (ho : o ≠ .free) : look (setO H H.length o) h = none := by
  rw [look_setO ho, if_neg (by omega)]
  exact look_ge (by omega)

/-- The frame that waits for the function that it ranges over. -/
theorem wait_den {fr : Fr} (d : fr.den P I ρ η F) {η' : Env} (hle : η.le η') {l : Nat} {i : Info} (hi : η' l = some i) {k : List TI} {K : List Item} (hk : TI.denL (bodyOf P fr.fn) η k K) {ds : List Nat} {mark : List Deferred} (hd : defMarks η' (ds ++ fr.defs) (mark ++ F.defers)) :
    Fr.den P I ρ η' { fr with todo := .rfn l :: k, defs := ds ++ fr.defs } (F.atR ⟨F.tmps, mark ++ F.defers⟩ (.inRangeFunc i.blk :: K)) := by
  have d' := Fr.den_mono hle d
  refine ⟨d'.fn, d'.tmps, ⟨_, _, rfl, ⟨i, hi, rfl⟩, TI.denL_mono hle _ _ hk⟩, hd, rfl, d'.kind, d'.rnd⟩

theorem range_ok (d : Den C I ρ η S w0 s F Fs w) {p : List Nat} {k : List TI} {K : List Item} {f : Operand} {prm : Array Tmp} {asg bd : Code} (hc : codeAt (bodyOf C.P s.top.fn) p = .rangeFunc f prm asg bd)
    (ht : F.todo = .code (.rangeFunc f prm asg bd) :: K) (hk : TI.denL (bodyOf C.P s.top.fn) η k K) {g : Nat} {caps : List V} (hf : evalO C.gl s.top.tmps f = .func g caps) :
    OutOk C I ρ η S w0 cs (botFn s.top s.below) (lone F (Fs ++ cs) w) (match s.top.rnd with
        | none =>
          let d := s.H.length
          match enterFr C.P g (.yld (d + 1) :: caps) with
          | some fr =>
            .next { top := fr,
                    below := { s.top with todo := .rfn (d + 1) :: k, defs := d :: s.top.defs } :: s.below,
                    H := s.H ++ [.defd, .loop { fn := s.top.fn, tmps := s.top.tmps, path := p, st := .ready, pend := none, dh := d }] }
          | none => .bad 321
        | some o =>
          match s.H[o]? with
          | some (.loop a) =>
            let d := s.H.length
            match enterFr C.P g (.yld d :: caps) with
            | some fr =>
              .next { top := fr,
                      below := { s.top with todo := .rfn d :: k } :: s.below,
                      H := s.H ++ [.loop { fn := s.top.fn, tmps := s.top.tmps, path := p, st := .ready, pend := none, dh := a.dh }] }
            | none => .bad 322
          | _ => .bad 323) := by
  have e := frame_as d.top.mode
  rw [ht] at e
  have hev : F.eval = (⟨F.tmps, F.defers⟩ : Act).eval := by
    conv => lhs; rw [e]
    exact Frame.eval_atR ..
  have hfd := evalO_den d.glob d.top.tmps f
  rw [hf] at hfd
  simp only [V.den] at hfd
  obtain ⟨xs, hfx, hcaps⟩ := hfd
  -- the call that the statement makes
  have call : ∀ (l : Nat) (w1 : World) {gf : Func} {c : Code}, C.P.funcs[g]? = some gf → gf.body = some c → (gf.name == "runtime.NumGoroutine") = false →
      (resolve (⟨F.tmps, F.defers⟩ : Act).eval (rangeCall f l) 0).run C.P w1 = .ok { target := .fn (.func g) xs, args := #[.func (.yield l) #[] #[]] } w1 ∧
      (invoke (.fn (.func g) xs) #[.func (.yield l) #[] #[]]).run C.P w1 = .ok (.enter g (#[.func (.yield l) #[] #[]] ++ xs)) w1 := by
    intro l w1 gf c hg hcb hn
    constructor
    · rw [← hev]
      show (Deferred.ofValue (F.eval f) ((#[Operand.const (.func (.yield l) #[] #[])] : Array Operand).map F.eval)).run C.P w1 = _
      rw [hfx]
      simp [Deferred.ofValue, Frame.eval]
    · exact callFunc_run hg hcb hn _ _
  split
  · rename_i hrnd
    have hro : F.roundOf = none := by have := d.top.rnd; rw [hrnd] at this; exact this
    simp only
    split
    · rename_i fr hfr
      have hA : η.le (η.ext s.H.length ⟨w.heap.size, 0, 0, 0⟩) := Env.le_ext _ (d.mem.free _ (look_ge (Nat.le_refl _)))
      have m1 : Mem C.P I ρ (η.ext s.H.length ⟨w.heap.size, 0, 0, 0⟩) (setO s.H s.H.length .defd) S w0 (w.alloc (.deferred (some []))) :=
        d.mem.fresh (look_ge (Nat.le_refl _)) (ob := .deferred (some [])) (o := .defd) rfl rfl rfl rfl rfl rfl (by intro e; cases e) rfl
      have hfree2 : look (setO s.H s.H.length .defd) (s.H.length + 1) = none := new_out (by omega) (by intro e; cases e)
      have hB : (η.ext s.H.length ⟨w.heap.size, 0, 0, 0⟩).le ((η.ext s.H.length ⟨w.heap.size, 0, 0, 0⟩).ext (s.H.length + 1) ⟨w.heap.size + 1, 0, 0, 0⟩) := Env.le_ext _ (m1.free _ hfree2)
      have hle := Env.le_trans hA hB
      have hsz : (w.alloc (.deferred (some []))).heap.size = w.heap.size + 1 := World.size_alloc ..
      have hdh : ((η.ext s.H.length ⟨w.heap.size, 0, 0, 0⟩).ext (s.H.length + 1) ⟨w.heap.size + 1, 0, 0, 0⟩) s.H.length = some ⟨w.heap.size, 0, 0, 0⟩ := by
        rw [Env.ext_ne (by omega), Env.ext_self]
      have m2 : Mem C.P I ρ ((η.ext s.H.length ⟨w.heap.size, 0, 0, 0⟩).ext (s.H.length + 1) ⟨w.heap.size + 1, 0, 0, 0⟩)
          (s.H ++ [.defd, .loop { fn := s.top.fn, tmps := s.top.tmps, path := p, st := .ready, pend := none, dh := s.H.length }]) S w0
          ((w.alloc (.deferred (some []))).alloc (.loop { state := .ready, pending := none, fn := F.fn, tmps := F.tmps, params := prm, assign := asg, body := bd, defers := w.heap.size })) := by
        rw [two_new]
        refine m1.fresh hfree2 (ob := .loop _) rfl rfl rfl rfl hsz.symm rfl (by intro e; cases e) ?_
        exact ⟨F.tmps, prm, f, asg, bd, ⟨w.heap.size, 0, 0, 0⟩, by simp [d.top.fn], V.denL_mono hle _ _ d.top.tmps, hc, hdh⟩
      have hy : ((η.ext s.H.length ⟨w.heap.size, 0, 0, 0⟩).ext (s.H.length + 1) ⟨w.heap.size + 1, 0, 0, 0⟩) (s.H.length + 1) = some ⟨w.heap.size + 1, 0, 0, 0⟩ := Env.ext_self ..
      have hargs : V.denL I ρ ((η.ext s.H.length ⟨w.heap.size, 0, 0, 0⟩).ext (s.H.length + 1) ⟨w.heap.size + 1, 0, 0, 0⟩) (.yld (s.H.length + 1) :: caps) ((#[Value.func (.yield (w.heap.size + 1)) #[] #[]] : Array Value) ++ xs).toList := by
        simp only [Array.toList_append, V.denL]
        exact ⟨_, xs.toList, rfl, ⟨_, hy, rfl⟩, V.denL_mono hle _ _ hcaps⟩
      obtain ⟨h1, h2, gf, c, hg, hcb, hn⟩ := enter_ok hfr hargs
      obtain ⟨hres, hinv⟩ := call (w.heap.size + 1) ((w.alloc (.deferred (some []))).alloc (.loop { state := .ready, pending := none, fn := F.fn, tmps := F.tmps, params := prm, assign := asg, body := bd, defers := w.heap.size })) hg hcb hn
      have hst := stepR_rangeFunc (P := C.P) (b := F) (a := ⟨F.tmps, F.defers⟩) (k := K) (cs := Fs ++ cs) (w := w) (by rw [hro]; exact run_enterLoop_outer F.fn F.tmps prm asg bd) hres hinv
      rw [← e] at hst
      refine ⟨_, _, _ :: Fs, _, hle, Steps.one hst, ⟨h1, ?_, m2, d.glob.mono hle⟩, ?_⟩
      · refine ⟨_, Fs, rfl, ?_, Fr.denL_mono hle _ _ d.below⟩
        refine wait_den d.top hle hy hk (ds := [s.H.length]) (mark := [{ target := .collected w.heap.size, args := #[] }]) ?_
        exact ⟨_, _, hdh, rfl, defMarks_mono hle _ _ d.top.defs⟩
      · exact botFn_top (f := { s.top with todo := .rfn (s.H.length + 1) :: k, defs := s.H.length :: s.top.defs }) (g := s.top) rfl s.below
    · trivial
  · rename_i o hrnd
    have hr := d.top.rnd
    rw [hrnd] at hr
    obtain ⟨io, hio, hro⟩ := hr
    split
    · rename_i a hla
      have hlk := look_of hla (by intro e; cases e)
      obtain ⟨io', hio', tm, prm0, f0, asg0, bd0, dd, hx, h1, h2, h3⟩ := d.mem.obj o _ hlk
      rw [hio] at hio'; simp only [Option.some.injEq] at hio'; subst hio'
      simp only
      split
      · rename_i fr hfr
        have hle : η.le (η.ext s.H.length ⟨w.heap.size, 0, 0, 0⟩) := Env.le_ext _ (d.mem.free _ (look_ge (Nat.le_refl _)))
        have m1 : Mem C.P I ρ (η.ext s.H.length ⟨w.heap.size, 0, 0, 0⟩) (s.H ++ [.loop { fn := s.top.fn, tmps := s.top.tmps, path := p, st := .ready, pend := none, dh := a.dh }]) S w0
            (w.alloc (.loop { state := .ready, pending := none, fn := F.fn, tmps := F.tmps, params := prm, assign := asg, body := bd, defers := dd.blk })) := by
          rw [← setO_len]
          refine d.mem.fresh (look_ge (Nat.le_refl _)) (ob := .loop _) rfl rfl rfl rfl rfl rfl (by intro e; cases e) ?_
          exact ⟨F.tmps, prm, f, asg, bd, dd, by simp [d.top.fn], V.denL_mono hle _ _ d.top.tmps, hc, hle _ _ h3⟩
        have hy : (η.ext s.H.length ⟨w.heap.size, 0, 0, 0⟩) s.H.length = some ⟨w.heap.size, 0, 0, 0⟩ := Env.ext_self ..
        have hargs : V.denL I ρ (η.ext s.H.length ⟨w.heap.size, 0, 0, 0⟩) (.yld s.H.length :: caps) ((#[Value.func (.yield w.heap.size) #[] #[]] : Array Value) ++ xs).toList := by
          simp only [Array.toList_append, V.denL]
          exact ⟨_, xs.toList, rfl, ⟨_, hy, rfl⟩, V.denL_mono hle _ _ hcaps⟩
        obtain ⟨h4, h5, gf, c, hg, hcb, hn⟩ := enter_ok hfr hargs
        obtain ⟨hres, hinv⟩ := call w.heap.size (w.alloc (.loop { state := .ready, pending := none, fn := F.fn, tmps := F.tmps, params := prm, assign := asg, body := bd, defers := dd.blk })) hg hcb hn
        have hst := stepR_rangeFunc (P := C.P) (b := F) (a := ⟨F.tmps, F.defers⟩) (k := K) (cs := Fs ++ cs) (w := w) (by rw [hro]; exact run_enterLoop_inner hx F.fn F.tmps prm asg bd) hres hinv
        rw [← e] at hst
        refine ⟨_, _, _ :: Fs, _, hle, Steps.one hst, ⟨h4, ?_, m1, d.glob.mono hle⟩, ?_⟩
        · refine ⟨_, Fs, rfl, ?_, Fr.denL_mono hle _ _ d.below⟩
          exact wait_den d.top hle hy hk (ds := []) (mark := []) (defMarks_mono hle _ _ d.top.defs)
        · exact botFn_top (f := { s.top with todo := .rfn s.H.length :: k }) (g := s.top) rfl s.below
      · trivial
    · trivial

theorem exit_ok (hpc : Holds I ρ pc) (d : Den C I ρ η S w0 s F Fs w) {id : Nat} {k : List TI} {K : List Item} (ht : F.todo = .code (.exit id) :: K) (hk : TI.denL (bodyOf C.P s.top.fn) η k K) :
    OutOk C I ρ η S w0 cs (botFn s.top s.below) (lone F (Fs ++ cs) w) (match exitToT id k with
    | some k' => .next { s with top := { s.top with todo := k' } }
    | none => leaveT C pc s (some (.exit id))) := by
  have hx := exitToT_ok id k K hk
  split
  · rename_i k' hk'
    rw [hk'] at hx
    obtain ⟨K', h1, h2⟩ := hx
    exact Nx.todo d ht (fun b a _ _ => stepR_exit h1) h2
  · rename_i hk'
    rw [hk'] at hx
    exact leaveT_ok hpc d (.inr (.inr ⟨id, K, ht, hx, rfl⟩))

theorem jumpItems (j : Option Jmp) {body : Code} {k : List TI} {K : List Item} (hk : TI.denL body η k K) : TI.denL body η ((match j with | some j => [.jmp j] | none => []) ++ k) (((j.map Jmp.code).map Item.code).toList ++ K) := by
  cases j with
  | none => exact hk
  | some j => exact ⟨_, _, rfl, rfl, hk⟩

theorem stepT_ok (hC : CtrOk C I) (hD : DrawOk C I) (hpc : Holds I ρ pc) (d : Den C I ρ η S w0 s F Fs w) :
    OutOk C I ρ η S w0 cs (botFn s.top s.below) (lone F (Fs ++ cs) w) (stepT C pc s) := by
  have htodo := d.top.todo
  unfold stepT
  simp only
  split
  · rename_i ht
    rw [ht] at htodo
    simp only [TI.denL] at htodo
    exact leaveT_ok hpc d (.inl ⟨htodo, rfl⟩)
  · rename_i id k ht
    rw [ht] at htodo
    simp only [TI.denL, TI.den] at htodo
    obtain ⟨x, K, hF, rfl, hk⟩ := htodo
    exact exit_ok hpc d hF hk
  · rename_i k ht
    rw [ht] at htodo
    simp only [TI.denL, TI.den] at htodo
    obtain ⟨x, K, hF, rfl, hk⟩ := htodo
    exact leaveT_ok hpc d (.inr (.inl ⟨K, hF, rfl⟩))
  · rename_i id k ht
    rw [ht] at htodo
    simp only [TI.denL, TI.den] at htodo
    obtain ⟨x, K, hF, rfl, hk⟩ := htodo
    exact Nx.todo d hF (fun b a _ _ => stepR_inBlock) hk
  · rename_i p k ht
    rw [ht] at htodo
    simp only [TI.denL, TI.den] at htodo
    obtain ⟨x, K, hF, ⟨c, _, rfl⟩, hk⟩ := htodo
    exact Nx.todo d hF (fun b a _ _ => step_lone_go (by simp [stepG, stepG.exec, Frame.atR])) hk
  · rename_i p k ht
    rw [ht] at htodo
    simp only [TI.denL, TI.den] at htodo
    obtain ⟨x, K, hF, ⟨c, hc, rfl⟩, hk⟩ := htodo
    refine Nx.todo d hF (fun b a _ _ => stepR_inLoop) ?_
    exact ⟨_, _, rfl, by simp [TI.den, codeAt, hc, Code.sub], _, _, rfl, ⟨c, hc, rfl⟩, hk⟩
  · rename_i p k ht
    rw [ht] at htodo
    simp only [TI.denL, TI.den] at htodo
    obtain ⟨x, K, hF, rfl, hk⟩ := htodo
    split
    · rename_i hc
      rw [hc] at hF
      exact Nx.todo d hF (fun b a _ _ => stepR_skip) hk
    · rename_i l hc
      rw [hc] at hF
      exact Nx.todo d hF (fun b a _ _ => stepR_label) hk
    · rename_i a b hc
      rw [hc] at hF
      refine Nx.todo d hF (fun b a _ _ => stepR_seq) ?_
      exact ⟨_, _, rfl, by simp [TI.den, codeAt, hc, Code.sub], _, _, rfl, by simp [TI.den, codeAt, hc, Code.sub], hk⟩
    · rename_i c a b hc
      rw [hc] at hF
      have hcd := evalO_den d.glob d.top.tmps c
      have hE : ∀ t : Bool, F.eval c = .bool t → Nx C I ρ η S w0 cs (botFn s.top s.below) (lone F (Fs ++ cs) w) { s with top := { s.top with todo := .at ((if t then 0 else 1) :: p) :: k } } := by
        intro t hval
        refine Nx.todo d hF (fun b' a' _ ha => stepR_cond (t := t) ?_) ?_
        · subst ha
          have hev : F.eval = (⟨F.tmps, F.defers⟩ : Act).eval := by
            conv => lhs; rw [frame_as d.top.mode]
            exact Frame.eval_atR ..
          rw [← hev]; exact hval
        · refine ⟨_, _, rfl, ?_, hk⟩
          cases t <;> simp [TI.den, codeAt, hc, Code.sub]
      split
      · rename_i e he
        rw [he] at hcd
        simp only [V.den] at hcd
        split
        · rename_i hdec
          have := decC_ok hpc _ _ hdec
          rw [this] at hcd
          exact hE true hcd
        · rename_i hdec
          have := decC_ok hpc _ _ hdec
          rw [this] at hcd
          exact hE false hcd
        · exact ⟨fun h => hE true (by rw [hcd, h]), fun h => hE false (by rw [hcd, h])⟩
      · trivial
    · rename_i id c hc
      rw [hc] at hF
      refine Nx.todo d hF (fun b a _ _ => stepR_block) ?_
      exact ⟨_, _, rfl, by simp [TI.den, codeAt, hc, Code.sub], _, _, rfl, rfl, hk⟩
    · rename_i c hc
      rw [hc] at hF
      refine Nx.todo d hF (fun b a _ _ => stepR_loop) ?_
      exact ⟨_, _, rfl, by simp [TI.den, codeAt, hc, Code.sub], _, _, rfl, ⟨c, hc, rfl⟩, hk⟩
    · rename_i c hc
      rw [hc] at hF
      refine Nx.todo d hF (fun b a _ _ => step_lone_go (by simp [stepG, stepG.exec, Frame.atR]; rfl)) ?_
      exact ⟨_, _, rfl, by simp [TI.den, codeAt, hc, Code.sub], _, _, rfl, ⟨c, hc, rfl⟩, hk⟩
    · rename_i id hc
      rw [hc] at hF
      exact exit_ok hpc d hF hk
    · rename_i hc
      rw [hc] at hF
      exact leaveT_ok hpc d (.inr (.inl ⟨K, hF, rfl⟩))
    · rename_i id ops dr hc
      rw [hc] at hF
      split
      · rename_i hdr
        have hdr' : dr = true := by simpa using hdr
        subst hdr'
        exact hD ρ pc η S w0 w s F Fs cs id ops p k K hpc d hF hc hk
      · rename_i hdr
        have hdr' : dr = false := by simpa using hdr
        subst hdr'
        refine Nx.todo d hF (fun b a _ _ => stepR_region) ?_
        refine ⟨_, _, rfl, ⟨id, ops, false, hc, ?_⟩, hk⟩
        simp [List.range_eq_range']
    · rename_i f prm asg bd hc
      rw [hc] at hF
      split
      · rename_i g caps hf
        exact range_ok d hc hF hk hf
      · trivial
    · trivial
  · rename_i p i k ht
    rw [ht] at htodo
    simp only [TI.denL, TI.den] at htodo
    obtain ⟨x, K, hF, ⟨id, ops, dr, hc, rfl⟩, hk⟩ := htodo
    split
    · rename_i id' ops' dr' hc'
      rw [hc] at hc'
      simp only [Code.region.injEq] at hc'
      obtain ⟨rfl, rfl, rfl⟩ := hc'
      split
      · rename_i hi
        rw [List.getElem?_eq_none_iff, Array.length_toList] at hi
        rw [show ops.size - i = 0 from by omega] at hF
        exact Nx.todo d hF (fun b a _ _ => stepR_region_end) hk
      · rename_i o ho
        have ho' : ops[i]? = some o := by rw [← Array.getElem?_toList]; exact ho
        have hi : i < ops.size := by
          rcases Nat.lt_or_ge i ops.size with h | h
          · exact h
          · rw [Array.getElem?_eq_none h] at ho'; simp at ho'
        rw [reg_list hi] at hF
        have hk' : TI.denL (bodyOf C.P s.top.fn) η (.reg p (i + 1) :: k) (.inRegion ops (List.range' (i + 1) (ops.size - (i + 1))) :: K) := ⟨_, _, rfl, ⟨id, ops, dr, hc, rfl⟩, hk⟩
        split
        · trivial
        · exact Nx.here d
        · rename_i e hw
          have hw' := wantedT_ok hpc d.top.tmps hw
          have hst := step_opskip (P := C.P) (cs := Fs ++ cs) (w := w) d.top.mode hF ho' hw'
          refine ⟨η, _, Fs, w, Env.le_refl _, Steps.one hst, ⟨put_den d.top (Env.le_refl _) (v := .tup []) ⟨_, rfl, rfl⟩ o.dst hk', d.below, d.mem, d.glob⟩, ?_⟩
          exact botFn_top (f := { s.top with tmps := putT s.top.tmps o.dst (.tup []), todo := .reg p (i + 1) :: k }) (g := s.top) rfl s.below
        · rename_i e hw
          have hw' := wantedT_ok hpc d.top.tmps hw
          split
          · rename_i fv args hfv
            exact callT_ok hC hpc d hF ho' hw' hk' hfv
          · exact outOp_ok hpc d hF ho' hw' hk'
    · trivial
  · trivial
  · rename_i k ht
    rw [ht] at htodo
    simp only [TI.denL, TI.den] at htodo
    obtain ⟨x, K, hF, rfl, hk⟩ := htodo
    split
    · rename_i l hrnd
      have hr := d.top.rnd
      rw [hrnd] at hr
      obtain ⟨i, hi, hro⟩ := hr
      split
      · rename_i a hla
        split
        · rename_i hst
          obtain ⟨r, hb, h1, h2, h3, h4, h5, h6, hm⟩ := d.mem.setLoop hla hi .busy a.pend
          have hrun := run_beginRound (P := C.P) hb (by rw [h1, hst])
          have e : ({ r with state := .busy, pending := a.pend.map Jmp.code } : Loop) = { r with state := .busy } := by rw [← h2]
          rw [e] at hm
          have hst' : step C.P (lone F (Fs ++ cs) w) = .next (lone { F with todo := K } (Fs ++ cs) (w.putObj i.blk (.loop { r with state := .busy }))) :=
            mv d.top.mode hF (fun b a hb' _ => stepR_beginRound (hb'.trans hro) hrun)
          refine ⟨η, _, Fs, _, Env.le_refl _, Steps.one hst', ⟨⟨d.top.fn, d.top.tmps, hk, d.top.defs, d.top.mode, d.top.kind, d.top.rnd⟩, d.below, hm, d.glob⟩, ?_⟩
          exact botFn_top (f := { s.top with todo := k }) (g := s.top) rfl s.below
        · trivial
      · trivial
    · trivial
  · rename_i l k ht
    rw [ht] at htodo
    simp only [TI.denL, TI.den] at htodo
    obtain ⟨x, K, hF, ⟨i, hi, rfl⟩, hk⟩ := htodo
    split
    · rename_i a hla
      split
      · trivial
      · rename_i hst
        obtain ⟨r, hb, h1, h2, h3, h4, h5, h6, hm⟩ := d.mem.setLoop hla hi .exhausted a.pend
        have hrun := run_endLoop (P := C.P) hb (by rw [h1]; exact hst)
        have e : ({ r with state := .exhausted, pending := a.pend.map Jmp.code } : Loop) = { r with state := .exhausted } := by rw [← h2]
        rw [e] at hm
        have hrun2 : (Instr.endLoop i.blk).run C.P w = .ok (a.pend.map Jmp.code) (w.putObj i.blk (.loop { r with state := .exhausted })) := by rw [← h2]; exact hrun
        have hst' : step C.P (lone F (Fs ++ cs) w) = .next (lone { F with todo := ((a.pend.map Jmp.code).map Item.code).toList ++ K } (Fs ++ cs) (w.putObj i.blk (.loop { r with state := .exhausted }))) :=
          mv d.top.mode hF (fun b a' _ _ => stepR_endRangeFunc hrun2)
        refine ⟨η, _, Fs, _, Env.le_refl _, Steps.one hst', ⟨⟨d.top.fn, d.top.tmps, jumpItems a.pend hk, d.top.defs, d.top.mode, d.top.kind, d.top.rnd⟩, d.below, hm, d.glob⟩, ?_⟩
        exact botFn_top (f := { s.top with todo := (match a.pend with | some j => [.jmp j] | none => []) ++ k }) (g := s.top) rfl s.below
    · trivial

end
end Go.Sx

/- The symbolic executor, part U: templates that fit. -/
namespace Go.Sx
open Go

/-- The environment of a template: its handles stand for what they go to. -/
def viaEnv (η : Env) (σ : List SH) (T : List O) : Env := fun h =>
  match σ[h]? with
  | some (.to h') => η h'
  | some (.conv h') => (η h').map fun i => ⟨i.blk, i.sz, match T[h]? with | some (.rows _ ks _) => ks.length | _ => i.wd, i.bs⟩
  | some .ghost => some ⟨0, 0, match T[h]? with | some (.rows _ ks _) => ks.length | _ => 0, 0⟩
  | _ => none

section
variable {P : Program} {I : Itp} {ρ : List U} {pc : List E} {η : Env} {S : Nat → Prop} {w0 w : World} {θ : List E} {σ : List SH} {T H : List O}

theorem sub_i (hpc : Holds I ρ pc) {e e' : E} (h : eqE pc .i (e.subst θ) e' = true) : (e.den I (θ.map (E.den I ρ))).i = (e'.den I ρ).i := by
  have := eqE_ok hpc h
  rw [E.den_subst] at this
  exact this
theorem sub_b (hpc : Holds I ρ pc) {e e' : E} (h : eqE pc .b (e.subst θ) e' = true) : (e.den I (θ.map (E.den I ρ))).b = (e'.den I ρ).b := by
  have := eqE_ok hpc h
  rw [E.den_subst] at this
  exact this
theorem sub_l (hpc : Holds I ρ pc) {e e' : E} (h : eqE pc .l (e.subst θ) e' = true) : (e.den I (θ.map (E.den I ρ))).l = (e'.den I ρ).l := by
  have := eqE_ok hpc h
  rw [E.den_subst] at this
  exact this

theorem via_to {h h' : Nat} (hs : σ[h]? = some (.to h')) : viaEnv η σ T h = η h' := by simp [viaEnv, hs]

theorem via_goes {h h' : Nat} (hs : goesTo σ h h' = true) {i : Info} (hi : η h' = some i) : ∃ j, viaEnv η σ T h = some j ∧ j.blk = i.blk ∧ j.sz = i.sz ∧ (σ[h]? = some (.to h') → j = i) ∧ j.bs = i.bs := by
  simp only [goesTo, decide_eq_true_eq] at hs
  rcases hs with hs | hs
  · exact ⟨i, by rw [via_to hs, hi], rfl, rfl, fun _ => rfl, rfl⟩
  · simp only [viaEnv, hs, hi, Option.map_some]
    exact ⟨_, rfl, rfl, rfl, fun h => by simp at h, rfl⟩

mutual
theorem subV_ok (hpc : Holds I ρ pc) : ∀ (t v : V) (x : Value), subV pc θ σ t v = true → V.den I ρ η v x → V.den I (θ.map (E.den I ρ)) (viaEnv η σ T) t x
  | .junk, _, _, _, _ => trivial
  | .int k e, .int k' e', x, h, hv => by
    simp only [subV, Bool.and_eq_true, decide_eq_true_eq] at h
    obtain ⟨rfl, h2⟩ := h
    simp only [V.den] at hv ⊢
    rw [sub_i hpc h2]; exact hv
  | .bool e, .bool e', x, h, hv => by
    simp only [subV] at h
    simp only [V.den] at hv ⊢
    rw [sub_b hpc h]; exact hv
  | .ptr h0 r c, .ptr h1 r' c', x, h, hv => by
    simp only [subV, Bool.and_eq_true, Bool.or_eq_true, decide_eq_true_eq] at h
    obtain ⟨⟨⟨hg, hr0⟩, hr⟩, hc⟩ := h
    simp only [V.den] at hv ⊢
    obtain ⟨i, hi, h2, h3, h4⟩ := hv
    obtain ⟨j, hj, hb, hz, hw, hB⟩ := via_goes (T := T) hg hi
    refine ⟨j, hj, by rw [sub_i hpc hr]; exact h2, by rw [sub_i hpc hc]; exact h3, ?_⟩
    rw [h4, sub_i hpc hr, sub_i hpc hc, hb, hB]
    rcases hr0 with hr0 | hr0
    · rw [hw hr0]
    · rw [E.same_eq hr0]; simp [E.den]
  | .nilp, .nilp, x, _, hv => by simpa only [V.den] using hv
  | .slice h0 w' o n cap, .slice h1 w1 o' n' cap', x, h, hv => by
    simp only [subV, Bool.and_eq_true, decide_eq_true_eq] at h
    obtain ⟨⟨⟨⟨hg, rfl⟩, ho⟩, hn⟩, hcap⟩ := h
    simp only [V.den] at hv ⊢
    obtain ⟨i, hi, h2, h3, h4⟩ := hv
    obtain ⟨j, hj, hb, hz, hw, hB⟩ := via_goes (T := T) hg hi
    have hcap' : ∀ (z : Int), (∀ e, cap' = some e → (e.den I ρ).i = z) → ∀ e, cap = some e → (e.den I (θ.map (E.den I ρ))).i = z := by
      intro z hz e he
      subst he
      cases cap' with
      | none => simp at hcap
      | some c' => rw [sub_i hpc hcap]; exact hz c' rfl
    refine ⟨j, hj, by rw [sub_i hpc ho]; exact h2, by rw [sub_i hpc hn]; exact h3, ?_⟩
    rw [sub_i hpc ho, sub_i hpc hn, hb, hz, hB]
    rcases h4 with ⟨a1, a2, a3, a4, a5⟩ | ⟨Cc, f, a1, a2, a3, a4, a5⟩
    · exact .inl ⟨a1, a2, a3, a4, hcap' 0 a5⟩
    · exact .inr ⟨Cc, f, a1, a2, a3, hcap' Cc a4, a5⟩
  | .slice h0 w' o n none, .nils, x, h, hv => by
    simp only [subV, Bool.and_eq_true, decide_eq_true_eq] at h
    obtain ⟨⟨hg, ho⟩, hn⟩ := h
    simp only [V.den] at hv ⊢
    have e1 : (o.den I (θ.map (E.den I ρ))).i = 0 := by rw [sub_i hpc ho]; rfl
    have e2 : (n.den I (θ.map (E.den I ρ))).i = 0 := by rw [sub_i hpc hn]; rfl
    obtain ⟨i, hi, hz⟩ : ∃ i, viaEnv η σ T h0 = some i ∧ i.sz = 0 := ⟨_, by simp only [viaEnv, hg]; rfl, rfl⟩
    exact ⟨i, hi, by omega, by omega, .inl ⟨hv, hz, e1, e2, fun e he => by simp at he⟩⟩
  | .nils, .nils, x, _, hv => by simpa only [V.den] using hv
  | .func f cs, .func f' cs', x, h, hv => by
    simp only [subV, Bool.and_eq_true, decide_eq_true_eq] at h
    obtain ⟨rfl, h2⟩ := h
    simp only [V.den] at hv ⊢
    obtain ⟨xs, hx, hc⟩ := hv
    exact ⟨xs, hx, subVL_ok hpc cs cs' _ h2 hc⟩
  | .nilf, .nilf, x, _, hv => by simpa only [V.den] using hv
  | .yld h0, .yld h1, x, h, hv => by
    simp only [subV] at h
    simp only [V.den] at hv ⊢
    obtain ⟨i, hi, hx⟩ := hv
    obtain ⟨j, hj, hb, _, _⟩ := via_goes (T := T) h hi
    exact ⟨j, hj, by rw [hx, hb]⟩
  | .map h0, .map h1, x, h, hv => by
    simp only [subV] at h
    simp only [V.den] at hv ⊢
    obtain ⟨i, hi, hx⟩ := hv
    obtain ⟨j, hj, hb, _, _⟩ := via_goes (T := T) h hi
    exact ⟨j, hj, by rw [hx, hb]⟩
  | .nilm, .nilm, x, _, hv => by simpa only [V.den] using hv
  | .agg cs, .agg cs', x, h, hv => by
    simp only [subV] at h
    simp only [V.den] at hv ⊢
    obtain ⟨xs, hx, hc⟩ := hv
    exact ⟨xs, hx, subVL_ok hpc cs cs' _ h hc⟩
  | .tup cs, .tup cs', x, h, hv => by
    simp only [subV] at h
    simp only [V.den] at hv ⊢
    obtain ⟨xs, hx, hc⟩ := hv
    exact ⟨xs, hx, subVL_ok hpc cs cs' _ h hc⟩
theorem subVL_ok (hpc : Holds I ρ pc) : ∀ (ts vs : List V) (xs : List Value), subVL pc θ σ ts vs = true → V.denL I ρ η vs xs → V.denL I (θ.map (E.den I ρ)) (viaEnv η σ T) ts xs
  | [], [], xs, _, hv => by simpa only [V.denL] using hv
  | [], _ :: _, _, h, _ => by simp [subVL] at h
  | _ :: _, [], _, h, _ => by simp [subVL] at h
  | t :: ts, v :: vs, xs, h, hv => by
    simp only [subVL, Bool.and_eq_true] at h
    simp only [V.denL] at hv ⊢
    obtain ⟨y, ys, hx, hy, hys⟩ := hv
    exact ⟨y, ys, hx, subV_ok hpc t v y h.1 hy, subVL_ok hpc ts vs ys h.2 hys⟩
end

theorem roFits_false {lo ro ro' : Bool} (h : roFits lo ro ro' = true) (hr : ro = false) : ro' = false := by
  subst hr
  cases ro' <;> cases lo <;> simp_all [roFits]

/-- An object that fits. -/
theorem subO_ok (hpc : Holds I ρ pc) {lo : Bool} {o o' : O} {i : Info} {x : Option Obj} (h : subO lo pc θ σ o o' = true) (hd : o'.den P I ρ η i x) : o.den P I (θ.map (E.den I ρ)) (viaEnv η σ T) i x := by
  unfold subO at h
  split at h
  · trivial
  · rename_i ro cs ro' cs'
    simp only [Bool.and_eq_true] at h
    obtain ⟨hbs, c, ty, fz, hx, h1, h2, h3, h4⟩ := hd
    have := subVL_ok (T := T) hpc _ _ _ h.2 h4
    have hl := V.denL_length this
    have hl' := V.denL_length h4
    rw [hl] at hl'
    refine ⟨hbs, c, ty, fz, hx, fun hr => h1 (roFits_false h.1 hr), by rw [hl']; exact h2, h3, ?_⟩
    rw [hl']; exact this
  · rename_i ro ks A ro' ks' A'
    simp only [Bool.and_eq_true, decide_eq_true_eq] at h
    obtain ⟨⟨hr, rfl⟩, hA⟩ := h
    obtain ⟨h1, h2, h3, h0, h4⟩ := hd
    have e := sub_l hpc hA
    refine ⟨h1, h2, by rw [e]; exact h3, fun hro => h0 (roFits_false hr hro), ?_⟩
    rw [e]
    rcases h4 with h4 | ⟨h5, c, ty, fz, hx, h6, h7, h8, h9, h10⟩
    · exact .inl h4
    · exact .inr ⟨h5, c, ty, fz, hx, fun hro => h6 (roFits_false hr hro), h7, h8, fun hro => h9 (roFits_false hr hro), h10⟩
  · rename_i l l'
    simp only [Bool.and_eq_true, decide_eq_true_eq] at h
    obtain ⟨⟨⟨⟨⟨h1, h2⟩, h3⟩, h4⟩, h5⟩, h6⟩ := h
    obtain ⟨tm, prm, f, asg, bd, d, hx, a1, a2, a3⟩ := hd
    obtain ⟨j, hj, hb, _, _⟩ := via_goes (T := T) h5 a3
    exact ⟨tm, prm, f, asg, bd, j, by rw [hx, h1, h3, h4, hb], subVL_ok hpc _ _ _ h6 a1, by rw [h1, h2]; exact a2, hj⟩
  · exact hd
  · rename_i ks vs ka va A ks' vs' ka' va' A'
    simp only [Bool.and_eq_true, decide_eq_true_eq] at h
    obtain ⟨⟨⟨⟨rfl, rfl⟩, rfl⟩, rfl⟩, hA⟩ := h
    obtain ⟨h1, h2⟩ := hd
    have e := sub_l hpc hA
    exact ⟨by rw [e]; exact h1, by rw [e]; exact h2⟩
  · rename_i m a b c m' a' b' c'
    simp only [Bool.and_eq_true, decide_eq_true_eq] at h
    obtain ⟨⟨⟨rfl, rfl⟩, rfl⟩, h4⟩ := h
    cases m with
    | none =>
      cases m' with
      | none => exact hd
      | some _ => simp at h4
    | some k =>
      cases m' with
      | none => simp at h4
      | some k' =>
        obtain ⟨j, hj, hx, hbs⟩ := hd
        obtain ⟨j', hj', hb, _, _⟩ := via_goes (T := T) h4 hj
        exact ⟨j', hj', by rw [hx, hb], hbs⟩
  · simp at h

/-- Cells that are looked at as rows. -/
theorem subConv_ok (hpc : Holds I ρ pc) {lo : Bool} {o o' : O} {i : Info} {x : Option Obj} (h : subConv lo pc θ o o' = true) (hd : o'.den P I ρ η i x) :
    o.den P I (θ.map (E.den I ρ)) (viaEnv η σ T) ⟨i.blk, i.sz, match o with | .rows _ ks _ => ks.length | _ => i.wd, i.bs⟩ x ∧ o.isRo = (match o with | .rows ro _ _ => ro | _ => false) ∧ (∃ ro ks A, o = .rows ro ks A ∧ roFits lo ro o'.isRo = true) ∧ ∃ ro cs, o' = .cells ro cs := by
  unfold subConv at h
  split at h
  · rename_i ro ks A ro' cs'
    simp only [Bool.and_eq_true, decide_eq_true_eq] at h
    obtain ⟨⟨⟨hr, hk⟩, hc⟩, hm⟩ := h
    split at hm
    · rename_i l hl
      obtain ⟨hbs, c, ty, fz, hx, h1, h2, h3, h4⟩ := hd
      obtain ⟨g1, g2⟩ := rowsOfCells_ok _ hl h4
      have e : (A.den I (θ.map (E.den I ρ))).l = l.map fun e => (e.den I ρ).r := by rw [sub_l hpc hm, rowsOf_l]
      have hr1 : ∀ r ∈ (l.map fun e => (e.den I ρ).r), r.length = ks.length := by
        intro r hr
        simp only [List.mem_map] at hr
        obtain ⟨e, he, rfl⟩ := hr
        exact g2 e he
      have hlen := V.denL_length h4
      have hfl := flat_length ks _ hr1
      rw [← g1, hlen] at hfl
      refine ⟨⟨hk, rfl, by rw [e]; exact hr1, fun _ => hbs, .inr ⟨by simp only; omega, c, ty, fz, hx, fun hro => h1 (roFits_false hr hro), ?_, by simp only; omega, fun _ => h3, ?_⟩⟩, rfl, ⟨ro, ks, A, rfl, hr⟩, ⟨ro', cs', rfl⟩⟩
      · rw [e, ← hfl]; simp only; omega
      · rw [e, ← hfl]; simp only [hbs, List.drop_zero]; exact g1
    · simp at hm
  · simp at h

theorem distinct_ne : ∀ {σ : List SH} {h h' : Nat} {a b : SH} {n : Nat}, distinctSH σ = true → σ[h]? = some a → σ[h']? = some b → (a = .to n ∨ a = .conv n) → (b = .to n ∨ b = .conv n) → h = h'
  | [], h, _, _, _, _, _, ha, _, _, _ => by simp at ha
  | x :: σ, h, h', a, b, n, hd, ha, hb, ea, eb => by
    have tail : distinctSH σ = true ∧ ((x = .to n ∨ x = .conv n) → (SH.to n) ∉ σ ∧ (SH.conv n) ∉ σ) := by
      cases x with
      | to m =>
        simp only [distinctSH, Bool.and_eq_true, Bool.not_eq_true', List.contains_eq_mem, decide_eq_false_iff_not] at hd
        refine ⟨hd.2, fun hx => ?_⟩
        rcases hx with hx | hx
        · simp only [SH.to.injEq] at hx; subst hx; exact hd.1
        · cases hx
      | conv m =>
        simp only [distinctSH, Bool.and_eq_true, Bool.not_eq_true', List.contains_eq_mem, decide_eq_false_iff_not] at hd
        refine ⟨hd.2, fun hx => ?_⟩
        rcases hx with hx | hx
        · cases hx
        · simp only [SH.conv.injEq] at hx; subst hx; exact hd.1
      | ghost => exact ⟨hd, fun hx => by rcases hx with hx | hx <;> cases hx⟩
      | off => exact ⟨hd, fun hx => by rcases hx with hx | hx <;> cases hx⟩
    cases h with
    | zero =>
      cases h' with
      | zero => rfl
      | succ k =>
        simp only [List.getElem?_cons_zero, Option.some.injEq] at ha
        simp only [List.getElem?_cons_succ] at hb
        have hm := List.mem_of_getElem? hb
        obtain ⟨h1, h2⟩ := tail.2 (ha ▸ ea)
        rcases eb with rfl | rfl
        · exact (h1 hm).elim
        · exact (h2 hm).elim
    | succ j =>
      cases h' with
      | zero =>
        simp only [List.getElem?_cons_zero, Option.some.injEq] at hb
        simp only [List.getElem?_cons_succ] at ha
        have hm := List.mem_of_getElem? ha
        obtain ⟨h1, h2⟩ := tail.2 (hb ▸ eb)
        rcases ea with rfl | rfl
        · exact (h1 hm).elim
        · exact (h2 hm).elim
      | succ k =>
        simp only [List.getElem?_cons_succ] at ha hb
        rw [distinct_ne tail.1 ha hb ea eb]

/-- What each handle of a template that fits stands for. -/
theorem subHFrom_at {lo : Bool} : ∀ (T' : List O) (n : Nat), subHFrom lo pc θ σ H T' n = true → ∀ (h : Nat) (o : O), T'[h]? = some o →
    (o = .free ∧ (σ[n + h]? = some .off ∨ σ[n + h]? = none)) ∨
    (o ≠ .free ∧ ∃ h' o', σ[n + h]? = some (.to h') ∧ H[h']? = some o' ∧ subO lo pc θ σ o o' = true) ∨
    (o ≠ .free ∧ ∃ h' o', σ[n + h]? = some (.conv h') ∧ H[h']? = some o' ∧ subConv lo pc θ o o' = true) ∨
    (∃ ks A, o = .rows false ks A ∧ σ[n + h]? = some .ghost ∧ 0 < ks.length ∧ eqE pc .l (A.subst θ) .nil = true)
  | [], _, _, h, o, ho => by simp at ho
  | o :: T', n, hs, h, o', ho => by
    simp only [subHFrom, Bool.and_eq_true] at hs
    cases h with
    | succ k =>
      have := subHFrom_at T' (n + 1) hs.2 k o' (by simpa using ho)
      rw [show n + 1 + k = n + (k + 1) from by omega] at this
      exact this
    | zero =>
      simp only [List.getElem?_cons_zero, Option.some.injEq] at ho
      subst ho
      have h1 := hs.1
      simp only [Nat.add_zero]
      split at h1
      · rename_i heq; exact .inl ⟨rfl, .inl heq⟩
      · rename_i heq; exact .inl ⟨rfl, .inr heq⟩
      · simp at h1
      · rename_i h' hnf heq
        split at h1
        · rename_i o' ho'
          exact .inr (.inl ⟨hnf, h', o', heq, ho', h1⟩)
        · simp at h1
      · rename_i h' hnf heq
        split at h1
        · rename_i o' ho'
          exact .inr (.inr (.inl ⟨hnf, h', o', heq, ho', h1⟩))
        · simp at h1
      · rename_i ks A heq
        simp only [Bool.and_eq_true, decide_eq_true_eq] at h1
        exact .inr (.inr (.inr ⟨ks, A, rfl, heq, h1.1, h1.2⟩))
      · simp at h1

end
end Go.Sx

/- The symbolic executor, part V: states that fit a template; the way from template to template. -/
namespace Go.Sx
open Go

section
variable {P : Program} {I : Itp} {ρ : List U} {pc : List E} {η : Env} {S : Nat → Prop} {w0 w : World} {θ : List E} {σ : List SH} {T H : List O}

theorem subO_live {lo : Bool} {o o' : O} (h : subO lo pc θ σ o o' = true) : o' ≠ .free := by
  rintro rfl
  unfold subO at h
  split at h <;> simp_all

theorem subO_blk {lo : Bool} {o o' : O} {i : Info} (h : subO lo pc θ σ o o' = true) (hb : o.hasBlk i) : o'.hasBlk i ∧ roFits lo o.isRo o'.isRo = true := by
  unfold subO at h
  split at h
  · exact hb.elim
  · simp only [Bool.and_eq_true] at h; exact ⟨trivial, h.1⟩
  · simp only [Bool.and_eq_true] at h; exact ⟨hb, h.1.1⟩
  · exact ⟨trivial, by simp [O.isRo, roFits]⟩
  · exact ⟨trivial, by simp [O.isRo, roFits]⟩
  · exact ⟨trivial, by simp [O.isRo, roFits]⟩
  · exact ⟨trivial, by simp [O.isRo, roFits]⟩
  · simp at h

/-- Where a template's object lies. -/
theorem sub_target {lo : Bool} (m : Mem P I ρ η H S w0 w) (hs : subH lo pc θ σ T H = true) {h : Nat} {o : O} (ho : look T h = some o) {i : Info} (hi : viaEnv η σ T h = some i) (hb : o.hasBlk i) :
    ∃ h' o' i', (σ[h]? = some (.to h') ∨ σ[h]? = some (.conv h')) ∧ look H h' = some o' ∧ η h' = some i' ∧ i'.blk = i.blk ∧ o'.hasBlk i' ∧ roFits lo o.isRo o'.isRo = true := by
  simp only [subH, Bool.and_eq_true] at hs
  obtain ⟨hT, hnf⟩ := look_some ho
  have hat := subHFrom_at T 0 hs.2 h o hT
  rw [Nat.zero_add] at hat
  rcases hat with ⟨h1, _⟩ | ⟨_, h', o', h1, h2, h3⟩ | ⟨_, h', o', h1, h2, h3⟩ | ⟨ks, A, h1, h2, h3, _⟩
  · exact (hnf h1).elim
  · have hl := look_of h2 (subO_live h3)
    obtain ⟨i', hi', _⟩ := m.obj h' o' hl
    rw [via_to h1, hi'] at hi
    simp only [Option.some.injEq] at hi; subst hi
    obtain ⟨g1, g2⟩ := subO_blk h3 hb
    exact ⟨h', o', i', .inl h1, hl, hi', rfl, g1, g2⟩
  · have hconv := h3
    unfold subConv at hconv
    split at hconv
    · rename_i ro ks A ro' cs'
      have hl := look_of h2 (by intro e; cases e)
      obtain ⟨i', hi', _⟩ := m.obj h' _ hl
      simp only [viaEnv, h1, hi', Option.map_some, Option.some.injEq] at hi
      simp only [Bool.and_eq_true] at hconv
      exact ⟨h', _, i', .inr h1, hl, hi', by rw [← hi], trivial, hconv.1.1.1⟩
    · simp at hconv
  · subst h1
    simp only [viaEnv, h2, Option.some.injEq] at hi
    subst hi
    have h5 : 0 < 0 := hb
    omega

theorem sub_free {lo : Bool} (hs : subH lo pc θ σ T H = true) {h : Nat} (ho : look T h = none) : viaEnv η σ T h = none := by
  simp only [subH, Bool.and_eq_true, decide_eq_true_eq] at hs
  unfold look at ho
  split at ho
  · rename_i hf
    have hat := subHFrom_at T 0 hs.2 h _ hf
    rw [Nat.zero_add] at hat
    rcases hat with ⟨_, h1 | h1⟩ | ⟨h1, _⟩ | ⟨h1, _⟩ | ⟨ks, A, h1, _⟩
    · simp [viaEnv, h1]
    · simp [viaEnv, h1]
    · exact (h1 rfl).elim
    · exact (h1 rfl).elim
    · cases h1
  · rw [List.getElem?_eq_none_iff] at ho
    have : σ[h]? = none := List.getElem?_eq_none (by omega)
    simp [viaEnv, this]

theorem sub_obj {lo : Bool} (hpc : Holds I ρ pc) (m : Mem P I ρ η H S w0 w) (hs : subH lo pc θ σ T H = true) {h : Nat} {o : O} (ho : look T h = some o) :
    ∃ i, viaEnv η σ T h = some i ∧ o.den P I (θ.map (E.den I ρ)) (viaEnv η σ T) i w.heap[i.blk]? := by
  simp only [subH, Bool.and_eq_true] at hs
  obtain ⟨hT, hnf⟩ := look_some ho
  have hat := subHFrom_at T 0 hs.2 h o hT
  rw [Nat.zero_add] at hat
  rcases hat with ⟨h1, _⟩ | ⟨_, h', o', h1, h2, h3⟩ | ⟨_, h', o', h1, h2, h3⟩ | ⟨ks, A, h1, h2, h3, h4⟩
  · exact (hnf h1).elim
  · obtain ⟨i, hi, hd⟩ := m.obj h' o' (look_of h2 (subO_live h3))
    exact ⟨i, by rw [via_to h1, hi], subO_ok hpc h3 hd⟩
  · have hconv := h3
    unfold subConv at hconv
    split at hconv
    · rename_i ro ks A ro' cs' _
      obtain ⟨i, hi, hd⟩ := m.obj h' _ (look_of h2 (by intro e; cases e))
      obtain ⟨g1, _⟩ := subConv_ok (T := T) (σ := σ) hpc h3 hd
      refine ⟨⟨i.blk, i.sz, ks.length, i.bs⟩, ?_, g1⟩
      simp only [viaEnv, h1, hi, Option.map_some, hT]
    · simp at hconv
  · subst h1
    refine ⟨⟨0, 0, ks.length, 0⟩, by simp only [viaEnv, h2, hT], h3, rfl, ?_, fun _ => rfl, .inl ⟨rfl, ?_⟩⟩
    · rw [sub_l hpc h4]; intro r hr; simp [E.den] at hr
    · rw [sub_l hpc h4]; rfl

theorem sub_apart {lo : Bool} (m : Mem P I ρ η H S w0 w) (hs : subH lo pc θ σ T H = true) (hro : ∀ o o' : O, roFits lo o.isRo o'.isRo = true → o.isRo = false → o'.isRo = false) :
    ∀ h h' o o' i i', h ≠ h' → look T h = some o → look T h' = some o' → viaEnv η σ T h = some i → viaEnv η σ T h' = some i' → o.isRo = false → o'.isRo = false → o.hasBlk i → o'.hasBlk i' → i.blk ≠ i'.blk := by
  intro h h' o o' i i' hne h1 h2 e1 e2 r1 r2 b1 b2
  obtain ⟨a1, o1, j1, s1, l1, n1, q1, c1, f1⟩ := sub_target m hs h1 e1 b1
  obtain ⟨a2, o2, j2, s2, l2, n2, q2, c2, f2⟩ := sub_target m hs h2 e2 b2
  simp only [subH, Bool.and_eq_true] at hs
  have hne' : a1 ≠ a2 := by
    rintro rfl
    rcases s1 with s1 | s1 <;> rcases s2 with s2 | s2
    · exact hne (distinct_ne (n := a1) hs.1.2 s1 s2 (.inl rfl) (.inl rfl))
    · exact hne (distinct_ne (n := a1) hs.1.2 s1 s2 (.inl rfl) (.inr rfl))
    · exact hne (distinct_ne (n := a1) hs.1.2 s1 s2 (.inr rfl) (.inl rfl))
    · exact hne (distinct_ne (n := a1) hs.1.2 s1 s2 (.inr rfl) (.inr rfl))
  rw [← q1, ← q2]
  exact m.apart a1 a2 o1 o2 j1 j2 hne' l1 l2 n1 n2 (hro _ _ f1 r1) (hro _ _ f2 r2) c1 c2

theorem roFits_same {ro ro' : Bool} (h : roFits false ro ro' = true) : ro' = ro := by cases ro <;> cases ro' <;> simp_all [roFits]

/-- Memory that fits a template. -/
theorem subH_mem (hpc : Holds I ρ pc) (m : Mem P I ρ η H S w0 w) (hs : subH false pc θ σ T H = true) : Mem P I (θ.map (E.den I ρ)) (viaEnv η σ T) T S w0 w := by
  refine ⟨fun h => sub_free hs, fun h o => sub_obj hpc m hs, ?_, ?_, ?_, m.keeps⟩
  · intro h o i ho hi hr hb
    obtain ⟨h', o', i', _, hl, hi', hq, hb', hf⟩ := sub_target m hs ho hi hb
    rw [← hq]
    exact m.old h' o' i' hl hi' (by rw [roFits_same hf]; exact hr) hb'
  · intro h o i ho hi hr hb
    obtain ⟨h', o', i', _, hl, hi', hq, hb', hf⟩ := sub_target m hs ho hi hb
    rw [← hq]
    exact m.own h' o' i' hl hi' (by rw [roFits_same hf]; exact hr) hb'
  · exact sub_apart m hs (fun o o' hf hr => by rw [roFits_same hf]; exact hr)

theorem subTI_ok {body : Code} {t t' : TI} {x : Item} (h : subTI σ t t' = true) (hd : t'.den body η x) : t.den body (viaEnv η σ T) x := by
  have same : (∀ k, t ≠ .rfn k) → (∀ k, t ≠ .erf k) → t = t' := by
    intro h1 h2
    unfold subTI at h
    split at h
    · exact (h1 _ rfl).elim
    · exact (h2 _ rfl).elim
    · exact (h1 _ rfl).elim
    · exact (h2 _ rfl).elim
    · simpa using h
  cases t with
  | rfn a =>
    cases t' with
    | rfn b =>
      simp only [subTI] at h
      obtain ⟨i, hi, hx⟩ := hd
      obtain ⟨j, hj, hb, _⟩ := via_goes (T := T) h hi
      exact ⟨j, hj, by rw [hx, hb]⟩
    | _ => simp [subTI] at h
  | erf a =>
    cases t' with
    | erf b =>
      simp only [subTI] at h
      obtain ⟨i, hi, hx⟩ := hd
      obtain ⟨j, hj, hb, _⟩ := via_goes (T := T) h hi
      exact ⟨j, hj, by rw [hx, hb]⟩
    | _ => simp [subTI] at h
  | _ =>
    have e := same (fun k hk => by cases hk) (fun k hk => by cases hk)
    subst e
    exact hd

theorem subTIs_ok {body : Code} : ∀ {ts ts' : List TI} {xs : List Item}, subTIs σ ts ts' = true → TI.denL body η ts' xs → TI.denL body (viaEnv η σ T) ts xs
  | [], [], xs, _, hd => hd
  | [], _ :: _, _, h, _ => by simp [subTIs] at h
  | _ :: _, [], _, h, _ => by simp [subTIs] at h
  | t :: ts, t' :: ts', xs, h, hd => by
    simp only [subTIs, Bool.and_eq_true] at h
    obtain ⟨y, ys, hx, h1, h2⟩ := hd
    exact ⟨y, ys, hx, subTI_ok h.1 h1, subTIs_ok h.2 h2⟩

theorem subNs_ok : ∀ {ts ts' : List Nat} {ds : List Deferred}, subNs σ ts ts' = true → defMarks η ts' ds → defMarks (viaEnv η σ T) ts ds
  | [], [], _, _, hd => hd
  | [], _ :: _, _, h, _ => by simp [subNs] at h
  | _ :: _, [], _, h, _ => by simp [subNs] at h
  | t :: ts, t' :: ts', ds, h, hd => by
    simp only [subNs, Bool.and_eq_true] at h
    obtain ⟨i, ds', hi, hx, h2⟩ := hd
    obtain ⟨j, hj, hb, _⟩ := via_goes (T := T) h.1 hi
    exact ⟨j, ds', hj, by rw [hx, hb], subNs_ok h.2 h2⟩

theorem subFr_ok (hpc : Holds I ρ pc) {t s : Fr} {F : Frame} (h : subFr pc θ σ t s = true) (d : s.den P I ρ η F) : t.den P I (θ.map (E.den I ρ)) (viaEnv η σ T) F := by
  simp only [subFr, Bool.and_eq_true, decide_eq_true_eq] at h
  obtain ⟨⟨⟨⟨h1, h2⟩, h3⟩, h4⟩, h5⟩ := h
  refine ⟨by rw [h1]; exact d.fn, subVL_ok hpc _ _ _ h2 d.tmps, by rw [h1]; exact subTIs_ok h3 d.todo, subNs_ok h4 d.defs, d.mode, d.kind, ?_⟩
  have hr := d.rnd
  cases ht : t.rnd with
  | none =>
    cases hsr : s.rnd with
    | none => rw [hsr] at hr; exact hr
    | some k => rw [ht, hsr] at h5; simp at h5
  | some k =>
    cases hsr : s.rnd with
    | none => rw [ht, hsr] at h5; simp at h5
    | some k' =>
      rw [ht, hsr] at h5
      rw [hsr] at hr
      obtain ⟨i, hi, hx⟩ := hr
      obtain ⟨j, hj, hb, _⟩ := via_goes (T := T) h5 hi
      exact ⟨j, hj, by rw [hx, hb]⟩

theorem subFrs_ok (hpc : Holds I ρ pc) : ∀ {ts ss : List Fr} {Fs : List Frame}, subFrs pc θ σ ts ss = true → Fr.denL P I ρ η ss Fs → Fr.denL P I (θ.map (E.den I ρ)) (viaEnv η σ T) ts Fs
  | [], [], _, _, hd => hd
  | [], _ :: _, _, h, _ => by simp [subFrs] at h
  | _ :: _, [], _, h, _ => by simp [subFrs] at h
  | t :: ts, s :: ss, Fs, h, hd => by
    simp only [subFrs, Bool.and_eq_true] at h
    obtain ⟨y, ys, hx, h1, h2⟩ := hd
    exact ⟨y, ys, hx, subFr_ok hpc h.1 h1, subFrs_ok hpc h.2 h2⟩

theorem subFrs_bot : ∀ (ts ss : List Fr) (t s : Fr), t.fn = s.fn → subFrs pc θ σ ts ss = true → botFn t ts = botFn s ss
  | [], [], _, _, he, _ => he
  | [], _ :: _, _, _, _, h => by simp [subFrs] at h
  | _ :: _, [], _, _, _, h => by simp [subFrs] at h
  | t :: ts, s :: ss, _, _, _, h => by
    simp only [subFrs, Bool.and_eq_true] at h
    have he : t.fn = s.fn := by have := h.1; simp only [subFr, Bool.and_eq_true, decide_eq_true_eq] at this; exact this.1.1.1.1
    exact subFrs_bot ts ss t s he h.2

/-- The first handles stay as they are. -/
theorem via_role {nr : Nat} (hn : (σ.take nr == (List.range nr).map .to) = true) {h : Nat} (hh : h < nr) : viaEnv η σ T h = η h := by
  have e : σ.take nr = (List.range nr).map .to := by simpa using hn
  have h1 : (σ.take nr)[h]? = some (.to h) := by rw [e]; simp [hh]
  rw [List.getElem?_take, if_pos hh] at h1
  exact via_to h1

end

/-- The first handles are the same. -/
def Same (nr : Nat) (η η' : Env) : Prop := ∀ h, h < nr → ∀ i, η h = some i → η' h = some i
theorem Same.refl (nr : Nat) (η : Env) : Same nr η η := fun _ _ _ h => h
theorem Same.trans {nr : Nat} {a b c : Env} (h : Same nr a b) (h' : Same nr b c) : Same nr a c := fun k hk i hi => h' k hk i (h k hk i hi)
theorem Same.of_le {nr : Nat} {a b : Env} (h : a.le b) : Same nr a b := fun k _ i hi => h k i hi

/-- The globals' handles are among the first. -/
def GlIn (gl : List (Nat × Nat)) (nr : Nat) : Prop := ∀ g h, (g, h) ∈ gl → h < nr

theorem GlOk.same {gl : List (Nat × Nat)} {nr : Nat} (hin : GlIn gl nr) {η η' : Env} (h : GlOk gl η) (hs : Same nr η η') : GlOk gl η' := fun g k hk => by
  obtain ⟨i, hi, hb⟩ := h g k hk
  exact ⟨i, hs k (hin g k hk) i hi, hb⟩

section
variable {C : Ctx} {I : Itp} {ρ : List U} {pc : List E} {η : Env} {S : Nat → Prop} {w0 w : World} {s : St} {F : Frame} {Fs cs : List Frame} {θ : List E} {σ : List SH}

theorem subSt_den (hpc : Holds I ρ pc) (d : Den C I ρ η S w0 s F Fs w) {t : St} (h : subSt pc θ σ t s = true) {nr : Nat} (hin : GlIn C.gl nr) (hn : (σ.take nr == (List.range nr).map .to) = true) :
    Den C I (θ.map (E.den I ρ)) (viaEnv η σ t.H) S w0 t F Fs w ∧ Same nr η (viaEnv η σ t.H) ∧ botFn t.top t.below = botFn s.top s.below := by
  simp only [subSt, Bool.and_eq_true] at h
  have hS : Same nr η (viaEnv η σ t.H) := fun k hk i hi => by rw [via_role hn hk]; exact hi
  refine ⟨⟨subFr_ok hpc h.1.1 d.top, subFrs_ok hpc h.1.2 d.below, subH_mem hpc d.mem h.2, d.glob.same hin hS⟩, hS, ?_⟩
  have he : t.top.fn = s.top.fn := by have := h.1.1; simp only [subFr, Bool.and_eq_true, decide_eq_true_eq] at this; exact this.1.1.1.1
  exact subFrs_bot _ _ _ _ he h.1.2

end
end Go.Sx
